/-
  No cell of these rows narrows 'for every input' (looked for: loops, veiled, ifaces, maps, wideKeys, modest, calm, conditions, laid).
  DERIVED. THE GIVEN ROWS OF THIS SEAT. 5 by the template 'for every input the law returns true; each argument reads behind the call as it read before'; 0 by the template 'total and deterministic' (their statements: YtbifanenoejjgaaTotals.lean).
  GIVEN WITH THE SEED: the statements are not yours to turn. If you find one false, say at which input.
  Laid BY PROGRAM, IN A SANDBOX (cutbox-rows.mjs): the forced cells as the released guide's own fill.sh prints them over the translation 8d37deedd517023c… (all of the seat's roots in one cut). By AI agents, Wed Nov 11 2026. No macro, syntax, notation, axiom, sorry.
-/
import Derived.Test.YtbifanenoejjgaaChecked
import GoSem.Claim
import GoSem.ClaimJoined
import GoSem.ClaimMapViews
import Derived.JoinedTies
import Derived.KernelRfl
namespace Go.Proofs.Ytbifanenoejjgaa
/- THE CELL 'sum', in the pinned program and in every row, IS THE sha256 OF THE DUMP (.gsa) THAT YtbifanenoejjgaaProg.lean LOADS. Nothing in Lean hashes anything: it is a label: what it is worth is what the hold of that sum in a sandbox is worth. -/
noncomputable def Try.pinned : Pinned := { name := "ytbifanenoejjgaa", sum := "8d37deedd517023cd66997b498245de32419ea71341eead30512ad9c1b63dacc", checked := Try.checked }
namespace Rows
def none {H : Type} : Left H := { results := [], args := [] }

/-- 'filespacelaw46.FdsRight': WHATEVER THE INPUT: true; the input reads as it did. -/
def fdsRightSpec : ChangeSpec := { name := "fdsRight", fn := fun _ => fun
  | [d1, d2, d3] => { results := [.lit (.bool true)], args := [d1, d2, d3] }
  | _ => none }
def fdsRightRow : OpenClaim := { program := "ytbifanenoejjgaa", sum := "8d37deedd517023cd66997b498245de32419ea71341eead30512ad9c1b63dacc", func := "filespace/filespacelaw46.FdsRight", spec := "fdsRight", inPlace := ["slices.overlaps[filespace/api.Fd]"], unfollowed := true, recurses := true, apart := false }
def FdsRightSaid : Prop := fdsRightRow.holds Try.pinned (OpenSpec.ofChange fdsRightSpec)

/-- ITS FALSE NEIGHBOUR: 'it returns false'. Refute it at one input. -/
def fdsRightWrong : ChangeSpec := { name := "fdsRight", fn := fun _ => fun
  | [d1, d2, d3] => { results := [.lit (.bool false)], args := [d1, d2, d3] }
  | _ => none }
def FdsRightWrongFalsely : Prop := fdsRightRow.holds Try.pinned (OpenSpec.ofChange fdsRightWrong)

/-- 'filespacelaw46.FdsCalls': WHATEVER THE INPUT: true; the input reads as it did. -/
def fdsCallsSpec : ChangeSpec := { name := "fdsCalls", fn := fun _ => fun
  | [d1, d2] => { results := [.lit (.bool true)], args := [d1, d2] }
  | _ => none }
def fdsCallsRow : OpenClaim := { program := "ytbifanenoejjgaa", sum := "8d37deedd517023cd66997b498245de32419ea71341eead30512ad9c1b63dacc", func := "filespace/filespacelaw46.FdsCalls", spec := "fdsCalls", inPlace := ["slices.overlaps[filespace/api.Fd]"], unfollowed := true, recurses := true, apart := false }
def FdsCallsSaid : Prop := fdsCallsRow.holds Try.pinned (OpenSpec.ofChange fdsCallsSpec)

/-- ITS FALSE NEIGHBOUR: 'it returns false'. Refute it at one input. -/
def fdsCallsWrong : ChangeSpec := { name := "fdsCalls", fn := fun _ => fun
  | [d1, d2] => { results := [.lit (.bool false)], args := [d1, d2] }
  | _ => none }
def FdsCallsWrongFalsely : Prop := fdsCallsRow.holds Try.pinned (OpenSpec.ofChange fdsCallsWrong)

/-- 'filespacelaw46.FdsPlays': WHATEVER THE INPUT: true; the input reads as it did. -/
def fdsPlaysSpec : ChangeSpec := { name := "fdsPlays", fn := fun _ => fun
  | [d] => { results := [.lit (.bool true)], args := [d] }
  | _ => none }
def fdsPlaysRow : OpenClaim := { program := "ytbifanenoejjgaa", sum := "8d37deedd517023cd66997b498245de32419ea71341eead30512ad9c1b63dacc", func := "filespace/filespacelaw46.FdsPlays", spec := "fdsPlays", inPlace := ["slices.overlaps[filespace/api.Fd]"], unfollowed := true, recurses := true, apart := false }
def FdsPlaysSaid : Prop := fdsPlaysRow.holds Try.pinned (OpenSpec.ofChange fdsPlaysSpec)

/-- ITS FALSE NEIGHBOUR: 'it returns false'. Refute it at one input. -/
def fdsPlaysWrong : ChangeSpec := { name := "fdsPlays", fn := fun _ => fun
  | [d] => { results := [.lit (.bool false)], args := [d] }
  | _ => none }
def FdsPlaysWrongFalsely : Prop := fdsPlaysRow.holds Try.pinned (OpenSpec.ofChange fdsPlaysWrong)

/-- 'filespacelaw46.FdsShared': WHATEVER THE INPUT: true; the input reads as it did. -/
def fdsSharedSpec : ChangeSpec := { name := "fdsShared", fn := fun _ => fun
  | [d1, d2, d3, d4, d5] => { results := [.lit (.bool true)], args := [d1, d2, d3, d4, d5] }
  | _ => none }
def fdsSharedRow : OpenClaim := { program := "ytbifanenoejjgaa", sum := "8d37deedd517023cd66997b498245de32419ea71341eead30512ad9c1b63dacc", func := "filespace/filespacelaw46.FdsShared", spec := "fdsShared", inPlace := ["slices.overlaps[filespace/api.Fd]"], unfollowed := true, recurses := true, apart := false }
def FdsSharedSaid : Prop := fdsSharedRow.holds Try.pinned (OpenSpec.ofChange fdsSharedSpec)

/-- ITS FALSE NEIGHBOUR: 'it returns false'. Refute it at one input. -/
def fdsSharedWrong : ChangeSpec := { name := "fdsShared", fn := fun _ => fun
  | [d1, d2, d3, d4, d5] => { results := [.lit (.bool false)], args := [d1, d2, d3, d4, d5] }
  | _ => none }
def FdsSharedWrongFalsely : Prop := fdsSharedRow.holds Try.pinned (OpenSpec.ofChange fdsSharedWrong)

/-- 'filespacelaw46.FdsUndo': WHATEVER THE INPUT: true; the input reads as it did. -/
def fdsUndoSpec : ChangeSpec := { name := "fdsUndo", fn := fun _ => fun
  | [d1, d2] => { results := [.lit (.bool true)], args := [d1, d2] }
  | _ => none }
def fdsUndoRow : OpenClaim := { program := "ytbifanenoejjgaa", sum := "8d37deedd517023cd66997b498245de32419ea71341eead30512ad9c1b63dacc", func := "filespace/filespacelaw46.FdsUndo", spec := "fdsUndo", inPlace := ["slices.overlaps[filespace/api.Fd]"], unfollowed := true, recurses := true, apart := false }
def FdsUndoSaid : Prop := fdsUndoRow.holds Try.pinned (OpenSpec.ofChange fdsUndoSpec)

/-- ITS FALSE NEIGHBOUR: 'it returns false'. Refute it at one input. -/
def fdsUndoWrong : ChangeSpec := { name := "fdsUndo", fn := fun _ => fun
  | [d1, d2] => { results := [.lit (.bool false)], args := [d1, d2] }
  | _ => none }
def FdsUndoWrongFalsely : Prop := fdsUndoRow.holds Try.pinned (OpenSpec.ofChange fdsUndoWrong)

/- THE SECOND FORM. 'bulk': how many values and letters a reading holds, each counted each time it is reached (what is shared counts as often as it is met; a slice's spare places count too). A statement '..UptoSaid' is the law's where the arguments, and the package variables that the reading takes, are together of bulk at most 1048576: NARROWER than '..Said'. Prove '..Said' where nothing that the law and all that it calls make is longer than what came in: it says more and counts as full. Else prove '..UptoSaid'. A law counts once. -/
mutual
def uptoBulk {H : Type} : DataW H → Nat
  | .lit (.string bytes) => bytes.length + 1
  | .lit _ => 1
  | .nil => 1
  | .ptr d => uptoBulk d + 1
  | .slice elems spare => uptoBulkAll elems + uptoBulkAll spare + 1
  | .agg parts => uptoBulkAll parts + 1
  | .iface _ d => uptoBulk d + 1
  | .map entries => uptoBulkEntries entries + 1
  | .held _ => 1
def uptoBulkAll {H : Type} : List (DataW H) → Nat
  | [] => 0
  | d :: r => uptoBulk d + uptoBulkAll r
def uptoBulkEntries {H : Type} : List (Lit × DataW H) → Nat
  | [] => 0
  | x :: r => uptoBulkEntry x + uptoBulkEntries r
def uptoBulkEntry {H : Type} : Lit × DataW H → Nat
  | (.string bytes, d) => bytes.length + uptoBulk d + 1
  | (_, d) => uptoBulk d + 1
 end
def uptoSmall : (H : Type) → List (DataW H) → Bool := fun _ ds => decide (uptoBulkAll ds ≤ 1048576)
def OpenSpec.upto (s : _root_.Go.ChangeSpec) : _root_.Go.OpenSpec := { _root_.Go.OpenSpec.ofChange s with cond := some uptoSmall }

/-- 'filespacelaw46.FdsRight', WHERE WHAT IT READS IS OF BULK AT MOST 1048576: true; the input reads as it did. -/
def fdsRightUptoRow : OpenClaim := { program := "ytbifanenoejjgaa", sum := "8d37deedd517023cd66997b498245de32419ea71341eead30512ad9c1b63dacc", func := "filespace/filespacelaw46.FdsRight", spec := "fdsRight", inPlace := ["slices.overlaps[filespace/api.Fd]"], unfollowed := true, recurses := true, apart := false, narrowed := true }
def FdsRightUptoSaid : Prop := fdsRightUptoRow.holds Try.pinned (OpenSpec.upto fdsRightSpec)

/-- 'filespacelaw46.FdsCalls', WHERE WHAT IT READS IS OF BULK AT MOST 1048576: true; the input reads as it did. -/
def fdsCallsUptoRow : OpenClaim := { program := "ytbifanenoejjgaa", sum := "8d37deedd517023cd66997b498245de32419ea71341eead30512ad9c1b63dacc", func := "filespace/filespacelaw46.FdsCalls", spec := "fdsCalls", inPlace := ["slices.overlaps[filespace/api.Fd]"], unfollowed := true, recurses := true, apart := false, narrowed := true }
def FdsCallsUptoSaid : Prop := fdsCallsUptoRow.holds Try.pinned (OpenSpec.upto fdsCallsSpec)

/-- 'filespacelaw46.FdsPlays', WHERE WHAT IT READS IS OF BULK AT MOST 1048576: true; the input reads as it did. -/
def fdsPlaysUptoRow : OpenClaim := { program := "ytbifanenoejjgaa", sum := "8d37deedd517023cd66997b498245de32419ea71341eead30512ad9c1b63dacc", func := "filespace/filespacelaw46.FdsPlays", spec := "fdsPlays", inPlace := ["slices.overlaps[filespace/api.Fd]"], unfollowed := true, recurses := true, apart := false, narrowed := true }
def FdsPlaysUptoSaid : Prop := fdsPlaysUptoRow.holds Try.pinned (OpenSpec.upto fdsPlaysSpec)

/-- 'filespacelaw46.FdsShared', WHERE WHAT IT READS IS OF BULK AT MOST 1048576: true; the input reads as it did. -/
def fdsSharedUptoRow : OpenClaim := { program := "ytbifanenoejjgaa", sum := "8d37deedd517023cd66997b498245de32419ea71341eead30512ad9c1b63dacc", func := "filespace/filespacelaw46.FdsShared", spec := "fdsShared", inPlace := ["slices.overlaps[filespace/api.Fd]"], unfollowed := true, recurses := true, apart := false, narrowed := true }
def FdsSharedUptoSaid : Prop := fdsSharedUptoRow.holds Try.pinned (OpenSpec.upto fdsSharedSpec)

/-- 'filespacelaw46.FdsUndo', WHERE WHAT IT READS IS OF BULK AT MOST 1048576: true; the input reads as it did. -/
def fdsUndoUptoRow : OpenClaim := { program := "ytbifanenoejjgaa", sum := "8d37deedd517023cd66997b498245de32419ea71341eead30512ad9c1b63dacc", func := "filespace/filespacelaw46.FdsUndo", spec := "fdsUndo", inPlace := ["slices.overlaps[filespace/api.Fd]"], unfollowed := true, recurses := true, apart := false, narrowed := true }
def FdsUndoUptoSaid : Prop := fdsUndoUptoRow.holds Try.pinned (OpenSpec.upto fdsUndoSpec)

end Rows
end Go.Proofs.Ytbifanenoejjgaa
