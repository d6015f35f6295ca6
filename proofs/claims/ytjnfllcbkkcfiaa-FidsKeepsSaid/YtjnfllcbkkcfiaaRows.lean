/-
  No cell of these rows narrows 'for every input' (looked for: loops, veiled, ifaces, maps, wideKeys, modest, calm, conditions, laid).
  DERIVED. THE GIVEN ROWS OF THIS SEAT. 5 by the template 'for every input the law returns true; each argument reads behind the call as it read before'; 0 by the template 'total and deterministic' (their statements: YtjnfllcbkkcfiaaTotals.lean).
  GIVEN WITH THE SEED: the statements are not yours to turn. If you find one false, say at which input.
  Laid BY PROGRAM, IN A SANDBOX (cutbox-rows.mjs): the forced cells as the released guide's own fill.sh prints them over the translation a5ccd012dc3f7a31… (all of the seat's roots in one cut). By AI agents, Wed Nov 11 2026. No macro, syntax, notation, axiom, sorry.
-/
import Derived.Test.YtjnfllcbkkcfiaaChecked
import GoSem.Claim
import GoSem.ClaimJoined
import GoSem.ClaimMapViews
import Derived.JoinedTies
import Derived.KernelRfl
namespace Go.Proofs.Ytjnfllcbkkcfiaa
/- THE CELL 'sum', in the pinned program and in every row, IS THE sha256 OF THE DUMP (.gsa) THAT YtjnfllcbkkcfiaaProg.lean LOADS. Nothing in Lean hashes anything: it is a label: what it is worth is what the hold of that sum in a sandbox is worth. -/
noncomputable def Try.pinned : Pinned := { name := "ytjnfllcbkkcfiaa", sum := "a5ccd012dc3f7a3141fd3753456778b6b8a8e341f3a2a993dd268eb6363681e3", checked := Try.checked }
namespace Rows
def none {H : Type} : Left H := { results := [], args := [] }

/-- 'filespacelaw33.FidsWrites': WHATEVER THE INPUT: true; the input reads as it did. -/
def fidsWritesSpec : ChangeSpec := { name := "fidsWrites", fn := fun _ => fun
  | [d1, d2, d3] => { results := [.lit (.bool true)], args := [d1, d2, d3] }
  | _ => none }
def fidsWritesRow : OpenClaim := { program := "ytjnfllcbkkcfiaa", sum := "a5ccd012dc3f7a3141fd3753456778b6b8a8e341f3a2a993dd268eb6363681e3", func := "filespace/filespacelaw33.FidsWrites", spec := "fidsWrites", inPlace := ["slices.overlaps[filespace/api.Fid]"], recurses := true, apart := false }
def FidsWritesSaid : Prop := fidsWritesRow.holds Try.pinned (OpenSpec.ofChange fidsWritesSpec)

/-- ITS FALSE NEIGHBOUR: 'it returns false'. Refute it at one input. -/
def fidsWritesWrong : ChangeSpec := { name := "fidsWrites", fn := fun _ => fun
  | [d1, d2, d3] => { results := [.lit (.bool false)], args := [d1, d2, d3] }
  | _ => none }
def FidsWritesWrongFalsely : Prop := fidsWritesRow.holds Try.pinned (OpenSpec.ofChange fidsWritesWrong)

/-- 'filespacelaw33.FidsKeeps': WHATEVER THE INPUT: true; the input reads as it did. -/
def fidsKeepsSpec : ChangeSpec := { name := "fidsKeeps", fn := fun _ => fun
  | [d] => { results := [.lit (.bool true)], args := [d] }
  | _ => none }
def fidsKeepsRow : OpenClaim := { program := "ytjnfllcbkkcfiaa", sum := "a5ccd012dc3f7a3141fd3753456778b6b8a8e341f3a2a993dd268eb6363681e3", func := "filespace/filespacelaw33.FidsKeeps", spec := "fidsKeeps", inPlace := ["slices.overlaps[filespace/api.Fid]"], recurses := true, apart := false }
def FidsKeepsSaid : Prop := fidsKeepsRow.holds Try.pinned (OpenSpec.ofChange fidsKeepsSpec)

/-- ITS FALSE NEIGHBOUR: 'it returns false'. Refute it at one input. -/
def fidsKeepsWrong : ChangeSpec := { name := "fidsKeeps", fn := fun _ => fun
  | [d] => { results := [.lit (.bool false)], args := [d] }
  | _ => none }
def FidsKeepsWrongFalsely : Prop := fidsKeepsRow.holds Try.pinned (OpenSpec.ofChange fidsKeepsWrong)

/-- 'filespacelaw33.FidsCounts': WHATEVER THE INPUT: true; the input reads as it did. -/
def fidsCountsSpec : ChangeSpec := { name := "fidsCounts", fn := fun _ => fun
  | [d] => { results := [.lit (.bool true)], args := [d] }
  | _ => none }
def fidsCountsRow : OpenClaim := { program := "ytjnfllcbkkcfiaa", sum := "a5ccd012dc3f7a3141fd3753456778b6b8a8e341f3a2a993dd268eb6363681e3", func := "filespace/filespacelaw33.FidsCounts", spec := "fidsCounts", inPlace := ["slices.overlaps[filespace/api.Fid]"], recurses := true, apart := false }
def FidsCountsSaid : Prop := fidsCountsRow.holds Try.pinned (OpenSpec.ofChange fidsCountsSpec)

/-- ITS FALSE NEIGHBOUR: 'it returns false'. Refute it at one input. -/
def fidsCountsWrong : ChangeSpec := { name := "fidsCounts", fn := fun _ => fun
  | [d] => { results := [.lit (.bool false)], args := [d] }
  | _ => none }
def FidsCountsWrongFalsely : Prop := fidsCountsRow.holds Try.pinned (OpenSpec.ofChange fidsCountsWrong)

/-- 'filespacelaw33.FidsReads': WHATEVER THE INPUT: true; the input reads as it did. -/
def fidsReadsSpec : ChangeSpec := { name := "fidsReads", fn := fun _ => fun
  | [d1, d2, d3] => { results := [.lit (.bool true)], args := [d1, d2, d3] }
  | _ => none }
def fidsReadsRow : OpenClaim := { program := "ytjnfllcbkkcfiaa", sum := "a5ccd012dc3f7a3141fd3753456778b6b8a8e341f3a2a993dd268eb6363681e3", func := "filespace/filespacelaw33.FidsReads", spec := "fidsReads", inPlace := ["slices.overlaps[filespace/api.Fid]"], recurses := true, apart := false }
def FidsReadsSaid : Prop := fidsReadsRow.holds Try.pinned (OpenSpec.ofChange fidsReadsSpec)

/-- ITS FALSE NEIGHBOUR: 'it returns false'. Refute it at one input. -/
def fidsReadsWrong : ChangeSpec := { name := "fidsReads", fn := fun _ => fun
  | [d1, d2, d3] => { results := [.lit (.bool false)], args := [d1, d2, d3] }
  | _ => none }
def FidsReadsWrongFalsely : Prop := fidsReadsRow.holds Try.pinned (OpenSpec.ofChange fidsReadsWrong)

/-- 'filespacelaw33.FidsBack': WHATEVER THE INPUT: true; the input reads as it did. -/
def fidsBackSpec : ChangeSpec := { name := "fidsBack", fn := fun _ => fun
  | [d1, d2, d3] => { results := [.lit (.bool true)], args := [d1, d2, d3] }
  | _ => none }
def fidsBackRow : OpenClaim := { program := "ytjnfllcbkkcfiaa", sum := "a5ccd012dc3f7a3141fd3753456778b6b8a8e341f3a2a993dd268eb6363681e3", func := "filespace/filespacelaw33.FidsBack", spec := "fidsBack", inPlace := ["slices.overlaps[filespace/api.Fid]"], recurses := true, apart := false }
def FidsBackSaid : Prop := fidsBackRow.holds Try.pinned (OpenSpec.ofChange fidsBackSpec)

/-- ITS FALSE NEIGHBOUR: 'it returns false'. Refute it at one input. -/
def fidsBackWrong : ChangeSpec := { name := "fidsBack", fn := fun _ => fun
  | [d1, d2, d3] => { results := [.lit (.bool false)], args := [d1, d2, d3] }
  | _ => none }
def FidsBackWrongFalsely : Prop := fidsBackRow.holds Try.pinned (OpenSpec.ofChange fidsBackWrong)

/- THE SECOND FORM. 'bulk': how many values and letters a reading holds, each counted each time it is reached (what is shared counts as often as it is met; a slice's spare places count too). A statement '..UptoSaid' is the law's where the arguments, and the package variables that the reading takes, are together of bulk at most 1048576: NARROWER than '..Said'. Prove '..Said' where nothing that the law and all that it calls make is longer than what came in: it says more and counts as full. Else prove '..UptoSaid'. A law counts once. -/
mutual
def uptoBulk {H : Type} : DataW H → Nat
  | .lit (.string bytes) => bytes.length + 1
  | .lit _ => 1
  | .nil => 1
  | .ptr d => uptoBulk d + 1
  | .slice elems spare => uptoBulkAll elems + uptoBulkAll spare + 1
  | .agg parts => uptoBulkAll parts + 1
  | .iface _ d => uptoBulk d + 1
  | .map entries => uptoBulkEntries entries + 1
  | .held _ => 1
def uptoBulkAll {H : Type} : List (DataW H) → Nat
  | [] => 0
  | d :: r => uptoBulk d + uptoBulkAll r
def uptoBulkEntries {H : Type} : List (Lit × DataW H) → Nat
  | [] => 0
  | x :: r => uptoBulkEntry x + uptoBulkEntries r
def uptoBulkEntry {H : Type} : Lit × DataW H → Nat
  | (.string bytes, d) => bytes.length + uptoBulk d + 1
  | (_, d) => uptoBulk d + 1
 end
def uptoSmall : (H : Type) → List (DataW H) → Bool := fun _ ds => decide (uptoBulkAll ds ≤ 1048576)
def OpenSpec.upto (s : _root_.Go.ChangeSpec) : _root_.Go.OpenSpec := { _root_.Go.OpenSpec.ofChange s with cond := some uptoSmall }

/-- 'filespacelaw33.FidsWrites', WHERE WHAT IT READS IS OF BULK AT MOST 1048576: true; the input reads as it did. -/
def fidsWritesUptoRow : OpenClaim := { program := "ytjnfllcbkkcfiaa", sum := "a5ccd012dc3f7a3141fd3753456778b6b8a8e341f3a2a993dd268eb6363681e3", func := "filespace/filespacelaw33.FidsWrites", spec := "fidsWrites", inPlace := ["slices.overlaps[filespace/api.Fid]"], recurses := true, apart := false, narrowed := true }
def FidsWritesUptoSaid : Prop := fidsWritesUptoRow.holds Try.pinned (OpenSpec.upto fidsWritesSpec)

/-- 'filespacelaw33.FidsKeeps', WHERE WHAT IT READS IS OF BULK AT MOST 1048576: true; the input reads as it did. -/
def fidsKeepsUptoRow : OpenClaim := { program := "ytjnfllcbkkcfiaa", sum := "a5ccd012dc3f7a3141fd3753456778b6b8a8e341f3a2a993dd268eb6363681e3", func := "filespace/filespacelaw33.FidsKeeps", spec := "fidsKeeps", inPlace := ["slices.overlaps[filespace/api.Fid]"], recurses := true, apart := false, narrowed := true }
def FidsKeepsUptoSaid : Prop := fidsKeepsUptoRow.holds Try.pinned (OpenSpec.upto fidsKeepsSpec)

/-- 'filespacelaw33.FidsCounts', WHERE WHAT IT READS IS OF BULK AT MOST 1048576: true; the input reads as it did. -/
def fidsCountsUptoRow : OpenClaim := { program := "ytjnfllcbkkcfiaa", sum := "a5ccd012dc3f7a3141fd3753456778b6b8a8e341f3a2a993dd268eb6363681e3", func := "filespace/filespacelaw33.FidsCounts", spec := "fidsCounts", inPlace := ["slices.overlaps[filespace/api.Fid]"], recurses := true, apart := false, narrowed := true }
def FidsCountsUptoSaid : Prop := fidsCountsUptoRow.holds Try.pinned (OpenSpec.upto fidsCountsSpec)

/-- 'filespacelaw33.FidsReads', WHERE WHAT IT READS IS OF BULK AT MOST 1048576: true; the input reads as it did. -/
def fidsReadsUptoRow : OpenClaim := { program := "ytjnfllcbkkcfiaa", sum := "a5ccd012dc3f7a3141fd3753456778b6b8a8e341f3a2a993dd268eb6363681e3", func := "filespace/filespacelaw33.FidsReads", spec := "fidsReads", inPlace := ["slices.overlaps[filespace/api.Fid]"], recurses := true, apart := false, narrowed := true }
def FidsReadsUptoSaid : Prop := fidsReadsUptoRow.holds Try.pinned (OpenSpec.upto fidsReadsSpec)

/-- 'filespacelaw33.FidsBack', WHERE WHAT IT READS IS OF BULK AT MOST 1048576: true; the input reads as it did. -/
def fidsBackUptoRow : OpenClaim := { program := "ytjnfllcbkkcfiaa", sum := "a5ccd012dc3f7a3141fd3753456778b6b8a8e341f3a2a993dd268eb6363681e3", func := "filespace/filespacelaw33.FidsBack", spec := "fidsBack", inPlace := ["slices.overlaps[filespace/api.Fid]"], recurses := true, apart := false, narrowed := true }
def FidsBackUptoSaid : Prop := fidsBackUptoRow.holds Try.pinned (OpenSpec.upto fidsBackSpec)

end Rows
end Go.Proofs.Ytjnfllcbkkcfiaa
