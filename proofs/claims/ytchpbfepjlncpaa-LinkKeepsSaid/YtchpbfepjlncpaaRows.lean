/-
  No cell of these rows narrows 'for every input' (looked for: loops, veiled, ifaces, maps, wideKeys, modest, calm, conditions, laid).
  DERIVED. THE GIVEN ROWS OF THIS SEAT. 5 by the template 'for every input the law returns true; each argument reads behind the call as it read before'; 0 by the template 'total and deterministic' (their statements: YtchpbfepjlncpaaTotals.lean).
  GIVEN WITH THE SEED: the statements are not yours to turn. If you find one false, say at which input.
  Laid BY PROGRAM, IN A SANDBOX (cutbox-rows.mjs): the forced cells as the released guide's own fill.sh prints them over the translation 110446212ef629cf… (all of the seat's roots in one cut). By AI agents, Wed Nov 11 2026. No macro, syntax, notation, axiom, sorry.
-/
import Derived.Test.YtchpbfepjlncpaaChecked
import GoSem.Claim
import GoSem.ClaimJoined
import GoSem.ClaimMapViews
import Derived.JoinedTies
import Derived.KernelRfl
namespace Go.Proofs.Ytchpbfepjlncpaa
/- THE CELL 'sum', in the pinned program and in every row, IS THE sha256 OF THE DUMP (.gsa) THAT YtchpbfepjlncpaaProg.lean LOADS. Nothing in Lean hashes anything: it is a label: what it is worth is what the hold of that sum in a sandbox is worth. -/
noncomputable def Try.pinned : Pinned := { name := "ytchpbfepjlncpaa", sum := "110446212ef629cf71322e00709b0addd3d04eebcc0ab18f6725ea46b2df6404", checked := Try.checked }
namespace Rows
def none {H : Type} : Left H := { results := [], args := [] }

/-- 'filespacelaw37.LinkReads': WHATEVER THE INPUT: true; the input reads as it did. -/
def linkReadsSpec : ChangeSpec := { name := "linkReads", fn := fun _ => fun
  | [d1, d2] => { results := [.lit (.bool true)], args := [d1, d2] }
  | _ => none }
def linkReadsRow : OpenClaim := { program := "ytchpbfepjlncpaa", sum := "110446212ef629cf71322e00709b0addd3d04eebcc0ab18f6725ea46b2df6404", func := "filespace/filespacelaw37.LinkReads", spec := "linkReads", apart := false }
def LinkReadsSaid : Prop := linkReadsRow.holds Try.pinned (OpenSpec.ofChange linkReadsSpec)

/-- ITS FALSE NEIGHBOUR: 'it returns false'. Refute it at one input. -/
def linkReadsWrong : ChangeSpec := { name := "linkReads", fn := fun _ => fun
  | [d1, d2] => { results := [.lit (.bool false)], args := [d1, d2] }
  | _ => none }
def LinkReadsWrongFalsely : Prop := linkReadsRow.holds Try.pinned (OpenSpec.ofChange linkReadsWrong)

/-- 'filespacelaw37.LinkSends': WHATEVER THE INPUT: true; the input reads as it did. -/
def linkSendsSpec : ChangeSpec := { name := "linkSends", fn := fun _ => fun
  | [d1, d2, d3] => { results := [.lit (.bool true)], args := [d1, d2, d3] }
  | _ => none }
def linkSendsRow : OpenClaim := { program := "ytchpbfepjlncpaa", sum := "110446212ef629cf71322e00709b0addd3d04eebcc0ab18f6725ea46b2df6404", func := "filespace/filespacelaw37.LinkSends", spec := "linkSends", apart := false }
def LinkSendsSaid : Prop := linkSendsRow.holds Try.pinned (OpenSpec.ofChange linkSendsSpec)

/-- ITS FALSE NEIGHBOUR: 'it returns false'. Refute it at one input. -/
def linkSendsWrong : ChangeSpec := { name := "linkSends", fn := fun _ => fun
  | [d1, d2, d3] => { results := [.lit (.bool false)], args := [d1, d2, d3] }
  | _ => none }
def LinkSendsWrongFalsely : Prop := linkSendsRow.holds Try.pinned (OpenSpec.ofChange linkSendsWrong)

/-- 'filespacelaw37.LinkTakes': WHATEVER THE INPUT: true; the input reads as it did. -/
def linkTakesSpec : ChangeSpec := { name := "linkTakes", fn := fun _ => fun
  | [d1, d2, d3] => { results := [.lit (.bool true)], args := [d1, d2, d3] }
  | _ => none }
def linkTakesRow : OpenClaim := { program := "ytchpbfepjlncpaa", sum := "110446212ef629cf71322e00709b0addd3d04eebcc0ab18f6725ea46b2df6404", func := "filespace/filespacelaw37.LinkTakes", spec := "linkTakes", apart := false }
def LinkTakesSaid : Prop := linkTakesRow.holds Try.pinned (OpenSpec.ofChange linkTakesSpec)

/-- ITS FALSE NEIGHBOUR: 'it returns false'. Refute it at one input. -/
def linkTakesWrong : ChangeSpec := { name := "linkTakes", fn := fun _ => fun
  | [d1, d2, d3] => { results := [.lit (.bool false)], args := [d1, d2, d3] }
  | _ => none }
def LinkTakesWrongFalsely : Prop := linkTakesRow.holds Try.pinned (OpenSpec.ofChange linkTakesWrong)

/-- 'filespacelaw37.LinkDrops': WHATEVER THE INPUT: true; the input reads as it did. -/
def linkDropsSpec : ChangeSpec := { name := "linkDrops", fn := fun _ => fun
  | [d] => { results := [.lit (.bool true)], args := [d] }
  | _ => none }
def linkDropsRow : OpenClaim := { program := "ytchpbfepjlncpaa", sum := "110446212ef629cf71322e00709b0addd3d04eebcc0ab18f6725ea46b2df6404", func := "filespace/filespacelaw37.LinkDrops", spec := "linkDrops", apart := false }
def LinkDropsSaid : Prop := linkDropsRow.holds Try.pinned (OpenSpec.ofChange linkDropsSpec)

/-- ITS FALSE NEIGHBOUR: 'it returns false'. Refute it at one input. -/
def linkDropsWrong : ChangeSpec := { name := "linkDrops", fn := fun _ => fun
  | [d] => { results := [.lit (.bool false)], args := [d] }
  | _ => none }
def LinkDropsWrongFalsely : Prop := linkDropsRow.holds Try.pinned (OpenSpec.ofChange linkDropsWrong)

/-- 'filespacelaw37.LinkKeeps': WHATEVER THE INPUT: true; the input reads as it did. -/
def linkKeepsSpec : ChangeSpec := { name := "linkKeeps", fn := fun _ => fun
  | [d1, d2] => { results := [.lit (.bool true)], args := [d1, d2] }
  | _ => none }
def linkKeepsRow : OpenClaim := { program := "ytchpbfepjlncpaa", sum := "110446212ef629cf71322e00709b0addd3d04eebcc0ab18f6725ea46b2df6404", func := "filespace/filespacelaw37.LinkKeeps", spec := "linkKeeps", apart := false }
def LinkKeepsSaid : Prop := linkKeepsRow.holds Try.pinned (OpenSpec.ofChange linkKeepsSpec)

/-- ITS FALSE NEIGHBOUR: 'it returns false'. Refute it at one input. -/
def linkKeepsWrong : ChangeSpec := { name := "linkKeeps", fn := fun _ => fun
  | [d1, d2] => { results := [.lit (.bool false)], args := [d1, d2] }
  | _ => none }
def LinkKeepsWrongFalsely : Prop := linkKeepsRow.holds Try.pinned (OpenSpec.ofChange linkKeepsWrong)

/- THE SECOND FORM. 'bulk': how many values and letters a reading holds, each counted each time it is reached (what is shared counts as often as it is met; a slice's spare places count too). A statement '..UptoSaid' is the law's where the arguments, and the package variables that the reading takes, are together of bulk at most 1048576: NARROWER than '..Said'. Prove '..Said' where nothing that the law and all that it calls make is longer than what came in: it says more and counts as full. Else prove '..UptoSaid'. A law counts once. -/
mutual
def uptoBulk {H : Type} : DataW H → Nat
  | .lit (.string bytes) => bytes.length + 1
  | .lit _ => 1
  | .nil => 1
  | .ptr d => uptoBulk d + 1
  | .slice elems spare => uptoBulkAll elems + uptoBulkAll spare + 1
  | .agg parts => uptoBulkAll parts + 1
  | .iface _ d => uptoBulk d + 1
  | .map entries => uptoBulkEntries entries + 1
  | .held _ => 1
def uptoBulkAll {H : Type} : List (DataW H) → Nat
  | [] => 0
  | d :: r => uptoBulk d + uptoBulkAll r
def uptoBulkEntries {H : Type} : List (Lit × DataW H) → Nat
  | [] => 0
  | x :: r => uptoBulkEntry x + uptoBulkEntries r
def uptoBulkEntry {H : Type} : Lit × DataW H → Nat
  | (.string bytes, d) => bytes.length + uptoBulk d + 1
  | (_, d) => uptoBulk d + 1
 end
def uptoSmall : (H : Type) → List (DataW H) → Bool := fun _ ds => decide (uptoBulkAll ds ≤ 1048576)
def OpenSpec.upto (s : _root_.Go.ChangeSpec) : _root_.Go.OpenSpec := { _root_.Go.OpenSpec.ofChange s with cond := some uptoSmall }

/-- 'filespacelaw37.LinkReads', WHERE WHAT IT READS IS OF BULK AT MOST 1048576: true; the input reads as it did. -/
def linkReadsUptoRow : OpenClaim := { program := "ytchpbfepjlncpaa", sum := "110446212ef629cf71322e00709b0addd3d04eebcc0ab18f6725ea46b2df6404", func := "filespace/filespacelaw37.LinkReads", spec := "linkReads", apart := false, narrowed := true }
def LinkReadsUptoSaid : Prop := linkReadsUptoRow.holds Try.pinned (OpenSpec.upto linkReadsSpec)

/-- 'filespacelaw37.LinkSends', WHERE WHAT IT READS IS OF BULK AT MOST 1048576: true; the input reads as it did. -/
def linkSendsUptoRow : OpenClaim := { program := "ytchpbfepjlncpaa", sum := "110446212ef629cf71322e00709b0addd3d04eebcc0ab18f6725ea46b2df6404", func := "filespace/filespacelaw37.LinkSends", spec := "linkSends", apart := false, narrowed := true }
def LinkSendsUptoSaid : Prop := linkSendsUptoRow.holds Try.pinned (OpenSpec.upto linkSendsSpec)

/-- 'filespacelaw37.LinkTakes', WHERE WHAT IT READS IS OF BULK AT MOST 1048576: true; the input reads as it did. -/
def linkTakesUptoRow : OpenClaim := { program := "ytchpbfepjlncpaa", sum := "110446212ef629cf71322e00709b0addd3d04eebcc0ab18f6725ea46b2df6404", func := "filespace/filespacelaw37.LinkTakes", spec := "linkTakes", apart := false, narrowed := true }
def LinkTakesUptoSaid : Prop := linkTakesUptoRow.holds Try.pinned (OpenSpec.upto linkTakesSpec)

/-- 'filespacelaw37.LinkDrops', WHERE WHAT IT READS IS OF BULK AT MOST 1048576: true; the input reads as it did. -/
def linkDropsUptoRow : OpenClaim := { program := "ytchpbfepjlncpaa", sum := "110446212ef629cf71322e00709b0addd3d04eebcc0ab18f6725ea46b2df6404", func := "filespace/filespacelaw37.LinkDrops", spec := "linkDrops", apart := false, narrowed := true }
def LinkDropsUptoSaid : Prop := linkDropsUptoRow.holds Try.pinned (OpenSpec.upto linkDropsSpec)

/-- 'filespacelaw37.LinkKeeps', WHERE WHAT IT READS IS OF BULK AT MOST 1048576: true; the input reads as it did. -/
def linkKeepsUptoRow : OpenClaim := { program := "ytchpbfepjlncpaa", sum := "110446212ef629cf71322e00709b0addd3d04eebcc0ab18f6725ea46b2df6404", func := "filespace/filespacelaw37.LinkKeeps", spec := "linkKeeps", apart := false, narrowed := true }
def LinkKeepsUptoSaid : Prop := linkKeepsUptoRow.holds Try.pinned (OpenSpec.upto linkKeepsSpec)

end Rows
end Go.Proofs.Ytchpbfepjlncpaa
