/-
  No cell of these rows narrows 'for every input' (looked for: loops, veiled, ifaces, maps, wideKeys, modest, calm, conditions, laid).
  DERIVED. THE GIVEN ROWS OF THIS SEAT. 6 by the template 'for every input the law returns true; each argument reads behind the call as it read before'; 0 by the template 'total and deterministic' (their statements: YtodmgdihkhakpaaTotals.lean).
  GIVEN WITH THE SEED: the statements are not yours to turn. If you find one false, say at which input.
  Laid BY PROGRAM, IN A SANDBOX (cutbox-rows.mjs): the forced cells as the released guide's own fill.sh prints them over the translation 2ecb934033db8612… (all of the seat's roots in one cut). By AI agents, Wed Nov 11 2026. No macro, syntax, notation, axiom, sorry.
-/
import Derived.Test.YtodmgdihkhakpaaChecked
import GoSem.Claim
import GoSem.ClaimJoined
import GoSem.ClaimMapViews
import Derived.JoinedTies
import Derived.KernelRfl
namespace Go.Proofs.Ytodmgdihkhakpaa
/- THE CELL 'sum', in the pinned program and in every row, IS THE sha256 OF THE DUMP (.gsa) THAT YtodmgdihkhakpaaProg.lean LOADS. Nothing in Lean hashes anything: it is a label: what it is worth is what the hold of that sum in a sandbox is worth. -/
noncomputable def Try.pinned : Pinned := { name := "ytodmgdihkhakpaa", sum := "2ecb934033db861298613480e81823b1ac14711a65a3dcd053bbe0cee803ea13", checked := Try.checked }
namespace Rows
def none {H : Type} : Left H := { results := [], args := [] }

/-- 'filespacelaw34.LeaseRight': WHATEVER THE INPUT: true; the input reads as it did. -/
def leaseRightSpec : ChangeSpec := { name := "leaseRight", fn := fun _ => fun
  | [d] => { results := [.lit (.bool true)], args := [d] }
  | _ => none }
def leaseRightRow : OpenClaim := { program := "ytodmgdihkhakpaa", sum := "2ecb934033db861298613480e81823b1ac14711a65a3dcd053bbe0cee803ea13", func := "filespace/filespacelaw34.LeaseRight", spec := "leaseRight", inPlace := ["slices.overlaps[filespace/api.Lease]"], unfollowed := true, recurses := true, apart := false }
def LeaseRightSaid : Prop := leaseRightRow.holds Try.pinned (OpenSpec.ofChange leaseRightSpec)

/-- ITS FALSE NEIGHBOUR: 'it returns false'. Refute it at one input. -/
def leaseRightWrong : ChangeSpec := { name := "leaseRight", fn := fun _ => fun
  | [d] => { results := [.lit (.bool false)], args := [d] }
  | _ => none }
def LeaseRightWrongFalsely : Prop := leaseRightRow.holds Try.pinned (OpenSpec.ofChange leaseRightWrong)

/-- 'filespacelaw34.LeaseGrants': WHATEVER THE INPUT: true; the input reads as it did. -/
def leaseGrantsSpec : ChangeSpec := { name := "leaseGrants", fn := fun _ => fun
  | [d1, d2] => { results := [.lit (.bool true)], args := [d1, d2] }
  | _ => none }
def leaseGrantsRow : OpenClaim := { program := "ytodmgdihkhakpaa", sum := "2ecb934033db861298613480e81823b1ac14711a65a3dcd053bbe0cee803ea13", func := "filespace/filespacelaw34.LeaseGrants", spec := "leaseGrants", inPlace := ["slices.overlaps[filespace/api.Lease]"], unfollowed := true, recurses := true, apart := false }
def LeaseGrantsSaid : Prop := leaseGrantsRow.holds Try.pinned (OpenSpec.ofChange leaseGrantsSpec)

/-- ITS FALSE NEIGHBOUR: 'it returns false'. Refute it at one input. -/
def leaseGrantsWrong : ChangeSpec := { name := "leaseGrants", fn := fun _ => fun
  | [d1, d2] => { results := [.lit (.bool false)], args := [d1, d2] }
  | _ => none }
def LeaseGrantsWrongFalsely : Prop := leaseGrantsRow.holds Try.pinned (OpenSpec.ofChange leaseGrantsWrong)

/-- 'filespacelaw34.LeaseTells': WHATEVER THE INPUT: true; the input reads as it did. -/
def leaseTellsSpec : ChangeSpec := { name := "leaseTells", fn := fun _ => fun
  | [d1, d2] => { results := [.lit (.bool true)], args := [d1, d2] }
  | _ => none }
def leaseTellsRow : OpenClaim := { program := "ytodmgdihkhakpaa", sum := "2ecb934033db861298613480e81823b1ac14711a65a3dcd053bbe0cee803ea13", func := "filespace/filespacelaw34.LeaseTells", spec := "leaseTells", inPlace := ["slices.overlaps[filespace/api.Lease]"], unfollowed := true, recurses := true, apart := false }
def LeaseTellsSaid : Prop := leaseTellsRow.holds Try.pinned (OpenSpec.ofChange leaseTellsSpec)

/-- ITS FALSE NEIGHBOUR: 'it returns false'. Refute it at one input. -/
def leaseTellsWrong : ChangeSpec := { name := "leaseTells", fn := fun _ => fun
  | [d1, d2] => { results := [.lit (.bool false)], args := [d1, d2] }
  | _ => none }
def LeaseTellsWrongFalsely : Prop := leaseTellsRow.holds Try.pinned (OpenSpec.ofChange leaseTellsWrong)

/-- 'filespacelaw34.LeaseCoheres': WHATEVER THE INPUT: true; the input reads as it did. -/
def leaseCoheresSpec : ChangeSpec := { name := "leaseCoheres", fn := fun _ => fun
  | [d] => { results := [.lit (.bool true)], args := [d] }
  | _ => none }
def leaseCoheresRow : OpenClaim := { program := "ytodmgdihkhakpaa", sum := "2ecb934033db861298613480e81823b1ac14711a65a3dcd053bbe0cee803ea13", func := "filespace/filespacelaw34.LeaseCoheres", spec := "leaseCoheres", inPlace := ["slices.overlaps[filespace/api.Lease]"], unfollowed := true, recurses := true, apart := false }
def LeaseCoheresSaid : Prop := leaseCoheresRow.holds Try.pinned (OpenSpec.ofChange leaseCoheresSpec)

/-- ITS FALSE NEIGHBOUR: 'it returns false'. Refute it at one input. -/
def leaseCoheresWrong : ChangeSpec := { name := "leaseCoheres", fn := fun _ => fun
  | [d] => { results := [.lit (.bool false)], args := [d] }
  | _ => none }
def LeaseCoheresWrongFalsely : Prop := leaseCoheresRow.holds Try.pinned (OpenSpec.ofChange leaseCoheresWrong)

/-- 'filespacelaw34.LeaseLasts': WHATEVER THE INPUT: true; the input reads as it did. -/
def leaseLastsSpec : ChangeSpec := { name := "leaseLasts", fn := fun _ => fun
  | [d] => { results := [.lit (.bool true)], args := [d] }
  | _ => none }
def leaseLastsRow : OpenClaim := { program := "ytodmgdihkhakpaa", sum := "2ecb934033db861298613480e81823b1ac14711a65a3dcd053bbe0cee803ea13", func := "filespace/filespacelaw34.LeaseLasts", spec := "leaseLasts", inPlace := ["slices.overlaps[filespace/api.Lease]"], unfollowed := true, recurses := true, apart := false }
def LeaseLastsSaid : Prop := leaseLastsRow.holds Try.pinned (OpenSpec.ofChange leaseLastsSpec)

/-- ITS FALSE NEIGHBOUR: 'it returns false'. Refute it at one input. -/
def leaseLastsWrong : ChangeSpec := { name := "leaseLasts", fn := fun _ => fun
  | [d] => { results := [.lit (.bool false)], args := [d] }
  | _ => none }
def LeaseLastsWrongFalsely : Prop := leaseLastsRow.holds Try.pinned (OpenSpec.ofChange leaseLastsWrong)

/-- 'filespacelaw34.LeaseDrops': WHATEVER THE INPUT: true; the input reads as it did. -/
def leaseDropsSpec : ChangeSpec := { name := "leaseDrops", fn := fun _ => fun
  | [d1, d2] => { results := [.lit (.bool true)], args := [d1, d2] }
  | _ => none }
def leaseDropsRow : OpenClaim := { program := "ytodmgdihkhakpaa", sum := "2ecb934033db861298613480e81823b1ac14711a65a3dcd053bbe0cee803ea13", func := "filespace/filespacelaw34.LeaseDrops", spec := "leaseDrops", inPlace := ["slices.overlaps[filespace/api.Lease]"], unfollowed := true, recurses := true, apart := false }
def LeaseDropsSaid : Prop := leaseDropsRow.holds Try.pinned (OpenSpec.ofChange leaseDropsSpec)

/-- ITS FALSE NEIGHBOUR: 'it returns false'. Refute it at one input. -/
def leaseDropsWrong : ChangeSpec := { name := "leaseDrops", fn := fun _ => fun
  | [d1, d2] => { results := [.lit (.bool false)], args := [d1, d2] }
  | _ => none }
def LeaseDropsWrongFalsely : Prop := leaseDropsRow.holds Try.pinned (OpenSpec.ofChange leaseDropsWrong)

/- THE SECOND FORM. 'bulk': how many values and letters a reading holds, each counted each time it is reached (what is shared counts as often as it is met; a slice's spare places count too). A statement '..UptoSaid' is the law's where the arguments, and the package variables that the reading takes, are together of bulk at most 1048576: NARROWER than '..Said'. Prove '..Said' where nothing that the law and all that it calls make is longer than what came in: it says more and counts as full. Else prove '..UptoSaid'. A law counts once. -/
mutual
def uptoBulk {H : Type} : DataW H → Nat
  | .lit (.string bytes) => bytes.length + 1
  | .lit _ => 1
  | .nil => 1
  | .ptr d => uptoBulk d + 1
  | .slice elems spare => uptoBulkAll elems + uptoBulkAll spare + 1
  | .agg parts => uptoBulkAll parts + 1
  | .iface _ d => uptoBulk d + 1
  | .map entries => uptoBulkEntries entries + 1
  | .held _ => 1
def uptoBulkAll {H : Type} : List (DataW H) → Nat
  | [] => 0
  | d :: r => uptoBulk d + uptoBulkAll r
def uptoBulkEntries {H : Type} : List (Lit × DataW H) → Nat
  | [] => 0
  | x :: r => uptoBulkEntry x + uptoBulkEntries r
def uptoBulkEntry {H : Type} : Lit × DataW H → Nat
  | (.string bytes, d) => bytes.length + uptoBulk d + 1
  | (_, d) => uptoBulk d + 1
 end
def uptoSmall : (H : Type) → List (DataW H) → Bool := fun _ ds => decide (uptoBulkAll ds ≤ 1048576)
def OpenSpec.upto (s : _root_.Go.ChangeSpec) : _root_.Go.OpenSpec := { _root_.Go.OpenSpec.ofChange s with cond := some uptoSmall }

/-- 'filespacelaw34.LeaseRight', WHERE WHAT IT READS IS OF BULK AT MOST 1048576: true; the input reads as it did. -/
def leaseRightUptoRow : OpenClaim := { program := "ytodmgdihkhakpaa", sum := "2ecb934033db861298613480e81823b1ac14711a65a3dcd053bbe0cee803ea13", func := "filespace/filespacelaw34.LeaseRight", spec := "leaseRight", inPlace := ["slices.overlaps[filespace/api.Lease]"], unfollowed := true, recurses := true, apart := false, narrowed := true }
def LeaseRightUptoSaid : Prop := leaseRightUptoRow.holds Try.pinned (OpenSpec.upto leaseRightSpec)

/-- 'filespacelaw34.LeaseGrants', WHERE WHAT IT READS IS OF BULK AT MOST 1048576: true; the input reads as it did. -/
def leaseGrantsUptoRow : OpenClaim := { program := "ytodmgdihkhakpaa", sum := "2ecb934033db861298613480e81823b1ac14711a65a3dcd053bbe0cee803ea13", func := "filespace/filespacelaw34.LeaseGrants", spec := "leaseGrants", inPlace := ["slices.overlaps[filespace/api.Lease]"], unfollowed := true, recurses := true, apart := false, narrowed := true }
def LeaseGrantsUptoSaid : Prop := leaseGrantsUptoRow.holds Try.pinned (OpenSpec.upto leaseGrantsSpec)

/-- 'filespacelaw34.LeaseTells', WHERE WHAT IT READS IS OF BULK AT MOST 1048576: true; the input reads as it did. -/
def leaseTellsUptoRow : OpenClaim := { program := "ytodmgdihkhakpaa", sum := "2ecb934033db861298613480e81823b1ac14711a65a3dcd053bbe0cee803ea13", func := "filespace/filespacelaw34.LeaseTells", spec := "leaseTells", inPlace := ["slices.overlaps[filespace/api.Lease]"], unfollowed := true, recurses := true, apart := false, narrowed := true }
def LeaseTellsUptoSaid : Prop := leaseTellsUptoRow.holds Try.pinned (OpenSpec.upto leaseTellsSpec)

/-- 'filespacelaw34.LeaseCoheres', WHERE WHAT IT READS IS OF BULK AT MOST 1048576: true; the input reads as it did. -/
def leaseCoheresUptoRow : OpenClaim := { program := "ytodmgdihkhakpaa", sum := "2ecb934033db861298613480e81823b1ac14711a65a3dcd053bbe0cee803ea13", func := "filespace/filespacelaw34.LeaseCoheres", spec := "leaseCoheres", inPlace := ["slices.overlaps[filespace/api.Lease]"], unfollowed := true, recurses := true, apart := false, narrowed := true }
def LeaseCoheresUptoSaid : Prop := leaseCoheresUptoRow.holds Try.pinned (OpenSpec.upto leaseCoheresSpec)

/-- 'filespacelaw34.LeaseLasts', WHERE WHAT IT READS IS OF BULK AT MOST 1048576: true; the input reads as it did. -/
def leaseLastsUptoRow : OpenClaim := { program := "ytodmgdihkhakpaa", sum := "2ecb934033db861298613480e81823b1ac14711a65a3dcd053bbe0cee803ea13", func := "filespace/filespacelaw34.LeaseLasts", spec := "leaseLasts", inPlace := ["slices.overlaps[filespace/api.Lease]"], unfollowed := true, recurses := true, apart := false, narrowed := true }
def LeaseLastsUptoSaid : Prop := leaseLastsUptoRow.holds Try.pinned (OpenSpec.upto leaseLastsSpec)

/-- 'filespacelaw34.LeaseDrops', WHERE WHAT IT READS IS OF BULK AT MOST 1048576: true; the input reads as it did. -/
def leaseDropsUptoRow : OpenClaim := { program := "ytodmgdihkhakpaa", sum := "2ecb934033db861298613480e81823b1ac14711a65a3dcd053bbe0cee803ea13", func := "filespace/filespacelaw34.LeaseDrops", spec := "leaseDrops", inPlace := ["slices.overlaps[filespace/api.Lease]"], unfollowed := true, recurses := true, apart := false, narrowed := true }
def LeaseDropsUptoSaid : Prop := leaseDropsUptoRow.holds Try.pinned (OpenSpec.upto leaseDropsSpec)

end Rows
end Go.Proofs.Ytodmgdihkhakpaa
