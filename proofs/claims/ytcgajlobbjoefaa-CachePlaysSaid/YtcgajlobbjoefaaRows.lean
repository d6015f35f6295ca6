/-
  No cell of these rows narrows 'for every input' (looked for: loops, veiled, ifaces, maps, wideKeys, modest, calm, conditions, laid).
  DERIVED. THE GIVEN ROWS OF THIS SEAT. 5 by the template 'for every input the law returns true; each argument reads behind the call as it read before'; 0 by the template 'total and deterministic' (their statements: YtcgajlobbjoefaaTotals.lean).
  GIVEN WITH THE SEED: the statements are not yours to turn. If you find one false, say at which input.
  Laid BY PROGRAM, IN A SANDBOX (cutbox-rows.mjs): the forced cells as the released guide's own fill.sh prints them over the translation 35fecbb93b9b0cff… (all of the seat's roots in one cut). By AI agents, Wed Nov 11 2026. No macro, syntax, notation, axiom, sorry.
-/
import Derived.Test.YtcgajlobbjoefaaChecked
import GoSem.Claim
import GoSem.ClaimJoined
import GoSem.ClaimMapViews
import Derived.JoinedTies
import Derived.KernelRfl
namespace Go.Proofs.Ytcgajlobbjoefaa
/- THE CELL 'sum', in the pinned program and in every row, IS THE sha256 OF THE DUMP (.gsa) THAT YtcgajlobbjoefaaProg.lean LOADS. Nothing in Lean hashes anything: it is a label: what it is worth is what the hold of that sum in a sandbox is worth. -/
noncomputable def Try.pinned : Pinned := { name := "ytcgajlobbjoefaa", sum := "35fecbb93b9b0cff08f6dffa0317619c43a891da1f00426014cef817169e4ad5", checked := Try.checked }
namespace Rows
def none {H : Type} : Left H := { results := [], args := [] }

/-- 'filespacelaw39.CacheRight': WHATEVER THE INPUT: true; the input reads as it did. -/
def cacheRightSpec : ChangeSpec := { name := "cacheRight", fn := fun _ => fun
  | [d1, d2, d3, d4] => { results := [.lit (.bool true)], args := [d1, d2, d3, d4] }
  | _ => none }
def cacheRightRow : OpenClaim := { program := "ytcgajlobbjoefaa", sum := "35fecbb93b9b0cff08f6dffa0317619c43a891da1f00426014cef817169e4ad5", func := "filespace/filespacelaw39.CacheRight", spec := "cacheRight", inPlace := ["slices.overlaps[filespace/api.Hold]"], unfollowed := true, recurses := true, apart := false }
def CacheRightSaid : Prop := cacheRightRow.holds Try.pinned (OpenSpec.ofChange cacheRightSpec)

/-- ITS FALSE NEIGHBOUR: 'it returns false'. Refute it at one input. -/
def cacheRightWrong : ChangeSpec := { name := "cacheRight", fn := fun _ => fun
  | [d1, d2, d3, d4] => { results := [.lit (.bool false)], args := [d1, d2, d3, d4] }
  | _ => none }
def CacheRightWrongFalsely : Prop := cacheRightRow.holds Try.pinned (OpenSpec.ofChange cacheRightWrong)

/-- 'filespacelaw39.CacheLeases': WHATEVER THE INPUT: true; the input reads as it did. -/
def cacheLeasesSpec : ChangeSpec := { name := "cacheLeases", fn := fun _ => fun
  | [d1, d2, d3, d4, d5, d6] => { results := [.lit (.bool true)], args := [d1, d2, d3, d4, d5, d6] }
  | _ => none }
def cacheLeasesRow : OpenClaim := { program := "ytcgajlobbjoefaa", sum := "35fecbb93b9b0cff08f6dffa0317619c43a891da1f00426014cef817169e4ad5", func := "filespace/filespacelaw39.CacheLeases", spec := "cacheLeases", inPlace := ["slices.overlaps[filespace/api.Hold]"], unfollowed := true, recurses := true, apart := false }
def CacheLeasesSaid : Prop := cacheLeasesRow.holds Try.pinned (OpenSpec.ofChange cacheLeasesSpec)

/-- ITS FALSE NEIGHBOUR: 'it returns false'. Refute it at one input. -/
def cacheLeasesWrong : ChangeSpec := { name := "cacheLeases", fn := fun _ => fun
  | [d1, d2, d3, d4, d5, d6] => { results := [.lit (.bool false)], args := [d1, d2, d3, d4, d5, d6] }
  | _ => none }
def CacheLeasesWrongFalsely : Prop := cacheLeasesRow.holds Try.pinned (OpenSpec.ofChange cacheLeasesWrong)

/-- 'filespacelaw39.CacheCalls': WHATEVER THE INPUT: true; the input reads as it did. -/
def cacheCallsSpec : ChangeSpec := { name := "cacheCalls", fn := fun _ => fun
  | [d1, d2] => { results := [.lit (.bool true)], args := [d1, d2] }
  | _ => none }
def cacheCallsRow : OpenClaim := { program := "ytcgajlobbjoefaa", sum := "35fecbb93b9b0cff08f6dffa0317619c43a891da1f00426014cef817169e4ad5", func := "filespace/filespacelaw39.CacheCalls", spec := "cacheCalls", inPlace := ["slices.overlaps[filespace/api.Hold]"], unfollowed := true, recurses := true, apart := false }
def CacheCallsSaid : Prop := cacheCallsRow.holds Try.pinned (OpenSpec.ofChange cacheCallsSpec)

/-- ITS FALSE NEIGHBOUR: 'it returns false'. Refute it at one input. -/
def cacheCallsWrong : ChangeSpec := { name := "cacheCalls", fn := fun _ => fun
  | [d1, d2] => { results := [.lit (.bool false)], args := [d1, d2] }
  | _ => none }
def CacheCallsWrongFalsely : Prop := cacheCallsRow.holds Try.pinned (OpenSpec.ofChange cacheCallsWrong)

/-- 'filespacelaw39.CachePlays': WHATEVER THE INPUT: true; the input reads as it did. -/
def cachePlaysSpec : ChangeSpec := { name := "cachePlays", fn := fun _ => fun
  | [d1, d2] => { results := [.lit (.bool true)], args := [d1, d2] }
  | _ => none }
def cachePlaysRow : OpenClaim := { program := "ytcgajlobbjoefaa", sum := "35fecbb93b9b0cff08f6dffa0317619c43a891da1f00426014cef817169e4ad5", func := "filespace/filespacelaw39.CachePlays", spec := "cachePlays", inPlace := ["slices.overlaps[filespace/api.Hold]"], unfollowed := true, recurses := true, apart := false }
def CachePlaysSaid : Prop := cachePlaysRow.holds Try.pinned (OpenSpec.ofChange cachePlaysSpec)

/-- ITS FALSE NEIGHBOUR: 'it returns false'. Refute it at one input. -/
def cachePlaysWrong : ChangeSpec := { name := "cachePlays", fn := fun _ => fun
  | [d1, d2] => { results := [.lit (.bool false)], args := [d1, d2] }
  | _ => none }
def CachePlaysWrongFalsely : Prop := cachePlaysRow.holds Try.pinned (OpenSpec.ofChange cachePlaysWrong)

/-- 'filespacelaw39.CacheTruth': WHATEVER THE INPUT: true; the input reads as it did. -/
def cacheTruthSpec : ChangeSpec := { name := "cacheTruth", fn := fun _ => fun
  | [d1, d2, d3] => { results := [.lit (.bool true)], args := [d1, d2, d3] }
  | _ => none }
def cacheTruthRow : OpenClaim := { program := "ytcgajlobbjoefaa", sum := "35fecbb93b9b0cff08f6dffa0317619c43a891da1f00426014cef817169e4ad5", func := "filespace/filespacelaw39.CacheTruth", spec := "cacheTruth", inPlace := ["slices.overlaps[filespace/api.Hold]"], unfollowed := true, recurses := true, apart := false }
def CacheTruthSaid : Prop := cacheTruthRow.holds Try.pinned (OpenSpec.ofChange cacheTruthSpec)

/-- ITS FALSE NEIGHBOUR: 'it returns false'. Refute it at one input. -/
def cacheTruthWrong : ChangeSpec := { name := "cacheTruth", fn := fun _ => fun
  | [d1, d2, d3] => { results := [.lit (.bool false)], args := [d1, d2, d3] }
  | _ => none }
def CacheTruthWrongFalsely : Prop := cacheTruthRow.holds Try.pinned (OpenSpec.ofChange cacheTruthWrong)

/- THE SECOND FORM. 'bulk': how many values and letters a reading holds, each counted each time it is reached (what is shared counts as often as it is met; a slice's spare places count too). A statement '..UptoSaid' is the law's where the arguments, and the package variables that the reading takes, are together of bulk at most 1048576: NARROWER than '..Said'. Prove '..Said' where nothing that the law and all that it calls make is longer than what came in: it says more and counts as full. Else prove '..UptoSaid'. A law counts once. -/
mutual
def uptoBulk {H : Type} : DataW H → Nat
  | .lit (.string bytes) => bytes.length + 1
  | .lit _ => 1
  | .nil => 1
  | .ptr d => uptoBulk d + 1
  | .slice elems spare => uptoBulkAll elems + uptoBulkAll spare + 1
  | .agg parts => uptoBulkAll parts + 1
  | .iface _ d => uptoBulk d + 1
  | .map entries => uptoBulkEntries entries + 1
  | .held _ => 1
def uptoBulkAll {H : Type} : List (DataW H) → Nat
  | [] => 0
  | d :: r => uptoBulk d + uptoBulkAll r
def uptoBulkEntries {H : Type} : List (Lit × DataW H) → Nat
  | [] => 0
  | x :: r => uptoBulkEntry x + uptoBulkEntries r
def uptoBulkEntry {H : Type} : Lit × DataW H → Nat
  | (.string bytes, d) => bytes.length + uptoBulk d + 1
  | (_, d) => uptoBulk d + 1
 end
def uptoSmall : (H : Type) → List (DataW H) → Bool := fun _ ds => decide (uptoBulkAll ds ≤ 1048576)
def OpenSpec.upto (s : _root_.Go.ChangeSpec) : _root_.Go.OpenSpec := { _root_.Go.OpenSpec.ofChange s with cond := some uptoSmall }

/-- 'filespacelaw39.CacheRight', WHERE WHAT IT READS IS OF BULK AT MOST 1048576: true; the input reads as it did. -/
def cacheRightUptoRow : OpenClaim := { program := "ytcgajlobbjoefaa", sum := "35fecbb93b9b0cff08f6dffa0317619c43a891da1f00426014cef817169e4ad5", func := "filespace/filespacelaw39.CacheRight", spec := "cacheRight", inPlace := ["slices.overlaps[filespace/api.Hold]"], unfollowed := true, recurses := true, apart := false, narrowed := true }
def CacheRightUptoSaid : Prop := cacheRightUptoRow.holds Try.pinned (OpenSpec.upto cacheRightSpec)

/-- 'filespacelaw39.CacheLeases', WHERE WHAT IT READS IS OF BULK AT MOST 1048576: true; the input reads as it did. -/
def cacheLeasesUptoRow : OpenClaim := { program := "ytcgajlobbjoefaa", sum := "35fecbb93b9b0cff08f6dffa0317619c43a891da1f00426014cef817169e4ad5", func := "filespace/filespacelaw39.CacheLeases", spec := "cacheLeases", inPlace := ["slices.overlaps[filespace/api.Hold]"], unfollowed := true, recurses := true, apart := false, narrowed := true }
def CacheLeasesUptoSaid : Prop := cacheLeasesUptoRow.holds Try.pinned (OpenSpec.upto cacheLeasesSpec)

/-- 'filespacelaw39.CacheCalls', WHERE WHAT IT READS IS OF BULK AT MOST 1048576: true; the input reads as it did. -/
def cacheCallsUptoRow : OpenClaim := { program := "ytcgajlobbjoefaa", sum := "35fecbb93b9b0cff08f6dffa0317619c43a891da1f00426014cef817169e4ad5", func := "filespace/filespacelaw39.CacheCalls", spec := "cacheCalls", inPlace := ["slices.overlaps[filespace/api.Hold]"], unfollowed := true, recurses := true, apart := false, narrowed := true }
def CacheCallsUptoSaid : Prop := cacheCallsUptoRow.holds Try.pinned (OpenSpec.upto cacheCallsSpec)

/-- 'filespacelaw39.CachePlays', WHERE WHAT IT READS IS OF BULK AT MOST 1048576: true; the input reads as it did. -/
def cachePlaysUptoRow : OpenClaim := { program := "ytcgajlobbjoefaa", sum := "35fecbb93b9b0cff08f6dffa0317619c43a891da1f00426014cef817169e4ad5", func := "filespace/filespacelaw39.CachePlays", spec := "cachePlays", inPlace := ["slices.overlaps[filespace/api.Hold]"], unfollowed := true, recurses := true, apart := false, narrowed := true }
def CachePlaysUptoSaid : Prop := cachePlaysUptoRow.holds Try.pinned (OpenSpec.upto cachePlaysSpec)

/-- 'filespacelaw39.CacheTruth', WHERE WHAT IT READS IS OF BULK AT MOST 1048576: true; the input reads as it did. -/
def cacheTruthUptoRow : OpenClaim := { program := "ytcgajlobbjoefaa", sum := "35fecbb93b9b0cff08f6dffa0317619c43a891da1f00426014cef817169e4ad5", func := "filespace/filespacelaw39.CacheTruth", spec := "cacheTruth", inPlace := ["slices.overlaps[filespace/api.Hold]"], unfollowed := true, recurses := true, apart := false, narrowed := true }
def CacheTruthUptoSaid : Prop := cacheTruthUptoRow.holds Try.pinned (OpenSpec.upto cacheTruthSpec)

end Rows
end Go.Proofs.Ytcgajlobbjoefaa
