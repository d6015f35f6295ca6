/-
  No cell of these rows narrows 'for every input' (looked for: loops, veiled, ifaces, maps, wideKeys, modest, calm, conditions, laid).
  DERIVED. THE GIVEN ROWS OF THIS SEAT. 6 by the template 'for every input the law returns true; each argument reads behind the call as it read before'; 0 by the template 'total and deterministic' (their statements: YtodoilengdnlfaaTotals.lean).
  GIVEN WITH THE SEED: the statements are not yours to turn. If you find one false, say at which input.
  Laid BY PROGRAM, IN A SANDBOX (cutbox-rows.mjs): the forced cells as the released guide's own fill.sh prints them over the translation e98adb48957f2b5b… (all of the seat's roots in one cut). By AI agents, Wed Nov 11 2026. No macro, syntax, notation, axiom, sorry.
-/
import Derived.Test.YtodoilengdnlfaaChecked
import GoSem.Claim
import GoSem.ClaimJoined
import GoSem.ClaimMapViews
import Derived.JoinedTies
import Derived.KernelRfl
namespace Go.Proofs.Ytodoilengdnlfaa
/- THE CELL 'sum', in the pinned program and in every row, IS THE sha256 OF THE DUMP (.gsa) THAT YtodoilengdnlfaaProg.lean LOADS. Nothing in Lean hashes anything: it is a label: what it is worth is what the hold of that sum in a sandbox is worth. -/
noncomputable def Try.pinned : Pinned := { name := "ytodoilengdnlfaa", sum := "e98adb48957f2b5b6a79ecfabfab4d0b345cf7461a51458522cec53da91d3f38", checked := Try.checked }
namespace Rows
def none {H : Type} : Left H := { results := [], args := [] }

/-- 'filespacelaw49.GlobMatches': WHATEVER THE INPUT: true; the input reads as it did. -/
def globMatchesSpec : ChangeSpec := { name := "globMatches", fn := fun _ => fun
  | [d1, d2, d3] => { results := [.lit (.bool true)], args := [d1, d2, d3] }
  | _ => none }
def globMatchesRow : OpenClaim := { program := "ytodoilengdnlfaa", sum := "e98adb48957f2b5b6a79ecfabfab4d0b345cf7461a51458522cec53da91d3f38", func := "filespace/filespacelaw49.GlobMatches", spec := "globMatches", inPlace := ["internal/bytealg.IndexByteString", "internal/abi.NoEscape"], recurses := true, apart := false }
def GlobMatchesSaid : Prop := globMatchesRow.holds Try.pinned (OpenSpec.ofChange globMatchesSpec)

/-- ITS FALSE NEIGHBOUR: 'it returns false'. Refute it at one input. -/
def globMatchesWrong : ChangeSpec := { name := "globMatches", fn := fun _ => fun
  | [d1, d2, d3] => { results := [.lit (.bool false)], args := [d1, d2, d3] }
  | _ => none }
def GlobMatchesWrongFalsely : Prop := globMatchesRow.holds Try.pinned (OpenSpec.ofChange globMatchesWrong)

/-- 'filespacelaw49.GlobPicks': WHATEVER THE INPUT: true; the input reads as it did. -/
def globPicksSpec : ChangeSpec := { name := "globPicks", fn := fun _ => fun
  | [d1, d2, d3] => { results := [.lit (.bool true)], args := [d1, d2, d3] }
  | _ => none }
def globPicksRow : OpenClaim := { program := "ytodoilengdnlfaa", sum := "e98adb48957f2b5b6a79ecfabfab4d0b345cf7461a51458522cec53da91d3f38", func := "filespace/filespacelaw49.GlobPicks", spec := "globPicks", inPlace := ["internal/bytealg.IndexByteString", "internal/abi.NoEscape"], recurses := true, apart := false }
def GlobPicksSaid : Prop := globPicksRow.holds Try.pinned (OpenSpec.ofChange globPicksSpec)

/-- ITS FALSE NEIGHBOUR: 'it returns false'. Refute it at one input. -/
def globPicksWrong : ChangeSpec := { name := "globPicks", fn := fun _ => fun
  | [d1, d2, d3] => { results := [.lit (.bool false)], args := [d1, d2, d3] }
  | _ => none }
def GlobPicksWrongFalsely : Prop := globPicksRow.holds Try.pinned (OpenSpec.ofChange globPicksWrong)

/-- 'filespacelaw49.GlobEscapes': WHATEVER THE INPUT: true; the input reads as it did. -/
def globEscapesSpec : ChangeSpec := { name := "globEscapes", fn := fun _ => fun
  | [d1, d2] => { results := [.lit (.bool true)], args := [d1, d2] }
  | _ => none }
def globEscapesRow : OpenClaim := { program := "ytodoilengdnlfaa", sum := "e98adb48957f2b5b6a79ecfabfab4d0b345cf7461a51458522cec53da91d3f38", func := "filespace/filespacelaw49.GlobEscapes", spec := "globEscapes", inPlace := ["internal/bytealg.IndexByteString", "internal/abi.NoEscape"], recurses := true, apart := false }
def GlobEscapesSaid : Prop := globEscapesRow.holds Try.pinned (OpenSpec.ofChange globEscapesSpec)

/-- ITS FALSE NEIGHBOUR: 'it returns false'. Refute it at one input. -/
def globEscapesWrong : ChangeSpec := { name := "globEscapes", fn := fun _ => fun
  | [d1, d2] => { results := [.lit (.bool false)], args := [d1, d2] }
  | _ => none }
def GlobEscapesWrongFalsely : Prop := globEscapesRow.holds Try.pinned (OpenSpec.ofChange globEscapesWrong)

/-- 'filespacelaw49.GlobLiteral': WHATEVER THE INPUT: true; the input reads as it did. -/
def globLiteralSpec : ChangeSpec := { name := "globLiteral", fn := fun _ => fun
  | [d1, d2, d3] => { results := [.lit (.bool true)], args := [d1, d2, d3] }
  | _ => none }
def globLiteralRow : OpenClaim := { program := "ytodoilengdnlfaa", sum := "e98adb48957f2b5b6a79ecfabfab4d0b345cf7461a51458522cec53da91d3f38", func := "filespace/filespacelaw49.GlobLiteral", spec := "globLiteral", inPlace := ["internal/bytealg.IndexByteString", "internal/abi.NoEscape"], recurses := true, apart := false }
def GlobLiteralSaid : Prop := globLiteralRow.holds Try.pinned (OpenSpec.ofChange globLiteralSpec)

/-- ITS FALSE NEIGHBOUR: 'it returns false'. Refute it at one input. -/
def globLiteralWrong : ChangeSpec := { name := "globLiteral", fn := fun _ => fun
  | [d1, d2, d3] => { results := [.lit (.bool false)], args := [d1, d2, d3] }
  | _ => none }
def GlobLiteralWrongFalsely : Prop := globLiteralRow.holds Try.pinned (OpenSpec.ofChange globLiteralWrong)

/-- 'filespacelaw49.GlobStars': WHATEVER THE INPUT: true; the input reads as it did. -/
def globStarsSpec : ChangeSpec := { name := "globStars", fn := fun _ => fun
  | [d1, d2, d3] => { results := [.lit (.bool true)], args := [d1, d2, d3] }
  | _ => none }
def globStarsRow : OpenClaim := { program := "ytodoilengdnlfaa", sum := "e98adb48957f2b5b6a79ecfabfab4d0b345cf7461a51458522cec53da91d3f38", func := "filespace/filespacelaw49.GlobStars", spec := "globStars", inPlace := ["internal/bytealg.IndexByteString", "internal/abi.NoEscape"], recurses := true, apart := false }
def GlobStarsSaid : Prop := globStarsRow.holds Try.pinned (OpenSpec.ofChange globStarsSpec)

/-- ITS FALSE NEIGHBOUR: 'it returns false'. Refute it at one input. -/
def globStarsWrong : ChangeSpec := { name := "globStars", fn := fun _ => fun
  | [d1, d2, d3] => { results := [.lit (.bool false)], args := [d1, d2, d3] }
  | _ => none }
def GlobStarsWrongFalsely : Prop := globStarsRow.holds Try.pinned (OpenSpec.ofChange globStarsWrong)

/-- 'filespacelaw49.GlobPicked': WHATEVER THE INPUT: true; the input reads as it did. -/
def globPickedSpec : ChangeSpec := { name := "globPicked", fn := fun _ => fun
  | [d1, d2, d3] => { results := [.lit (.bool true)], args := [d1, d2, d3] }
  | _ => none }
def globPickedRow : OpenClaim := { program := "ytodoilengdnlfaa", sum := "e98adb48957f2b5b6a79ecfabfab4d0b345cf7461a51458522cec53da91d3f38", func := "filespace/filespacelaw49.GlobPicked", spec := "globPicked", inPlace := ["internal/bytealg.IndexByteString", "internal/abi.NoEscape"], recurses := true, apart := false }
def GlobPickedSaid : Prop := globPickedRow.holds Try.pinned (OpenSpec.ofChange globPickedSpec)

/-- ITS FALSE NEIGHBOUR: 'it returns false'. Refute it at one input. -/
def globPickedWrong : ChangeSpec := { name := "globPicked", fn := fun _ => fun
  | [d1, d2, d3] => { results := [.lit (.bool false)], args := [d1, d2, d3] }
  | _ => none }
def GlobPickedWrongFalsely : Prop := globPickedRow.holds Try.pinned (OpenSpec.ofChange globPickedWrong)

/- THE SECOND FORM. 'bulk': how many values and letters a reading holds, each counted each time it is reached (what is shared counts as often as it is met; a slice's spare places count too). A statement '..UptoSaid' is the law's where the arguments, and the package variables that the reading takes, are together of bulk at most 1048576: NARROWER than '..Said'. Prove '..Said' where nothing that the law and all that it calls make is longer than what came in: it says more and counts as full. Else prove '..UptoSaid'. A law counts once. -/
mutual
def uptoBulk {H : Type} : DataW H → Nat
  | .lit (.string bytes) => bytes.length + 1
  | .lit _ => 1
  | .nil => 1
  | .ptr d => uptoBulk d + 1
  | .slice elems spare => uptoBulkAll elems + uptoBulkAll spare + 1
  | .agg parts => uptoBulkAll parts + 1
  | .iface _ d => uptoBulk d + 1
  | .map entries => uptoBulkEntries entries + 1
  | .held _ => 1
def uptoBulkAll {H : Type} : List (DataW H) → Nat
  | [] => 0
  | d :: r => uptoBulk d + uptoBulkAll r
def uptoBulkEntries {H : Type} : List (Lit × DataW H) → Nat
  | [] => 0
  | x :: r => uptoBulkEntry x + uptoBulkEntries r
def uptoBulkEntry {H : Type} : Lit × DataW H → Nat
  | (.string bytes, d) => bytes.length + uptoBulk d + 1
  | (_, d) => uptoBulk d + 1
 end
def uptoSmall : (H : Type) → List (DataW H) → Bool := fun _ ds => decide (uptoBulkAll ds ≤ 1048576)
def OpenSpec.upto (s : _root_.Go.ChangeSpec) : _root_.Go.OpenSpec := { _root_.Go.OpenSpec.ofChange s with cond := some uptoSmall }

/-- 'filespacelaw49.GlobMatches', WHERE WHAT IT READS IS OF BULK AT MOST 1048576: true; the input reads as it did. -/
def globMatchesUptoRow : OpenClaim := { program := "ytodoilengdnlfaa", sum := "e98adb48957f2b5b6a79ecfabfab4d0b345cf7461a51458522cec53da91d3f38", func := "filespace/filespacelaw49.GlobMatches", spec := "globMatches", inPlace := ["internal/bytealg.IndexByteString", "internal/abi.NoEscape"], recurses := true, apart := false, narrowed := true }
def GlobMatchesUptoSaid : Prop := globMatchesUptoRow.holds Try.pinned (OpenSpec.upto globMatchesSpec)

/-- 'filespacelaw49.GlobPicks', WHERE WHAT IT READS IS OF BULK AT MOST 1048576: true; the input reads as it did. -/
def globPicksUptoRow : OpenClaim := { program := "ytodoilengdnlfaa", sum := "e98adb48957f2b5b6a79ecfabfab4d0b345cf7461a51458522cec53da91d3f38", func := "filespace/filespacelaw49.GlobPicks", spec := "globPicks", inPlace := ["internal/bytealg.IndexByteString", "internal/abi.NoEscape"], recurses := true, apart := false, narrowed := true }
def GlobPicksUptoSaid : Prop := globPicksUptoRow.holds Try.pinned (OpenSpec.upto globPicksSpec)

/-- 'filespacelaw49.GlobEscapes', WHERE WHAT IT READS IS OF BULK AT MOST 1048576: true; the input reads as it did. -/
def globEscapesUptoRow : OpenClaim := { program := "ytodoilengdnlfaa", sum := "e98adb48957f2b5b6a79ecfabfab4d0b345cf7461a51458522cec53da91d3f38", func := "filespace/filespacelaw49.GlobEscapes", spec := "globEscapes", inPlace := ["internal/bytealg.IndexByteString", "internal/abi.NoEscape"], recurses := true, apart := false, narrowed := true }
def GlobEscapesUptoSaid : Prop := globEscapesUptoRow.holds Try.pinned (OpenSpec.upto globEscapesSpec)

/-- 'filespacelaw49.GlobLiteral', WHERE WHAT IT READS IS OF BULK AT MOST 1048576: true; the input reads as it did. -/
def globLiteralUptoRow : OpenClaim := { program := "ytodoilengdnlfaa", sum := "e98adb48957f2b5b6a79ecfabfab4d0b345cf7461a51458522cec53da91d3f38", func := "filespace/filespacelaw49.GlobLiteral", spec := "globLiteral", inPlace := ["internal/bytealg.IndexByteString", "internal/abi.NoEscape"], recurses := true, apart := false, narrowed := true }
def GlobLiteralUptoSaid : Prop := globLiteralUptoRow.holds Try.pinned (OpenSpec.upto globLiteralSpec)

/-- 'filespacelaw49.GlobStars', WHERE WHAT IT READS IS OF BULK AT MOST 1048576: true; the input reads as it did. -/
def globStarsUptoRow : OpenClaim := { program := "ytodoilengdnlfaa", sum := "e98adb48957f2b5b6a79ecfabfab4d0b345cf7461a51458522cec53da91d3f38", func := "filespace/filespacelaw49.GlobStars", spec := "globStars", inPlace := ["internal/bytealg.IndexByteString", "internal/abi.NoEscape"], recurses := true, apart := false, narrowed := true }
def GlobStarsUptoSaid : Prop := globStarsUptoRow.holds Try.pinned (OpenSpec.upto globStarsSpec)

/-- 'filespacelaw49.GlobPicked', WHERE WHAT IT READS IS OF BULK AT MOST 1048576: true; the input reads as it did. -/
def globPickedUptoRow : OpenClaim := { program := "ytodoilengdnlfaa", sum := "e98adb48957f2b5b6a79ecfabfab4d0b345cf7461a51458522cec53da91d3f38", func := "filespace/filespacelaw49.GlobPicked", spec := "globPicked", inPlace := ["internal/bytealg.IndexByteString", "internal/abi.NoEscape"], recurses := true, apart := false, narrowed := true }
def GlobPickedUptoSaid : Prop := globPickedUptoRow.holds Try.pinned (OpenSpec.upto globPickedSpec)

end Rows
end Go.Proofs.Ytodoilengdnlfaa
