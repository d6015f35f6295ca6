/-
  No cell of these rows narrows 'for every input' (looked for: loops, veiled, ifaces, maps, wideKeys, modest, calm, conditions, laid).
  DERIVED. THE GIVEN ROWS OF THIS SEAT. 6 by the template 'for every input the law returns true; each argument reads behind the call as it read before'; 0 by the template 'total and deterministic' (their statements: YtfhccmegobbnaaaTotals.lean).
  GIVEN WITH THE SEED: the statements are not yours to turn. If you find one false, say at which input.
  Laid BY PROGRAM, IN A SANDBOX (cutbox-rows.mjs): the forced cells as the released guide's own fill.sh prints them over the translation 18ebe4e773aadee0… (all of the seat's roots in one cut). By AI agents, Wed Nov 11 2026. No macro, syntax, notation, axiom, sorry.
-/
import Derived.Test.YtfhccmegobbnaaaChecked
import GoSem.Claim
import GoSem.ClaimJoined
import GoSem.ClaimMapViews
import Derived.JoinedTies
import Derived.KernelRfl
namespace Go.Proofs.Ytfhccmegobbnaaa
/- THE CELL 'sum', in the pinned program and in every row, IS THE sha256 OF THE DUMP (.gsa) THAT YtfhccmegobbnaaaProg.lean LOADS. Nothing in Lean hashes anything: it is a label: what it is worth is what the hold of that sum in a sandbox is worth. -/
noncomputable def Try.pinned : Pinned := { name := "ytfhccmegobbnaaa", sum := "18ebe4e773aadee07cfb773f80a6689a044e1b02923a54c85d8994b0cb9b2175", checked := Try.checked }
namespace Rows
def none {H : Type} : Left H := { results := [], args := [] }

/-- 'filespacelaw21.RegexOffsets': WHATEVER THE INPUT: true; the input reads as it did. -/
def regexOffsetsSpec : ChangeSpec := { name := "regexOffsets", fn := fun _ => fun
  | [d1, d2] => { results := [.lit (.bool true)], args := [d1, d2] }
  | _ => none }
def regexOffsetsRow : OpenClaim := { program := "ytfhccmegobbnaaa", sum := "18ebe4e773aadee07cfb773f80a6689a044e1b02923a54c85d8994b0cb9b2175", func := "filespace/filespacelaw21.RegexOffsets", spec := "regexOffsets", inPlace := ["slices.overlaps[filespace/api.Inst]", "internal/abi.NoEscape"], unfollowed := true, recurses := true, apart := false }
def RegexOffsetsSaid : Prop := regexOffsetsRow.holds Try.pinned (OpenSpec.ofChange regexOffsetsSpec)

/-- ITS FALSE NEIGHBOUR: 'it returns false'. Refute it at one input. -/
def regexOffsetsWrong : ChangeSpec := { name := "regexOffsets", fn := fun _ => fun
  | [d1, d2] => { results := [.lit (.bool false)], args := [d1, d2] }
  | _ => none }
def RegexOffsetsWrongFalsely : Prop := regexOffsetsRow.holds Try.pinned (OpenSpec.ofChange regexOffsetsWrong)

/-- 'filespacelaw21.RegexWhole': WHATEVER THE INPUT: true; the input reads as it did. -/
def regexWholeSpec : ChangeSpec := { name := "regexWhole", fn := fun _ => fun
  | [d1, d2] => { results := [.lit (.bool true)], args := [d1, d2] }
  | _ => none }
def regexWholeRow : OpenClaim := { program := "ytfhccmegobbnaaa", sum := "18ebe4e773aadee07cfb773f80a6689a044e1b02923a54c85d8994b0cb9b2175", func := "filespace/filespacelaw21.RegexWhole", spec := "regexWhole", inPlace := ["slices.overlaps[filespace/api.Inst]", "internal/abi.NoEscape"], unfollowed := true, recurses := true, apart := false }
def RegexWholeSaid : Prop := regexWholeRow.holds Try.pinned (OpenSpec.ofChange regexWholeSpec)

/-- ITS FALSE NEIGHBOUR: 'it returns false'. Refute it at one input. -/
def regexWholeWrong : ChangeSpec := { name := "regexWhole", fn := fun _ => fun
  | [d1, d2] => { results := [.lit (.bool false)], args := [d1, d2] }
  | _ => none }
def RegexWholeWrongFalsely : Prop := regexWholeRow.holds Try.pinned (OpenSpec.ofChange regexWholeWrong)

/-- 'filespacelaw21.RegexCompiles': WHATEVER THE INPUT: true; the input reads as it did. -/
def regexCompilesSpec : ChangeSpec := { name := "regexCompiles", fn := fun _ => fun
  | [d] => { results := [.lit (.bool true)], args := [d] }
  | _ => none }
def regexCompilesRow : OpenClaim := { program := "ytfhccmegobbnaaa", sum := "18ebe4e773aadee07cfb773f80a6689a044e1b02923a54c85d8994b0cb9b2175", func := "filespace/filespacelaw21.RegexCompiles", spec := "regexCompiles", inPlace := ["slices.overlaps[filespace/api.Inst]", "internal/abi.NoEscape"], unfollowed := true, recurses := true, apart := false }
def RegexCompilesSaid : Prop := regexCompilesRow.holds Try.pinned (OpenSpec.ofChange regexCompilesSpec)

/-- ITS FALSE NEIGHBOUR: 'it returns false'. Refute it at one input. -/
def regexCompilesWrong : ChangeSpec := { name := "regexCompiles", fn := fun _ => fun
  | [d] => { results := [.lit (.bool false)], args := [d] }
  | _ => none }
def RegexCompilesWrongFalsely : Prop := regexCompilesRow.holds Try.pinned (OpenSpec.ofChange regexCompilesWrong)

/-- 'filespacelaw21.RegexReplaces': WHATEVER THE INPUT: true; the input reads as it did. -/
def regexReplacesSpec : ChangeSpec := { name := "regexReplaces", fn := fun _ => fun
  | [d1, d2, d3] => { results := [.lit (.bool true)], args := [d1, d2, d3] }
  | _ => none }
def regexReplacesRow : OpenClaim := { program := "ytfhccmegobbnaaa", sum := "18ebe4e773aadee07cfb773f80a6689a044e1b02923a54c85d8994b0cb9b2175", func := "filespace/filespacelaw21.RegexReplaces", spec := "regexReplaces", inPlace := ["slices.overlaps[filespace/api.Inst]", "internal/abi.NoEscape"], unfollowed := true, recurses := true, apart := false }
def RegexReplacesSaid : Prop := regexReplacesRow.holds Try.pinned (OpenSpec.ofChange regexReplacesSpec)

/-- ITS FALSE NEIGHBOUR: 'it returns false'. Refute it at one input. -/
def regexReplacesWrong : ChangeSpec := { name := "regexReplaces", fn := fun _ => fun
  | [d1, d2, d3] => { results := [.lit (.bool false)], args := [d1, d2, d3] }
  | _ => none }
def RegexReplacesWrongFalsely : Prop := regexReplacesRow.holds Try.pinned (OpenSpec.ofChange regexReplacesWrong)

/-- 'filespacelaw21.RegexSwaps': WHATEVER THE INPUT: true; the input reads as it did. -/
def regexSwapsSpec : ChangeSpec := { name := "regexSwaps", fn := fun _ => fun
  | [d1, d2, d3] => { results := [.lit (.bool true)], args := [d1, d2, d3] }
  | _ => none }
def regexSwapsRow : OpenClaim := { program := "ytfhccmegobbnaaa", sum := "18ebe4e773aadee07cfb773f80a6689a044e1b02923a54c85d8994b0cb9b2175", func := "filespace/filespacelaw21.RegexSwaps", spec := "regexSwaps", inPlace := ["slices.overlaps[filespace/api.Inst]", "internal/abi.NoEscape"], unfollowed := true, recurses := true, apart := false }
def RegexSwapsSaid : Prop := regexSwapsRow.holds Try.pinned (OpenSpec.ofChange regexSwapsSpec)

/-- ITS FALSE NEIGHBOUR: 'it returns false'. Refute it at one input. -/
def regexSwapsWrong : ChangeSpec := { name := "regexSwaps", fn := fun _ => fun
  | [d1, d2, d3] => { results := [.lit (.bool false)], args := [d1, d2, d3] }
  | _ => none }
def RegexSwapsWrongFalsely : Prop := regexSwapsRow.holds Try.pinned (OpenSpec.ofChange regexSwapsWrong)

/-- 'filespacelaw21.RegexMatches': WHATEVER THE INPUT: true; the input reads as it did. -/
def regexMatchesSpec : ChangeSpec := { name := "regexMatches", fn := fun _ => fun
  | [d1, d2] => { results := [.lit (.bool true)], args := [d1, d2] }
  | _ => none }
def regexMatchesRow : OpenClaim := { program := "ytfhccmegobbnaaa", sum := "18ebe4e773aadee07cfb773f80a6689a044e1b02923a54c85d8994b0cb9b2175", func := "filespace/filespacelaw21.RegexMatches", spec := "regexMatches", inPlace := ["slices.overlaps[filespace/api.Inst]", "internal/abi.NoEscape"], unfollowed := true, recurses := true, apart := false }
def RegexMatchesSaid : Prop := regexMatchesRow.holds Try.pinned (OpenSpec.ofChange regexMatchesSpec)

/-- ITS FALSE NEIGHBOUR: 'it returns false'. Refute it at one input. -/
def regexMatchesWrong : ChangeSpec := { name := "regexMatches", fn := fun _ => fun
  | [d1, d2] => { results := [.lit (.bool false)], args := [d1, d2] }
  | _ => none }
def RegexMatchesWrongFalsely : Prop := regexMatchesRow.holds Try.pinned (OpenSpec.ofChange regexMatchesWrong)

/- THE SECOND FORM. 'bulk': how many values and letters a reading holds, each counted each time it is reached (what is shared counts as often as it is met; a slice's spare places count too). A statement '..UptoSaid' is the law's where the arguments, and the package variables that the reading takes, are together of bulk at most 1048576: NARROWER than '..Said'. Prove '..Said' where nothing that the law and all that it calls make is longer than what came in: it says more and counts as full. Else prove '..UptoSaid'. A law counts once. -/
mutual
def uptoBulk {H : Type} : DataW H → Nat
  | .lit (.string bytes) => bytes.length + 1
  | .lit _ => 1
  | .nil => 1
  | .ptr d => uptoBulk d + 1
  | .slice elems spare => uptoBulkAll elems + uptoBulkAll spare + 1
  | .agg parts => uptoBulkAll parts + 1
  | .iface _ d => uptoBulk d + 1
  | .map entries => uptoBulkEntries entries + 1
  | .held _ => 1
def uptoBulkAll {H : Type} : List (DataW H) → Nat
  | [] => 0
  | d :: r => uptoBulk d + uptoBulkAll r
def uptoBulkEntries {H : Type} : List (Lit × DataW H) → Nat
  | [] => 0
  | x :: r => uptoBulkEntry x + uptoBulkEntries r
def uptoBulkEntry {H : Type} : Lit × DataW H → Nat
  | (.string bytes, d) => bytes.length + uptoBulk d + 1
  | (_, d) => uptoBulk d + 1
 end
def uptoSmall : (H : Type) → List (DataW H) → Bool := fun _ ds => decide (uptoBulkAll ds ≤ 1048576)
def OpenSpec.upto (s : _root_.Go.ChangeSpec) : _root_.Go.OpenSpec := { _root_.Go.OpenSpec.ofChange s with cond := some uptoSmall }

/-- 'filespacelaw21.RegexOffsets', WHERE WHAT IT READS IS OF BULK AT MOST 1048576: true; the input reads as it did. -/
def regexOffsetsUptoRow : OpenClaim := { program := "ytfhccmegobbnaaa", sum := "18ebe4e773aadee07cfb773f80a6689a044e1b02923a54c85d8994b0cb9b2175", func := "filespace/filespacelaw21.RegexOffsets", spec := "regexOffsets", inPlace := ["slices.overlaps[filespace/api.Inst]", "internal/abi.NoEscape"], unfollowed := true, recurses := true, apart := false, narrowed := true }
def RegexOffsetsUptoSaid : Prop := regexOffsetsUptoRow.holds Try.pinned (OpenSpec.upto regexOffsetsSpec)

/-- 'filespacelaw21.RegexWhole', WHERE WHAT IT READS IS OF BULK AT MOST 1048576: true; the input reads as it did. -/
def regexWholeUptoRow : OpenClaim := { program := "ytfhccmegobbnaaa", sum := "18ebe4e773aadee07cfb773f80a6689a044e1b02923a54c85d8994b0cb9b2175", func := "filespace/filespacelaw21.RegexWhole", spec := "regexWhole", inPlace := ["slices.overlaps[filespace/api.Inst]", "internal/abi.NoEscape"], unfollowed := true, recurses := true, apart := false, narrowed := true }
def RegexWholeUptoSaid : Prop := regexWholeUptoRow.holds Try.pinned (OpenSpec.upto regexWholeSpec)

/-- 'filespacelaw21.RegexCompiles', WHERE WHAT IT READS IS OF BULK AT MOST 1048576: true; the input reads as it did. -/
def regexCompilesUptoRow : OpenClaim := { program := "ytfhccmegobbnaaa", sum := "18ebe4e773aadee07cfb773f80a6689a044e1b02923a54c85d8994b0cb9b2175", func := "filespace/filespacelaw21.RegexCompiles", spec := "regexCompiles", inPlace := ["slices.overlaps[filespace/api.Inst]", "internal/abi.NoEscape"], unfollowed := true, recurses := true, apart := false, narrowed := true }
def RegexCompilesUptoSaid : Prop := regexCompilesUptoRow.holds Try.pinned (OpenSpec.upto regexCompilesSpec)

/-- 'filespacelaw21.RegexReplaces', WHERE WHAT IT READS IS OF BULK AT MOST 1048576: true; the input reads as it did. -/
def regexReplacesUptoRow : OpenClaim := { program := "ytfhccmegobbnaaa", sum := "18ebe4e773aadee07cfb773f80a6689a044e1b02923a54c85d8994b0cb9b2175", func := "filespace/filespacelaw21.RegexReplaces", spec := "regexReplaces", inPlace := ["slices.overlaps[filespace/api.Inst]", "internal/abi.NoEscape"], unfollowed := true, recurses := true, apart := false, narrowed := true }
def RegexReplacesUptoSaid : Prop := regexReplacesUptoRow.holds Try.pinned (OpenSpec.upto regexReplacesSpec)

/-- 'filespacelaw21.RegexSwaps', WHERE WHAT IT READS IS OF BULK AT MOST 1048576: true; the input reads as it did. -/
def regexSwapsUptoRow : OpenClaim := { program := "ytfhccmegobbnaaa", sum := "18ebe4e773aadee07cfb773f80a6689a044e1b02923a54c85d8994b0cb9b2175", func := "filespace/filespacelaw21.RegexSwaps", spec := "regexSwaps", inPlace := ["slices.overlaps[filespace/api.Inst]", "internal/abi.NoEscape"], unfollowed := true, recurses := true, apart := false, narrowed := true }
def RegexSwapsUptoSaid : Prop := regexSwapsUptoRow.holds Try.pinned (OpenSpec.upto regexSwapsSpec)

/-- 'filespacelaw21.RegexMatches', WHERE WHAT IT READS IS OF BULK AT MOST 1048576: true; the input reads as it did. -/
def regexMatchesUptoRow : OpenClaim := { program := "ytfhccmegobbnaaa", sum := "18ebe4e773aadee07cfb773f80a6689a044e1b02923a54c85d8994b0cb9b2175", func := "filespace/filespacelaw21.RegexMatches", spec := "regexMatches", inPlace := ["slices.overlaps[filespace/api.Inst]", "internal/abi.NoEscape"], unfollowed := true, recurses := true, apart := false, narrowed := true }
def RegexMatchesUptoSaid : Prop := regexMatchesUptoRow.holds Try.pinned (OpenSpec.upto regexMatchesSpec)

end Rows
end Go.Proofs.Ytfhccmegobbnaaa
