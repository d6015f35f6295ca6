/- This text gives the plain reading of the reference's rest and Right, and compares it with the package's. It has no program in sight. Conditions: those that each theorem names. -/
import Derived.Test.YtfhccmegobbnaaaRegexRA
namespace Go.Proofs.Ytfhccmegobbnaaa
open Go.ChangeShapes Go.WideShapes Go.ChangeAt Go.RowKit
set_option linter.unusedVariables false
set_option linter.unusedSimpArgs false

/-- The fields that an instruction does not use are zero. -/
def restF (i : In) : Bool :=
  if i.op ≠ 1 ∧ i.c ≠ 0 then false else if i.op ≠ 3 ∧ (i.set ≠ ⟨#[]⟩ ∨ i.nt = true) then false else if i.op ≠ 6 ∧ i.y ≠ 0 then false
  else decide (i.op = 6 ∨ i.op = 7 ∨ i.op = 8 ∨ i.x = 0)
theorem rest_only (i : In) : restF i = inSame i (onlyF i) := by
  obtain ⟨o, c, s, nt, x, y⟩ := i
  rw [Bool.eq_iff_iff, inSame_iff]
  unfold restF onlyF
  by_cases h1 : o = 1
  · subst h1
    simp <;> (try (constructor <;> intro h <;> simp_all)) 
  by_cases h3 : o = 3
  · subst h3
    simp
    first | done | (intro _; exact And.comm) | (constructor <;> intro h <;> simp_all)
  by_cases h6 : o = 6
  · subst h6
    simp <;> (try (constructor <;> intro h <;> simp_all))
  by_cases h7 : o = 7 ∨ o = 8
  · have hx : (o = 7 ∨ o = 8 ∨ x = 0) := by omega
    simp [h1, h3, h6, h7, hx]
    first | done | (intro _; exact and_assoc) | (intro _; constructor <;> intro h <;> simp_all)
  · have h78 : ¬ o = 7 ∧ ¬ o = 8 := by omega
    simp [h1, h3, h6, h7, h78.1, h78.2]
    intro _
    constructor
    · rintro ⟨⟨a, b⟩, c, d⟩; exact ⟨a, b, d, c⟩
    · rintro ⟨a, b, d, c⟩; exact ⟨⟨a, b⟩, c, d⟩

end Go.Proofs.Ytfhccmegobbnaaa
