/- This text says in plain Lean which names Pick of the reference returns. Conditions: those that each theorem names. -/
import Derived.Test.YtodoilengdnlfaaGlobL
namespace Go.Proofs.Ytodoilengdnlfaa
open Go.ChangeShapes Go.WideShapes Go.ChangeAt Go.RowKit
set_option linter.unusedVariables false
set_option linter.unusedSimpArgs false

/-- A text begins with a point. -/
def dotB (s : ByteArray) : Bool := decide (0 < s.size) && decide (gb s 0 = 46)
def shownB (p q y : ByteArray) : Bool := !(dotB y && !dotB p) && matchB p q y
def pickStep (p q : ByteArray) (l : List ByteArray) (y : ByteArray) : List ByteArray := if shownB p q y then insB y l else l
def pickL (p q : ByteArray) (xs : List ByteArray) : List ByteArray := xs.foldl (pickStep p q) []
theorem pickL_take {p q : ByteArray} {xs : List ByteArray} {j : Nat} (h : j < xs.length) : pickL p q (xs.take (j + 1)) = pickStep p q (pickL p q (xs.take j)) (nth xs j) := by
  unfold pickL
  rw [List.take_add_one, nth_get h, List.foldl_append]; rfl
def insM (o : List ByteArray × Bool) : Nat := o.1.length + (if o.2 then 0 else 1)
theorem insM_step (t : ByteArray) (o : List ByteArray × Bool) (y : ByteArray) : insM (insStep t o y) = insM o + 1 := by
  obtain ⟨l, d⟩ := o
  unfold insM insStep
  cases d <;> cases ltB t y <;> simp
theorem insM_all (t : ByteArray) : ∀ (xs : List ByteArray) (o : List ByteArray × Bool), insM (xs.foldl (insStep t) o) = insM o + xs.length
  | [], o => rfl
  | y :: xs, o => by
    rw [List.foldl_cons, insM_all t xs, insM_step, List.length_cons]; omega
theorem insB_len (t : ByteArray) (xs : List ByteArray) : (insB t xs).length ≤ xs.length + 1 := by
  unfold insB
  split
  · omega
  · have h := insM_all t xs ([], false)
    change insM (insF t xs) = 0 + 1 + xs.length at h
    generalize insF t xs = o at h ⊢
    obtain ⟨l, d⟩ := o
    unfold insM at h
    cases d <;> simp at h ⊢ <;> omega

end Go.Proofs.Ytodoilengdnlfaa
