/- This text proves the walk of the closure of sound. Conditions: those that each theorem names. -/
import Derived.Test.YtfhccmegobbnaaaRegexM
namespace Go.Proofs.Ytfhccmegobbnaaa
open Go.ChangeShapes Go.WideShapes Go.ChangeAt Go.RowKit
set_option linter.unusedVariables false
set_option linter.unusedSimpArgs false

def inF (k : Int) (n : Nat) : Bool := decide (0 ≤ k) && decide (k < (n : Int))
set_option maxHeartbeats 8000000 in
theorem target_calls (k : Int) (rb : Nat) (ao : Option Addr) (n cap : Nat) (w : World) (h : w.cell? ⟨rb, 0, none⟩ = some (.slice ao n cap)) :
    Calls Try.prog 52 #[.int .i64 k, .pointer (some ⟨rb, 0, none⟩)] w fun e w' => e = .returned (.bool (inF k n)) ∧ w' = w := by
  by_cases h0 : 0 ≤ k
  · have d0 : decide (0 ≤ k) = true := decide_eq_true h0
    obtain ⟨b, hb⟩ : ∃ b, decide (k < (n : Int)) = b := ⟨_, rfl⟩
    have ER : inF k n = b := by unfold inF; rw [d0, hb]; rfl
    rw [ER]
    go_enter Try.func52, Try.ntmps52
    go_wp2
    all_goals exact bodyPost_ret (v := .bool (b)) (by simp [results, Try.results52, go_sem, ↓IntWalk.iteOmega, *]) rfl ⟨rfl, rfl⟩
  · have d0 : decide (0 ≤ k) = false := decide_eq_false h0
    have ER : inF k n = false := by unfold inF; rw [d0]; rfl
    rw [ER]
    go_enter Try.func52, Try.ntmps52
    go_wp2
    all_goals exact bodyPost_ret (v := .bool (false)) (by simp [results, Try.results52, go_sem, ↓IntWalk.iteOmega, *]) rfl ⟨rfl, rfl⟩

end Go.Proofs.Ytfhccmegobbnaaa
