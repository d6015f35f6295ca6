/- This text evaluates the plain readings at the fixed examples of the statements. It has no conditions. -/
import Derived.Test.YtfhccmegobbnaaaRegexZH
namespace Go.Proofs.Ytfhccmegobbnaaa
open Go.ChangeShapes Go.WideShapes Go.ChangeAt Go.RowKit
set_option linter.unusedVariables false
set_option linter.unusedSimpArgs false

theorem str_inj' {a b : ByteArray} (h : a.data.toList = b.data.toList) : a = b := by
  cases a; cases b
  congr 1
  exact Array.toList_inj.1 h
def wantL : List In := [iSave 0, iSplit 2 4, iChar 97, iJump 1, iSave 1, iOp 9]
theorem ex1 : compF ⟨#[97, 42]⟩ = .ok (wantL, 1) := by
  have h : (match compF ⟨#[97, 42]⟩ with | .ok (L, G) => decide (L.length = 6 ∧ G = 1) && inSame L[0]! wantL[0]! && inSame L[1]! wantL[1]! && inSame L[2]! wantL[2]! && inSame L[3]! wantL[3]! && inSame L[4]! wantL[4]! && inSame L[5]! wantL[5]! | .error _ => false) = true := by kernel_rfl
  split at h
  · rename_i L G heq
    simp only [Bool.and_eq_true, decide_eq_true_eq, inSame_iff] at h
    obtain ⟨⟨⟨⟨⟨⟨⟨h1, h2⟩, a0⟩, a1⟩, a2⟩, a3⟩, a4⟩, a5⟩ := h
    subst h2
    have : L = wantL := by
      refine List.ext_getElem (by rw [h1]; rfl) (fun i hi hj => ?_)
      have hi6 : i < 6 := by omega
      rw [← getElem!_pos L i hi, ← getElem!_pos wantL i hj]
      match i, hi6 with
      | 0, _ => exact a0
      | 1, _ => exact a1
      | 2, _ => exact a2
      | 3, _ => exact a3
      | 4, _ => exact a4
      | 5, _ => exact a5
    rw [heq, this]
  · cases h
theorem ex2 : compF ⟨#[97, 40, 98]⟩ = .error (3, 49) := by
  have h : (match compF ⟨#[97, 40, 98]⟩ with | .ok _ => false | .error k => decide (k = (3, 49))) = true := by kernel_rfl
  split at h
  · cases h
  · rename_i k heq
    rw [heq, of_decide_eq_true h]
theorem ex3 : compF ⟨#[91, 98, 45, 97, 93]⟩ = .error (3, 49) := by
  have h : (match compF ⟨#[91, 98, 45, 97, 93]⟩ with | .ok _ => false | .error k => decide (k = (3, 49))) = true := by kernel_rfl
  split at h
  · cases h
  · rename_i k heq
    rw [heq, of_decide_eq_true h]
theorem ex4 : ∃ L G, compF ⟨#[97, 124, 97, 98]⟩ = .ok (L, G) ∧ matchTop L G ⟨#[120, 97, 98]⟩ = some [1, 3] := by
  have h : (match compF ⟨#[97, 124, 97, 98]⟩ with | .ok (L, G) => decide (matchTop L G ⟨#[120, 97, 98]⟩ = some [1, 3]) | .error _ => false) = true := by kernel_rfl
  split at h
  · rename_i L G heq
    exact ⟨L, G, heq, of_decide_eq_true h⟩
  · cases h
theorem ex5 : ∃ L G, compF ⟨#[40, 97, 42, 41, 40, 98, 41, 63]⟩ = .ok (L, G) ∧ matchTop L G ⟨#[97, 97, 98]⟩ = some [0, 3, 0, 2, 2, 3] := by
  have h : (match compF ⟨#[40, 97, 42, 41, 40, 98, 41, 63]⟩ with | .ok (L, G) => decide (matchTop L G ⟨#[97, 97, 98]⟩ = some [0, 3, 0, 2, 2, 3]) | .error _ => false) = true := by kernel_rfl
  split at h
  · rename_i L G heq
    exact ⟨L, G, heq, of_decide_eq_true h⟩
  · cases h
theorem ex6 : ∃ L G, compF ⟨#[97, 46, 99]⟩ = .ok (L, G) ∧ matchTop L G ⟨#[97, 10, 99]⟩ = none := by
  have h : (match compF ⟨#[97, 46, 99]⟩ with | .ok (L, G) => decide (matchTop L G ⟨#[97, 10, 99]⟩ = none) | .error _ => false) = true := by kernel_rfl
  split at h
  · rename_i L G heq
    exact ⟨L, G, heq, of_decide_eq_true h⟩
  · cases h
theorem ex7 : ∃ L G, compF ⟨#[98, 42]⟩ = .ok (L, G) ∧ (replTop L G ⟨#[97, 98, 99]⟩ ⟨#[45]⟩).1 = ⟨#[45, 97, 45, 99, 45]⟩ ∧ (replTop L G ⟨#[97, 98, 99]⟩ ⟨#[45]⟩).2 = 0 := by
  have h : (match compF ⟨#[98, 42]⟩ with | .ok (L, G) => decide ((replTop L G ⟨#[97, 98, 99]⟩ ⟨#[45]⟩).1.data.toList = (⟨#[45, 97, 45, 99, 45]⟩ : ByteArray).data.toList ∧ (replTop L G ⟨#[97, 98, 99]⟩ ⟨#[45]⟩).2 = 0) | .error _ => false) = true := by kernel_rfl
  split at h
  · rename_i L G heq
    exact ⟨L, G, heq, (str_inj' (of_decide_eq_true h).1), (of_decide_eq_true h).2⟩
  · cases h
theorem ex8 : ∃ L G, compF ⟨#[40, 97, 41, 40, 120, 41, 63]⟩ = .ok (L, G) ∧ (replTop L G ⟨#[98, 97, 98]⟩ ⟨#[60, 92, 49, 92, 50, 38, 62]⟩).1 = ⟨#[98, 60, 97, 97, 62, 98]⟩ ∧ (replTop L G ⟨#[98, 97, 98]⟩ ⟨#[60, 92, 49, 92, 50, 38, 62]⟩).2 = 0 := by
  have h : (match compF ⟨#[40, 97, 41, 40, 120, 41, 63]⟩ with | .ok (L, G) => decide ((replTop L G ⟨#[98, 97, 98]⟩ ⟨#[60, 92, 49, 92, 50, 38, 62]⟩).1.data.toList = (⟨#[98, 60, 97, 97, 62, 98]⟩ : ByteArray).data.toList ∧ (replTop L G ⟨#[98, 97, 98]⟩ ⟨#[60, 92, 49, 92, 50, 38, 62]⟩).2 = 0) | .error _ => false) = true := by kernel_rfl
  split at h
  · rename_i L G heq
    exact ⟨L, G, heq, (str_inj' (of_decide_eq_true h).1), (of_decide_eq_true h).2⟩
  · cases h
theorem ex9 : ∃ L G, compF ⟨#[97]⟩ = .ok (L, G) ∧ (replTop L G ⟨#[98]⟩ ⟨#[92]⟩).2 = 49 := by
  have h : (match compF ⟨#[97]⟩ with | .ok (L, G) => decide ((replTop L G ⟨#[98]⟩ ⟨#[92]⟩).2 = 49) | .error _ => false) = true := by kernel_rfl
  split at h
  · rename_i L G heq
    exact ⟨L, G, heq, of_decide_eq_true h⟩
  · cases h

end Go.Proofs.Ytfhccmegobbnaaa
