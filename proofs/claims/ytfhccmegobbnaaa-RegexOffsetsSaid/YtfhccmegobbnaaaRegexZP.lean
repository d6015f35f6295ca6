/- This text proves that the offsets of the groups of a match are in order. It has no program in sight. Conditions: those that each theorem names. -/
import Derived.Test.YtfhccmegobbnaaaRegexZO
namespace Go.Proofs.Ytfhccmegobbnaaa
open Go.ChangeShapes Go.WideShapes Go.ChangeAt Go.RowKit
set_option linter.unusedVariables false
set_option linter.unusedSimpArgs false

/-- A block is entered at its beginning alone. -/
def Out (L : List In) (lo hi : Nat) : Prop := ∀ k, k < L.length → ¬ (lo ≤ k ∧ k < hi) → ∀ k' ∈ succs L[k]! k, lo ≤ k' → k' < hi → k' = lo
/-- A group's block: its two saves, and what goes in and out. -/
structure Grp (L : List In) (j lo hi : Nat) : Prop where
  h : lo + 2 ≤ hi
  s0 : L[lo]! = iSave (2 * j)
  s1 : L[hi - 1]! = iSave (2 * j + 1)
  o : Out L lo hi
  i : ∀ k, lo < k → k < hi - 1 → ∀ k' ∈ succs L[k]! k, lo < k' ∧ k' < hi
  u : ∀ k, k < L.length → k ≠ lo → k ≠ hi - 1 → L[k]!.op = 8 → L[k]!.x ≠ 2 * (j : Int) ∧ L[k]!.x ≠ 2 * (j : Int) + 1
/-- The saves outside a block have other numbers. -/
def Alone (L : List In) (lo hi g n : Nat) : Prop := ∀ k, k < L.length → ¬ (lo ≤ k ∧ k < hi) → L[k]!.op = 8 → L[k]!.x < 2 * ((g : Int) + 1) ∨ 2 * ((g : Int) + (n : Int)) + 1 < L[k]!.x
theorem groups {L : List In} : ∀ (a : Re) (n g : Nat), At L a n g → a.Ok → n + a.clen ≤ L.length → Out L n (n + a.clen) → Alone L n (n + a.clen) g a.ngrp → ∀ j, g < j → j ≤ g + a.ngrp → ∃ lo hi, Grp L j lo hi ∧ n ≤ lo ∧ hi ≤ n + a.clen
  | .emp, n, g, _, _, _, _, _, j, h1, h2 => by simp only [Re.ngrp] at h2; omega
  | .leaf i, n, g, _, _, _, _, _, j, h1, h2 => by simp only [Re.ngrp] at h2; omega
  | .cat a b, n, g, h, ok, hl, ho, hs, j, h1, h2 => by
    simp only [Re.clen, Re.ngrp] at *
    by_cases hj : j ≤ g + a.ngrp
    · obtain ⟨lo, hi, q, q1, q2⟩ := groups a n g h.1 ok.1 (by omega) (fun k hk hn k' hk' h3 h4 => by
        by_cases hp : n ≤ k ∧ k < n + (a.clen + b.clen)
        · have := at_closed b _ _ h.2 ok.2 k (by omega) (by omega) k' hk'
          omega
        · exact ho k hk hp k' hk' (by omega) (by omega)) (fun k hk hn h8 => by
        by_cases hp : n ≤ k ∧ k < n + (a.clen + b.clen)
        · have := at_saves b _ _ h.2 ok.2 k (by omega) (by omega) h8
          omega
        · have := hs k hk hp h8
          omega) j h1 hj
      exact ⟨lo, hi, q, q1, by omega⟩
    · obtain ⟨lo, hi, q, q1, q2⟩ := groups b _ _ h.2 ok.2 (by omega) (fun k hk hn k' hk' h3 h4 => by
        by_cases hp : n ≤ k ∧ k < n + (a.clen + b.clen)
        · have := at_closed a _ _ h.1 ok.1 k (by omega) (by omega) k' hk'
          omega
        · have := ho k hk hp k' hk' (by omega) (by omega)
          omega) (fun k hk hn h8 => by
        by_cases hp : n ≤ k ∧ k < n + (a.clen + b.clen)
        · have := at_saves a _ _ h.1 ok.1 k (by omega) (by omega) h8
          omega
        · have := hs k hk hp h8
          omega) j (by omega) (by omega)
      exact ⟨lo, hi, q, by omega, by omega⟩
  | .alt a b, n, g, h, ok, hl, ho, hs, j, h1, h2 => by
    simp only [Re.clen, Re.ngrp] at *
    obtain ⟨q0, qa, qj, qb⟩ := h
    by_cases hj : j ≤ g + a.ngrp
    · obtain ⟨lo, hi, q, q1, q2⟩ := groups a _ _ qa ok.1 (by omega) (fun k hk hn k' hk' h3 h4 => by
        by_cases hp : n ≤ k ∧ k < n + (a.clen + b.clen + 2)
        · by_cases e0 : k = n
          · subst e0; rw [q0, succs_split] at hk'; simp at hk'; omega
          by_cases e1 : k = n + 1 + a.clen
          · subst e1; rw [qj, succs_jump] at hk'; simp at hk'; omega
          · have := at_closed b _ _ qb ok.2 k (by omega) (by omega) k' hk'
            omega
        · have := ho k hk hp k' hk' (by omega) (by omega)
          omega) (fun k hk hn h8 => by
        by_cases hp : n ≤ k ∧ k < n + (a.clen + b.clen + 2)
        · by_cases e0 : k = n
          · subst e0; rw [q0] at h8; simp [iSplit] at h8
          by_cases e1 : k = n + 1 + a.clen
          · subst e1; rw [qj] at h8; simp [iJump] at h8
          · have := at_saves b _ _ qb ok.2 k (by omega) (by omega) h8
            omega
        · have := hs k hk hp h8
          omega) j h1 hj
      exact ⟨lo, hi, q, by omega, by omega⟩
    · obtain ⟨lo, hi, q, q1, q2⟩ := groups b _ _ qb ok.2 (by omega) (fun k hk hn k' hk' h3 h4 => by
        by_cases hp : n ≤ k ∧ k < n + (a.clen + b.clen + 2)
        · by_cases e0 : k = n
          · subst e0; rw [q0, succs_split] at hk'; simp at hk'; omega
          by_cases e1 : k = n + 1 + a.clen
          · subst e1; rw [qj, succs_jump] at hk'; simp at hk'; omega
          · have := at_closed a _ _ qa ok.1 k (by omega) (by omega) k' hk'
            omega
        · have := ho k hk hp k' hk' (by omega) (by omega)
          omega) (fun k hk hn h8 => by
        by_cases hp : n ≤ k ∧ k < n + (a.clen + b.clen + 2)
        · by_cases e0 : k = n
          · subst e0; rw [q0] at h8; simp [iSplit] at h8
          by_cases e1 : k = n + 1 + a.clen
          · subst e1; rw [qj] at h8; simp [iJump] at h8
          · have := at_saves a _ _ qa ok.1 k (by omega) (by omega) h8
            omega
        · have := hs k hk hp h8
          omega) j (by omega) (by omega)
      exact ⟨lo, hi, q, by omega, by omega⟩
  | .star a, n, g, h, ok, hl, ho, hs, j, h1, h2 => by
    simp only [Re.clen, Re.ngrp] at *
    obtain ⟨q0, qa, qj⟩ := h
    obtain ⟨lo, hi, q, q1, q2⟩ := groups a _ _ qa ok (by omega) (fun k hk hn k' hk' h3 h4 => by
      by_cases hp : n ≤ k ∧ k < n + (a.clen + 2)
      · by_cases e0 : k = n
        · subst e0; rw [q0, succs_split] at hk'; simp at hk'; omega
        · have e1 : k = n + 1 + a.clen := by omega
          subst e1; rw [qj, succs_jump] at hk'; simp at hk'; omega
      · have := ho k hk hp k' hk' (by omega) (by omega)
        omega) (fun k hk hn h8 => by
      by_cases hp : n ≤ k ∧ k < n + (a.clen + 2)
      · by_cases e0 : k = n
        · subst e0; rw [q0] at h8; simp [iSplit] at h8
        · have e1 : k = n + 1 + a.clen := by omega
          subst e1; rw [qj] at h8; simp [iJump] at h8
      · exact hs k hk hp h8) j h1 h2
    exact ⟨lo, hi, q, by omega, by omega⟩
  | .plus a, n, g, h, ok, hl, ho, hs, j, h1, h2 => by
    simp only [Re.clen, Re.ngrp] at *
    obtain ⟨qa, qj⟩ := h
    obtain ⟨lo, hi, q, q1, q2⟩ := groups a _ _ qa ok (by omega) (fun k hk hn k' hk' h3 h4 => by
      by_cases hp : n ≤ k ∧ k < n + (a.clen + 1)
      · have e1 : k = n + a.clen := by omega
        subst e1; rw [qj, succs_split] at hk'; simp at hk'; omega
      · exact ho k hk hp k' hk' (by omega) (by omega)) (fun k hk hn h8 => by
      by_cases hp : n ≤ k ∧ k < n + (a.clen + 1)
      · have e1 : k = n + a.clen := by omega
        subst e1; rw [qj] at h8; simp [iSplit] at h8
      · exact hs k hk hp h8) j h1 h2
    exact ⟨lo, hi, q, by omega, by omega⟩
  | .opt a, n, g, h, ok, hl, ho, hs, j, h1, h2 => by
    simp only [Re.clen, Re.ngrp] at *
    obtain ⟨q0, qa⟩ := h
    obtain ⟨lo, hi, q, q1, q2⟩ := groups a _ _ qa ok (by omega) (fun k hk hn k' hk' h3 h4 => by
      by_cases hp : n ≤ k ∧ k < n + (a.clen + 1)
      · have e0 : k = n := by omega
        subst e0; rw [q0, succs_split] at hk'; simp at hk'; omega
      · have := ho k hk hp k' hk' (by omega) (by omega)
        omega) (fun k hk hn h8 => by
      by_cases hp : n ≤ k ∧ k < n + (a.clen + 1)
      · have e0 : k = n := by omega
        subst e0; rw [q0] at h8; simp [iSplit] at h8
      · exact hs k hk hp h8) j h1 h2
    exact ⟨lo, hi, q, by omega, by omega⟩
  | .grp a, n, g, h, ok, hl, ho, hs, j, h1, h2 => by
    simp only [Re.clen, Re.ngrp] at *
    obtain ⟨q0, qa, qj⟩ := h
    by_cases hj : j = g + 1
    · subst hj
      refine ⟨n, n + (a.clen + 2), ⟨by omega, q0, by rw [show n + (a.clen + 2) - 1 = n + 1 + a.clen by omega]; exact qj, ho, fun k h3 h4 k' hk' => ?_, fun k hk h3 h4 h8 => ?_⟩, Nat.le_refl _, Nat.le_refl _⟩
      · have := at_closed a _ _ qa ok k (by omega) (by omega) k' hk'
        omega
      · by_cases hp : n ≤ k ∧ k < n + (a.clen + 2)
        · have := at_saves a _ _ qa ok k (by omega) (by omega) h8
          omega
        · have := hs k hk hp h8
          omega
    · obtain ⟨lo, hi, q, q1, q2⟩ := groups a _ _ qa ok (by omega) (fun k hk hn k' hk' h3 h4 => by
        by_cases hp : n ≤ k ∧ k < n + (a.clen + 2)
        · by_cases e0 : k = n
          · subst e0; rw [q0, succs_save] at hk'; simp at hk'; omega
          · have e1 : k = n + 1 + a.clen := by omega
            subst e1; rw [qj, succs_save] at hk'; simp at hk'; omega
        · have := ho k hk hp k' hk' (by omega) (by omega)
          omega) (fun k hk hn h8 => by
        by_cases hp : n ≤ k ∧ k < n + (a.clen + 2)
        · by_cases e0 : k = n
          · subst e0; rw [q0]; simp [iSave]; omega
          · have e1 : k = n + 1 + a.clen := by omega
            subst e1; rw [qj]; simp [iSave]; omega
        · have := hs k hk hp h8
          omega) j (by omega) (by omega)
      exact ⟨lo, hi, q, by omega, by omega⟩

end Go.Proofs.Ytfhccmegobbnaaa
