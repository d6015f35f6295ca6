/- This text proves that the offsets of the groups of a match are in order. It has no program in sight. Conditions: those that each theorem names. -/
import Derived.Test.YtfhccmegobbnaaaRegexZN
namespace Go.Proofs.Ytfhccmegobbnaaa
open Go.ChangeShapes Go.WideShapes Go.ChangeAt Go.RowKit
set_option linter.unusedVariables false
set_option linter.unusedSimpArgs false

/-- The indices that may come behind an instruction at index k. -/
def succs (i : In) (k : Nat) : List Nat := if i.op = 7 then [i.x.toNat] else if i.op = 6 then [i.x.toNat, i.y.toNat] else if i.op = 9 then [] else [k + 1]
theorem succs_split (x y k : Nat) : succs (iSplit x y) k = [x, y] := by simp [succs, iSplit]
theorem succs_jump (x k : Nat) : succs (iJump x) k = [x] := by simp [succs, iJump]
theorem succs_save (x k : Nat) : succs (iSave x) k = [k + 1] := by simp [succs, iSave]
theorem succs_leaf {i : In} (h : 1 ≤ i.op ∧ i.op ≤ 5) (k : Nat) : succs i k = [k + 1] := by
  unfold succs
  rw [if_neg (by omega), if_neg (by omega), if_neg (by omega)]
/-- The code of a tree lies in a program, at an index. -/
def At (L : List In) : Re → Nat → Nat → Prop
  | .emp, _, _ => True
  | .leaf i, n, _ => L[n]! = i
  | .cat a b, n, g => At L a n g ∧ At L b (n + a.clen) (g + a.ngrp)
  | .alt a b, n, g => L[n]! = iSplit (n + 1) (n + a.clen + 2) ∧ At L a (n + 1) g ∧ L[n + 1 + a.clen]! = iJump (n + a.clen + 2 + b.clen) ∧ At L b (n + a.clen + 2) (g + a.ngrp)
  | .star a, n, g => L[n]! = iSplit (n + 1) (n + a.clen + 2) ∧ At L a (n + 1) g ∧ L[n + 1 + a.clen]! = iJump n
  | .plus a, n, g => At L a n g ∧ L[n + a.clen]! = iSplit n (n + a.clen + 1)
  | .opt a, n, g => L[n]! = iSplit (n + 1) (n + a.clen + 1) ∧ At L a (n + 1) g
  | .grp a, n, g => L[n]! = iSave (2 * (g + 1)) ∧ At L a (n + 1) (g + 1) ∧ L[n + 1 + a.clen]! = iSave (2 * (g + 1) + 1)
theorem mid_at (pre post : List In) (i : In) : (pre ++ i :: post)[pre.length]! = i := by
  rw [getElem!_pos _ _ (by simp), List.getElem_append_right (Nat.le_refl _)]
  simp
theorem mid_at' {L pre post : List In} {i : In} {n : Nat} (h : L = pre ++ i :: post) (hn : pre.length = n) : L[n]! = i := by
  subst h hn
  exact mid_at pre post i
theorem at_gen (L : List In) : ∀ (a : Re) (n g : Nat) (pre post : List In), L = pre ++ a.gen n g ++ post → pre.length = n → At L a n g
  | .emp, _, _, _, _, _, _ => trivial
  | .leaf i, n, g, pre, post, h, hn => mid_at' (post := post) (by rw [h]; simp [Re.gen]) hn
  | .cat a b, n, g, pre, post, h, hn => by
    refine ⟨at_gen L a n g pre (b.gen (n + a.clen) (g + a.ngrp) ++ post) (by rw [h]; simp [Re.gen]) hn, at_gen L b _ _ (pre ++ a.gen n g) post (by rw [h]; simp [Re.gen]) (by simp [Re.gen_len, hn])⟩
  | .alt a b, n, g, pre, post, h, hn => by
    refine ⟨mid_at' (pre := pre) (by rw [h]; simp [Re.gen]; rfl) hn, at_gen L a (n + 1) g (pre ++ [iSplit (n + 1) (n + a.clen + 2)]) (iJump (n + a.clen + 2 + b.clen) :: b.gen (n + a.clen + 2) (g + a.ngrp) ++ post) (by rw [h]; simp [Re.gen]) (by simp [hn]), mid_at' (pre := pre ++ [iSplit (n + 1) (n + a.clen + 2)] ++ a.gen (n + 1) g) (post := b.gen (n + a.clen + 2) (g + a.ngrp) ++ post) (by rw [h]; simp [Re.gen]) (by simp [Re.gen_len, hn]; omega), at_gen L b _ _ (pre ++ [iSplit (n + 1) (n + a.clen + 2)] ++ a.gen (n + 1) g ++ [iJump (n + a.clen + 2 + b.clen)]) post (by rw [h]; simp [Re.gen]) (by simp [Re.gen_len, hn]; omega)⟩
  | .star a, n, g, pre, post, h, hn => by
    refine ⟨mid_at' (pre := pre) (by rw [h]; simp [Re.gen]; rfl) hn, at_gen L a (n + 1) g (pre ++ [iSplit (n + 1) (n + a.clen + 2)]) ([iJump n] ++ post) (by rw [h]; simp [Re.gen]) (by simp [hn]), mid_at' (pre := pre ++ [iSplit (n + 1) (n + a.clen + 2)] ++ a.gen (n + 1) g) (post := post) (by rw [h]; simp [Re.gen]) (by simp [Re.gen_len, hn]; omega)⟩
  | .plus a, n, g, pre, post, h, hn => by
    refine ⟨at_gen L a n g pre ([iSplit n (n + a.clen + 1)] ++ post) (by rw [h]; simp [Re.gen]) hn, mid_at' (pre := pre ++ a.gen n g) (post := post) (by rw [h]; simp [Re.gen]) (by simp [Re.gen_len, hn])⟩
  | .opt a, n, g, pre, post, h, hn => by
    refine ⟨mid_at' (pre := pre) (by rw [h]; simp [Re.gen]; rfl) hn, at_gen L a (n + 1) g (pre ++ [iSplit (n + 1) (n + a.clen + 1)]) post (by rw [h]; simp [Re.gen]) (by simp [hn])⟩
  | .grp a, n, g, pre, post, h, hn => by
    refine ⟨mid_at' (pre := pre) (by rw [h]; simp [Re.gen]; rfl) hn, at_gen L a (n + 1) (g + 1) (pre ++ [iSave (2 * (g + 1))]) ([iSave (2 * (g + 1) + 1)] ++ post) (by rw [h]; simp [Re.gen]) (by simp [hn]), mid_at' (pre := pre ++ [iSave (2 * (g + 1))] ++ a.gen (n + 1) (g + 1)) (post := post) (by rw [h]; simp [Re.gen]) (by simp [Re.gen_len, hn]; omega)⟩
theorem at_closed {L : List In} : ∀ (a : Re) (n g : Nat), At L a n g → a.Ok → ∀ k, n ≤ k → k < n + a.clen → ∀ k' ∈ succs L[k]! k, n ≤ k' ∧ k' ≤ n + a.clen
  | .emp, n, g, _, _, k, h1, h2 => by simp only [Re.clen] at h2; omega
  | .leaf i, n, g, h, ok, k, h1, h2 => by
    simp only [Re.clen] at h2 ⊢
    have e : k = n := by omega
    subst e
    rw [show L[k]! = i from h, succs_leaf ok.1]
    intro k' hk'
    rw [List.mem_singleton] at hk'
    omega
  | .cat a b, n, g, h, ok, k, h1, h2 => by
    simp only [Re.clen] at h2 ⊢
    intro k' hk'
    by_cases hk : k < n + a.clen
    · have := at_closed a n g h.1 ok.1 k h1 hk k' hk'
      omega
    · have := at_closed b _ _ h.2 ok.2 k (by omega) (by omega) k' hk'
      omega
  | .alt a b, n, g, h, ok, k, h1, h2 => by
    simp only [Re.clen] at h2 ⊢
    obtain ⟨q0, qa, qj, qb⟩ := h
    intro k' hk'
    by_cases e0 : k = n
    · subst e0
      rw [q0, succs_split] at hk'
      simp at hk'
      omega
    by_cases e1 : k = n + 1 + a.clen
    · subst e1
      rw [qj, succs_jump] at hk'
      simp at hk'
      omega
    by_cases hk : k < n + 1 + a.clen
    · have := at_closed a _ _ qa ok.1 k (by omega) hk k' hk'
      omega
    · have := at_closed b _ _ qb ok.2 k (by omega) (by omega) k' hk'
      omega
  | .star a, n, g, h, ok, k, h1, h2 => by
    simp only [Re.clen] at h2 ⊢
    obtain ⟨q0, qa, qj⟩ := h
    intro k' hk'
    by_cases e0 : k = n
    · subst e0
      rw [q0, succs_split] at hk'
      simp at hk'
      omega
    by_cases e1 : k = n + 1 + a.clen
    · subst e1
      rw [qj, succs_jump] at hk'
      simp at hk'
      omega
    · have := at_closed a _ _ qa ok k (by omega) (by omega) k' hk'
      omega
  | .plus a, n, g, h, ok, k, h1, h2 => by
    simp only [Re.clen] at h2 ⊢
    obtain ⟨qa, qj⟩ := h
    intro k' hk'
    by_cases e1 : k = n + a.clen
    · subst e1
      rw [qj, succs_split] at hk'
      simp at hk'
      omega
    · have := at_closed a _ _ qa ok k (by omega) (by omega) k' hk'
      omega
  | .opt a, n, g, h, ok, k, h1, h2 => by
    simp only [Re.clen] at h2 ⊢
    obtain ⟨q0, qa⟩ := h
    intro k' hk'
    by_cases e0 : k = n
    · subst e0
      rw [q0, succs_split] at hk'
      simp at hk'
      omega
    · have := at_closed a _ _ qa ok k (by omega) (by omega) k' hk'
      omega
  | .grp a, n, g, h, ok, k, h1, h2 => by
    simp only [Re.clen] at h2 ⊢
    obtain ⟨q0, qa, qj⟩ := h
    intro k' hk'
    by_cases e0 : k = n
    · subst e0
      rw [q0, succs_save] at hk'
      simp at hk'
      omega
    by_cases e1 : k = n + 1 + a.clen
    · subst e1
      rw [qj, succs_save] at hk'
      simp at hk'
      omega
    · have := at_closed a _ _ qa ok k (by omega) (by omega) k' hk'
      omega
/-- The numbers of the saves of a tree. -/
theorem at_saves {L : List In} : ∀ (a : Re) (n g : Nat), At L a n g → a.Ok → ∀ k, n ≤ k → k < n + a.clen → L[k]!.op = 8 → 2 * ((g : Int) + 1) ≤ L[k]!.x ∧ L[k]!.x ≤ 2 * ((g : Int) + (a.ngrp : Int)) + 1
  | .emp, n, g, _, _, k, h1, h2 => by simp only [Re.clen] at h2; omega
  | .leaf i, n, g, h, ok, k, h1, h2 => by
    simp only [Re.clen] at h2
    have e : k = n := by omega
    subst e
    rw [show L[k]! = i from h]
    intro h8
    have := ok.1
    omega
  | .cat a b, n, g, h, ok, k, h1, h2 => by
    simp only [Re.clen, Re.ngrp] at h2 ⊢
    intro h8
    by_cases hk : k < n + a.clen
    · have := at_saves a n g h.1 ok.1 k h1 hk h8
      omega
    · have := at_saves b _ _ h.2 ok.2 k (by omega) (by omega) h8
      omega
  | .alt a b, n, g, h, ok, k, h1, h2 => by
    simp only [Re.clen, Re.ngrp] at h2 ⊢
    obtain ⟨q0, qa, qj, qb⟩ := h
    intro h8
    by_cases e0 : k = n
    · subst e0
      rw [q0] at h8
      simp [iSplit] at h8
    by_cases e1 : k = n + 1 + a.clen
    · subst e1
      rw [qj] at h8
      simp [iJump] at h8
    by_cases hk : k < n + 1 + a.clen
    · have := at_saves a _ _ qa ok.1 k (by omega) hk h8
      omega
    · have := at_saves b _ _ qb ok.2 k (by omega) (by omega) h8
      omega
  | .star a, n, g, h, ok, k, h1, h2 => by
    simp only [Re.clen, Re.ngrp] at h2 ⊢
    obtain ⟨q0, qa, qj⟩ := h
    intro h8
    by_cases e0 : k = n
    · subst e0
      rw [q0] at h8
      simp [iSplit] at h8
    by_cases e1 : k = n + 1 + a.clen
    · subst e1
      rw [qj] at h8
      simp [iJump] at h8
    · exact at_saves a _ _ qa ok k (by omega) (by omega) h8
  | .plus a, n, g, h, ok, k, h1, h2 => by
    simp only [Re.clen, Re.ngrp] at h2 ⊢
    obtain ⟨qa, qj⟩ := h
    intro h8
    by_cases e1 : k = n + a.clen
    · subst e1
      rw [qj] at h8
      simp [iSplit] at h8
    · exact at_saves a _ _ qa ok k (by omega) (by omega) h8
  | .opt a, n, g, h, ok, k, h1, h2 => by
    simp only [Re.clen, Re.ngrp] at h2 ⊢
    obtain ⟨q0, qa⟩ := h
    intro h8
    by_cases e0 : k = n
    · subst e0
      rw [q0] at h8
      simp [iSplit] at h8
    · exact at_saves a _ _ qa ok k (by omega) (by omega) h8
  | .grp a, n, g, h, ok, k, h1, h2 => by
    simp only [Re.clen, Re.ngrp] at h2 ⊢
    obtain ⟨q0, qa, qj⟩ := h
    intro h8
    by_cases e0 : k = n
    · subst e0
      rw [q0]
      simp [iSave]
      omega
    by_cases e1 : k = n + 1 + a.clen
    · subst e1
      rw [qj]
      simp [iSave]
      omega
    · have := at_saves a _ _ qa ok k (by omega) (by omega) h8
      omega

end Go.Proofs.Ytfhccmegobbnaaa
