/- This text proves that what Compile makes is a valid program. It has no program in sight. Conditions: those that each theorem names. -/
import Derived.Test.YtfhccmegobbnaaaRegexZF
namespace Go.Proofs.Ytfhccmegobbnaaa
open Go.ChangeShapes Go.WideShapes Go.ChangeAt Go.RowKit
set_option linter.unusedVariables false
set_option linter.unusedSimpArgs false

/-- An instruction without targets has only its own fields. -/
def lvI (i : In) : Prop := onlyF i = i ∧ (i.op = 3 → setOk i.set = true)
def Re.Lv : Re → Prop
  | .emp => True
  | .leaf i => lvI i
  | .cat a b => a.Lv ∧ b.Lv
  | .alt a b => a.Lv ∧ b.Lv
  | .star a => a.Lv
  | .plus a => a.Lv
  | .opt a => a.Lv
  | .grp a => a.Lv
theorem items_set : ∀ (f : Nat) (s : ByteArray) (i : Nat) (first : Bool) (set : ByteArray) (r : ByteArray) (j : Nat), itemsF f s i first set = .ok (r, j) → set.size % 2 = 0 → (first = false → 2 ≤ set.size) → set.size ≤ 2 * i → r.size % 2 = 0 ∧ 2 ≤ r.size ∧ r.size ≤ 2 * j
  | 0, s, i, first, set, r, j, h, _, _, _ => by unfold itemsF at h; cases h
  | f + 1, s, i, first, set, r, j, h, h2, h3, h4 => by
    unfold itemsF at h
    split at h
    · rename_i hc
      cases h
      exact ⟨h2, h3 hc.1, by omega⟩
    · split at h
      · cases h
      · rename_i a p hc
        have h1 := charF_pos hc
        split at h
        · split at h
          · cases h
          · rename_i b m hc2
            have h5 := charF_pos hc2
            split at h
            · cases h
            · have hz : (set ++ ⟨#[a, b]⟩).size = set.size + 2 := by rw [ByteArray.size_append]; rfl
              exact items_set f _ _ _ _ _ _ h (by omega) (fun _ => by omega) (by omega)
        · have hz : (set ++ ⟨#[a, a]⟩).size = set.size + 2 := by rw [ByteArray.size_append]; rfl
          exact items_set f _ _ _ _ _ _ h (by omega) (fun _ => by omega) (by omega)
theorem class_lv {s : ByteArray} (hs : s.size ≤ 256) {i j : Nat} {x : In} (h : classF s i = .ok (x, j)) : lvI x := by
  unfold classF at h
  split at h
  · split at h
    · cases h
    · rename_i set m hc
      have h0 := items_pos _ _ _ _ _ _ _ hc
      obtain ⟨h1, h2, h3⟩ := items_set _ _ _ _ _ _ _ hc rfl (fun h => by cases h) (Nat.zero_le _)
      cases h
      refine ⟨by simp [onlyF], fun _ => ?_⟩
      simp [setOk]
      omega
  · split at h
    · cases h
    · rename_i set m hc
      have h0 := items_pos _ _ _ _ _ _ _ hc
      obtain ⟨h1, h2, h3⟩ := items_set _ _ _ _ _ _ _ hc rfl (fun h => by cases h) (Nat.zero_le _)
      cases h
      refine ⟨by simp [onlyF], fun _ => ?_⟩
      simp [setOk]
      omega
theorem lv_char (c : UInt8) : lvI (iChar c) := ⟨by simp [onlyF, iChar], fun h => by simp [iChar] at h⟩
theorem lv_op (o : Int) (h : o = 2 ∨ o = 4 ∨ o = 5) : lvI (iOp o) := by
  refine ⟨?_, fun h3 => ?_⟩
  · rcases h with rfl | rfl | rfl <;> simp [onlyF, iOp]
  · rcases h with rfl | rfl | rfl <;> simp [iOp] at h3
def LvR (r : PRes) : Prop := ∀ a j h, r = .ok (a, j, h) → a.Lv
theorem lv_all (s : ByteArray) (hs : s.size ≤ 256) : ∀ (f : Nat), (∀ i g, LvR (regexF f s i g)) ∧ (∀ i g acc, acc.Lv → LvR (branchF f s i g acc)) ∧ (∀ i g, LvR (pieceF f s i g)) ∧ (∀ i g, LvR (atomF f s i g))
  | 0 => ⟨fun i g a j h e => (by unfold regexF at e; cases e), fun i g acc _ a j h e => (by unfold branchF at e; cases e), fun i g a j h e => (by unfold pieceF at e; cases e), fun i g a j h e => (by unfold atomF at e; cases e)⟩
  | f + 1 => by
    obtain ⟨hr, hb, hp, ha⟩ := lv_all s hs f
    refine ⟨fun i g a j h e => ?_, fun i g acc hacc a j h e => ?_, fun i g a j h e => ?_, fun i g a j h e => ?_⟩
    · unfold regexF at e
      split at e
      · cases e
      · rename_i a1 j1 h1 heq
        have l1 := hb _ _ .emp trivial _ _ _ heq
        split at e
        · split at e
          · cases e
          · rename_i b m h2 heq2
            cases e
            exact ⟨l1, hr _ _ _ _ _ heq2⟩
        · cases e
          exact l1
    · unfold branchF at e
      split at e
      · split at e
        · cases e
        · rename_i p j1 h1 heq
          exact hb _ _ (.cat acc p) ⟨hacc, hp _ _ _ _ _ heq⟩ _ _ _ e
      · cases e
        exact hacc
    · unfold pieceF at e
      split at e
      · cases e
      · rename_i a1 j1 h1 heq
        have l1 := ha _ _ _ _ _ heq
        repeat' split at e
        all_goals (cases e; exact l1)
    · unfold atomF at e
      split at e
      · split at e
        · cases e
        · split at e
          · cases e
          · rename_i a1 j1 h1 heq
            split at e
            · cases e
              exact (show a1.Lv from hr _ _ _ _ _ heq)
            · cases e
      split at e
      · cases e
      split at e
      · cases e; exact lv_op _ (.inl rfl)
      split at e
      · cases e; exact lv_op _ (.inr (.inl rfl))
      split at e
      · cases e; exact lv_op _ (.inr (.inr rfl))
      split at e
      · split at e
        · cases e
        · rename_i x j1 heq
          cases e
          exact class_lv hs heq
      split at e
      · split at e
        · cases e
        · cases e
          exact lv_char _
      · cases e
        exact lv_char _

theorem sound_split_i {N : Nat} {G : Int} {x y : Nat} (hx : x < N) (hy : y < N) : soundF N G (iSplit x y) = true := by
  unfold soundF iSplit
  have e : inSame ⟨6, 0, ⟨#[]⟩, false, (x : Int), (y : Int)⟩ (onlyF ⟨6, 0, ⟨#[]⟩, false, (x : Int), (y : Int)⟩) = true := (inSame_iff _ _).2 (by simp [onlyF])
  rw [e]
  simp [inF]
  omega
theorem sound_jump_i {N : Nat} {G : Int} {x : Nat} (hx : x < N) : soundF N G (iJump x) = true := by
  unfold soundF iJump
  have e : inSame ⟨7, 0, ⟨#[]⟩, false, (x : Int), 0⟩ (onlyF ⟨7, 0, ⟨#[]⟩, false, (x : Int), 0⟩) = true := (inSame_iff _ _).2 (by simp [onlyF])
  rw [e]
  simp [inF]
  omega
theorem sound_save_i {N : Nat} {G : Int} {x : Nat} (hx : (x : Int) < 2 * G) : soundF N G (iSave x) = true := by
  unfold soundF iSave
  have e : inSame ⟨8, 0, ⟨#[]⟩, false, (x : Int), 0⟩ (onlyF ⟨8, 0, ⟨#[]⟩, false, (x : Int), 0⟩) = true := (inSame_iff _ _).2 (by simp [onlyF])
  rw [e]
  simp
  omega
theorem sound_leaf {N : Nat} {G : Int} {i : In} (ho : 1 ≤ i.op ∧ i.op ≤ 5) (h : lvI i) : soundF N G i = true := by
  unfold soundF
  have e : inSame i (onlyF i) = true := (inSame_iff _ _).2 h.1.symm
  rw [e, if_neg (by omega), if_neg (by omega), if_neg (by simp), if_neg (by omega), if_neg (by omega), if_neg (by omega)]
  split
  · exact h.2 ‹_›
  · rfl
theorem gen_sound {N : Nat} {G : Int} : ∀ (a : Re) (n g : Nat), a.Ok → a.Lv → n + a.clen < N → ((g + a.ngrp : Nat) : Int) < G → ∀ i ∈ a.gen n g, soundF N G i = true
  | .emp, _, _, _, _, _, _ => fun i hi => by cases hi
  | .leaf x, _, _, h, hl, _, _ => fun i hi => by
    rw [Re.gen, List.mem_singleton] at hi
    subst hi
    exact sound_leaf h.1 hl
  | .cat a b, n, g, h, hl, h1, h2 => fun y hy => by
    simp only [Re.clen, Re.ngrp] at h1 h2
    rcases List.mem_append.1 hy with hy | hy
    · exact gen_sound a _ _ h.1 hl.1 (by omega) (by omega) y hy
    · exact gen_sound b _ _ h.2 hl.2 (by omega) (by omega) y hy
  | .alt a b, n, g, h, hl, h1, h2 => fun y hy => by
    simp only [Re.clen, Re.ngrp] at h1 h2
    rcases List.mem_cons.1 hy with rfl | hy
    · exact sound_split_i (by omega) (by omega)
    rcases List.mem_append.1 hy with hy | hy
    · exact gen_sound a _ _ h.1 hl.1 (by omega) (by omega) y hy
    rcases List.mem_cons.1 hy with rfl | hy
    · exact sound_jump_i (by omega)
    · exact gen_sound b _ _ h.2 hl.2 (by omega) (by omega) y hy
  | .star a, n, g, h, hl, h1, h2 => fun y hy => by
    simp only [Re.clen, Re.ngrp] at h1 h2
    rcases List.mem_cons.1 hy with rfl | hy
    · exact sound_split_i (by omega) (by omega)
    rcases List.mem_append.1 hy with hy | hy
    · exact gen_sound a _ _ h hl (by omega) (by omega) y hy
    · rw [List.mem_singleton] at hy; subst hy; exact sound_jump_i (by omega)
  | .plus a, n, g, h, hl, h1, h2 => fun y hy => by
    simp only [Re.clen, Re.ngrp] at h1 h2
    rcases List.mem_append.1 hy with hy | hy
    · exact gen_sound a _ _ h hl (by omega) (by omega) y hy
    · rw [List.mem_singleton] at hy; subst hy; exact sound_split_i (by omega) (by omega)
  | .opt a, n, g, h, hl, h1, h2 => fun y hy => by
    simp only [Re.clen, Re.ngrp] at h1 h2
    rcases List.mem_cons.1 hy with rfl | hy
    · exact sound_split_i (by omega) (by omega)
    · exact gen_sound a _ _ h hl (by omega) (by omega) y hy
  | .grp a, n, g, h, hl, h1, h2 => fun y hy => by
    simp only [Re.clen, Re.ngrp] at h1 h2
    rcases List.mem_cons.1 hy with rfl | hy
    · exact sound_save_i (by omega)
    rcases List.mem_append.1 hy with hy | hy
    · exact gen_sound a _ _ h hl (by omega) (by omega) y hy
    · rw [List.mem_singleton] at hy; subst hy; exact sound_save_i (by omega)
theorem bra_end {s : ByteArray} : ∀ (f i g : Nat) (acc : Re) {a : Re} {j h : Nat}, branchF f s i g acc = .ok (a, j, h) → ¬ (j < s.size ∧ s[j]! ≠ 124 ∧ s[j]! ≠ 41)
  | 0, _, _, _, _, _, _, e => by unfold branchF at e; cases e
  | f + 1, i, g, acc, a, j, h, e => by
    unfold branchF at e
    split at e
    · split at e
      · cases e
      · exact bra_end f _ _ _ e
    · cases e
      assumption
theorem reg_end {s : ByteArray} : ∀ (f i g : Nat) {a : Re} {j h : Nat}, regexF f s i g = .ok (a, j, h) → ¬ (j < s.size ∧ s[j]! ≠ 41)
  | 0, _, _, _, _, _, e => by unfold regexF at e; cases e
  | f + 1, i, g, a, j, h, e => by
    unfold regexF at e
    split at e
    · cases e
    · rename_i a1 j1 h1 heq
      split at e
      · split at e
        · cases e
        · rename_i b m h2 heq2
          cases e
          exact reg_end f _ _ heq2
      · rename_i hn
        cases e
        intro hc
        refine bra_end f _ _ _ heq ⟨hc.1, fun h8 => hn ?_, hc.2⟩
        unfold isAt
        rw [h8, decide_eq_true hc.1]
        rfl
/-- The tree of an expression that compiles. -/
theorem comp_tree {s : ByteArray} {L : List In} {G : Nat} (h : compF s = .ok (L, G)) : ∃ a : Re, a.Ok ∧ a.Lv ∧ L = [iSave 0] ++ a.gen 1 0 ++ [iSave 1] ++ [iOp 9] ∧ G = a.ngrp + 1 ∧ a.ngrp ≤ 9 ∧ a.clen ≤ 512 ∧ s.size ≤ 256 ∧ regexF (4 * s.size + 4) s 0 0 = .ok (a, s.size, a.ngrp) := by
  unfold compF at h
  split at h
  · cases h
  rename_i hs
  split at h
  · cases h
  · rename_i a j hh heq
    have h1 := topE_ok heq
    have h2 := (good_all (4 * s.size + 4)).1 s 0 0 (Nat.zero_le _)
    rw [h1.1] at h2
    obtain ⟨o1, p1, p2, p3, p4, p5⟩ := h2
    have h3 := (lv_all s (by omega) (4 * s.size + 4)).1 0 0 _ _ _ h1.1
    injection h with h
    injection h with ha hb
    have hj : j = s.size := by
      have h5 := reg_end (4 * s.size + 4) _ _ h1.1
      have h6 := h1.2
      rcases Nat.lt_or_ge j s.size with h7 | h7
      · exfalso
        refine h5 ⟨h7, fun h8 => h6 ⟨rfl, ?_⟩⟩
        unfold isAt
        rw [h8, decide_eq_true h7]
        rfl
      · omega
    exact ⟨a, o1, h3, ha.symm, by omega, by omega, by omega, by omega, by rw [h1.1, hj, p3]; simp⟩
theorem comp_right {s : ByteArray} {L : List In} {G : Nat} (h : compF s = .ok (L, G)) : rightF L (G : Int) = true := by
  obtain ⟨a, ok, lv, rfl, rfl, hg, hc, hs, -⟩ := comp_tree h
  have hl : ([iSave 0] ++ a.gen 1 0 ++ [iSave 1] ++ [iOp 9]).length = a.clen + 3 := by simp [Re.gen_len]
  unfold rightF
  rw [hl, if_neg (by omega), if_neg (by omega), if_neg (by omega), if_neg (by omega)]
  have hlast : ([iSave 0] ++ a.gen 1 0 ++ [iSave 1] ++ [iOp 9])[a.clen + 3 - 1]! = iOp 9 := by
    rw [getElem!_pos _ _ (by rw [hl]; omega), List.getElem_append_right (by simp [Re.gen_len])]
    simp
  rw [hlast, if_neg (fun h => h.1 rfl)]
  rw [List.all_eq_true]
  intro i hi
  simp only [List.append_assoc, List.mem_append, List.mem_singleton] at hi
  rcases hi with rfl | hi | rfl | rfl
  · exact sound_save_i (by omega)
  · exact gen_sound a 1 0 ok lv (by omega) (by omega) i hi
  · exact sound_save_i (by omega)
  · unfold soundF iOp
    have e : inSame ⟨9, 0, ⟨#[]⟩, false, 0, 0⟩ (onlyF ⟨9, 0, ⟨#[]⟩, false, 0, 0⟩) = true := (inSame_iff _ _).2 (by simp [onlyF])
    rw [e]
    simp

end Go.Proofs.Ytfhccmegobbnaaa
