/- This text proves that the offsets of the groups of a match are in order. It has no program in sight. Conditions: those that each theorem names. -/
import Derived.Test.YtfhccmegobbnaaaRegexZP
namespace Go.Proofs.Ytfhccmegobbnaaa
open Go.ChangeShapes Go.WideShapes Go.ChangeAt Go.RowKit
set_option linter.unusedVariables false
set_option linter.unusedSimpArgs false

/-- What holds of the offsets of group j at instruction k. -/
structure GI (j lo hi b pos k : Nat) (cs : List Int) : Prop where
  n : 2 * j + 1 < cs.length
  ins : lo < k → k < hi → (b : Int) ≤ cs.getD (2 * j) 0 ∧ cs.getD (2 * j) 0 ≤ (pos : Int)
  out : ¬ (lo < k ∧ k < hi) → (cs.getD (2 * j) 0 = -1 ∧ cs.getD (2 * j + 1) 0 = -1) ∨ ((b : Int) ≤ cs.getD (2 * j) 0 ∧ cs.getD (2 * j) 0 ≤ cs.getD (2 * j + 1) 0 ∧ cs.getD (2 * j + 1) 0 ≤ (pos : Int))
theorem GI.mono {j lo hi b pos pos' k : Nat} {cs : List Int} (h : GI j lo hi b pos k cs) (hp : pos ≤ pos') : GI j lo hi b pos' k cs :=
  ⟨h.n, fun h1 h2 => by have := h.ins h1 h2; omega, fun h1 => by have := h.out h1; omega⟩
theorem GI.edge {L : List In} {j lo hi b pos k k' : Nat} {cs : List Int} (hG : Grp L j lo hi) (hk : k < L.length) (h : GI j lo hi b pos k cs) (h1 : k ≠ lo) (h2 : k ≠ hi - 1) (hk' : k' ∈ succs L[k]! k) : GI j lo hi b pos k' cs := by
  by_cases hi' : lo < k ∧ k < hi
  · have h3 := hG.i k hi'.1 (by omega) k' hk'
    exact ⟨h.n, fun _ _ => h.ins hi'.1 hi'.2, fun h4 => absurd h3 h4⟩
  · have h3 := hG.o k hk (by omega) k' hk'
    have h4 : ¬ (lo < k' ∧ k' < hi) := fun h5 => by have := h3 (by omega) h5.2; omega
    exact ⟨h.n, fun h5 h6 => absurd ⟨h5, h6⟩ h4, fun _ => h.out hi'⟩
theorem addF_g {L : List In} {g : Int} (hr : rightF L g = true) {j lo hi b : Nat} (hG : Grp L j lo hi) : ∀ (f n pos k : Nat) (cs : List Int) (st : List Bool × List Th), b ≤ pos → k < L.length → GI j lo hi b pos k cs → (∀ t ∈ st.2, GI j lo hi b pos t.1 t.2) → ∀ t ∈ (addF f L n pos k cs st).2, GI j lo hi b pos t.1 t.2
  | 0, _, _, _, _, _, _, _, _, h3 => h3
  | f + 1, n, pos, k, cs, (v, l), hp, hk, hc, h3 => by
    have hs := (right_parts hr).2.2.2.2.2 k hk
    have l8 : L[lo]!.op = 8 := by rw [hG.s0]; rfl
    have r8 : L[hi - 1]!.op = 8 := by rw [hG.s1]; rfl
    have nlo : L[k]!.op ≠ 8 → k ≠ lo := fun h e => h (by rw [e]; exact l8)
    have nhi : L[k]!.op ≠ 8 → k ≠ hi - 1 := fun h e => h (by rw [e]; exact r8)
    rw [addF_step]
    split
    · exact h3
    split
    · rename_i _ h7
      obtain ⟨x, hx, hxn⟩ := sound_jump hs h7
      have hm : x ∈ succs L[k]! k := by unfold succs; rw [if_pos h7, hx]; simp
      rw [hx]
      exact addF_g hr hG f n pos _ cs _ hp (by simpa using hxn) (by simpa using hc.edge hG hk (nlo (by omega)) (nhi (by omega)) hm) h3
    split
    · rename_i _ h7 h6
      obtain ⟨⟨x, hx, hxn⟩, y, hy, hyn⟩ := sound_split hs h6
      have hm : x ∈ succs L[k]! k := by unfold succs; rw [if_neg h7, if_pos h6, hx]; simp
      have hm2 : y ∈ succs L[k]! k := by unfold succs; rw [if_neg h7, if_pos h6, hy]; simp
      rw [hx, hy]
      exact addF_g hr hG f n pos _ cs _ hp (by simpa using hyn) (by simpa using hc.edge hG hk (nlo (by omega)) (nhi (by omega)) hm2) (addF_g hr hG f n pos _ cs _ hp (by simpa using hxn) (by simpa using hc.edge hG hk (nlo (by omega)) (nhi (by omega)) hm) h3)
    split
    · rename_i _ h7 h6 h8
      obtain ⟨x, hx, _⟩ := sound_save hs h8
      have hnx := right_next hr hk (by omega) h7
      have hh := hG.h
      have hcn := hc.n
      refine addF_g hr hG f n pos _ _ _ hp hnx ?_ h3
      rw [hx, Int.toNat_natCast]
      by_cases e0 : k = lo
      · subst e0
        have ex : x = 2 * j := by rw [hG.s0] at hx; simp [iSave] at hx; omega
        subst ex
        refine ⟨by rw [List.length_set]; exact hcn, fun _ _ => ?_, fun h => absurd ⟨by omega, by omega⟩ h⟩
        rw [getD_set_eq cs _ (by omega)]
        omega
      by_cases e1 : k = hi - 1
      · subst e1
        have ex : x = 2 * j + 1 := by rw [hG.s1] at hx; simp [iSave] at hx; omega
        subst ex
        have hi1 := hc.ins (by omega) (by omega)
        refine ⟨by rw [List.length_set]; exact hcn, fun _ h => by omega, fun _ => .inr ?_⟩
        rw [getD_set_eq cs _ (by omega), getD_set_ne cs _ (by omega)]
        omega
      · have hu := hG.u k hk e0 e1 h8
        have hm : k + 1 ∈ succs L[k]! k := by unfold succs; rw [if_neg h7, if_neg h6, if_neg (by omega)]; simp
        have h9 := hc.edge hG hk e0 e1 hm
        have g0 : (cs.set x (pos : Int)).getD (2 * j) 0 = cs.getD (2 * j) 0 := getD_set_ne cs _ (by omega)
        have g1 : (cs.set x (pos : Int)).getD (2 * j + 1) 0 = cs.getD (2 * j + 1) 0 := getD_set_ne cs _ (by omega)
        exact ⟨by rw [List.length_set]; exact hcn, fun a c => by rw [g0]; exact h9.ins a c, fun a => by rw [g0, g1]; exact h9.out a⟩
    split
    · rename_i _ h7 h6 _ h4
      have hm : k + 1 ∈ succs L[k]! k := by unfold succs; rw [if_neg h7, if_neg h6, if_neg (by omega)]; simp
      split
      · exact addF_g hr hG f n pos _ cs _ hp (right_next hr hk (by omega) h7) (hc.edge hG hk (nlo (by omega)) (nhi (by omega)) hm) h3
      · exact h3
    split
    · rename_i _ h7 h6 _ _ h5
      have hm : k + 1 ∈ succs L[k]! k := by unfold succs; rw [if_neg h7, if_neg h6, if_neg (by omega)]; simp
      split
      · exact addF_g hr hG f n pos _ cs _ hp (right_next hr hk (by omega) h7) (hc.edge hG hk (nlo (by omega)) (nhi (by omega)) hm) h3
      · exact h3
    · intro t ht
      rcases List.mem_append.1 ht with ht | ht
      · exact h3 t ht
      · rw [List.mem_singleton] at ht
        subst ht
        exact hc
theorem stepF_g {L : List In} {g : Int} (hr : rightF L g = true) {j lo hi b : Nat} (hG : Grp L j lo hi) (n pos : Nat) (hb : b ≤ pos) (c : Int) : ∀ (l : List Th) (st : List Bool × List Th), (∀ t ∈ l, TOk L g t) → (∀ t ∈ l, GI j lo hi b pos t.1 t.2) → (∀ t ∈ st.2, GI j lo hi b (pos + 1) t.1 t.2) → ∀ t ∈ (stepF L n (pos + 1) c l st).2, GI j lo hi b (pos + 1) t.1 t.2
  | [], _, _, _, h2 => h2
  | t :: l, st, h0, h1, h2 => by
    unfold stepF
    refine stepF_g hr hG n pos hb c l _ (fun u hu => h0 u (List.mem_cons_of_mem _ hu)) (fun u hu => h1 u (List.mem_cons_of_mem _ hu)) ?_
    have ht := h1 t (List.mem_cons_self ..)
    have ht0 := h0 t (List.mem_cons_self ..)
    split
    · rename_i ha
      have ho := acc_op ha
      have l8 : L[lo]!.op = 8 := by rw [hG.s0]; rfl
      have r8 : L[hi - 1]!.op = 8 := by rw [hG.s1]; rfl
      have hm : t.1 + 1 ∈ succs L[t.1]! t.1 := by unfold succs; rw [if_neg (by omega), if_neg (by omega), if_neg (by omega)]; simp
      exact addF_g hr hG _ n _ _ _ _ (by omega) (ht0.next hr ha) ((ht.edge hG ht0.k (fun e => by rw [e] at ho; omega) (fun e => by rw [e] at ho; omega) hm).mono (by omega)) h2
    · exact h2
/-- The offsets of group j of a match that begins at b. -/
def EndG (j b : Nat) (r : Option (List Int × Nat)) : Prop := ∀ cs e, r = some (cs, e) → (cs.getD (2 * j) 0 = -1 ∧ cs.getD (2 * j + 1) 0 = -1) ∨ ((b : Int) ≤ cs.getD (2 * j) 0 ∧ cs.getD (2 * j) 0 ≤ cs.getD (2 * j + 1) 0 ∧ cs.getD (2 * j + 1) 0 ≤ (e : Int))
theorem bestF_g {L : List In} {m b n pos j lo hi : Nat} (hS : Shape L m) (hh : hi ≤ m + 2) {whole : Bool} {l : List Th} {best : Option (List Int × Nat)} (h0 : ∀ t ∈ l, ThB m b pos t) (hl : ∀ t ∈ l, GI j lo hi b pos t.1 t.2) (hb : EndG j b best) : EndG j b (bestF L n pos whole l best) := by
  intro cs e h
  unfold bestF at h
  split at h
  · exact hb cs e h
  · rename_i c hf
    split at h
    · obtain ⟨t, ht, h1, ho⟩ := foundF_mem hf
      injection h with h
      injection h with h h2
      have h3 := (h0 t ht).last hS ho
      rw [← h, ← h2, ← h1]
      exact (hl t ht).out (by omega)
    · exact hb cs e h
theorem runF_g {L : List In} {g : Int} (hr : rightF L g = true) {m b j lo hi : Nat} (hS : Shape L m) (hG : Grp L j lo hi) (hh : hi ≤ m + 2) {s : ByteArray} {whole : Bool} : ∀ (f pos : Nat) (l : List Th) (best : Option (List Int × Nat)), b ≤ pos → (∀ t ∈ l, TOk L g t) → (∀ t ∈ l, ThB m b pos t) → (∀ t ∈ l, GI j lo hi b pos t.1 t.2) → EndG j b best → EndG j b (runF f L s whole pos l best)
  | 0, _, _, _, _, _, _, _, hb => hb
  | f + 1, pos, l, best, hp, h0, h1, h2, hb => by
    unfold runF
    split
    · exact bestF_g hS hh h1 h2 hb
    · exact runF_g hr hS hG hh f _ _ _ (by omega) (stepF_ok hr _ _ _ _ _ h0 (fun t ht => by cases ht)) (stepF_b hS _ _ _ _ _ h1 (fun t ht => by cases ht)) (stepF_g hr hG _ _ hp _ _ _ h0 h2 (fun t ht => by cases ht)) (bestF_g hS hh h1 h2 hb)
theorem runTop_g {L : List In} {g : Nat} (hr : rightF L (g : Int) = true) {m j lo hi : Nat} (hS : Shape L m) (hG : Grp L j lo hi) (h1 : 1 ≤ lo) (hh : hi ≤ m + 2) (hj : j < g) {s : ByteArray} {whole : Bool} {p : Nat} : EndG j p (runTop L g s p whole) := by
  have hg1 : 1 ≤ g := by omega
  have hL := (right_parts hr).2.2.1
  refine runF_g hr hS hG hh _ p _ none (Nat.le_refl _) (addF_ok hr _ _ _ _ _ _ (by omega) (by simp) (fun t ht => by cases ht)) (begin_b hS hg1 s.size p) (addF_g hr hG _ _ _ _ _ _ (Nat.le_refl _) (by omega) ?_ (fun t ht => by cases ht)) (fun _ _ h => by cases h)
  have hget : ∀ i, i < 2 * g → (List.replicate (2 * g) (-1 : Int)).getD i 0 = -1 := fun i hi => by
    rw [List.getD_eq_getElem?_getD, List.getElem?_replicate, if_pos hi]
    rfl
  exact ⟨by rw [List.length_replicate]; omega, fun h => by omega, fun _ => .inl ⟨hget _ (by omega), hget _ (by omega)⟩⟩
theorem firstF_g {L : List In} {g : Nat} (hr : rightF L (g : Int) = true) {m j lo hi : Nat} (hS : Shape L m) (hG : Grp L j lo hi) (h1 : 1 ≤ lo) (hh : hi ≤ m + 2) (hj : j < g) {s : ByteArray} : ∀ (f p : Nat) {cs : List Int} {a z : Nat}, firstF f L g s p = some (cs, a, z) → (cs.getD (2 * j) 0 = -1 ∧ cs.getD (2 * j + 1) 0 = -1) ∨ ((a : Int) ≤ cs.getD (2 * j) 0 ∧ cs.getD (2 * j) 0 ≤ cs.getD (2 * j + 1) 0 ∧ cs.getD (2 * j + 1) 0 ≤ (z : Int))
  | 0, _, _, _, _, h => by cases h
  | f + 1, p, cs, a, z, h => by
    unfold firstF at h
    split at h
    · cases h
    split at h
    · rename_i c e hq
      injection h with h
      injection h with h h2
      injection h2 with h2 h3
      have := runTop_g hr hS hG h1 hh hj _ _ hq
      rw [← h, ← h2, ← h3]
      exact this
    · exact firstF_g hr hS hG h1 hh hj f _ h
/-- The offsets of the groups of a match of a compiled expression are in order. -/
theorem match_order {p : ByteArray} {L : List In} {G : Nat} (h : compF p = .ok (L, G)) {s : ByteArray} {q : Nat} {cs : List Int} {a z : Nat} (hf : firstTop L G s q = some (cs, a, z)) : ∀ k, k < G → (cs.getD (2 * k) 0 = -1 ∧ cs.getD (2 * k + 1) 0 = -1) ∨ ((a : Int) ≤ cs.getD (2 * k) 0 ∧ cs.getD (2 * k) 0 ≤ cs.getD (2 * k + 1) 0 ∧ cs.getD (2 * k + 1) 0 ≤ (z : Int)) := by
  intro k hk
  have hr := comp_right h
  obtain ⟨t, ok, lv, rfl, rfl, hg, hc, hs, -⟩ := comp_tree h
  have hS := prog_shape t ok
  by_cases hk0 : k = 0
  · subst hk0
    have h1 := firstF_b hS (by omega) _ _ hf
    have h2 := firstF_in _ _ hf
    right
    show (a : Int) ≤ cs.getD 0 0 ∧ cs.getD 0 0 ≤ cs.getD 1 0 ∧ cs.getD 1 0 ≤ (z : Int)
    rw [h1.2.1, h1.2.2]
    omega
  · have hat := at_gen ([iSave 0] ++ t.gen 1 0 ++ [iSave 1] ++ [iOp 9]) t 1 0 [iSave 0] ([iSave 1] ++ [iOp 9]) (by simp) rfl
    have hl := prog_len t
    obtain ⟨lo, hi, hG, h1, h2⟩ := groups t 1 0 hat ok (by rw [hl]; omega) (fun i hi hn k' hk' h3 h4 => by
      rw [hl] at hi
      by_cases e0 : i = 0
      · subst e0
        rw [hS.h0, succs_save] at hk'
        simp at hk'
        omega
      by_cases e1 : i = t.clen + 1
      · subst e1
        rw [hS.h1, succs_save] at hk'
        simp at hk'
        omega
      · have e2 : i = t.clen + 2 := by omega
        subst e2
        rw [hS.h2] at hk'
        simp [succs, iOp] at hk') (fun i hi hn h8 => by
      rw [hl] at hi
      by_cases e0 : i = 0
      · subst e0
        rw [hS.h0]
        simp [iSave]
      by_cases e1 : i = t.clen + 1
      · subst e1
        rw [hS.h1]
        simp [iSave]
      · have e2 : i = t.clen + 2 := by omega
        subst e2
        rw [hS.h2] at h8
        simp [iOp] at h8) k (by omega) (by omega)
    exact firstF_g hr hS hG (by omega) (by omega) hk _ _ hf

end Go.Proofs.Ytfhccmegobbnaaa
