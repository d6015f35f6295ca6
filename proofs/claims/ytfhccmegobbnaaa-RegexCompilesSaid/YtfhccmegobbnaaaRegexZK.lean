/- This text proves what the offsets 0 and 1 of a match of a compiled expression are, that a match of the whole is the match, and that a replacement of every match by itself changes nothing. It has no program in sight. Conditions: those that each theorem names. -/
import Derived.Test.YtfhccmegobbnaaaRegexZJ
namespace Go.Proofs.Ytfhccmegobbnaaa
open Go.ChangeShapes Go.WideShapes Go.ChangeAt Go.RowKit
set_option linter.unusedVariables false
set_option linter.unusedSimpArgs false

/-- An instruction inside a compiled expression whose code ends ahead of m + 1. -/
structure MidOK (m : Nat) (i : In) : Prop where
  j : i.op = 7 → ∃ x : Nat, i.x = (x : Int) ∧ 1 ≤ x ∧ x ≤ m + 1
  s : i.op = 6 → ∃ x y : Nat, i.x = (x : Int) ∧ i.y = (y : Int) ∧ 1 ≤ x ∧ x ≤ m + 1 ∧ 1 ≤ y ∧ y ≤ m + 1
  v : i.op = 8 → ∃ x : Nat, i.x = (x : Int) ∧ 2 ≤ x
  o : i.op ≠ 9
theorem mid_split {m x y : Nat} (hx : 1 ≤ x ∧ x ≤ m + 1) (hy : 1 ≤ y ∧ y ≤ m + 1) : MidOK m (iSplit x y) := ⟨fun h => by simp [iSplit] at h, fun _ => ⟨x, y, rfl, rfl, hx.1, hx.2, hy.1, hy.2⟩, fun h => by simp [iSplit] at h, fun h => by simp [iSplit] at h⟩
theorem mid_jump {m x : Nat} (hx : 1 ≤ x ∧ x ≤ m + 1) : MidOK m (iJump x) := ⟨fun _ => ⟨x, rfl, hx.1, hx.2⟩, fun h => by simp [iJump] at h, fun h => by simp [iJump] at h, fun h => by simp [iJump] at h⟩
theorem mid_save {m x : Nat} (hx : 2 ≤ x) : MidOK m (iSave x) := ⟨fun h => by simp [iSave] at h, fun h => by simp [iSave] at h, fun _ => ⟨x, rfl, hx⟩, fun h => by simp [iSave] at h⟩
theorem gen_mid {m : Nat} : ∀ (a : Re) (n g : Nat), a.Ok → 1 ≤ n → n + a.clen ≤ m + 1 → ∀ i ∈ a.gen n g, MidOK m i
  | .emp, _, _, _, _, _ => fun i hi => by cases hi
  | .leaf x, _, _, h, _, _ => fun i hi => by
    rw [Re.gen, List.mem_singleton] at hi
    subst hi
    have := h.1
    exact ⟨fun h => by omega, fun h => by omega, fun h => by omega, fun h => by omega⟩
  | .cat a b, n, g, h, h1, h2 => fun y hy => by
    simp only [Re.clen] at h2
    rcases List.mem_append.1 hy with hy | hy
    · exact gen_mid a _ _ h.1 h1 (by omega) y hy
    · exact gen_mid b _ _ h.2 (by omega) (by omega) y hy
  | .alt a b, n, g, h, h1, h2 => fun y hy => by
    simp only [Re.clen] at h2
    rcases List.mem_cons.1 hy with rfl | hy
    · exact mid_split (by omega) (by omega)
    rcases List.mem_append.1 hy with hy | hy
    · exact gen_mid a _ _ h.1 (by omega) (by omega) y hy
    rcases List.mem_cons.1 hy with rfl | hy
    · exact mid_jump (by omega)
    · exact gen_mid b _ _ h.2 (by omega) (by omega) y hy
  | .star a, n, g, h, h1, h2 => fun y hy => by
    simp only [Re.clen] at h2
    rcases List.mem_cons.1 hy with rfl | hy
    · exact mid_split (by omega) (by omega)
    rcases List.mem_append.1 hy with hy | hy
    · exact gen_mid a _ _ h (by omega) (by omega) y hy
    · rw [List.mem_singleton] at hy; subst hy; exact mid_jump (by omega)
  | .plus a, n, g, h, h1, h2 => fun y hy => by
    simp only [Re.clen] at h2
    rcases List.mem_append.1 hy with hy | hy
    · exact gen_mid a _ _ h (by omega) (by omega) y hy
    · rw [List.mem_singleton] at hy; subst hy; exact mid_split (by omega) (by omega)
  | .opt a, n, g, h, h1, h2 => fun y hy => by
    simp only [Re.clen] at h2
    rcases List.mem_cons.1 hy with rfl | hy
    · exact mid_split (by omega) (by omega)
    · exact gen_mid a _ _ h (by omega) (by omega) y hy
  | .grp a, n, g, h, h1, h2 => fun y hy => by
    simp only [Re.clen] at h2
    rcases List.mem_cons.1 hy with rfl | hy
    · exact mid_save (by omega)
    rcases List.mem_append.1 hy with hy | hy
    · exact gen_mid a _ _ h (by omega) (by omega) y hy
    · rw [List.mem_singleton] at hy; subst hy; exact mid_save (by omega)
/-- The form of a compiled program. -/
structure Shape (L : List In) (m : Nat) : Prop where
  len : L.length = m + 3
  h0 : L[0]! = iSave 0
  h1 : L[m + 1]! = iSave 1
  h2 : L[m + 2]! = iOp 9
  mid : ∀ k, 1 ≤ k → k ≤ m → MidOK m L[k]!
theorem prog_len (a : Re) : ([iSave 0] ++ a.gen 1 0 ++ [iSave 1] ++ [iOp 9]).length = a.clen + 3 := by simp [Re.gen_len]
theorem prog_mid (a : Re) {k : Nat} (h1 : 1 ≤ k) (h2 : k ≤ a.clen) : ([iSave 0] ++ a.gen 1 0 ++ [iSave 1] ++ [iOp 9])[k]! = (a.gen 1 0)[k - 1]! := by
  rw [getElem!_pos _ k (by rw [prog_len]; omega), getElem!_pos (a.gen 1 0) (k - 1) (by rw [Re.gen_len]; omega)]
  rw [List.getElem_append_left (by simp [Re.gen_len]; omega), List.getElem_append_left (by simp [Re.gen_len]; omega), List.getElem_append_right (by simp; omega)]
  simp
theorem prog_shape (a : Re) (h : a.Ok) : Shape ([iSave 0] ++ a.gen 1 0 ++ [iSave 1] ++ [iOp 9]) a.clen := by
  refine ⟨prog_len a, by simp, ?_, ?_, fun k h1 h2 => ?_⟩
  · rw [getElem!_pos _ (a.clen + 1) (by rw [prog_len]; omega), List.getElem_append_left (by simp [Re.gen_len]), List.getElem_append_right (by simp [Re.gen_len])]
    simp [Re.gen_len]
  · rw [getElem!_pos _ (a.clen + 2) (by rw [prog_len]; omega), List.getElem_append_right (by simp [Re.gen_len])]
    simp [Re.gen_len]
  · rw [prog_mid a h1 h2, getElem!_pos (a.gen 1 0) (k - 1) (by rw [Re.gen_len]; omega)]
    exact gen_mid a 1 0 h (Nat.le_refl _) (by omega) _ (List.getElem_mem _)
theorem comp_shape {s : ByteArray} {L : List In} {G : Nat} (h : compF s = .ok (L, G)) : ∃ m, Shape L m := by
  obtain ⟨a, ok, _, rfl, _⟩ := comp_tree h
  exact ⟨_, prog_shape a ok⟩

/-- A thread of a match that begins at b, at position pos. -/
structure ThB (m b pos : Nat) (t : Th) : Prop where
  k : 1 ≤ t.1
  le : t.1 ≤ m + 2
  n : 2 ≤ t.2.length
  c0 : t.2.getD 0 0 = (b : Int)
  c1 : t.1 = m + 2 → t.2.getD 1 0 = (pos : Int)
theorem getD_set_ne (cs : List Int) {x j : Nat} (v : Int) (h : x ≠ j) : (cs.set x v).getD j 0 = cs.getD j 0 := by
  rw [List.getD_eq_getElem?_getD, List.getD_eq_getElem?_getD, List.getElem?_set_ne h]
theorem getD_set_eq (cs : List Int) {x : Nat} (v : Int) (h : x < cs.length) : (cs.set x v).getD x 0 = v := by
  rw [List.getD_eq_getElem?_getD, List.getElem?_set_self h]
  rfl
theorem addF_b {L : List In} {m b : Nat} (hS : Shape L m) : ∀ (f n pos k : Nat) (cs : List Int) (st : List Bool × List Th), 1 ≤ k → k ≤ m + 2 → 2 ≤ cs.length → cs.getD 0 0 = (b : Int) → (k = m + 2 → cs.getD 1 0 = (pos : Int)) → (∀ t ∈ st.2, ThB m b pos t) → ∀ t ∈ (addF f L n pos k cs st).2, ThB m b pos t
  | 0, _, _, _, _, _, _, _, _, _, _, h => h
  | f + 1, n, pos, k, cs, (v, l), h1, h2, h3, h4, h5, h6 => by
    cases hv : v[k]! with
    | true => rw [addF_seen hv]; exact h6
    | false =>
    rcases Nat.lt_or_ge m k with hk | hk
    · rcases Nat.lt_or_ge (m + 1) k with hk2 | hk2
      · have e : k = m + 2 := by omega
        subst e
        rw [addF_o hv hS.h2 (by simp [iOp]) (by simp [iOp]) (by simp [iOp]) (by simp [iOp]) (by simp [iOp])]
        intro t ht
        rcases List.mem_append.1 ht with ht | ht
        · exact h6 t ht
        · rw [List.mem_singleton] at ht
          subst ht
          exact ⟨h1, h2, h3, h4, h5⟩
      · have e : k = m + 1 := by omega
        subst e
        rw [addF_8 hv hS.h1 rfl]
        refine addF_b hS f n pos _ _ _ (by omega) (by omega) (by rw [List.length_set]; exact h3) ?_ (fun _ => ?_) h6
        · show (cs.set 1 (pos : Int)).getD 0 0 = _
          rw [getD_set_ne cs _ (by decide)]
          exact h4
        · show (cs.set 1 (pos : Int)).getD 1 0 = _
          rw [getD_set_eq cs _ (by omega)]
    · have hm := hS.mid k h1 hk
      rw [addF_step, if_neg (by rw [hv]; simp)]
      split
      · rename_i ho
        obtain ⟨x, hx, x1, x2⟩ := hm.j ho
        rw [hx]
        exact addF_b hS f n pos _ _ _ (by simpa using x1) (by simp; omega) h3 h4 (fun e => by simp at e; omega) h6
      split
      · rename_i ho
        obtain ⟨x, y, hx, hy, x1, x2, y1, y2⟩ := hm.s ho
        rw [hx, hy]
        exact addF_b hS f n pos _ _ _ (by simpa using y1) (by simp; omega) h3 h4 (fun e => by simp at e; omega) (addF_b hS f n pos _ _ _ (by simpa using x1) (by simp; omega) h3 h4 (fun e => by simp at e; omega) h6)
      split
      · rename_i ho
        obtain ⟨x, hx, x2⟩ := hm.v ho
        rw [hx]
        refine addF_b hS f n pos _ _ _ (by omega) (by omega) (by rw [List.length_set]; exact h3) ?_ (fun e => by omega) h6
        rw [Int.toNat_natCast, getD_set_ne cs _ (by omega)]
        exact h4
      split
      · split
        · exact addF_b hS f n pos _ _ _ (by omega) (by omega) h3 h4 (fun e => by omega) h6
        · exact h6
      split
      · split
        · exact addF_b hS f n pos _ _ _ (by omega) (by omega) h3 h4 (fun e => by omega) h6
        · exact h6
      · intro t ht
        rcases List.mem_append.1 ht with ht | ht
        · exact h6 t ht
        · rw [List.mem_singleton] at ht
          subst ht
          exact ⟨h1, h2, h3, h4, h5⟩
theorem ThB.acc {L : List In} {m b pos : Nat} (hS : Shape L m) {t : Th} (h : ThB m b pos t) {c : Int} (ha : accF L[t.1]! c = true) : t.1 ≤ m := by
  have ho := acc_op ha
  have hk := h.le
  rcases Nat.lt_or_ge m t.1 with h1 | h1
  · rcases Nat.lt_or_ge (m + 1) t.1 with h2 | h2
    · have e : t.1 = m + 2 := by omega
      rw [e, hS.h2] at ho
      simp [iOp] at ho
    · have e : t.1 = m + 1 := by omega
      rw [e, hS.h1] at ho
      simp [iSave] at ho
  · exact h1
theorem ThB.last {L : List In} {m b pos : Nat} (hS : Shape L m) {t : Th} (h : ThB m b pos t) (ho : L[t.1]!.op = 9) : t.1 = m + 2 := by
  have hk := h.le
  rcases Nat.lt_or_ge m t.1 with h1 | h1
  · rcases Nat.lt_or_ge (m + 1) t.1 with h2 | h2
    · omega
    · have e : t.1 = m + 1 := by omega
      rw [e, hS.h1] at ho
      simp [iSave] at ho
  · exact absurd ho (hS.mid _ h.k h1).o
theorem stepF_b {L : List In} {m b : Nat} (hS : Shape L m) (n pos : Nat) (c : Int) : ∀ (l : List Th) (st : List Bool × List Th), (∀ t ∈ l, ThB m b pos t) → (∀ t ∈ st.2, ThB m b (pos + 1) t) → ∀ t ∈ (stepF L n (pos + 1) c l st).2, ThB m b (pos + 1) t
  | [], _, _, h2 => h2
  | t :: l, st, h1, h2 => by
    unfold stepF
    refine stepF_b hS n pos c l _ (fun u hu => h1 u (List.mem_cons_of_mem _ hu)) ?_
    have ht := h1 t (List.mem_cons_self ..)
    split
    · rename_i ha
      have := ht.acc hS ha
      exact addF_b hS _ n _ _ _ _ (by omega) (by omega) ht.n ht.c0 (fun e => by omega) h2
    · exact h2
/-- A match that begins at b: its offsets 0 and 1. -/
def EndB (b : Nat) (r : Option (List Int × Nat)) : Prop := ∀ cs e, r = some (cs, e) → 2 ≤ cs.length ∧ cs.getD 0 0 = (b : Int) ∧ cs.getD 1 0 = (e : Int)
theorem bestF_b {L : List In} {m b n pos : Nat} (hS : Shape L m) {whole : Bool} {l : List Th} {best : Option (List Int × Nat)} (hl : ∀ t ∈ l, ThB m b pos t) (hb : EndB b best) : EndB b (bestF L n pos whole l best) := by
  intro cs e h
  unfold bestF at h
  split at h
  · exact hb cs e h
  · rename_i c hf
    split at h
    · obtain ⟨t, ht, h1, ho⟩ := foundF_mem hf
      injection h with h
      injection h with h h2
      have h3 := hl t ht
      rw [← h, ← h2, ← h1]
      exact ⟨h3.n, h3.c0, h3.c1 (h3.last hS ho)⟩
    · exact hb cs e h
theorem runF_b {L : List In} {m b : Nat} (hS : Shape L m) {s : ByteArray} {whole : Bool} : ∀ (f pos : Nat) (l : List Th) (best : Option (List Int × Nat)), (∀ t ∈ l, ThB m b pos t) → EndB b best → EndB b (runF f L s whole pos l best)
  | 0, _, _, _, _, hb => hb
  | f + 1, pos, l, best, hl, hb => by
    unfold runF
    split
    · exact bestF_b hS hl hb
    · exact runF_b hS f _ _ _ (stepF_b hS _ _ _ _ _ hl (fun t ht => by cases ht)) (bestF_b hS hl hb)
theorem begin_b {L : List In} {m g : Nat} (hS : Shape L m) (hg : 1 ≤ g) (n p : Nat) : ∀ t ∈ beginF L g n p, ThB m p p t := by
  unfold beginF
  have hv : (List.replicate L.length false)[0]! = false := by
    rw [getElem!_pos _ 0 (by rw [List.length_replicate, hS.len]; omega)]
    simp
  rw [addF_8 hv hS.h0 rfl]
  refine addF_b hS _ n p _ _ _ (Nat.le_refl _) (by omega) (by rw [List.length_set, List.length_replicate]; omega) ?_ (fun e => by omega) (fun t ht => by cases ht)
  exact getD_set_eq _ _ (by rw [List.length_replicate]; show 0 < _; omega)
theorem runTop_b {L : List In} {m g : Nat} (hS : Shape L m) (hg : 1 ≤ g) {s : ByteArray} {whole : Bool} {p : Nat} : EndB p (runTop L g s p whole) :=
  runF_b hS _ p _ none (begin_b hS hg s.size p) (fun _ _ h => by cases h)
theorem firstF_b {L : List In} {m g : Nat} (hS : Shape L m) (hg : 1 ≤ g) {s : ByteArray} : ∀ (f p : Nat) {cs : List Int} {a z : Nat}, firstF f L g s p = some (cs, a, z) → 2 ≤ cs.length ∧ cs.getD 0 0 = (a : Int) ∧ cs.getD 1 0 = (z : Int)
  | 0, _, _, _, _, h => by cases h
  | f + 1, p, cs, a, z, h => by
    unfold firstF at h
    split at h
    · cases h
    split at h
    · rename_i c e hq
      injection h with h
      injection h with h h2
      injection h2 with h2 h3
      have := runTop_b hS hg _ _ hq
      rw [← h, ← h2, ← h3]
      exact this
    · exact firstF_b hS hg f _ h

/-! ### Whole and Match -/
theorem runF_whole {L : List In} {s : ByteArray} : ∀ (f pos : Nat) (l : List Th) (best : Option (List Int × Nat)) {cs : List Int} {e : Nat}, runF f L s true pos l none = some (cs, e) → pos ≤ s.size → runF f L s false pos l best = some (cs, e) ∧ e = s.size
  | 0, _, _, _, _, _, h, _ => by cases h
  | f + 1, pos, l, best, cs, e, h, hp => by
    unfold runF at h ⊢
    split at h
    · rename_i hc
      rw [if_pos hc]
      unfold bestF at h ⊢
      split at h
      · cases h
      · split at h
        · rename_i hw
          rcases hw with hw | hw
          · cases hw
          · simp only [true_or, if_true]
            injection h with h
            injection h with h h2
            exact ⟨by rw [h, h2], by omega⟩
        · cases h
    · rename_i hc
      rw [if_neg hc]
      have e0 : bestF L s.size pos true l none = none := by
        unfold bestF
        split
        · rfl
        · rw [if_neg (fun h => by rcases h with h | h; cases h; exact hc (.inl (by omega)))]
      rw [e0] at h
      exact runF_whole f _ _ _ h (by omega)
theorem whole_match {L : List In} {g : Nat} {s : ByteArray} {cs : List Int} (h : wholeTop L g s = some cs) : matchTop L g s = some cs ∧ runTop L g s 0 true = some (cs, s.size) := by
  unfold wholeTop at h
  cases hr : runTop L g s 0 true with
  | none => rw [hr] at h; cases h
  | some t =>
    obtain ⟨c, e⟩ := t
    rw [hr] at h
    have h : c = cs := Option.some.inj h
    subst h
    have h1 := runF_whole _ _ _ none hr (Nat.zero_le _)
    have h2 : runTop L g s 0 false = some (c, e) := h1.1
    refine ⟨?_, by rw [h1.2]⟩
    unfold matchTop firstTop
    rw [show s.size + 1 - 0 = s.size + 1 by omega]
    unfold firstF
    rw [if_neg (by omega), h2]
    rfl

/-! ### A replacement by the match itself -/
theorem ext_app (s : ByteArray) {i j k : Nat} (h1 : i ≤ j) (h2 : j ≤ k) : s.extract i j ++ s.extract j k = s.extract i k := (ByteArray.extract_eq_extract_append_extract j h1 h2).symm
theorem ext_min (s : ByteArray) (i j : Nat) : s.extract i (min j s.size) = s.extract i j := by
  rcases Nat.lt_or_ge s.size j with h | h
  · rcases Nat.lt_or_ge s.size i with h2 | h2
    · rw [ByteArray.extract_eq_empty_iff.2 (by omega), ByteArray.extract_eq_empty_iff.2 (by omega)]
    · have e : s.extract s.size j = ByteArray.empty := ByteArray.extract_eq_empty_iff.2 (by omega)
      rw [Nat.min_eq_right (by omega), ← ext_app s h2 (Nat.le_of_lt h), e]
      simp
  · rw [Nat.min_eq_left h]
theorem fill_amp (s : ByteArray) (cs : List Int) (a z : Nat) : (fillTop ⟨#[38]⟩ s cs a z).getD ⟨#[]⟩ = s.extract a z := by
  have h : fillF ⟨#[38]⟩ s cs a z 2 0 [] = some ([] ++ (s.extract a z).data.toList) := by rfl
  unfold fillTop
  rw [show (⟨#[38]⟩ : ByteArray).size + 1 = 2 from rfl, h]
  apply str_inj'
  simp
theorem fill_zero (s : ByteArray) (cs : List Int) (a z : Nat) (h : 2 ≤ cs.length) (h0 : cs.getD 0 0 = (a : Int)) (h1 : cs.getD 1 0 = (z : Int)) (haz : a ≤ z) : (fillTop ⟨#[92, 48]⟩ s cs a z).getD ⟨#[]⟩ = s.extract a z := by
  have e : partF s cs 0 = s.extract a z := by
    unfold partF
    rw [if_neg (by omega), if_neg (by show ¬ cs.getD 0 0 < 0; rw [h0]; omega), if_neg (by show ¬ cs.getD 1 0 < cs.getD 0 0; rw [h0, h1]; omega)]
    show s.extract (cs.getD 0 0).toNat (cs.getD 1 0).toNat = _
    rw [h0, h1]
    rfl
  have h : fillF ⟨#[92, 48]⟩ s cs a z 3 0 [] = some ([] ++ (partF s cs 0).data.toList) := by rfl
  unfold fillTop
  rw [show (⟨#[92, 48]⟩ : ByteArray).size + 1 = 3 from rfl, h, e]
  apply str_inj'
  simp
theorem repl_self {L : List In} {g : Nat} {s r : ByteArray} (hs : s.size ≤ 60) (hf : ∀ cs p a z, firstTop L g s p = some (cs, a, z) → (fillTop r s cs a z).getD ⟨#[]⟩ = s.extract a z) : ∀ (f p : Nat) (last : Int), p ≤ s.size + 1 → s.size + 2 ≤ f + p → replF L g s r f (s.extract 0 p) p last = (s, 0)
  | 0, p, _, h1, h2 => by omega
  | f + 1, p, last, h1, h2 => by
    have hz : ∀ i j, (s.extract i j).size ≤ s.size := fun i j => by rw [ByteArray.size_extract]; omega
    have fin : finF s (s.extract 0 p) p = (s, 0) := by
      have e : s.extract 0 p ++ s.extract (min p s.size) s.size = s := by
        rw [← ext_min s 0 p, ext_app s (Nat.zero_le _) (by omega)]
        exact ByteArray.extract_zero_size
      unfold finF
      rw [e, if_neg (by omega)]
    unfold replF
    split
    · exact fin
    split
    · exact fin
    · rename_i hp cs a z hq
      obtain ⟨_, pa, az, zs⟩ := firstF_in _ _ hq
      have hfz := hf cs p a z hq
      rw [hfz, ext_app s (Nat.zero_le _) pa]
      split
      · rw [ext_app s (Nat.zero_le _) az, if_neg (by have := hz 0 z; omega)]
        exact repl_self hs hf f z z (by omega) (by omega)
      have eaz : z = a := by omega
      subst eaz
      have em : s.extract 0 z ++ s.extract z (min (z + 1) s.size) = s.extract 0 (z + 1) := by
        rw [ext_min, ext_app s (Nat.zero_le _) (by omega)]
      have e0 : s.extract 0 z ++ s.extract z z = s.extract 0 z := ext_app s (Nat.zero_le _) (Nat.le_refl _)
      split
      · rw [e0, em, if_neg (by have := hz 0 (z + 1); omega)]
        exact repl_self hs hf f (z + 1) z (by omega) (by omega)
      · rw [em, if_neg (by have := hz 0 (z + 1); omega)]
        exact repl_self hs hf f (z + 1) z (by omega) (by omega)

end Go.Proofs.Ytfhccmegobbnaaa
