/- This text proves the plain laws of leases: Grant and its reference put a lease at the same place, lists stay valid. It has no conditions. -/
import Derived.Test.YtodmgdihkhakpaaLeaseQ
namespace Go.Proofs.Ytodmgdihkhakpaa
open Go.ChangeShapes Go.WideShapes Go.ChangeAt Go.RowKit
set_option linter.unusedVariables false

theorem before_iff (a b : Le) : beforeB a b = true ↔ a.id < b.id ∨ (a.id = b.id ∧ a.conn < b.conn) := by unfold beforeB; rw [decide_eq_true_iff]
theorem before_trans {a b c : Le} (h : beforeB a b = true) (h' : beforeB b c = true) : beforeB a c = true := by
  rw [before_iff] at *; omega
theorem before_tri (a b : Le) : beforeB a b = true ∨ (a.id = b.id ∧ a.conn = b.conn) ∨ beforeB b a = true := by
  rw [before_iff, before_iff]; omega
theorem before_not {a b : Le} (h : beforeB a b = true) : beforeB b a = false ∧ ¬ (b.id = a.id ∧ b.conn = a.conn) ∧ ¬ (a.id = b.id ∧ a.conn = b.conn) := by
  refine ⟨?_, ?_, ?_⟩
  · cases hb : beforeB b a with
    | false => rfl
    | true => rw [before_iff] at *; omega
  · rw [before_iff] at h; omega
  · rw [before_iff] at h; omega
theorem same_before {a b c : Le} (h : a.id = b.id ∧ a.conn = b.conn) : beforeB a c = beforeB b c := by
  unfold beforeB; rw [h.1, h.2]

theorem rightB_iff (xs : List Le) : rightB xs = true ↔ xs.length ≤ 64 ∧ (∀ x ∈ xs, okB x = true) ∧ SortedL xs := by
  unfold rightB
  rw [Bool.and_eq_true, decide_eq_true_iff, List.all_eq_true]
  constructor
  · rintro ⟨h1, h2⟩
    have hs : ∀ j, j < xs.length → okB xs[j]! = true ∧ (j = 0 ∨ beforeB xs[j - 1]! xs[j]! = true) := fun j hj => by
      have := h2 j (List.mem_range.2 hj)
      rw [stepB_ref, Bool.and_eq_true, Bool.or_eq_true, decide_eq_true_iff] at this
      exact this
    refine ⟨h1, fun x hx => ?_, ?_⟩
    · obtain ⟨i, hi, rfl⟩ := List.getElem_of_mem hx
      have := (hs i hi).1
      rwa [getElem!_pos xs i hi] at this
    · refine List.pairwise_iff_getElem.2 fun i j hi hj hij => ?_
      obtain ⟨d, rfl⟩ : ∃ d, j = i + 1 + d := ⟨j - i - 1, by omega⟩
      clear hij
      induction d with
      | zero =>
        have := (hs (i + 1) hj).2
        rcases this with h | h
        · omega
        · rw [Nat.add_sub_cancel, getElem!_pos xs i (by omega), getElem!_pos xs (i + 1) hj] at h
          exact h
      | succ d ih =>
        have h := ih (by omega)
        have h' := (hs (i + 1 + (d + 1)) hj).2
        rcases h' with h' | h'
        · omega
        · rw [show i + 1 + (d + 1) - 1 = i + 1 + d by omega, getElem!_pos xs (i + 1 + d) (by omega), getElem!_pos xs _ hj] at h'
          exact before_trans h h'
  · rintro ⟨h1, h2, h3⟩
    refine ⟨h1, fun j hj => ?_⟩
    have hj := List.mem_range.1 hj
    rw [stepB_ref, Bool.and_eq_true, Bool.or_eq_true, decide_eq_true_iff, getElem!_pos xs j hj]
    refine ⟨h2 _ (List.getElem_mem hj), ?_⟩
    by_cases h0 : j = 0
    · exact .inl h0
    · refine .inr ?_
      rw [getElem!_pos xs (j - 1) (by omega)]
      exact List.pairwise_iff_getElem.1 h3 (j - 1) j (by omega) hj (by omega)

theorem rightB_filter {xs : List Le} (p : Le → Bool) (h : rightB xs = true) : rightB (xs.filter p) = true := by
  rw [rightB_iff] at *
  exact ⟨Nat.le_trans (List.length_filter_le _ _) h.1, fun x hx => h.2.1 x (List.mem_filter.1 hx).1, List.Pairwise.filter _ h.2.2⟩

theorem putL_nil (x : Le) : putL x [] = [x] := rfl
theorem posI_lt {x y : Le} {ys : List Le} (h : beforeB y x = true) : posI x (y :: ys) = posI x ys + 1 := by
  have h' := (order_lt y x).2 h
  simp [posI, h']
theorem posI_ge {x y : Le} {ys : List Le} (h : beforeB y x = false) : posI x (y :: ys) = 0 := by
  have h' : ¬ orderI y x < 0 := fun e => by rw [(order_lt y x).1 e] at h; cases h
  simp [posI, h']
theorem putL_lt {x y : Le} {ys : List Le} (h : beforeB y x = true) : putL x (y :: ys) = y :: putL x ys := by
  have hf : foundB x (y :: ys) = foundB x ys := by
    unfold foundB
    rw [posI_lt h]
    simp
  unfold putL
  rw [hf, posI_lt h]
  split <;> rfl
theorem putL_eq {x y : Le} {ys : List Le} (h : y.id = x.id ∧ y.conn = x.conn) : putL x (y :: ys) = x :: ys := by
  have hb : beforeB y x = false := by
    cases hb : beforeB y x with
    | false => rfl
    | true => exact absurd h (before_not hb).2.2
  have hf : foundB x (y :: ys) = true := by
    unfold foundB
    rw [posI_ge hb]
    simp [(order_zero y x).2 h]
  unfold putL
  rw [hf, posI_ge hb]
  rfl
theorem putL_gt {x y : Le} {ys : List Le} (h : beforeB x y = true) : putL x (y :: ys) = x :: y :: ys := by
  have hb := (before_not h).1
  have hf : foundB x (y :: ys) = false := by
    unfold foundB
    rw [posI_ge hb]
    have : ¬ orderI y x = 0 := fun e => (before_not h).2.1 ((order_zero y x).1 e)
    simp [this]
  unfold putL
  rw [hf, posI_ge hb]
  rfl

theorem mem_putL {x z : Le} : ∀ {ys : List Le}, z ∈ putL x ys → z = x ∨ z ∈ ys
  | [], h => by simpa [putL_nil] using h
  | y :: ys, h => by
    rcases before_tri y x with hb | hb | hb
    · rw [putL_lt hb] at h
      rcases List.mem_cons.1 h with rfl | h
      · exact .inr (by simp)
      · rcases mem_putL h with h | h
        · exact .inl h
        · exact .inr (by simp [h])
    · rw [putL_eq hb] at h
      rcases List.mem_cons.1 h with rfl | h
      · exact .inl rfl
      · exact .inr (by simp [h])
    · rw [putL_gt hb] at h
      rcases List.mem_cons.1 h with rfl | h
      · exact .inl rfl
      · exact .inr h
theorem mem_self_putL {x : Le} : ∀ (ys : List Le), x ∈ putL x ys
  | [] => by simp [putL_nil]
  | y :: ys => by
    rcases before_tri y x with hb | hb | hb
    · rw [putL_lt hb]; exact List.mem_cons_of_mem _ (mem_self_putL ys)
    · rw [putL_eq hb]; simp
    · rw [putL_gt hb]; simp
theorem sorted_putL {x : Le} : ∀ {ys : List Le}, SortedL ys → SortedL (putL x ys)
  | [], h => by rw [putL_nil]; exact List.pairwise_singleton _ _
  | y :: ys, h => by
    obtain ⟨h1, h2⟩ := List.pairwise_cons.1 h
    rcases before_tri y x with hb | hb | hb
    · rw [putL_lt hb]
      refine List.pairwise_cons.2 ⟨fun z hz => ?_, sorted_putL h2⟩
      rcases mem_putL hz with rfl | hz
      · exact hb
      · exact h1 z hz
    · rw [putL_eq hb]
      exact List.pairwise_cons.2 ⟨fun z hz => by rw [← same_before hb]; exact h1 z hz, h2⟩
    · rw [putL_gt hb]
      refine List.pairwise_cons.2 ⟨fun z hz => ?_, h⟩
      rcases List.mem_cons.1 hz with rfl | hz
      · exact hb
      · exact before_trans hb (h1 z hz)

theorem fold_done (x : Le) : ∀ (ys o : List Le), (∀ y ∈ ys, beforeB x y = true) → ys.foldl (rstep x) (o, true) = (o ++ ys, true)
  | [], o, _ => by simp
  | y :: ys, o, h => by
    rw [List.foldl_cons, rstep_done x o y (before_not (h y (by simp))).2.1, fold_done x ys _ (fun z hz => h z (by simp [hz]))]
    simp
theorem rput_from (x : Le) : ∀ (ys o : List Le), SortedL ys →
    (if (ys.foldl (rstep x) (o, false)).2 then (ys.foldl (rstep x) (o, false)).1 else (ys.foldl (rstep x) (o, false)).1 ++ [x]) = o ++ putL x ys
  | [], o, _ => by simp [putL_nil]
  | y :: ys, o, h => by
    obtain ⟨h1, h2⟩ := List.pairwise_cons.1 h
    rw [List.foldl_cons]
    rcases before_tri y x with hb | hb | hb
    · rw [rstep_not x o y (before_not hb).2.2 (before_not hb).1, rput_from x ys _ h2, putL_lt hb]
      simp
    · rw [rstep_skip x _ y hb, putL_eq hb]
      cases ys with
      | nil => simp
      | cons z zs =>
        have hz : beforeB x z = true := by rw [← same_before hb]; exact h1 z (by simp)
        have hzs : ∀ u ∈ zs, beforeB x u = true := fun u hu => by rw [← same_before hb]; exact h1 u (by simp [hu])
        rw [List.foldl_cons, rstep_put x o z (before_not hz).2.1 hz, fold_done x zs _ hzs]
        simp
    · have hys : ∀ u ∈ ys, beforeB x u = true := fun u hu => before_trans hb (h1 u hu)
      rw [rstep_put x o y (before_not hb).2.1 hb, fold_done x ys _ hys, putL_gt hb]
      simp
theorem rput_putL (x : Le) (ys : List Le) (h : SortedL ys) : rput x ys = putL x ys := by
  have := rput_from x ys [] h
  simpa [rput] using this

theorem putL_length_found {x : Le} {ys : List Le} (h : foundB x ys = true) : (putL x ys).length = ys.length := by unfold putL; rw [h]; simp
theorem putL_length_not {x : Le} {ys : List Le} (h : foundB x ys = false) : (putL x ys).length = ys.length + 1 := by
  unfold putL; rw [h]
  have : posI x ys ≤ ys.length := by unfold posI; exact (List.takeWhile_sublist _).length_le
  simp; omega

theorem grant_rgrant (xs : List Le) (cn fid kd tm now : Int) (h : rightB xs = true) : rgrantF xs cn fid kd tm now = grantF xs cn fid kd tm now := by
  obtain ⟨h1, _, h3⟩ := (rightB_iff xs).1 h
  have hl := live_length xs now
  have hs := h3.live now
  unfold rgrantF grantF
  split
  · split
    · rfl
    · rw [rput_putL _ _ hs]
      cases hf : foundB ⟨cn, fid, kd, now + tm⟩ (liveL xs now) with
      | true =>
        rw [putL_length_found hf, if_neg (by omega), if_pos rfl]
      | false =>
        rw [putL_length_not hf]
        simp only [Bool.false_eq_true, if_false]
        by_cases h64 : 64 ≤ (liveL xs now).length
        · rw [if_pos (by omega), if_pos h64]
        · rw [if_neg (by omega), if_neg h64]
  · rfl

/-- What a lease that Grant gives is made of. -/
theorem grant_ok (xs : List Le) (cn fid kd tm now : Int) (h : rightB xs = true) :
    (grantF xs cn fid kd tm now = (xs, 0, 1) ∨ grantF xs cn fid kd tm now = (xs, 0, 32) ∨ grantF xs cn fid kd tm now = (xs, 0, 22)) ∨
    (grantF xs cn fid kd tm now = (putL ⟨cn, fid, kd, now + tm⟩ (liveL xs now), now + tm, 0) ∧ reqB cn fid kd tm now = true ∧ (∀ y ∈ liveL xs now, conflictB ⟨cn, fid, kd, now + tm⟩ y = false) ∧
      rightB (putL ⟨cn, fid, kd, now + tm⟩ (liveL xs now)) = true) := by
  obtain ⟨h1, h2, h3⟩ := (rightB_iff xs).1 h
  have hl := live_length xs now
  have hs := h3.live now
  unfold grantF
  split
  · rename_i hr
    split
    · exact .inl (.inr (.inl rfl))
    · rename_i hc
      have hcf : ∀ y ∈ liveL xs now, conflictB ⟨cn, fid, kd, now + tm⟩ y = false := by
        have hc' : ((liveL xs now).any fun y => conflictB ⟨cn, fid, kd, now + tm⟩ y) = false := by simpa using hc
        rw [List.any_eq_false] at hc'
        intro y hy
        have := hc' y hy
        simpa using this
      have hok : okB ⟨cn, fid, kd, now + tm⟩ = true := by
        unfold reqB at hr
        simp only [Bool.and_eq_true] at hr
        obtain ⟨⟨⟨⟨a1, a2⟩, a3⟩, a4⟩, a5⟩ := hr
        unfold okB
        simp only [Bool.and_eq_true]
        refine ⟨⟨⟨a2, a1⟩, a3⟩, ?_⟩
        unfold inB at *
        rw [decide_eq_true_iff] at *
        omega
      have hR : (putL ⟨cn, fid, kd, now + tm⟩ (liveL xs now)).length ≤ 64 → rightB (putL ⟨cn, fid, kd, now + tm⟩ (liveL xs now)) = true := fun hle => by
        rw [rightB_iff]
        refine ⟨hle, fun z hz => ?_, sorted_putL hs⟩
        rcases mem_putL hz with rfl | hz
        · exact hok
        · exact h2 z (List.mem_filter.1 hz).1
      cases hf : foundB ⟨cn, fid, kd, now + tm⟩ (liveL xs now) with
      | true => rw [if_pos rfl]; exact .inr ⟨rfl, hr, hcf, hR (by rw [putL_length_found hf]; omega)⟩
      | false =>
        rw [if_neg Bool.false_ne_true]
        split
        · exact .inl (.inr (.inr rfl))
        · exact .inr ⟨rfl, hr, hcf, hR (by rw [putL_length_not hf]; omega)⟩
  · exact .inl (.inl rfl)

theorem grant_right (xs : List Le) (cn fid kd tm now : Int) (h : rightB xs = true) : rightB (grantF xs cn fid kd tm now).1 = true := by
  rcases grant_ok xs cn fid kd tm now h with (e | e | e) | ⟨e, _, _, h'⟩
  · rw [e]; exact h
  · rw [e]; exact h
  · rw [e]; exact h
  · rw [e]; exact h'

theorem blocks_same (xs : List Le) (cn fid kd now : Int) : (kindB kd && xs.any fun y => decide (y.id = fid ∧ y.conn ≠ cn ∧ now < y.til ∧ (kd = 2 ∨ y.kind = 2))) = (liveL xs now).any fun y => decide (y.id = fid ∧ y.conn ≠ cn ∧ (kd = 2 ∨ kd = 1 ∧ y.kind = 2)) := by
  unfold liveL
  rw [List.any_filter, Bool.eq_iff_iff]
  simp only [Bool.and_eq_true, List.any_eq_true, Bool.not_eq_true', decide_eq_true_eq, decide_eq_false_iff_not, kindB]
  constructor
  · rintro ⟨hk, y, hy, h1, h2, h3, h4⟩
    exact ⟨y, hy, by omega, h1, h2, by omega⟩
  · rintro ⟨y, hy, h0, h1, h2, h3⟩
    exact ⟨by omega, y, hy, h1, h2, by omega, by omega⟩
theorem valid_same (xs : List Le) (cn fid kd now : Int) : (kindB kd && xs.any fun y => decide (y.id = fid ∧ y.conn = cn ∧ now < y.til ∧ (kd = 1 ∨ y.kind = 2))) = (liveL xs now).any fun y => decide (y.id = fid ∧ y.conn = cn ∧ (kd = 1 ∨ kd = 2 ∧ y.kind = 2)) := by
  unfold liveL
  rw [List.any_filter, Bool.eq_iff_iff]
  simp only [Bool.and_eq_true, List.any_eq_true, Bool.not_eq_true', decide_eq_true_eq, decide_eq_false_iff_not, kindB]
  constructor
  · rintro ⟨hk, y, hy, h1, h2, h3, h4⟩
    exact ⟨y, hy, by omega, h1, h2, by omega⟩
  · rintro ⟨y, hy, h0, h1, h2, h3⟩
    exact ⟨by omega, y, hy, h1, h2, by omega, by omega⟩

theorem next_from (now : Int) : ∀ (xs : List Le) (c : Nat) (a : Int) (t : Bool), (t = decide (c ≠ 0)) → (xs.foldl (nxt now) (a, t)).1 = ((liveL xs now).foldl rnxt (c, a)).2
  | [], c, a, t, h => rfl
  | x :: xs, c, a, t, h => by
    rw [List.foldl_cons]
    by_cases hl : now < x.til
    · have e : liveL (x :: xs) now = x :: liveL xs now := by unfold liveL; rw [List.filter_cons]; simp [hl]
      rw [e, List.foldl_cons]
      by_cases hc : t = false ∨ x.til < a
      · have e1 : nxt now (a, t) x = (x.til, true) := by unfold nxt; rw [if_pos ⟨hl, hc⟩]
        have e2 : rnxt (c, a) x = (c + 1, x.til) := by
          unfold rnxt
          rw [if_pos]
          rcases hc with h0 | h0
          · left; rw [h0] at h; simpa using h.symm
          · exact .inr h0
        rw [e1, e2]
        exact next_from now xs (c + 1) x.til true (by simp)
      · have e1 : nxt now (a, t) x = (a, t) := by unfold nxt; rw [if_neg (fun e => hc e.2)]
        have ht : t = true := by
          cases t with
          | true => rfl
          | false => exact absurd (.inl rfl) hc
        have e2 : rnxt (c, a) x = (c + 1, a) := by
          unfold rnxt
          rw [if_neg]
          rintro (h0 | h0)
          · rw [ht] at h; simp at h; exact h h0
          · exact hc (.inr h0)
        rw [e1, e2]
        exact next_from now xs (c + 1) a t (by rw [ht]; simp)
    · have e : liveL (x :: xs) now = liveL xs now := by unfold liveL; rw [List.filter_cons]; simp; omega
      have e1 : nxt now (a, t) x = (a, t) := by unfold nxt; rw [if_neg (fun e => hl e.1)]
      rw [e, e1]
      exact next_from now xs c a t h
theorem next_same (xs : List Le) (now : Int) : (xs.foldl (nxt now) (0, false)).1 = ((liveL xs now).foldl rnxt (0, 0)).2 := next_from now xs 0 0 false (by simp)

end Go.Proofs.Ytodmgdihkhakpaa
