/- This text proves what Add, Set and Drop do to a valid table, in plain Lean, and the walks of the statements FidsBack and FidsCounts. Conditions: those that each theorem names. -/
import Derived.Test.YtjnfllcbkkcfiaaFidsLR
namespace Go.Proofs.Ytjnfllcbkkcfiaa
open Go.ChangeShapes Go.WideShapes Go.ChangeAt Go.RowKit
set_option linter.unusedVariables false
set_option linter.unusedSimpArgs false

abbrev Asc (xs : List Fi) : Prop := xs.Pairwise (fun x y => x.num < y.num)
theorem fd_of_mem {xs : List Fi} (hs : Asc xs) {y : Fi} (hy : y ∈ xs) : fdF y.num xs = (y, true) := by
  obtain ⟨i, hi, rfl⟩ := get_of_mem hy
  exact (find_hit _ xs hs i hi rfl).2.2
theorem fd_none {xs : List Fi} {num : Int} (h : ∀ y ∈ xs, y.num ≠ num) : fdF num xs = (default, false) := (find_miss num xs (fun i hi => h _ (mem_of_get hi))).2
theorem fd_congr {xs ys : List Fi} {num : Int} (hx : Asc xs) (hy : Asc ys) (h : ∀ y : Fi, y.num = num → (y ∈ xs ↔ y ∈ ys)) : fdF num xs = fdF num ys := by
  by_cases he : ∃ y ∈ xs, y.num = num
  · obtain ⟨y, hm, rfl⟩ := he
    rw [fd_of_mem hx hm, fd_of_mem hy ((h y rfl).1 hm)]
  · rw [fd_none (fun y hm hn => he ⟨y, hm, hn⟩), fd_none (fun y hm hn => he ⟨y, (h y hn).2 hm, hn⟩)]
theorem ix_none {xs : List Fi} (hs : Asc xs) {num : Int} (h : ixF num xs < 0) : ∀ y ∈ xs, y.num ≠ num := by
  intro y hy hn
  obtain ⟨i, hi, rfl⟩ := get_of_mem hy
  have := (find_hit num xs hs i hi hn).2.1
  omega
structure AddOk (f : Fi) (xs ys : List Fi) : Prop where
  valid : vB f = true
  none : ∀ y ∈ xs, y.num ≠ f.num
  asc : Asc ys
  mem : ∀ y, y ∈ ys ↔ y = f ∨ y ∈ xs
  len : ys.length ≤ 256
  back : dropF f.num ys = (xs, 0)
  set : setF f xs = (xs, 13)
theorem add_ok {f : Fi} {xs : List Fi} (hr : RightP xs) : (addF f xs).2 = 0 → AddOk f xs (addF f xs).1 := by
  intro h
  unfold addF at h ⊢
  by_cases hv : vB f = false
  · rw [if_pos hv] at h; cases h
  by_cases hi : 0 ≤ ixF f.num xs
  · rw [if_neg hv, if_pos hi] at h; cases h
  by_cases hl : 256 ≤ xs.length
  · rw [if_neg hv, if_neg hi, if_pos hl] at h; cases h
  rw [if_neg hv, if_neg hi, if_neg hl]
  have hn := ix_none hr.asc (show ixF f.num xs < 0 by omega)
  have hp := plF_le f.num xs
  have h1 : ∀ y ∈ xs.take (plF f.num xs), y.num < f.num := fun y hy => by
    obtain ⟨j, hj, rfl⟩ := List.getElem_of_mem hy
    simp only [List.length_take] at hj
    have := plF_lt f.num xs j (by omega)
    rw [getElem!_pos xs j (by omega)] at this
    rw [List.getElem_take]; exact this
  have h2 : ∀ y ∈ xs.drop (plF f.num xs), f.num < y.num := fun y hy => by
    have hy2 := hn y (List.mem_of_mem_drop hy)
    obtain ⟨j, hj, rfl⟩ := List.getElem_of_mem hy
    simp only [List.length_drop] at hj
    have := plF_ge f.num xs hr.asc (plF f.num xs + j) (by omega) (by omega)
    rw [getElem!_pos xs _ (by omega)] at this
    rw [List.getElem_drop] at hy2 ⊢
    omega
  have hasc : Asc (xs.take (plF f.num xs) ++ f :: xs.drop (plF f.num xs)) := by
    unfold Asc
    rw [List.pairwise_append, List.pairwise_cons]
    refine ⟨hr.asc.sublist (List.take_sublist _ _), ⟨h2, hr.asc.sublist (List.drop_sublist _ _)⟩, fun a ha b hb => ?_⟩
    rcases List.mem_cons.1 hb with rfl | hb
    · exact h1 a ha
    · have := h1 a ha; have := h2 b hb; omega
  refine ⟨by simpa using hv, hn, hasc, fun y => ?_, by simp; omega, ?_, ?_⟩
  · have e : y ∈ xs ↔ y ∈ xs.take (plF f.num xs) ∨ y ∈ xs.drop (plF f.num xs) := by rw [← List.mem_append, List.take_append_drop]
    rw [e, List.mem_append, List.mem_cons]
    exact ⟨fun h => by rcases h with h | h | h <;> simp [h], fun h => by rcases h with h | h | h <;> simp [h]⟩
  · have hl1 : (xs.take (plF f.num xs)).length = plF f.num xs := by simp; omega
    have hg : (xs.take (plF f.num xs) ++ f :: xs.drop (plF f.num xs))[plF f.num xs]! = f := by
      rw [getElem!_pos _ _ (by simp; omega), List.getElem_append_right (by omega)]
      simp [hl1]
    have hf := find_hit f.num _ hasc (plF f.num xs) (by simp; omega) (by rw [hg])
    unfold dropF
    rw [hf.2.1, if_neg (by omega), ← filter_drop f.num _ hasc _ (by rw [hf.1]; simp; omega) (by rw [hf.1, hg]), List.filter_append, List.filter_cons_of_neg (by simp), ← List.filter_append, List.take_append_drop, List.filter_eq_self.2 (fun y hy => by simpa using hn y hy)]
  · unfold setF
    rw [if_pos (by omega)]
structure SetOk (f : Fi) (xs ys : List Fi) : Prop where
  valid : vB f = true
  asc : Asc ys
  here : f ∈ ys
  mem : ∀ y, y.num ≠ f.num → (y ∈ xs ↔ y ∈ ys)
  sub : ∀ y ∈ ys, y = f ∨ y ∈ xs
  len : ys.length = xs.length
theorem set_ok {f : Fi} {xs : List Fi} (hr : RightP xs) : (setF f xs).2 = 0 → SetOk f xs (setF f xs).1 := by
  intro h
  unfold setF at h ⊢
  by_cases hi : ixF f.num xs < 0
  · rw [if_pos hi] at h; cases h
  by_cases hv : vB f = false
  · rw [if_neg hi, if_pos hv] at h; cases h
  rw [if_neg hi, if_neg hv]
  obtain ⟨hp, hn⟩ : plF f.num xs < xs.length ∧ xs[plF f.num xs]!.num = f.num := by
    rcases ixF_spec f.num xs with e | ⟨h1, h2, _⟩
    · omega
    · exact ⟨h1, h2⟩
  generalize plF f.num xs = p at hp hn
  have hnum : (xs.set p f).map (·.num) = xs.map (·.num) := by
    rw [List.map_set]
    apply List.ext_getElem?
    intro j
    rw [List.getElem?_set]
    split
    · rename_i e
      subst e
      rw [if_pos (by simpa using hp), List.getElem?_map, List.getElem?_eq_getElem hp]
      rw [getElem!_pos xs p hp] at hn
      simp [hn]
    · rfl
  have hasc : Asc (xs.set p f) := by
    have h1 := hr.asc
    unfold Asc
    rw [← List.pairwise_map (f := fun y : Fi => y.num) (R := (· < ·))] at h1 ⊢
    rw [hnum]; exact h1
  refine ⟨by simpa using hv, hasc, List.mem_iff_getElem?.2 ⟨p, by rw [List.getElem?_set_self hp]⟩, fun y hy => ?_, fun y hy => ?_, by simp⟩
  · constructor
    · intro hm
      obtain ⟨j, hj, rfl⟩ := get_of_mem hm
      have hjp : p ≠ j := fun e => by subst e; exact hy hn
      exact List.mem_iff_getElem?.2 ⟨j, by rw [List.getElem?_set_ne hjp, List.getElem?_eq_getElem hj, getElem!_pos xs j hj]⟩
    · intro hm
      rcases List.mem_or_eq_of_mem_set hm with h | h
      · exact h
      · subst h; exact absurd rfl hy
  · rcases List.mem_or_eq_of_mem_set hy with h | h
    · exact .inr h
    · exact .inl h
theorem add_right {f : Fi} {xs : List Fi} (hr : RightP xs) : RightP (addF f xs).1 := by
  by_cases h : (addF f xs).2 = 0
  · have := add_ok hr h
    exact ⟨this.len, fun x hx => ((this.mem x).1 hx).elim (fun e => by rw [e]; exact this.valid) (fun hx => hr.ok x hx), this.asc⟩
  · unfold addF at h ⊢
    split
    · exact hr
    · rename_i h1
      rw [if_neg h1] at h
      split
      · exact hr
      · rename_i h2
        rw [if_neg h2] at h
        split
        · exact hr
        · rename_i h3
          rw [if_neg h3] at h
          exact absurd rfl h
theorem set_right {f : Fi} {xs : List Fi} (hr : RightP xs) : RightP (setF f xs).1 := by
  by_cases h : (setF f xs).2 = 0
  · have := set_ok hr h
    exact ⟨by rw [this.len]; exact hr.len, fun x hx => (this.sub x hx).elim (fun e => by rw [e]; exact this.valid) (fun hx => hr.ok x hx), this.asc⟩
  · unfold setF at h ⊢
    split
    · exact hr
    · rename_i h1
      rw [if_neg h1] at h
      split
      · exact hr
      · rename_i h2
        rw [if_neg h2] at h
        exact absurd rfl h
theorem drop_right {num : Int} {xs : List Fi} (hr : RightP xs) : RightP (dropF num xs).1 := by
  unfold dropF
  split
  · exact hr
  · have hsub : (xs.take (plF num xs) ++ xs.drop (plF num xs + 1)).Sublist xs := by
      conv => rhs; rw [← List.take_append_drop (plF num xs) xs]
      exact (List.Sublist.refl _).append (by rw [← List.drop_drop]; exact List.drop_sublist _ _)
    exact ⟨Nat.le_trans hsub.length_le hr.len, fun x hx => hr.ok x (hsub.subset hx), hr.asc.sublist hsub⟩

set_option maxHeartbeats 16000000 in
set_option maxRecDepth 100000 in
theorem lawBack_calls (f1 f2 : Int) (f3 : ByteArray) (f4 f5 : Bool) (f6 f7 : Int) (num : Int) (ao : Option Addr) (n cap : Nat) (xs : List Fi) (w : World) (h : Sl w 7 ao n cap (xs.map Fi.enc)) :
    Calls Try.prog 7 #[.slice ao n cap, .agg #[.int .i64 f1, .int .i64 f2, .string f3, .bool f4, .bool f5, .int .i64 f6, .int .i64 f7], .int .i64 num] w fun e w' => e = .returned (.bool true) ∧ Below w.heap.size w w' := by
  have HL : Aside (xs.length = n) := Sl.lenE h
  have H : Aside (Sl w 7 ao n cap (xs.map Fi.enc)) := h
  by_cases i1 : 300 < n
  · have hnz : (300 : Int) < (n : Int) := by omega
    clear h H
    go_enter Try.func7, Try.ntmps7
    go_wp2_with fail
    refine (alive_calls _).mono ?_
    rintro e w2 ⟨rfl, hb⟩
    obtain ⟨x9, rfl⟩ := plus_of_below hb
    clear hb
    go_wp2
    go_ret
    refine ⟨rfl, ?_⟩
    repeat (first | (with_reducible exact Below.refl _ _) | (with_reducible assumption) | (with_reducible refine below_to_plus ?_ ?_ _) | (with_reducible refine below_holds ?_ ?_ _ _) | (with_reducible refine Below.alloc ?_ ?_ _) | (with_reducible refine Below.drew ?_) | (with_reducible refine below_drewN ?_ _) | (with_reducible refine Below.setCell ?_ ?_ _))
    all_goals first | omega | (simp; done) | (simp [go_sem]; done) | (simp [go_sem]; omega)
  have hnz : ¬ (300 : Int) < (n : Int) := by omega
  have c1 : ∀ U, Below w.heap.size w U → Calls Try.prog 8 #[.slice ao n cap] U fun e w' => e = .returned (.bool (rightB xs)) ∧ Below U.heap.size U w' := fun U hU => rright_calls ao n cap xs U (h.stays hU)
  cases hr : rightB xs with
  | false =>
    rw [hr] at c1
    clear h H hr
    go_enter Try.func7, Try.ntmps7
    go_wp2_with fail
    refine (c1 _ ?_).mono ?_
    · repeat (first | (with_reducible exact Below.refl _ _) | (with_reducible assumption) | (with_reducible refine below_to_plus ?_ ?_ _) | (with_reducible refine below_holds ?_ ?_ _ _) | (with_reducible refine Below.alloc ?_ ?_ _) | (with_reducible refine Below.drew ?_) | (with_reducible refine below_drewN ?_ _) | (with_reducible refine Below.setCell ?_ ?_ _))
      all_goals first | omega | (simp; done) | (simp [go_sem]; done) | (simp [go_sem]; omega)
    rintro e w2 ⟨rfl, hb⟩
    obtain ⟨x1, rfl⟩ := plus_of_below hb
    clear hb
    go_wp2_with fail
    refine (alive_calls _).mono ?_
    rintro e w2 ⟨rfl, hb⟩
    obtain ⟨x3, rfl⟩ := plus_next hb
    clear hb
    go_wp2
    go_ret
    refine ⟨rfl, ?_⟩
    repeat (first | (with_reducible exact Below.refl _ _) | (with_reducible assumption) | (with_reducible refine below_to_plus ?_ ?_ _) | (with_reducible refine below_holds ?_ ?_ _ _) | (with_reducible refine Below.alloc ?_ ?_ _) | (with_reducible refine Below.drew ?_) | (with_reducible refine below_drewN ?_ _) | (with_reducible refine Below.setCell ?_ ?_ _))
    all_goals first | omega | (simp; done) | (simp [go_sem]; done) | (simp [go_sem]; omega)
  | true =>
  have HR := (rightB_iff xs).1 hr
  rw [hr] at c1
  have c3 : ∀ U, Below w.heap.size w U → Calls Try.prog 20 #[.slice ao n cap, .int .i64 num] U fun e w' => e = .returned (.tuple #[Fi.val (fdF num xs).1, .bool (fdF num xs).2]) ∧ Below U.heap.size U w' := fun U hU => find_calls num ao n cap xs U (h.stays hU)
  have c4 : ∀ U, Below w.heap.size w U → Calls Try.prog 11 #[.slice ao n cap, .agg #[.int .i64 f1, .int .i64 f2, .string f3, .bool f4, .bool f5, .int .i64 f6, .int .i64 f7]] U fun e w' => TPost U (addF ⟨f1, f2, f3, f4, f5, f6, f7⟩ xs) e w' := fun U hU => (add_calls f1 f2 f3 f4 f5 f6 f7 ao n cap xs U (h.stays hU) (by omega)).mono fun e w' hh => .of_own hh
  have c5 : ∀ U, Below w.heap.size w U → Calls Try.prog 13 #[.slice ao n cap, .agg #[.int .i64 f1, .int .i64 f2, .string f3, .bool f4, .bool f5, .int .i64 f6, .int .i64 f7]] U fun e w' => TPost U (setF ⟨f1, f2, f3, f4, f5, f6, f7⟩ xs) e w' := fun U hU => (set_calls f1 f2 f3 f4 f5 f6 f7 ao n cap xs U (h.stays hU) (by omega)).mono fun e w' hh => .of_own hh
  have hA := add_ok (f := ⟨f1, f2, f3, f4, f5, f6, f7⟩) HR
  have hS := set_ok (f := ⟨f1, f2, f3, f4, f5, f6, f7⟩) HR
  generalize hd : fdF num xs = d at c3
  have HD0 : Aside (fdF num xs = d) := hd
  clear hd
  obtain ⟨d, had⟩ := d
  obtain ⟨d1, d2, d3, d4, d5, d6, d7⟩ := d
  have c3 : ∀ U, Below w.heap.size w U → Calls Try.prog 20 #[.slice ao n cap, .int .i64 num] U fun e w' => e = .returned (.tuple #[.agg #[.int .i64 d1, .int .i64 d2, .string d3, .bool d4, .bool d5, .int .i64 d6, .int .i64 d7], .bool had]) ∧ Below U.heap.size U w' := c3
  have nqd := fun w => neq_fi d1 d2 d3 d4 d5 d6 d7 d1 d2 d3 d4 d5 d6 d7 w
  rw [eqFi_refl] at nqd
  have nqf := fun w => neq_fi f1 f2 f3 f4 f5 f6 f7 f1 f2 f3 f4 f5 f6 f7 w
  rw [eqFi_refl] at nqf
  by_cases hea : (addF ⟨f1, f2, f3, f4, f5, f6, f7⟩ xs).2 = 0
  · have hA1 := hA hea
    rw [hA1.set] at c5
    clear hA hS hr
    generalize hya : addF ⟨f1, f2, f3, f4, f5, f6, f7⟩ xs = ra at c4 hea hA1
    clear hya
    obtain ⟨ya, ea⟩ := ra
    simp only [] at hea hA1
    subst hea
    have AO : Aside (AddOk ⟨f1, f2, f3, f4, f5, f6, f7⟩ xs ya) := hA1
    have hyn : ya.length ≤ 256 := hA1.len
    have c6 : ∀ U a c, Sl U 7 a ya.length c (ya.map Fi.enc) → Calls Try.prog 20 #[.slice a ya.length c, .int .i64 f1] U fun e w' => e = .returned (.tuple #[.agg #[.int .i64 f1, .int .i64 f2, .string f3, .bool f4, .bool f5, .int .i64 f6, .int .i64 f7], .bool true]) ∧ Below U.heap.size U w' := fun U a c hU => by
      have := find_calls f1 a ya.length c ya U hU
      rw [fd_of_mem AO.out.asc ((AO.out.mem ⟨f1, f2, f3, f4, f5, f6, f7⟩).2 (.inl rfl))] at this; exact this
    have c7 : ∀ U a c, Sl U 7 a ya.length c (ya.map Fi.enc) → Calls Try.prog 15 #[.slice a ya.length c, .int .i64 f1] U fun e w' => TPost U (xs, 0) e w' := fun U a c hU => by
      have := drop_calls f1 a ya.length c ya U hU (by omega)
      rw [AO.out.back] at this
      exact this.mono fun e w' hh => .of_own hh
    clear hA1
    by_cases hnm : num = f1
    · have hne : (num != f1) = false := by simp [hnm]
      generalize hd2 : fdF num ya = d2
      obtain ⟨d2, had2⟩ := d2
      obtain ⟨e1, e2, e3, e4, e5, e6, e7⟩ := d2
      have c8 : ∀ U a c, Sl U 7 a ya.length c (ya.map Fi.enc) → Calls Try.prog 20 #[.slice a ya.length c, .int .i64 num] U fun e w' => e = .returned (.tuple #[.agg #[.int .i64 e1, .int .i64 e2, .string e3, .bool e4, .bool e5, .int .i64 e6, .int .i64 e7], .bool had2]) ∧ Below U.heap.size U w' := fun U a c hU => by
        have := find_calls num a ya.length c ya U hU
        rw [hd2] at this; exact this
      clear hd2 hnm HR AO HD0 hyn
      have HB : Aside (Below w.heap.size w (w.alloc (.cells #[.int .i64 f1, .int .i64 f2, .string f3, .bool f4, .bool f5, .int .i64 f6, .int .i64 f7] 24))) := by
        show Below _ _ _
        repeat (first | (with_reducible exact Below.refl _ _) | (with_reducible assumption) | (with_reducible refine below_to_plus ?_ ?_ _) | (with_reducible refine below_holds ?_ ?_ _ _) | (with_reducible refine Below.alloc ?_ ?_ _) | (with_reducible refine Below.drew ?_) | (with_reducible refine below_drewN ?_ _) | (with_reducible refine Below.setCell ?_ ?_ _))
        all_goals first | omega | (simp; done) | (simp [go_sem]; done) | (simp [go_sem]; omega)
      have HF : Aside (((w.alloc (.cells #[.int .i64 f1, .int .i64 f2, .string f3, .bool f4, .bool f5, .int .i64 f6, .int .i64 f7] 24))).heap[w.heap.size]? = some (.cells #[.int .i64 f1, .int .i64 f2, .string f3, .bool f4, .bool f5, .int .i64 f6, .int .i64 f7] 24 (0, 0))) := hp_new rfl
      have SL : Aside (Sl (w.alloc (.cells #[.int .i64 f1, .int .i64 f2, .string f3, .bool f4, .bool f5, .int .i64 f6, .int .i64 f7] 24)) 7 ao n cap (xs.map Fi.enc)) := H.out.stays HB.out
      clear H h
      go_enter Try.func7, Try.ntmps7
      go_wp2_with fail
      refine (c1 _ HB.out).mono ?_
      rintro e w1 ⟨rfl, hb⟩
      have HF' : Aside (w1.heap[w.heap.size]? = some (.cells #[.int .i64 f1, .int .i64 f2, .string f3, .bool f4, .bool f5, .int .i64 f6, .int .i64 f7] 24 (0, 0))) := heap_later HF.out hb
      have SL' : Aside (Sl w1 7 ao n cap (xs.map Fi.enc)) := SL.out.stays hb
      have HB' : Aside (Below w.heap.size w w1) := HB.out.trans (hb.mono HB.out.size)
      clear hb HB HF SL
      have HF : Aside (w1.heap[w.heap.size]? = some (.cells #[.int .i64 f1, .int .i64 f2, .string f3, .bool f4, .bool f5, .int .i64 f6, .int .i64 f7] 24 (0, 0))) := HF'.out
      clear HF'
      have SL : Aside (Sl w1 7 ao n cap (xs.map Fi.enc)) := SL'.out
      clear SL'
      have HB : Aside (Below w.heap.size w w1) := HB'.out
      clear HB'
      go_wp2_with fail
      refine (c3 _ HB.out).mono ?_
      rintro e w2 ⟨rfl, hb⟩
      have HF' : Aside (w2.heap[w.heap.size]? = some (.cells #[.int .i64 f1, .int .i64 f2, .string f3, .bool f4, .bool f5, .int .i64 f6, .int .i64 f7] 24 (0, 0))) := heap_later HF.out hb
      have SL' : Aside (Sl w2 7 ao n cap (xs.map Fi.enc)) := SL.out.stays hb
      have HB' : Aside (Below w.heap.size w w2) := HB.out.trans (hb.mono HB.out.size)
      clear hb HB HF SL
      have HF : Aside (w2.heap[w.heap.size]? = some (.cells #[.int .i64 f1, .int .i64 f2, .string f3, .bool f4, .bool f5, .int .i64 f6, .int .i64 f7] 24 (0, 0))) := HF'.out
      clear HF'
      have SL : Aside (Sl w2 7 ao n cap (xs.map Fi.enc)) := SL'.out
      clear SL'
      have HB : Aside (Below w.heap.size w w2) := HB'.out
      clear HB'
      have hfc0 := cell_heap HF.out 0 _ rfl
      have hfc1 := cell_heap HF.out 1 _ rfl
      have hfc2 := cell_heap HF.out 2 _ rfl
      have hfc3 := cell_heap HF.out 3 _ rfl
      have hfc4 := cell_heap HF.out 4 _ rfl
      have hfc5 := cell_heap HF.out 5 _ rfl
      have hfc6 := cell_heap HF.out 6 _ rfl
      have hfclt : w.heap.size < w2.heap.size := (Array.getElem?_eq_some_iff.1 HF.out).1
      have HF' : Aside ((w2.alloc (.cells #[.int .i64 d1, .int .i64 d2, .string d3, .bool d4, .bool d5, .int .i64 d6, .int .i64 d7] 24)).heap[w.heap.size]? = some (.cells #[.int .i64 f1, .int .i64 f2, .string f3, .bool f4, .bool f5, .int .i64 f6, .int .i64 f7] 24 (0, 0))) := hp_old HF.out
      have SL' : Aside (Sl (w2.alloc (.cells #[.int .i64 d1, .int .i64 d2, .string d3, .bool d4, .bool d5, .int .i64 d6, .int .i64 d7] 24)) 7 ao n cap (xs.map Fi.enc)) := SL.out.stays ((Below.refl _ _).alloc (Nat.le_refl _) _)
      have HD' : Aside ((w2.alloc (.cells #[.int .i64 d1, .int .i64 d2, .string d3, .bool d4, .bool d5, .int .i64 d6, .int .i64 d7] 24)).heap[w2.heap.size]? = some (.cells #[.int .i64 d1, .int .i64 d2, .string d3, .bool d4, .bool d5, .int .i64 d6, .int .i64 d7] 24 (0, 0))) := hp_new rfl
      have HB' : Aside (Below w.heap.size w (w2.alloc (.cells #[.int .i64 d1, .int .i64 d2, .string d3, .bool d4, .bool d5, .int .i64 d6, .int .i64 d7] 24))) := HB.out.alloc HB.out.size _
      clear HB HF SL
      go_wp2_with fail
      clear hfc0 hfc1 hfc2 hfc3 hfc4 hfc5 hfc6 hfclt
      generalize (w2.alloc (.cells #[.int .i64 d1, .int .i64 d2, .string d3, .bool d4, .bool d5, .int .i64 d6, .int .i64 d7] 24)) = v2 at HF' SL' HD' HB' ⊢
      generalize w2.heap.size = bd at HD' ⊢
      have HF : Aside (v2.heap[w.heap.size]? = some (.cells #[.int .i64 f1, .int .i64 f2, .string f3, .bool f4, .bool f5, .int .i64 f6, .int .i64 f7] 24 (0, 0))) := HF'.out
      clear HF'
      have SL : Aside (Sl v2 7 ao n cap (xs.map Fi.enc)) := SL'.out
      clear SL'
      have HD : Aside (v2.heap[bd]? = some (.cells #[.int .i64 d1, .int .i64 d2, .string d3, .bool d4, .bool d5, .int .i64 d6, .int .i64 d7] 24 (0, 0))) := HD'.out
      clear HD'
      have HB : Aside (Below w.heap.size w v2) := HB'.out
      clear HB'
      refine (c4 _ HB.out).mono ?_
      rintro e w3 ⟨aa, ka, rfl, hSA, hb⟩
      have HF' : Aside (w3.heap[w.heap.size]? = some (.cells #[.int .i64 f1, .int .i64 f2, .string f3, .bool f4, .bool f5, .int .i64 f6, .int .i64 f7] 24 (0, 0))) := heap_later HF.out hb
      have SL' : Aside (Sl w3 7 ao n cap (xs.map Fi.enc)) := SL.out.stays hb
      have HD' : Aside (w3.heap[bd]? = some (.cells #[.int .i64 d1, .int .i64 d2, .string d3, .bool d4, .bool d5, .int .i64 d6, .int .i64 d7] 24 (0, 0))) := heap_later HD.out hb
      have SA' : Aside (Sl w3 7 aa ya.length ka (ya.map Fi.enc)) := hSA
      have HB' : Aside (Below w.heap.size w w3) := HB.out.trans (hb.mono HB.out.size)
      clear hb HB HF SL HD hSA
      have HF : Aside (w3.heap[w.heap.size]? = some (.cells #[.int .i64 f1, .int .i64 f2, .string f3, .bool f4, .bool f5, .int .i64 f6, .int .i64 f7] 24 (0, 0))) := HF'.out
      clear HF'
      have SL : Aside (Sl w3 7 ao n cap (xs.map Fi.enc)) := SL'.out
      clear SL'
      have HD : Aside (w3.heap[bd]? = some (.cells #[.int .i64 d1, .int .i64 d2, .string d3, .bool d4, .bool d5, .int .i64 d6, .int .i64 d7] 24 (0, 0))) := HD'.out
      clear HD'
      have SA : Aside (Sl w3 7 aa ya.length ka (ya.map Fi.enc)) := SA'.out
      clear SA'
      have HB : Aside (Below w.heap.size w w3) := HB'.out
      clear HB'
      have hfc0 := cell_heap HF.out 0 _ rfl
      have hfc1 := cell_heap HF.out 1 _ rfl
      have hfc2 := cell_heap HF.out 2 _ rfl
      have hfc3 := cell_heap HF.out 3 _ rfl
      have hfc4 := cell_heap HF.out 4 _ rfl
      have hfc5 := cell_heap HF.out 5 _ rfl
      have hfc6 := cell_heap HF.out 6 _ rfl
      have hfclt : w.heap.size < w3.heap.size := (Array.getElem?_eq_some_iff.1 HF.out).1
      go_wp2_with fail
      refine (c6 _ _ _ SA.out).mono ?_
      rintro e w4 ⟨rfl, hb⟩
      have HF' : Aside (w4.heap[w.heap.size]? = some (.cells #[.int .i64 f1, .int .i64 f2, .string f3, .bool f4, .bool f5, .int .i64 f6, .int .i64 f7] 24 (0, 0))) := heap_later HF.out hb
      have SL' : Aside (Sl w4 7 ao n cap (xs.map Fi.enc)) := SL.out.stays hb
      have HD' : Aside (w4.heap[bd]? = some (.cells #[.int .i64 d1, .int .i64 d2, .string d3, .bool d4, .bool d5, .int .i64 d6, .int .i64 d7] 24 (0, 0))) := heap_later HD.out hb
      have SA' : Aside (Sl w4 7 aa ya.length ka (ya.map Fi.enc)) := SA.out.stays hb
      have HB' : Aside (Below w.heap.size w w4) := HB.out.trans (hb.mono HB.out.size)
      clear hb HB HF SL HD SA hfc0 hfc1 hfc2 hfc3 hfc4 hfc5 hfc6 hfclt
      have HF : Aside (w4.heap[w.heap.size]? = some (.cells #[.int .i64 f1, .int .i64 f2, .string f3, .bool f4, .bool f5, .int .i64 f6, .int .i64 f7] 24 (0, 0))) := HF'.out
      clear HF'
      have SL : Aside (Sl w4 7 ao n cap (xs.map Fi.enc)) := SL'.out
      clear SL'
      have HD : Aside (w4.heap[bd]? = some (.cells #[.int .i64 d1, .int .i64 d2, .string d3, .bool d4, .bool d5, .int .i64 d6, .int .i64 d7] 24 (0, 0))) := HD'.out
      clear HD'
      have SA : Aside (Sl w4 7 aa ya.length ka (ya.map Fi.enc)) := SA'.out
      clear SA'
      have HB : Aside (Below w.heap.size w w4) := HB'.out
      clear HB'
      have hfc0 := cell_heap HF.out 0 _ rfl
      have hfc1 := cell_heap HF.out 1 _ rfl
      have hfc2 := cell_heap HF.out 2 _ rfl
      have hfc3 := cell_heap HF.out 3 _ rfl
      have hfc4 := cell_heap HF.out 4 _ rfl
      have hfc5 := cell_heap HF.out 5 _ rfl
      have hfc6 := cell_heap HF.out 6 _ rfl
      have hfclt : w.heap.size < w4.heap.size := (Array.getElem?_eq_some_iff.1 HF.out).1
      have HF' : Aside ((w4.alloc (.cells #[.int .i64 f1, .int .i64 f2, .string f3, .bool f4, .bool f5, .int .i64 f6, .int .i64 f7] 24)).heap[w.heap.size]? = some (.cells #[.int .i64 f1, .int .i64 f2, .string f3, .bool f4, .bool f5, .int .i64 f6, .int .i64 f7] 24 (0, 0))) := hp_old HF.out
      have SL' : Aside (Sl (w4.alloc (.cells #[.int .i64 f1, .int .i64 f2, .string f3, .bool f4, .bool f5, .int .i64 f6, .int .i64 f7] 24)) 7 ao n cap (xs.map Fi.enc)) := SL.out.stays ((Below.refl _ _).alloc (Nat.le_refl _) _)
      have HD' : Aside ((w4.alloc (.cells #[.int .i64 f1, .int .i64 f2, .string f3, .bool f4, .bool f5, .int .i64 f6, .int .i64 f7] 24)).heap[bd]? = some (.cells #[.int .i64 d1, .int .i64 d2, .string d3, .bool d4, .bool d5, .int .i64 d6, .int .i64 d7] 24 (0, 0))) := hp_old HD.out
      have SA' : Aside (Sl (w4.alloc (.cells #[.int .i64 f1, .int .i64 f2, .string f3, .bool f4, .bool f5, .int .i64 f6, .int .i64 f7] 24)) 7 aa ya.length ka (ya.map Fi.enc)) := SA.out.stays ((Below.refl _ _).alloc (Nat.le_refl _) _)
      have HG' : Aside ((w4.alloc (.cells #[.int .i64 f1, .int .i64 f2, .string f3, .bool f4, .bool f5, .int .i64 f6, .int .i64 f7] 24)).heap[w4.heap.size]? = some (.cells #[.int .i64 f1, .int .i64 f2, .string f3, .bool f4, .bool f5, .int .i64 f6, .int .i64 f7] 24 (0, 0))) := hp_new rfl
      have HB' : Aside (Below w.heap.size w (w4.alloc (.cells #[.int .i64 f1, .int .i64 f2, .string f3, .bool f4, .bool f5, .int .i64 f6, .int .i64 f7] 24))) := HB.out.alloc HB.out.size _
      clear HB HF SL HD SA
      go_wp2_with fail
      clear hfc0 hfc1 hfc2 hfc3 hfc4 hfc5 hfc6 hfclt
      generalize (w4.alloc (.cells #[.int .i64 f1, .int .i64 f2, .string f3, .bool f4, .bool f5, .int .i64 f6, .int .i64 f7] 24)) = v4 at HF' SL' HD' SA' HG' HB' ⊢
      generalize w4.heap.size = bg at HG' ⊢
      have HF : Aside (v4.heap[w.heap.size]? = some (.cells #[.int .i64 f1, .int .i64 f2, .string f3, .bool f4, .bool f5, .int .i64 f6, .int .i64 f7] 24 (0, 0))) := HF'.out
      clear HF'
      have SL : Aside (Sl v4 7 ao n cap (xs.map Fi.enc)) := SL'.out
      clear SL'
      have HD : Aside (v4.heap[bd]? = some (.cells #[.int .i64 d1, .int .i64 d2, .string d3, .bool d4, .bool d5, .int .i64 d6, .int .i64 d7] 24 (0, 0))) := HD'.out
      clear HD'
      have SA : Aside (Sl v4 7 aa ya.length ka (ya.map Fi.enc)) := SA'.out
      clear SA'
      have HG : Aside (v4.heap[bg]? = some (.cells #[.int .i64 f1, .int .i64 f2, .string f3, .bool f4, .bool f5, .int .i64 f6, .int .i64 f7] 24 (0, 0))) := HG'.out
      clear HG'
      have HB : Aside (Below w.heap.size w v4) := HB'.out
      clear HB'
      refine (c7 _ _ _ SA.out).mono ?_
      rintro e w5 ⟨ab, kb, rfl, hSB, hb⟩
      have HF' : Aside (w5.heap[w.heap.size]? = some (.cells #[.int .i64 f1, .int .i64 f2, .string f3, .bool f4, .bool f5, .int .i64 f6, .int .i64 f7] 24 (0, 0))) := heap_later HF.out hb
      have SL' : Aside (Sl w5 7 ao n cap (xs.map Fi.enc)) := SL.out.stays hb
      have HD' : Aside (w5.heap[bd]? = some (.cells #[.int .i64 d1, .int .i64 d2, .string d3, .bool d4, .bool d5, .int .i64 d6, .int .i64 d7] 24 (0, 0))) := heap_later HD.out hb
      have SA' : Aside (Sl w5 7 aa ya.length ka (ya.map Fi.enc)) := SA.out.stays hb
      have HG' : Aside (w5.heap[bg]? = some (.cells #[.int .i64 f1, .int .i64 f2, .string f3, .bool f4, .bool f5, .int .i64 f6, .int .i64 f7] 24 (0, 0))) := heap_later HG.out hb
      have SB' : Aside (Sl w5 7 ab xs.length kb (xs.map Fi.enc)) := hSB
      have HB' : Aside (Below w.heap.size w w5) := HB.out.trans (hb.mono HB.out.size)
      clear hb HB HF SL HD SA HG hSB
      have HF : Aside (w5.heap[w.heap.size]? = some (.cells #[.int .i64 f1, .int .i64 f2, .string f3, .bool f4, .bool f5, .int .i64 f6, .int .i64 f7] 24 (0, 0))) := HF'.out
      clear HF'
      have SL : Aside (Sl w5 7 ao n cap (xs.map Fi.enc)) := SL'.out
      clear SL'
      have HD : Aside (w5.heap[bd]? = some (.cells #[.int .i64 d1, .int .i64 d2, .string d3, .bool d4, .bool d5, .int .i64 d6, .int .i64 d7] 24 (0, 0))) := HD'.out
      clear HD'
      have SA : Aside (Sl w5 7 aa ya.length ka (ya.map Fi.enc)) := SA'.out
      clear SA'
      have HG : Aside (w5.heap[bg]? = some (.cells #[.int .i64 f1, .int .i64 f2, .string f3, .bool f4, .bool f5, .int .i64 f6, .int .i64 f7] 24 (0, 0))) := HG'.out
      clear HG'
      have SB : Aside (Sl w5 7 ab xs.length kb (xs.map Fi.enc)) := SB'.out
      clear SB'
      have HB : Aside (Below w.heap.size w w5) := HB'.out
      clear HB'
      go_wp2_with fail
      refine (c8 _ _ _ SA.out).mono ?_
      rintro e w6 ⟨rfl, hb⟩
      have HF' : Aside (w6.heap[w.heap.size]? = some (.cells #[.int .i64 f1, .int .i64 f2, .string f3, .bool f4, .bool f5, .int .i64 f6, .int .i64 f7] 24 (0, 0))) := heap_later HF.out hb
      have SL' : Aside (Sl w6 7 ao n cap (xs.map Fi.enc)) := SL.out.stays hb
      have HD' : Aside (w6.heap[bd]? = some (.cells #[.int .i64 d1, .int .i64 d2, .string d3, .bool d4, .bool d5, .int .i64 d6, .int .i64 d7] 24 (0, 0))) := heap_later HD.out hb
      have SA' : Aside (Sl w6 7 aa ya.length ka (ya.map Fi.enc)) := SA.out.stays hb
      have HG' : Aside (w6.heap[bg]? = some (.cells #[.int .i64 f1, .int .i64 f2, .string f3, .bool f4, .bool f5, .int .i64 f6, .int .i64 f7] 24 (0, 0))) := heap_later HG.out hb
      have SB' : Aside (Sl w6 7 ab xs.length kb (xs.map Fi.enc)) := SB.out.stays hb
      have HB' : Aside (Below w.heap.size w w6) := HB.out.trans (hb.mono HB.out.size)
      clear hb HB HF SL HD SA HG SB
      have HF : Aside (w6.heap[w.heap.size]? = some (.cells #[.int .i64 f1, .int .i64 f2, .string f3, .bool f4, .bool f5, .int .i64 f6, .int .i64 f7] 24 (0, 0))) := HF'.out
      clear HF'
      have SL : Aside (Sl w6 7 ao n cap (xs.map Fi.enc)) := SL'.out
      clear SL'
      have HD : Aside (w6.heap[bd]? = some (.cells #[.int .i64 d1, .int .i64 d2, .string d3, .bool d4, .bool d5, .int .i64 d6, .int .i64 d7] 24 (0, 0))) := HD'.out
      clear HD'
      have SA : Aside (Sl w6 7 aa ya.length ka (ya.map Fi.enc)) := SA'.out
      clear SA'
      have HG : Aside (w6.heap[bg]? = some (.cells #[.int .i64 f1, .int .i64 f2, .string f3, .bool f4, .bool f5, .int .i64 f6, .int .i64 f7] 24 (0, 0))) := HG'.out
      clear HG'
      have SB : Aside (Sl w6 7 ab xs.length kb (xs.map Fi.enc)) := SB'.out
      clear SB'
      have HB : Aside (Below w.heap.size w w6) := HB'.out
      clear HB'
      have hfc0 := cell_heap HF.out 0 _ rfl
      have hfc1 := cell_heap HF.out 1 _ rfl
      have hfc2 := cell_heap HF.out 2 _ rfl
      have hfc3 := cell_heap HF.out 3 _ rfl
      have hfc4 := cell_heap HF.out 4 _ rfl
      have hfc5 := cell_heap HF.out 5 _ rfl
      have hfc6 := cell_heap HF.out 6 _ rfl
      have hfclt : w.heap.size < w6.heap.size := (Array.getElem?_eq_some_iff.1 HF.out).1
      have hgc0 := cell_heap HG.out 0 _ rfl
      have hgc1 := cell_heap HG.out 1 _ rfl
      have hgc2 := cell_heap HG.out 2 _ rfl
      have hgc3 := cell_heap HG.out 3 _ rfl
      have hgc4 := cell_heap HG.out 4 _ rfl
      have hgc5 := cell_heap HG.out 5 _ rfl
      have hgc6 := cell_heap HG.out 6 _ rfl
      have hgclt : bg < w6.heap.size := (Array.getElem?_eq_some_iff.1 HG.out).1
      have HF' : Aside ((w6.alloc (.cells #[.int .i64 e1, .int .i64 e2, .string e3, .bool e4, .bool e5, .int .i64 e6, .int .i64 e7] 24)).heap[w.heap.size]? = some (.cells #[.int .i64 f1, .int .i64 f2, .string f3, .bool f4, .bool f5, .int .i64 f6, .int .i64 f7] 24 (0, 0))) := hp_old HF.out
      have SL' : Aside (Sl (w6.alloc (.cells #[.int .i64 e1, .int .i64 e2, .string e3, .bool e4, .bool e5, .int .i64 e6, .int .i64 e7] 24)) 7 ao n cap (xs.map Fi.enc)) := SL.out.stays ((Below.refl _ _).alloc (Nat.le_refl _) _)
      have HD' : Aside ((w6.alloc (.cells #[.int .i64 e1, .int .i64 e2, .string e3, .bool e4, .bool e5, .int .i64 e6, .int .i64 e7] 24)).heap[bd]? = some (.cells #[.int .i64 d1, .int .i64 d2, .string d3, .bool d4, .bool d5, .int .i64 d6, .int .i64 d7] 24 (0, 0))) := hp_old HD.out
      have SA' : Aside (Sl (w6.alloc (.cells #[.int .i64 e1, .int .i64 e2, .string e3, .bool e4, .bool e5, .int .i64 e6, .int .i64 e7] 24)) 7 aa ya.length ka (ya.map Fi.enc)) := SA.out.stays ((Below.refl _ _).alloc (Nat.le_refl _) _)
      have HG' : Aside ((w6.alloc (.cells #[.int .i64 e1, .int .i64 e2, .string e3, .bool e4, .bool e5, .int .i64 e6, .int .i64 e7] 24)).heap[bg]? = some (.cells #[.int .i64 f1, .int .i64 f2, .string f3, .bool f4, .bool f5, .int .i64 f6, .int .i64 f7] 24 (0, 0))) := hp_old HG.out
      have SB' : Aside (Sl (w6.alloc (.cells #[.int .i64 e1, .int .i64 e2, .string e3, .bool e4, .bool e5, .int .i64 e6, .int .i64 e7] 24)) 7 ab xs.length kb (xs.map Fi.enc)) := SB.out.stays ((Below.refl _ _).alloc (Nat.le_refl _) _)
      have HN' : Aside ((w6.alloc (.cells #[.int .i64 e1, .int .i64 e2, .string e3, .bool e4, .bool e5, .int .i64 e6, .int .i64 e7] 24)).heap[w6.heap.size]? = some (.cells #[.int .i64 e1, .int .i64 e2, .string e3, .bool e4, .bool e5, .int .i64 e6, .int .i64 e7] 24 (0, 0))) := hp_new rfl
      have HB' : Aside (Below w.heap.size w (w6.alloc (.cells #[.int .i64 e1, .int .i64 e2, .string e3, .bool e4, .bool e5, .int .i64 e6, .int .i64 e7] 24))) := HB.out.alloc HB.out.size _
      clear HB HF SL HD SA HG SB
      go_wp2_with fail
      clear hfc0 hfc1 hfc2 hfc3 hfc4 hfc5 hfc6 hfclt hgc0 hgc1 hgc2 hgc3 hgc4 hgc5 hgc6 hgclt
      generalize (w6.alloc (.cells #[.int .i64 e1, .int .i64 e2, .string e3, .bool e4, .bool e5, .int .i64 e6, .int .i64 e7] 24)) = v6 at HF' SL' HD' SA' HG' SB' HN' HB' ⊢
      generalize w6.heap.size = bn at HN' ⊢
      have HF : Aside (v6.heap[w.heap.size]? = some (.cells #[.int .i64 f1, .int .i64 f2, .string f3, .bool f4, .bool f5, .int .i64 f6, .int .i64 f7] 24 (0, 0))) := HF'.out
      clear HF'
      have SL : Aside (Sl v6 7 ao n cap (xs.map Fi.enc)) := SL'.out
      clear SL'
      have HD : Aside (v6.heap[bd]? = some (.cells #[.int .i64 d1, .int .i64 d2, .string d3, .bool d4, .bool d5, .int .i64 d6, .int .i64 d7] 24 (0, 0))) := HD'.out
      clear HD'
      have SA : Aside (Sl v6 7 aa ya.length ka (ya.map Fi.enc)) := SA'.out
      clear SA'
      have HG : Aside (v6.heap[bg]? = some (.cells #[.int .i64 f1, .int .i64 f2, .string f3, .bool f4, .bool f5, .int .i64 f6, .int .i64 f7] 24 (0, 0))) := HG'.out
      clear HG'
      have SB : Aside (Sl v6 7 ab xs.length kb (xs.map Fi.enc)) := SB'.out
      clear SB'
      have HN : Aside (v6.heap[bn]? = some (.cells #[.int .i64 e1, .int .i64 e2, .string e3, .bool e4, .bool e5, .int .i64 e6, .int .i64 e7] 24 (0, 0))) := HN'.out
      clear HN'
      have HB : Aside (Below w.heap.size w v6) := HB'.out
      clear HB'
      refine ((show Calls Try.prog 17 _ _ (fun e w' => e = .returned (.bool true) ∧ Below _ _ w') from by have := same_calls _ _ _ _ _ _ _ _ _ SB.out SL.out; rwa [(same_iff _ _).2 rfl] at this)).mono ?_
      rintro e w7 ⟨rfl, hb⟩
      have HF' : Aside (w7.heap[w.heap.size]? = some (.cells #[.int .i64 f1, .int .i64 f2, .string f3, .bool f4, .bool f5, .int .i64 f6, .int .i64 f7] 24 (0, 0))) := heap_later HF.out hb
      have SL' : Aside (Sl w7 7 ao n cap (xs.map Fi.enc)) := SL.out.stays hb
      have HD' : Aside (w7.heap[bd]? = some (.cells #[.int .i64 d1, .int .i64 d2, .string d3, .bool d4, .bool d5, .int .i64 d6, .int .i64 d7] 24 (0, 0))) := heap_later HD.out hb
      have HG' : Aside (w7.heap[bg]? = some (.cells #[.int .i64 f1, .int .i64 f2, .string f3, .bool f4, .bool f5, .int .i64 f6, .int .i64 f7] 24 (0, 0))) := heap_later HG.out hb
      have HN' : Aside (w7.heap[bn]? = some (.cells #[.int .i64 e1, .int .i64 e2, .string e3, .bool e4, .bool e5, .int .i64 e6, .int .i64 e7] 24 (0, 0))) := heap_later HN.out hb
      have HB' : Aside (Below w.heap.size w w7) := HB.out.trans (hb.mono HB.out.size)
      clear hb HB HF SL HD HG HN SB SA
      have HF : Aside (w7.heap[w.heap.size]? = some (.cells #[.int .i64 f1, .int .i64 f2, .string f3, .bool f4, .bool f5, .int .i64 f6, .int .i64 f7] 24 (0, 0))) := HF'.out
      clear HF'
      have SL : Aside (Sl w7 7 ao n cap (xs.map Fi.enc)) := SL'.out
      clear SL'
      have HD : Aside (w7.heap[bd]? = some (.cells #[.int .i64 d1, .int .i64 d2, .string d3, .bool d4, .bool d5, .int .i64 d6, .int .i64 d7] 24 (0, 0))) := HD'.out
      clear HD'
      have HG : Aside (w7.heap[bg]? = some (.cells #[.int .i64 f1, .int .i64 f2, .string f3, .bool f4, .bool f5, .int .i64 f6, .int .i64 f7] 24 (0, 0))) := HG'.out
      clear HG'
      have HN : Aside (w7.heap[bn]? = some (.cells #[.int .i64 e1, .int .i64 e2, .string e3, .bool e4, .bool e5, .int .i64 e6, .int .i64 e7] 24 (0, 0))) := HN'.out
      clear HN'
      have HB : Aside (Below w.heap.size w w7) := HB'.out
      clear HB'
      have hfc0 := cell_heap HF.out 0 _ rfl
      have hfc1 := cell_heap HF.out 1 _ rfl
      have hfc2 := cell_heap HF.out 2 _ rfl
      have hfc3 := cell_heap HF.out 3 _ rfl
      have hfc4 := cell_heap HF.out 4 _ rfl
      have hfc5 := cell_heap HF.out 5 _ rfl
      have hfc6 := cell_heap HF.out 6 _ rfl
      have hfclt : w.heap.size < w7.heap.size := (Array.getElem?_eq_some_iff.1 HF.out).1
      go_wp2_with fail
      refine (c5 _ HB.out).mono ?_
      rintro e w8 ⟨ac, kc, rfl, _, hb⟩
      have HF' : Aside (w8.heap[w.heap.size]? = some (.cells #[.int .i64 f1, .int .i64 f2, .string f3, .bool f4, .bool f5, .int .i64 f6, .int .i64 f7] 24 (0, 0))) := heap_later HF.out hb
      have SL' : Aside (Sl w8 7 ao n cap (xs.map Fi.enc)) := SL.out.stays hb
      have HD' : Aside (w8.heap[bd]? = some (.cells #[.int .i64 d1, .int .i64 d2, .string d3, .bool d4, .bool d5, .int .i64 d6, .int .i64 d7] 24 (0, 0))) := heap_later HD.out hb
      have HG' : Aside (w8.heap[bg]? = some (.cells #[.int .i64 f1, .int .i64 f2, .string f3, .bool f4, .bool f5, .int .i64 f6, .int .i64 f7] 24 (0, 0))) := heap_later HG.out hb
      have HN' : Aside (w8.heap[bn]? = some (.cells #[.int .i64 e1, .int .i64 e2, .string e3, .bool e4, .bool e5, .int .i64 e6, .int .i64 e7] 24 (0, 0))) := heap_later HN.out hb
      have HB' : Aside (Below w.heap.size w w8) := HB.out.trans (hb.mono HB.out.size)
      clear hb HB HF SL HD HG HN hfc0 hfc1 hfc2 hfc3 hfc4 hfc5 hfc6 hfclt
      have HF : Aside (w8.heap[w.heap.size]? = some (.cells #[.int .i64 f1, .int .i64 f2, .string f3, .bool f4, .bool f5, .int .i64 f6, .int .i64 f7] 24 (0, 0))) := HF'.out
      clear HF'
      have SL : Aside (Sl w8 7 ao n cap (xs.map Fi.enc)) := SL'.out
      clear SL'
      have HD : Aside (w8.heap[bd]? = some (.cells #[.int .i64 d1, .int .i64 d2, .string d3, .bool d4, .bool d5, .int .i64 d6, .int .i64 d7] 24 (0, 0))) := HD'.out
      clear HD'
      have HG : Aside (w8.heap[bg]? = some (.cells #[.int .i64 f1, .int .i64 f2, .string f3, .bool f4, .bool f5, .int .i64 f6, .int .i64 f7] 24 (0, 0))) := HG'.out
      clear HG'
      have HN : Aside (w8.heap[bn]? = some (.cells #[.int .i64 e1, .int .i64 e2, .string e3, .bool e4, .bool e5, .int .i64 e6, .int .i64 e7] 24 (0, 0))) := HN'.out
      clear HN'
      have HB : Aside (Below w.heap.size w w8) := HB'.out
      clear HB'
      go_wp2_with fail
      refine (alive_calls _).mono ?_
      rintro e w9 ⟨rfl, hb⟩
      have HF' : Aside (w9.heap[w.heap.size]? = some (.cells #[.int .i64 f1, .int .i64 f2, .string f3, .bool f4, .bool f5, .int .i64 f6, .int .i64 f7] 24 (0, 0))) := heap_later HF.out hb
      have SL' : Aside (Sl w9 7 ao n cap (xs.map Fi.enc)) := SL.out.stays hb
      have HD' : Aside (w9.heap[bd]? = some (.cells #[.int .i64 d1, .int .i64 d2, .string d3, .bool d4, .bool d5, .int .i64 d6, .int .i64 d7] 24 (0, 0))) := heap_later HD.out hb
      have HG' : Aside (w9.heap[bg]? = some (.cells #[.int .i64 f1, .int .i64 f2, .string f3, .bool f4, .bool f5, .int .i64 f6, .int .i64 f7] 24 (0, 0))) := heap_later HG.out hb
      have HN' : Aside (w9.heap[bn]? = some (.cells #[.int .i64 e1, .int .i64 e2, .string e3, .bool e4, .bool e5, .int .i64 e6, .int .i64 e7] 24 (0, 0))) := heap_later HN.out hb
      have HB' : Aside (Below w.heap.size w w9) := HB.out.trans (hb.mono HB.out.size)
      clear hb HB HF SL HD HG HN
      have HF : Aside (w9.heap[w.heap.size]? = some (.cells #[.int .i64 f1, .int .i64 f2, .string f3, .bool f4, .bool f5, .int .i64 f6, .int .i64 f7] 24 (0, 0))) := HF'.out
      clear HF'
      have SL : Aside (Sl w9 7 ao n cap (xs.map Fi.enc)) := SL'.out
      clear SL'
      have HD : Aside (w9.heap[bd]? = some (.cells #[.int .i64 d1, .int .i64 d2, .string d3, .bool d4, .bool d5, .int .i64 d6, .int .i64 d7] 24 (0, 0))) := HD'.out
      clear HD'
      have HG : Aside (w9.heap[bg]? = some (.cells #[.int .i64 f1, .int .i64 f2, .string f3, .bool f4, .bool f5, .int .i64 f6, .int .i64 f7] 24 (0, 0))) := HG'.out
      clear HG'
      have HN : Aside (w9.heap[bn]? = some (.cells #[.int .i64 e1, .int .i64 e2, .string e3, .bool e4, .bool e5, .int .i64 e6, .int .i64 e7] 24 (0, 0))) := HN'.out
      clear HN'
      have HB : Aside (Below w.heap.size w w9) := HB'.out
      clear HB'
      go_wp2
      go_ret
      exact ⟨rfl, HB.out⟩
    · have hne : (num != f1) = true := by simp [hnm]
      have c8 : ∀ U a c, Sl U 7 a ya.length c (ya.map Fi.enc) → Calls Try.prog 20 #[.slice a ya.length c, .int .i64 num] U fun e w' => e = .returned (.tuple #[.agg #[.int .i64 d1, .int .i64 d2, .string d3, .bool d4, .bool d5, .int .i64 d6, .int .i64 d7], .bool had]) ∧ Below U.heap.size U w' := fun U a c hU => by
        have := find_calls num a ya.length c ya U hU
        rw [show fdF num ya = (⟨d1, d2, d3, d4, d5, d6, d7⟩, had) from by rw [← HD0.out]; exact (fd_congr HR.asc AO.out.asc (fun y hy => by rw [AO.out.mem y]; exact ⟨.inr, fun h => h.resolve_left (fun e => hnm (by rw [← hy, e]))⟩)).symm] at this; exact this
      have hnb : (had != had) = false := by simp
      clear hnm HR AO HD0 hyn
      have HB : Aside (Below w.heap.size w (w.alloc (.cells #[.int .i64 f1, .int .i64 f2, .string f3, .bool f4, .bool f5, .int .i64 f6, .int .i64 f7] 24))) := by
        show Below _ _ _
        repeat (first | (with_reducible exact Below.refl _ _) | (with_reducible assumption) | (with_reducible refine below_to_plus ?_ ?_ _) | (with_reducible refine below_holds ?_ ?_ _ _) | (with_reducible refine Below.alloc ?_ ?_ _) | (with_reducible refine Below.drew ?_) | (with_reducible refine below_drewN ?_ _) | (with_reducible refine Below.setCell ?_ ?_ _))
        all_goals first | omega | (simp; done) | (simp [go_sem]; done) | (simp [go_sem]; omega)
      have HF : Aside (((w.alloc (.cells #[.int .i64 f1, .int .i64 f2, .string f3, .bool f4, .bool f5, .int .i64 f6, .int .i64 f7] 24))).heap[w.heap.size]? = some (.cells #[.int .i64 f1, .int .i64 f2, .string f3, .bool f4, .bool f5, .int .i64 f6, .int .i64 f7] 24 (0, 0))) := hp_new rfl
      have SL : Aside (Sl (w.alloc (.cells #[.int .i64 f1, .int .i64 f2, .string f3, .bool f4, .bool f5, .int .i64 f6, .int .i64 f7] 24)) 7 ao n cap (xs.map Fi.enc)) := H.out.stays HB.out
      clear H h
      go_enter Try.func7, Try.ntmps7
      go_wp2_with fail
      refine (c1 _ HB.out).mono ?_
      rintro e w1 ⟨rfl, hb⟩
      have HF' : Aside (w1.heap[w.heap.size]? = some (.cells #[.int .i64 f1, .int .i64 f2, .string f3, .bool f4, .bool f5, .int .i64 f6, .int .i64 f7] 24 (0, 0))) := heap_later HF.out hb
      have SL' : Aside (Sl w1 7 ao n cap (xs.map Fi.enc)) := SL.out.stays hb
      have HB' : Aside (Below w.heap.size w w1) := HB.out.trans (hb.mono HB.out.size)
      clear hb HB HF SL
      have HF : Aside (w1.heap[w.heap.size]? = some (.cells #[.int .i64 f1, .int .i64 f2, .string f3, .bool f4, .bool f5, .int .i64 f6, .int .i64 f7] 24 (0, 0))) := HF'.out
      clear HF'
      have SL : Aside (Sl w1 7 ao n cap (xs.map Fi.enc)) := SL'.out
      clear SL'
      have HB : Aside (Below w.heap.size w w1) := HB'.out
      clear HB'
      go_wp2_with fail
      refine (c3 _ HB.out).mono ?_
      rintro e w2 ⟨rfl, hb⟩
      have HF' : Aside (w2.heap[w.heap.size]? = some (.cells #[.int .i64 f1, .int .i64 f2, .string f3, .bool f4, .bool f5, .int .i64 f6, .int .i64 f7] 24 (0, 0))) := heap_later HF.out hb
      have SL' : Aside (Sl w2 7 ao n cap (xs.map Fi.enc)) := SL.out.stays hb
      have HB' : Aside (Below w.heap.size w w2) := HB.out.trans (hb.mono HB.out.size)
      clear hb HB HF SL
      have HF : Aside (w2.heap[w.heap.size]? = some (.cells #[.int .i64 f1, .int .i64 f2, .string f3, .bool f4, .bool f5, .int .i64 f6, .int .i64 f7] 24 (0, 0))) := HF'.out
      clear HF'
      have SL : Aside (Sl w2 7 ao n cap (xs.map Fi.enc)) := SL'.out
      clear SL'
      have HB : Aside (Below w.heap.size w w2) := HB'.out
      clear HB'
      have hfc0 := cell_heap HF.out 0 _ rfl
      have hfc1 := cell_heap HF.out 1 _ rfl
      have hfc2 := cell_heap HF.out 2 _ rfl
      have hfc3 := cell_heap HF.out 3 _ rfl
      have hfc4 := cell_heap HF.out 4 _ rfl
      have hfc5 := cell_heap HF.out 5 _ rfl
      have hfc6 := cell_heap HF.out 6 _ rfl
      have hfclt : w.heap.size < w2.heap.size := (Array.getElem?_eq_some_iff.1 HF.out).1
      have HF' : Aside ((w2.alloc (.cells #[.int .i64 d1, .int .i64 d2, .string d3, .bool d4, .bool d5, .int .i64 d6, .int .i64 d7] 24)).heap[w.heap.size]? = some (.cells #[.int .i64 f1, .int .i64 f2, .string f3, .bool f4, .bool f5, .int .i64 f6, .int .i64 f7] 24 (0, 0))) := hp_old HF.out
      have SL' : Aside (Sl (w2.alloc (.cells #[.int .i64 d1, .int .i64 d2, .string d3, .bool d4, .bool d5, .int .i64 d6, .int .i64 d7] 24)) 7 ao n cap (xs.map Fi.enc)) := SL.out.stays ((Below.refl _ _).alloc (Nat.le_refl _) _)
      have HD' : Aside ((w2.alloc (.cells #[.int .i64 d1, .int .i64 d2, .string d3, .bool d4, .bool d5, .int .i64 d6, .int .i64 d7] 24)).heap[w2.heap.size]? = some (.cells #[.int .i64 d1, .int .i64 d2, .string d3, .bool d4, .bool d5, .int .i64 d6, .int .i64 d7] 24 (0, 0))) := hp_new rfl
      have HB' : Aside (Below w.heap.size w (w2.alloc (.cells #[.int .i64 d1, .int .i64 d2, .string d3, .bool d4, .bool d5, .int .i64 d6, .int .i64 d7] 24))) := HB.out.alloc HB.out.size _
      clear HB HF SL
      go_wp2_with fail
      clear hfc0 hfc1 hfc2 hfc3 hfc4 hfc5 hfc6 hfclt
      generalize (w2.alloc (.cells #[.int .i64 d1, .int .i64 d2, .string d3, .bool d4, .bool d5, .int .i64 d6, .int .i64 d7] 24)) = v2 at HF' SL' HD' HB' ⊢
      generalize w2.heap.size = bd at HD' ⊢
      have HF : Aside (v2.heap[w.heap.size]? = some (.cells #[.int .i64 f1, .int .i64 f2, .string f3, .bool f4, .bool f5, .int .i64 f6, .int .i64 f7] 24 (0, 0))) := HF'.out
      clear HF'
      have SL : Aside (Sl v2 7 ao n cap (xs.map Fi.enc)) := SL'.out
      clear SL'
      have HD : Aside (v2.heap[bd]? = some (.cells #[.int .i64 d1, .int .i64 d2, .string d3, .bool d4, .bool d5, .int .i64 d6, .int .i64 d7] 24 (0, 0))) := HD'.out
      clear HD'
      have HB : Aside (Below w.heap.size w v2) := HB'.out
      clear HB'
      refine (c4 _ HB.out).mono ?_
      rintro e w3 ⟨aa, ka, rfl, hSA, hb⟩
      have HF' : Aside (w3.heap[w.heap.size]? = some (.cells #[.int .i64 f1, .int .i64 f2, .string f3, .bool f4, .bool f5, .int .i64 f6, .int .i64 f7] 24 (0, 0))) := heap_later HF.out hb
      have SL' : Aside (Sl w3 7 ao n cap (xs.map Fi.enc)) := SL.out.stays hb
      have HD' : Aside (w3.heap[bd]? = some (.cells #[.int .i64 d1, .int .i64 d2, .string d3, .bool d4, .bool d5, .int .i64 d6, .int .i64 d7] 24 (0, 0))) := heap_later HD.out hb
      have SA' : Aside (Sl w3 7 aa ya.length ka (ya.map Fi.enc)) := hSA
      have HB' : Aside (Below w.heap.size w w3) := HB.out.trans (hb.mono HB.out.size)
      clear hb HB HF SL HD hSA
      have HF : Aside (w3.heap[w.heap.size]? = some (.cells #[.int .i64 f1, .int .i64 f2, .string f3, .bool f4, .bool f5, .int .i64 f6, .int .i64 f7] 24 (0, 0))) := HF'.out
      clear HF'
      have SL : Aside (Sl w3 7 ao n cap (xs.map Fi.enc)) := SL'.out
      clear SL'
      have HD : Aside (w3.heap[bd]? = some (.cells #[.int .i64 d1, .int .i64 d2, .string d3, .bool d4, .bool d5, .int .i64 d6, .int .i64 d7] 24 (0, 0))) := HD'.out
      clear HD'
      have SA : Aside (Sl w3 7 aa ya.length ka (ya.map Fi.enc)) := SA'.out
      clear SA'
      have HB : Aside (Below w.heap.size w w3) := HB'.out
      clear HB'
      have hfc0 := cell_heap HF.out 0 _ rfl
      have hfc1 := cell_heap HF.out 1 _ rfl
      have hfc2 := cell_heap HF.out 2 _ rfl
      have hfc3 := cell_heap HF.out 3 _ rfl
      have hfc4 := cell_heap HF.out 4 _ rfl
      have hfc5 := cell_heap HF.out 5 _ rfl
      have hfc6 := cell_heap HF.out 6 _ rfl
      have hfclt : w.heap.size < w3.heap.size := (Array.getElem?_eq_some_iff.1 HF.out).1
      go_wp2_with fail
      refine (c6 _ _ _ SA.out).mono ?_
      rintro e w4 ⟨rfl, hb⟩
      have HF' : Aside (w4.heap[w.heap.size]? = some (.cells #[.int .i64 f1, .int .i64 f2, .string f3, .bool f4, .bool f5, .int .i64 f6, .int .i64 f7] 24 (0, 0))) := heap_later HF.out hb
      have SL' : Aside (Sl w4 7 ao n cap (xs.map Fi.enc)) := SL.out.stays hb
      have HD' : Aside (w4.heap[bd]? = some (.cells #[.int .i64 d1, .int .i64 d2, .string d3, .bool d4, .bool d5, .int .i64 d6, .int .i64 d7] 24 (0, 0))) := heap_later HD.out hb
      have SA' : Aside (Sl w4 7 aa ya.length ka (ya.map Fi.enc)) := SA.out.stays hb
      have HB' : Aside (Below w.heap.size w w4) := HB.out.trans (hb.mono HB.out.size)
      clear hb HB HF SL HD SA hfc0 hfc1 hfc2 hfc3 hfc4 hfc5 hfc6 hfclt
      have HF : Aside (w4.heap[w.heap.size]? = some (.cells #[.int .i64 f1, .int .i64 f2, .string f3, .bool f4, .bool f5, .int .i64 f6, .int .i64 f7] 24 (0, 0))) := HF'.out
      clear HF'
      have SL : Aside (Sl w4 7 ao n cap (xs.map Fi.enc)) := SL'.out
      clear SL'
      have HD : Aside (w4.heap[bd]? = some (.cells #[.int .i64 d1, .int .i64 d2, .string d3, .bool d4, .bool d5, .int .i64 d6, .int .i64 d7] 24 (0, 0))) := HD'.out
      clear HD'
      have SA : Aside (Sl w4 7 aa ya.length ka (ya.map Fi.enc)) := SA'.out
      clear SA'
      have HB : Aside (Below w.heap.size w w4) := HB'.out
      clear HB'
      have hfc0 := cell_heap HF.out 0 _ rfl
      have hfc1 := cell_heap HF.out 1 _ rfl
      have hfc2 := cell_heap HF.out 2 _ rfl
      have hfc3 := cell_heap HF.out 3 _ rfl
      have hfc4 := cell_heap HF.out 4 _ rfl
      have hfc5 := cell_heap HF.out 5 _ rfl
      have hfc6 := cell_heap HF.out 6 _ rfl
      have hfclt : w.heap.size < w4.heap.size := (Array.getElem?_eq_some_iff.1 HF.out).1
      have HF' : Aside ((w4.alloc (.cells #[.int .i64 f1, .int .i64 f2, .string f3, .bool f4, .bool f5, .int .i64 f6, .int .i64 f7] 24)).heap[w.heap.size]? = some (.cells #[.int .i64 f1, .int .i64 f2, .string f3, .bool f4, .bool f5, .int .i64 f6, .int .i64 f7] 24 (0, 0))) := hp_old HF.out
      have SL' : Aside (Sl (w4.alloc (.cells #[.int .i64 f1, .int .i64 f2, .string f3, .bool f4, .bool f5, .int .i64 f6, .int .i64 f7] 24)) 7 ao n cap (xs.map Fi.enc)) := SL.out.stays ((Below.refl _ _).alloc (Nat.le_refl _) _)
      have HD' : Aside ((w4.alloc (.cells #[.int .i64 f1, .int .i64 f2, .string f3, .bool f4, .bool f5, .int .i64 f6, .int .i64 f7] 24)).heap[bd]? = some (.cells #[.int .i64 d1, .int .i64 d2, .string d3, .bool d4, .bool d5, .int .i64 d6, .int .i64 d7] 24 (0, 0))) := hp_old HD.out
      have SA' : Aside (Sl (w4.alloc (.cells #[.int .i64 f1, .int .i64 f2, .string f3, .bool f4, .bool f5, .int .i64 f6, .int .i64 f7] 24)) 7 aa ya.length ka (ya.map Fi.enc)) := SA.out.stays ((Below.refl _ _).alloc (Nat.le_refl _) _)
      have HG' : Aside ((w4.alloc (.cells #[.int .i64 f1, .int .i64 f2, .string f3, .bool f4, .bool f5, .int .i64 f6, .int .i64 f7] 24)).heap[w4.heap.size]? = some (.cells #[.int .i64 f1, .int .i64 f2, .string f3, .bool f4, .bool f5, .int .i64 f6, .int .i64 f7] 24 (0, 0))) := hp_new rfl
      have HB' : Aside (Below w.heap.size w (w4.alloc (.cells #[.int .i64 f1, .int .i64 f2, .string f3, .bool f4, .bool f5, .int .i64 f6, .int .i64 f7] 24))) := HB.out.alloc HB.out.size _
      clear HB HF SL HD SA
      go_wp2_with fail
      clear hfc0 hfc1 hfc2 hfc3 hfc4 hfc5 hfc6 hfclt
      generalize (w4.alloc (.cells #[.int .i64 f1, .int .i64 f2, .string f3, .bool f4, .bool f5, .int .i64 f6, .int .i64 f7] 24)) = v4 at HF' SL' HD' SA' HG' HB' ⊢
      generalize w4.heap.size = bg at HG' ⊢
      have HF : Aside (v4.heap[w.heap.size]? = some (.cells #[.int .i64 f1, .int .i64 f2, .string f3, .bool f4, .bool f5, .int .i64 f6, .int .i64 f7] 24 (0, 0))) := HF'.out
      clear HF'
      have SL : Aside (Sl v4 7 ao n cap (xs.map Fi.enc)) := SL'.out
      clear SL'
      have HD : Aside (v4.heap[bd]? = some (.cells #[.int .i64 d1, .int .i64 d2, .string d3, .bool d4, .bool d5, .int .i64 d6, .int .i64 d7] 24 (0, 0))) := HD'.out
      clear HD'
      have SA : Aside (Sl v4 7 aa ya.length ka (ya.map Fi.enc)) := SA'.out
      clear SA'
      have HG : Aside (v4.heap[bg]? = some (.cells #[.int .i64 f1, .int .i64 f2, .string f3, .bool f4, .bool f5, .int .i64 f6, .int .i64 f7] 24 (0, 0))) := HG'.out
      clear HG'
      have HB : Aside (Below w.heap.size w v4) := HB'.out
      clear HB'
      refine (c7 _ _ _ SA.out).mono ?_
      rintro e w5 ⟨ab, kb, rfl, hSB, hb⟩
      have HF' : Aside (w5.heap[w.heap.size]? = some (.cells #[.int .i64 f1, .int .i64 f2, .string f3, .bool f4, .bool f5, .int .i64 f6, .int .i64 f7] 24 (0, 0))) := heap_later HF.out hb
      have SL' : Aside (Sl w5 7 ao n cap (xs.map Fi.enc)) := SL.out.stays hb
      have HD' : Aside (w5.heap[bd]? = some (.cells #[.int .i64 d1, .int .i64 d2, .string d3, .bool d4, .bool d5, .int .i64 d6, .int .i64 d7] 24 (0, 0))) := heap_later HD.out hb
      have SA' : Aside (Sl w5 7 aa ya.length ka (ya.map Fi.enc)) := SA.out.stays hb
      have HG' : Aside (w5.heap[bg]? = some (.cells #[.int .i64 f1, .int .i64 f2, .string f3, .bool f4, .bool f5, .int .i64 f6, .int .i64 f7] 24 (0, 0))) := heap_later HG.out hb
      have SB' : Aside (Sl w5 7 ab xs.length kb (xs.map Fi.enc)) := hSB
      have HB' : Aside (Below w.heap.size w w5) := HB.out.trans (hb.mono HB.out.size)
      clear hb HB HF SL HD SA HG hSB
      have HF : Aside (w5.heap[w.heap.size]? = some (.cells #[.int .i64 f1, .int .i64 f2, .string f3, .bool f4, .bool f5, .int .i64 f6, .int .i64 f7] 24 (0, 0))) := HF'.out
      clear HF'
      have SL : Aside (Sl w5 7 ao n cap (xs.map Fi.enc)) := SL'.out
      clear SL'
      have HD : Aside (w5.heap[bd]? = some (.cells #[.int .i64 d1, .int .i64 d2, .string d3, .bool d4, .bool d5, .int .i64 d6, .int .i64 d7] 24 (0, 0))) := HD'.out
      clear HD'
      have SA : Aside (Sl w5 7 aa ya.length ka (ya.map Fi.enc)) := SA'.out
      clear SA'
      have HG : Aside (w5.heap[bg]? = some (.cells #[.int .i64 f1, .int .i64 f2, .string f3, .bool f4, .bool f5, .int .i64 f6, .int .i64 f7] 24 (0, 0))) := HG'.out
      clear HG'
      have SB : Aside (Sl w5 7 ab xs.length kb (xs.map Fi.enc)) := SB'.out
      clear SB'
      have HB : Aside (Below w.heap.size w w5) := HB'.out
      clear HB'
      go_wp2_with fail
      refine (c8 _ _ _ SA.out).mono ?_
      rintro e w6 ⟨rfl, hb⟩
      have HF' : Aside (w6.heap[w.heap.size]? = some (.cells #[.int .i64 f1, .int .i64 f2, .string f3, .bool f4, .bool f5, .int .i64 f6, .int .i64 f7] 24 (0, 0))) := heap_later HF.out hb
      have SL' : Aside (Sl w6 7 ao n cap (xs.map Fi.enc)) := SL.out.stays hb
      have HD' : Aside (w6.heap[bd]? = some (.cells #[.int .i64 d1, .int .i64 d2, .string d3, .bool d4, .bool d5, .int .i64 d6, .int .i64 d7] 24 (0, 0))) := heap_later HD.out hb
      have SA' : Aside (Sl w6 7 aa ya.length ka (ya.map Fi.enc)) := SA.out.stays hb
      have HG' : Aside (w6.heap[bg]? = some (.cells #[.int .i64 f1, .int .i64 f2, .string f3, .bool f4, .bool f5, .int .i64 f6, .int .i64 f7] 24 (0, 0))) := heap_later HG.out hb
      have SB' : Aside (Sl w6 7 ab xs.length kb (xs.map Fi.enc)) := SB.out.stays hb
      have HB' : Aside (Below w.heap.size w w6) := HB.out.trans (hb.mono HB.out.size)
      clear hb HB HF SL HD SA HG SB
      have HF : Aside (w6.heap[w.heap.size]? = some (.cells #[.int .i64 f1, .int .i64 f2, .string f3, .bool f4, .bool f5, .int .i64 f6, .int .i64 f7] 24 (0, 0))) := HF'.out
      clear HF'
      have SL : Aside (Sl w6 7 ao n cap (xs.map Fi.enc)) := SL'.out
      clear SL'
      have HD : Aside (w6.heap[bd]? = some (.cells #[.int .i64 d1, .int .i64 d2, .string d3, .bool d4, .bool d5, .int .i64 d6, .int .i64 d7] 24 (0, 0))) := HD'.out
      clear HD'
      have SA : Aside (Sl w6 7 aa ya.length ka (ya.map Fi.enc)) := SA'.out
      clear SA'
      have HG : Aside (w6.heap[bg]? = some (.cells #[.int .i64 f1, .int .i64 f2, .string f3, .bool f4, .bool f5, .int .i64 f6, .int .i64 f7] 24 (0, 0))) := HG'.out
      clear HG'
      have SB : Aside (Sl w6 7 ab xs.length kb (xs.map Fi.enc)) := SB'.out
      clear SB'
      have HB : Aside (Below w.heap.size w w6) := HB'.out
      clear HB'
      have hfc0 := cell_heap HF.out 0 _ rfl
      have hfc1 := cell_heap HF.out 1 _ rfl
      have hfc2 := cell_heap HF.out 2 _ rfl
      have hfc3 := cell_heap HF.out 3 _ rfl
      have hfc4 := cell_heap HF.out 4 _ rfl
      have hfc5 := cell_heap HF.out 5 _ rfl
      have hfc6 := cell_heap HF.out 6 _ rfl
      have hfclt : w.heap.size < w6.heap.size := (Array.getElem?_eq_some_iff.1 HF.out).1
      have hgc0 := cell_heap HG.out 0 _ rfl
      have hgc1 := cell_heap HG.out 1 _ rfl
      have hgc2 := cell_heap HG.out 2 _ rfl
      have hgc3 := cell_heap HG.out 3 _ rfl
      have hgc4 := cell_heap HG.out 4 _ rfl
      have hgc5 := cell_heap HG.out 5 _ rfl
      have hgc6 := cell_heap HG.out 6 _ rfl
      have hgclt : bg < w6.heap.size := (Array.getElem?_eq_some_iff.1 HG.out).1
      have hdc0 := cell_heap HD.out 0 _ rfl
      have hdc1 := cell_heap HD.out 1 _ rfl
      have hdc2 := cell_heap HD.out 2 _ rfl
      have hdc3 := cell_heap HD.out 3 _ rfl
      have hdc4 := cell_heap HD.out 4 _ rfl
      have hdc5 := cell_heap HD.out 5 _ rfl
      have hdc6 := cell_heap HD.out 6 _ rfl
      have hdclt : bd < w6.heap.size := (Array.getElem?_eq_some_iff.1 HD.out).1
      have HF' : Aside ((w6.alloc (.cells #[.int .i64 d1, .int .i64 d2, .string d3, .bool d4, .bool d5, .int .i64 d6, .int .i64 d7] 24)).heap[w.heap.size]? = some (.cells #[.int .i64 f1, .int .i64 f2, .string f3, .bool f4, .bool f5, .int .i64 f6, .int .i64 f7] 24 (0, 0))) := hp_old HF.out
      have SL' : Aside (Sl (w6.alloc (.cells #[.int .i64 d1, .int .i64 d2, .string d3, .bool d4, .bool d5, .int .i64 d6, .int .i64 d7] 24)) 7 ao n cap (xs.map Fi.enc)) := SL.out.stays ((Below.refl _ _).alloc (Nat.le_refl _) _)
      have HD' : Aside ((w6.alloc (.cells #[.int .i64 d1, .int .i64 d2, .string d3, .bool d4, .bool d5, .int .i64 d6, .int .i64 d7] 24)).heap[bd]? = some (.cells #[.int .i64 d1, .int .i64 d2, .string d3, .bool d4, .bool d5, .int .i64 d6, .int .i64 d7] 24 (0, 0))) := hp_old HD.out
      have SA' : Aside (Sl (w6.alloc (.cells #[.int .i64 d1, .int .i64 d2, .string d3, .bool d4, .bool d5, .int .i64 d6, .int .i64 d7] 24)) 7 aa ya.length ka (ya.map Fi.enc)) := SA.out.stays ((Below.refl _ _).alloc (Nat.le_refl _) _)
      have HG' : Aside ((w6.alloc (.cells #[.int .i64 d1, .int .i64 d2, .string d3, .bool d4, .bool d5, .int .i64 d6, .int .i64 d7] 24)).heap[bg]? = some (.cells #[.int .i64 f1, .int .i64 f2, .string f3, .bool f4, .bool f5, .int .i64 f6, .int .i64 f7] 24 (0, 0))) := hp_old HG.out
      have SB' : Aside (Sl (w6.alloc (.cells #[.int .i64 d1, .int .i64 d2, .string d3, .bool d4, .bool d5, .int .i64 d6, .int .i64 d7] 24)) 7 ab xs.length kb (xs.map Fi.enc)) := SB.out.stays ((Below.refl _ _).alloc (Nat.le_refl _) _)
      have HN' : Aside ((w6.alloc (.cells #[.int .i64 d1, .int .i64 d2, .string d3, .bool d4, .bool d5, .int .i64 d6, .int .i64 d7] 24)).heap[w6.heap.size]? = some (.cells #[.int .i64 d1, .int .i64 d2, .string d3, .bool d4, .bool d5, .int .i64 d6, .int .i64 d7] 24 (0, 0))) := hp_new rfl
      have HB' : Aside (Below w.heap.size w (w6.alloc (.cells #[.int .i64 d1, .int .i64 d2, .string d3, .bool d4, .bool d5, .int .i64 d6, .int .i64 d7] 24))) := HB.out.alloc HB.out.size _
      clear HB HF SL HD SA HG SB
      go_wp2_with fail
      clear hfc0 hfc1 hfc2 hfc3 hfc4 hfc5 hfc6 hfclt hgc0 hgc1 hgc2 hgc3 hgc4 hgc5 hgc6 hgclt hdc0 hdc1 hdc2 hdc3 hdc4 hdc5 hdc6 hdclt
      generalize (w6.alloc (.cells #[.int .i64 d1, .int .i64 d2, .string d3, .bool d4, .bool d5, .int .i64 d6, .int .i64 d7] 24)) = v6 at HF' SL' HD' SA' HG' SB' HN' HB' ⊢
      generalize w6.heap.size = bn at HN' ⊢
      have HF : Aside (v6.heap[w.heap.size]? = some (.cells #[.int .i64 f1, .int .i64 f2, .string f3, .bool f4, .bool f5, .int .i64 f6, .int .i64 f7] 24 (0, 0))) := HF'.out
      clear HF'
      have SL : Aside (Sl v6 7 ao n cap (xs.map Fi.enc)) := SL'.out
      clear SL'
      have HD : Aside (v6.heap[bd]? = some (.cells #[.int .i64 d1, .int .i64 d2, .string d3, .bool d4, .bool d5, .int .i64 d6, .int .i64 d7] 24 (0, 0))) := HD'.out
      clear HD'
      have SA : Aside (Sl v6 7 aa ya.length ka (ya.map Fi.enc)) := SA'.out
      clear SA'
      have HG : Aside (v6.heap[bg]? = some (.cells #[.int .i64 f1, .int .i64 f2, .string f3, .bool f4, .bool f5, .int .i64 f6, .int .i64 f7] 24 (0, 0))) := HG'.out
      clear HG'
      have SB : Aside (Sl v6 7 ab xs.length kb (xs.map Fi.enc)) := SB'.out
      clear SB'
      have HN : Aside (v6.heap[bn]? = some (.cells #[.int .i64 d1, .int .i64 d2, .string d3, .bool d4, .bool d5, .int .i64 d6, .int .i64 d7] 24 (0, 0))) := HN'.out
      clear HN'
      have HB : Aside (Below w.heap.size w v6) := HB'.out
      clear HB'
      refine ((show Calls Try.prog 17 _ _ (fun e w' => e = .returned (.bool true) ∧ Below _ _ w') from by have := same_calls _ _ _ _ _ _ _ _ _ SB.out SL.out; rwa [(same_iff _ _).2 rfl] at this)).mono ?_
      rintro e w7 ⟨rfl, hb⟩
      have HF' : Aside (w7.heap[w.heap.size]? = some (.cells #[.int .i64 f1, .int .i64 f2, .string f3, .bool f4, .bool f5, .int .i64 f6, .int .i64 f7] 24 (0, 0))) := heap_later HF.out hb
      have SL' : Aside (Sl w7 7 ao n cap (xs.map Fi.enc)) := SL.out.stays hb
      have HD' : Aside (w7.heap[bd]? = some (.cells #[.int .i64 d1, .int .i64 d2, .string d3, .bool d4, .bool d5, .int .i64 d6, .int .i64 d7] 24 (0, 0))) := heap_later HD.out hb
      have HG' : Aside (w7.heap[bg]? = some (.cells #[.int .i64 f1, .int .i64 f2, .string f3, .bool f4, .bool f5, .int .i64 f6, .int .i64 f7] 24 (0, 0))) := heap_later HG.out hb
      have HN' : Aside (w7.heap[bn]? = some (.cells #[.int .i64 d1, .int .i64 d2, .string d3, .bool d4, .bool d5, .int .i64 d6, .int .i64 d7] 24 (0, 0))) := heap_later HN.out hb
      have HB' : Aside (Below w.heap.size w w7) := HB.out.trans (hb.mono HB.out.size)
      clear hb HB HF SL HD HG HN SB SA
      have HF : Aside (w7.heap[w.heap.size]? = some (.cells #[.int .i64 f1, .int .i64 f2, .string f3, .bool f4, .bool f5, .int .i64 f6, .int .i64 f7] 24 (0, 0))) := HF'.out
      clear HF'
      have SL : Aside (Sl w7 7 ao n cap (xs.map Fi.enc)) := SL'.out
      clear SL'
      have HD : Aside (w7.heap[bd]? = some (.cells #[.int .i64 d1, .int .i64 d2, .string d3, .bool d4, .bool d5, .int .i64 d6, .int .i64 d7] 24 (0, 0))) := HD'.out
      clear HD'
      have HG : Aside (w7.heap[bg]? = some (.cells #[.int .i64 f1, .int .i64 f2, .string f3, .bool f4, .bool f5, .int .i64 f6, .int .i64 f7] 24 (0, 0))) := HG'.out
      clear HG'
      have HN : Aside (w7.heap[bn]? = some (.cells #[.int .i64 d1, .int .i64 d2, .string d3, .bool d4, .bool d5, .int .i64 d6, .int .i64 d7] 24 (0, 0))) := HN'.out
      clear HN'
      have HB : Aside (Below w.heap.size w w7) := HB'.out
      clear HB'
      have hfc0 := cell_heap HF.out 0 _ rfl
      have hfc1 := cell_heap HF.out 1 _ rfl
      have hfc2 := cell_heap HF.out 2 _ rfl
      have hfc3 := cell_heap HF.out 3 _ rfl
      have hfc4 := cell_heap HF.out 4 _ rfl
      have hfc5 := cell_heap HF.out 5 _ rfl
      have hfc6 := cell_heap HF.out 6 _ rfl
      have hfclt : w.heap.size < w7.heap.size := (Array.getElem?_eq_some_iff.1 HF.out).1
      have hdc0 := cell_heap HD.out 0 _ rfl
      have hdc1 := cell_heap HD.out 1 _ rfl
      have hdc2 := cell_heap HD.out 2 _ rfl
      have hdc3 := cell_heap HD.out 3 _ rfl
      have hdc4 := cell_heap HD.out 4 _ rfl
      have hdc5 := cell_heap HD.out 5 _ rfl
      have hdc6 := cell_heap HD.out 6 _ rfl
      have hdclt : bd < w7.heap.size := (Array.getElem?_eq_some_iff.1 HD.out).1
      have hnc0 := cell_heap HN.out 0 _ rfl
      have hnc1 := cell_heap HN.out 1 _ rfl
      have hnc2 := cell_heap HN.out 2 _ rfl
      have hnc3 := cell_heap HN.out 3 _ rfl
      have hnc4 := cell_heap HN.out 4 _ rfl
      have hnc5 := cell_heap HN.out 5 _ rfl
      have hnc6 := cell_heap HN.out 6 _ rfl
      have hnclt : bn < w7.heap.size := (Array.getElem?_eq_some_iff.1 HN.out).1
      go_wp2_with fail
      refine (c5 _ HB.out).mono ?_
      rintro e w8 ⟨ac, kc, rfl, _, hb⟩
      have HF' : Aside (w8.heap[w.heap.size]? = some (.cells #[.int .i64 f1, .int .i64 f2, .string f3, .bool f4, .bool f5, .int .i64 f6, .int .i64 f7] 24 (0, 0))) := heap_later HF.out hb
      have SL' : Aside (Sl w8 7 ao n cap (xs.map Fi.enc)) := SL.out.stays hb
      have HD' : Aside (w8.heap[bd]? = some (.cells #[.int .i64 d1, .int .i64 d2, .string d3, .bool d4, .bool d5, .int .i64 d6, .int .i64 d7] 24 (0, 0))) := heap_later HD.out hb
      have HG' : Aside (w8.heap[bg]? = some (.cells #[.int .i64 f1, .int .i64 f2, .string f3, .bool f4, .bool f5, .int .i64 f6, .int .i64 f7] 24 (0, 0))) := heap_later HG.out hb
      have HN' : Aside (w8.heap[bn]? = some (.cells #[.int .i64 d1, .int .i64 d2, .string d3, .bool d4, .bool d5, .int .i64 d6, .int .i64 d7] 24 (0, 0))) := heap_later HN.out hb
      have HB' : Aside (Below w.heap.size w w8) := HB.out.trans (hb.mono HB.out.size)
      clear hb HB HF SL HD HG HN hfc0 hfc1 hfc2 hfc3 hfc4 hfc5 hfc6 hfclt hdc0 hdc1 hdc2 hdc3 hdc4 hdc5 hdc6 hdclt hnc0 hnc1 hnc2 hnc3 hnc4 hnc5 hnc6 hnclt
      have HF : Aside (w8.heap[w.heap.size]? = some (.cells #[.int .i64 f1, .int .i64 f2, .string f3, .bool f4, .bool f5, .int .i64 f6, .int .i64 f7] 24 (0, 0))) := HF'.out
      clear HF'
      have SL : Aside (Sl w8 7 ao n cap (xs.map Fi.enc)) := SL'.out
      clear SL'
      have HD : Aside (w8.heap[bd]? = some (.cells #[.int .i64 d1, .int .i64 d2, .string d3, .bool d4, .bool d5, .int .i64 d6, .int .i64 d7] 24 (0, 0))) := HD'.out
      clear HD'
      have HG : Aside (w8.heap[bg]? = some (.cells #[.int .i64 f1, .int .i64 f2, .string f3, .bool f4, .bool f5, .int .i64 f6, .int .i64 f7] 24 (0, 0))) := HG'.out
      clear HG'
      have HN : Aside (w8.heap[bn]? = some (.cells #[.int .i64 d1, .int .i64 d2, .string d3, .bool d4, .bool d5, .int .i64 d6, .int .i64 d7] 24 (0, 0))) := HN'.out
      clear HN'
      have HB : Aside (Below w.heap.size w w8) := HB'.out
      clear HB'
      go_wp2_with fail
      refine (alive_calls _).mono ?_
      rintro e w9 ⟨rfl, hb⟩
      have HF' : Aside (w9.heap[w.heap.size]? = some (.cells #[.int .i64 f1, .int .i64 f2, .string f3, .bool f4, .bool f5, .int .i64 f6, .int .i64 f7] 24 (0, 0))) := heap_later HF.out hb
      have SL' : Aside (Sl w9 7 ao n cap (xs.map Fi.enc)) := SL.out.stays hb
      have HD' : Aside (w9.heap[bd]? = some (.cells #[.int .i64 d1, .int .i64 d2, .string d3, .bool d4, .bool d5, .int .i64 d6, .int .i64 d7] 24 (0, 0))) := heap_later HD.out hb
      have HG' : Aside (w9.heap[bg]? = some (.cells #[.int .i64 f1, .int .i64 f2, .string f3, .bool f4, .bool f5, .int .i64 f6, .int .i64 f7] 24 (0, 0))) := heap_later HG.out hb
      have HN' : Aside (w9.heap[bn]? = some (.cells #[.int .i64 d1, .int .i64 d2, .string d3, .bool d4, .bool d5, .int .i64 d6, .int .i64 d7] 24 (0, 0))) := heap_later HN.out hb
      have HB' : Aside (Below w.heap.size w w9) := HB.out.trans (hb.mono HB.out.size)
      clear hb HB HF SL HD HG HN
      have HF : Aside (w9.heap[w.heap.size]? = some (.cells #[.int .i64 f1, .int .i64 f2, .string f3, .bool f4, .bool f5, .int .i64 f6, .int .i64 f7] 24 (0, 0))) := HF'.out
      clear HF'
      have SL : Aside (Sl w9 7 ao n cap (xs.map Fi.enc)) := SL'.out
      clear SL'
      have HD : Aside (w9.heap[bd]? = some (.cells #[.int .i64 d1, .int .i64 d2, .string d3, .bool d4, .bool d5, .int .i64 d6, .int .i64 d7] 24 (0, 0))) := HD'.out
      clear HD'
      have HG : Aside (w9.heap[bg]? = some (.cells #[.int .i64 f1, .int .i64 f2, .string f3, .bool f4, .bool f5, .int .i64 f6, .int .i64 f7] 24 (0, 0))) := HG'.out
      clear HG'
      have HN : Aside (w9.heap[bn]? = some (.cells #[.int .i64 d1, .int .i64 d2, .string d3, .bool d4, .bool d5, .int .i64 d6, .int .i64 d7] 24 (0, 0))) := HN'.out
      clear HN'
      have HB : Aside (Below w.heap.size w w9) := HB'.out
      clear HB'
      go_wp2
      go_ret
      exact ⟨rfl, HB.out⟩
  · clear hA
    have hae : ((addF ⟨f1, f2, f3, f4, f5, f6, f7⟩ xs).2 == 0) = false := by simpa using hea
    clear hea
    generalize addF ⟨f1, f2, f3, f4, f5, f6, f7⟩ xs = ra at c4 hae
    obtain ⟨ya, ea⟩ := ra
    simp only [] at hae
    by_cases hes : (setF ⟨f1, f2, f3, f4, f5, f6, f7⟩ xs).2 = 0
    · have hS1 := hS hes
      clear hS hr
      generalize hyb : setF ⟨f1, f2, f3, f4, f5, f6, f7⟩ xs = rb at c5 hes hS1
      clear hyb
      obtain ⟨yb, eb⟩ := rb
      simp only [] at hes hS1
      subst hes
      have SO : Aside (SetOk ⟨f1, f2, f3, f4, f5, f6, f7⟩ xs yb) := hS1
      have hyl : yb.length = n := by rw [hS1.len]; exact HL.out
      have c9 : ∀ U a c, Sl U 7 a yb.length c (yb.map Fi.enc) → Calls Try.prog 20 #[.slice a yb.length c, .int .i64 f1] U fun e w' => e = .returned (.tuple #[.agg #[.int .i64 f1, .int .i64 f2, .string f3, .bool f4, .bool f5, .int .i64 f6, .int .i64 f7], .bool true]) ∧ Below U.heap.size U w' := fun U a c hU => by
        have := find_calls f1 a yb.length c yb U hU
        rw [fd_of_mem SO.out.asc SO.out.here] at this; exact this
      have hln : ((yb.length : Int) != (n : Int)) = false := by simp; omega
      clear hS1
      by_cases hnm : num = f1
      · have hne : (num != f1) = false := by simp [hnm]
        generalize hd2 : fdF num yb = d2
        obtain ⟨d2, had2⟩ := d2
        obtain ⟨e1, e2, e3, e4, e5, e6, e7⟩ := d2
        have c10 : ∀ U a c, Sl U 7 a yb.length c (yb.map Fi.enc) → Calls Try.prog 20 #[.slice a yb.length c, .int .i64 num] U fun e w' => e = .returned (.tuple #[.agg #[.int .i64 e1, .int .i64 e2, .string e3, .bool e4, .bool e5, .int .i64 e6, .int .i64 e7], .bool had2]) ∧ Below U.heap.size U w' := fun U a c hU => by
          have := find_calls num a yb.length c yb U hU
          rw [hd2] at this; exact this
        clear hd2 hnm HR SO HD0 hyl
        have HB : Aside (Below w.heap.size w (w.alloc (.cells #[.int .i64 f1, .int .i64 f2, .string f3, .bool f4, .bool f5, .int .i64 f6, .int .i64 f7] 24))) := by
          show Below _ _ _
          repeat (first | (with_reducible exact Below.refl _ _) | (with_reducible assumption) | (with_reducible refine below_to_plus ?_ ?_ _) | (with_reducible refine below_holds ?_ ?_ _ _) | (with_reducible refine Below.alloc ?_ ?_ _) | (with_reducible refine Below.drew ?_) | (with_reducible refine below_drewN ?_ _) | (with_reducible refine Below.setCell ?_ ?_ _))
          all_goals first | omega | (simp; done) | (simp [go_sem]; done) | (simp [go_sem]; omega)
        have HF : Aside (((w.alloc (.cells #[.int .i64 f1, .int .i64 f2, .string f3, .bool f4, .bool f5, .int .i64 f6, .int .i64 f7] 24))).heap[w.heap.size]? = some (.cells #[.int .i64 f1, .int .i64 f2, .string f3, .bool f4, .bool f5, .int .i64 f6, .int .i64 f7] 24 (0, 0))) := hp_new rfl
        have SL : Aside (Sl (w.alloc (.cells #[.int .i64 f1, .int .i64 f2, .string f3, .bool f4, .bool f5, .int .i64 f6, .int .i64 f7] 24)) 7 ao n cap (xs.map Fi.enc)) := H.out.stays HB.out
        clear H h
        go_enter Try.func7, Try.ntmps7
        go_wp2_with fail
        refine (c1 _ HB.out).mono ?_
        rintro e w1 ⟨rfl, hb⟩
        have HF' : Aside (w1.heap[w.heap.size]? = some (.cells #[.int .i64 f1, .int .i64 f2, .string f3, .bool f4, .bool f5, .int .i64 f6, .int .i64 f7] 24 (0, 0))) := heap_later HF.out hb
        have SL' : Aside (Sl w1 7 ao n cap (xs.map Fi.enc)) := SL.out.stays hb
        have HB' : Aside (Below w.heap.size w w1) := HB.out.trans (hb.mono HB.out.size)
        clear hb HB HF SL
        have HF : Aside (w1.heap[w.heap.size]? = some (.cells #[.int .i64 f1, .int .i64 f2, .string f3, .bool f4, .bool f5, .int .i64 f6, .int .i64 f7] 24 (0, 0))) := HF'.out
        clear HF'
        have SL : Aside (Sl w1 7 ao n cap (xs.map Fi.enc)) := SL'.out
        clear SL'
        have HB : Aside (Below w.heap.size w w1) := HB'.out
        clear HB'
        go_wp2_with fail
        refine (c3 _ HB.out).mono ?_
        rintro e w2 ⟨rfl, hb⟩
        have HF' : Aside (w2.heap[w.heap.size]? = some (.cells #[.int .i64 f1, .int .i64 f2, .string f3, .bool f4, .bool f5, .int .i64 f6, .int .i64 f7] 24 (0, 0))) := heap_later HF.out hb
        have SL' : Aside (Sl w2 7 ao n cap (xs.map Fi.enc)) := SL.out.stays hb
        have HB' : Aside (Below w.heap.size w w2) := HB.out.trans (hb.mono HB.out.size)
        clear hb HB HF SL
        have HF : Aside (w2.heap[w.heap.size]? = some (.cells #[.int .i64 f1, .int .i64 f2, .string f3, .bool f4, .bool f5, .int .i64 f6, .int .i64 f7] 24 (0, 0))) := HF'.out
        clear HF'
        have SL : Aside (Sl w2 7 ao n cap (xs.map Fi.enc)) := SL'.out
        clear SL'
        have HB : Aside (Below w.heap.size w w2) := HB'.out
        clear HB'
        have hfc0 := cell_heap HF.out 0 _ rfl
        have hfc1 := cell_heap HF.out 1 _ rfl
        have hfc2 := cell_heap HF.out 2 _ rfl
        have hfc3 := cell_heap HF.out 3 _ rfl
        have hfc4 := cell_heap HF.out 4 _ rfl
        have hfc5 := cell_heap HF.out 5 _ rfl
        have hfc6 := cell_heap HF.out 6 _ rfl
        have hfclt : w.heap.size < w2.heap.size := (Array.getElem?_eq_some_iff.1 HF.out).1
        have HF' : Aside ((w2.alloc (.cells #[.int .i64 d1, .int .i64 d2, .string d3, .bool d4, .bool d5, .int .i64 d6, .int .i64 d7] 24)).heap[w.heap.size]? = some (.cells #[.int .i64 f1, .int .i64 f2, .string f3, .bool f4, .bool f5, .int .i64 f6, .int .i64 f7] 24 (0, 0))) := hp_old HF.out
        have SL' : Aside (Sl (w2.alloc (.cells #[.int .i64 d1, .int .i64 d2, .string d3, .bool d4, .bool d5, .int .i64 d6, .int .i64 d7] 24)) 7 ao n cap (xs.map Fi.enc)) := SL.out.stays ((Below.refl _ _).alloc (Nat.le_refl _) _)
        have HD' : Aside ((w2.alloc (.cells #[.int .i64 d1, .int .i64 d2, .string d3, .bool d4, .bool d5, .int .i64 d6, .int .i64 d7] 24)).heap[w2.heap.size]? = some (.cells #[.int .i64 d1, .int .i64 d2, .string d3, .bool d4, .bool d5, .int .i64 d6, .int .i64 d7] 24 (0, 0))) := hp_new rfl
        have HB' : Aside (Below w.heap.size w (w2.alloc (.cells #[.int .i64 d1, .int .i64 d2, .string d3, .bool d4, .bool d5, .int .i64 d6, .int .i64 d7] 24))) := HB.out.alloc HB.out.size _
        clear HB HF SL
        go_wp2_with fail
        clear hfc0 hfc1 hfc2 hfc3 hfc4 hfc5 hfc6 hfclt
        generalize (w2.alloc (.cells #[.int .i64 d1, .int .i64 d2, .string d3, .bool d4, .bool d5, .int .i64 d6, .int .i64 d7] 24)) = v2 at HF' SL' HD' HB' ⊢
        generalize w2.heap.size = bd at HD' ⊢
        have HF : Aside (v2.heap[w.heap.size]? = some (.cells #[.int .i64 f1, .int .i64 f2, .string f3, .bool f4, .bool f5, .int .i64 f6, .int .i64 f7] 24 (0, 0))) := HF'.out
        clear HF'
        have SL : Aside (Sl v2 7 ao n cap (xs.map Fi.enc)) := SL'.out
        clear SL'
        have HD : Aside (v2.heap[bd]? = some (.cells #[.int .i64 d1, .int .i64 d2, .string d3, .bool d4, .bool d5, .int .i64 d6, .int .i64 d7] 24 (0, 0))) := HD'.out
        clear HD'
        have HB : Aside (Below w.heap.size w v2) := HB'.out
        clear HB'
        refine (c4 _ HB.out).mono ?_
        rintro e w3 ⟨aa, ka, rfl, _, hb⟩
        have HF' : Aside (w3.heap[w.heap.size]? = some (.cells #[.int .i64 f1, .int .i64 f2, .string f3, .bool f4, .bool f5, .int .i64 f6, .int .i64 f7] 24 (0, 0))) := heap_later HF.out hb
        have SL' : Aside (Sl w3 7 ao n cap (xs.map Fi.enc)) := SL.out.stays hb
        have HD' : Aside (w3.heap[bd]? = some (.cells #[.int .i64 d1, .int .i64 d2, .string d3, .bool d4, .bool d5, .int .i64 d6, .int .i64 d7] 24 (0, 0))) := heap_later HD.out hb
        have HB' : Aside (Below w.heap.size w w3) := HB.out.trans (hb.mono HB.out.size)
        clear hb HB HF SL HD
        have HF : Aside (w3.heap[w.heap.size]? = some (.cells #[.int .i64 f1, .int .i64 f2, .string f3, .bool f4, .bool f5, .int .i64 f6, .int .i64 f7] 24 (0, 0))) := HF'.out
        clear HF'
        have SL : Aside (Sl w3 7 ao n cap (xs.map Fi.enc)) := SL'.out
        clear SL'
        have HD : Aside (w3.heap[bd]? = some (.cells #[.int .i64 d1, .int .i64 d2, .string d3, .bool d4, .bool d5, .int .i64 d6, .int .i64 d7] 24 (0, 0))) := HD'.out
        clear HD'
        have HB : Aside (Below w.heap.size w w3) := HB'.out
        clear HB'
        have hfc0 := cell_heap HF.out 0 _ rfl
        have hfc1 := cell_heap HF.out 1 _ rfl
        have hfc2 := cell_heap HF.out 2 _ rfl
        have hfc3 := cell_heap HF.out 3 _ rfl
        have hfc4 := cell_heap HF.out 4 _ rfl
        have hfc5 := cell_heap HF.out 5 _ rfl
        have hfc6 := cell_heap HF.out 6 _ rfl
        have hfclt : w.heap.size < w3.heap.size := (Array.getElem?_eq_some_iff.1 HF.out).1
        go_wp2_with fail
        refine (c5 _ HB.out).mono ?_
        rintro e w4 ⟨ac, kc, rfl, hSC, hb⟩
        have HF' : Aside (w4.heap[w.heap.size]? = some (.cells #[.int .i64 f1, .int .i64 f2, .string f3, .bool f4, .bool f5, .int .i64 f6, .int .i64 f7] 24 (0, 0))) := heap_later HF.out hb
        have SL' : Aside (Sl w4 7 ao n cap (xs.map Fi.enc)) := SL.out.stays hb
        have HD' : Aside (w4.heap[bd]? = some (.cells #[.int .i64 d1, .int .i64 d2, .string d3, .bool d4, .bool d5, .int .i64 d6, .int .i64 d7] 24 (0, 0))) := heap_later HD.out hb
        have SC' : Aside (Sl w4 7 ac yb.length kc (yb.map Fi.enc)) := hSC
        have HB' : Aside (Below w.heap.size w w4) := HB.out.trans (hb.mono HB.out.size)
        clear hb HB HF SL HD hSC hfc0 hfc1 hfc2 hfc3 hfc4 hfc5 hfc6 hfclt
        have HF : Aside (w4.heap[w.heap.size]? = some (.cells #[.int .i64 f1, .int .i64 f2, .string f3, .bool f4, .bool f5, .int .i64 f6, .int .i64 f7] 24 (0, 0))) := HF'.out
        clear HF'
        have SL : Aside (Sl w4 7 ao n cap (xs.map Fi.enc)) := SL'.out
        clear SL'
        have HD : Aside (w4.heap[bd]? = some (.cells #[.int .i64 d1, .int .i64 d2, .string d3, .bool d4, .bool d5, .int .i64 d6, .int .i64 d7] 24 (0, 0))) := HD'.out
        clear HD'
        have SC : Aside (Sl w4 7 ac yb.length kc (yb.map Fi.enc)) := SC'.out
        clear SC'
        have HB : Aside (Below w.heap.size w w4) := HB'.out
        clear HB'
        have hfc0 := cell_heap HF.out 0 _ rfl
        have hfc1 := cell_heap HF.out 1 _ rfl
        have hfc2 := cell_heap HF.out 2 _ rfl
        have hfc3 := cell_heap HF.out 3 _ rfl
        have hfc4 := cell_heap HF.out 4 _ rfl
        have hfc5 := cell_heap HF.out 5 _ rfl
        have hfc6 := cell_heap HF.out 6 _ rfl
        have hfclt : w.heap.size < w4.heap.size := (Array.getElem?_eq_some_iff.1 HF.out).1
        go_wp2_with fail
        refine (c9 _ _ _ SC.out).mono ?_
        rintro e w5 ⟨rfl, hb⟩
        have HF' : Aside (w5.heap[w.heap.size]? = some (.cells #[.int .i64 f1, .int .i64 f2, .string f3, .bool f4, .bool f5, .int .i64 f6, .int .i64 f7] 24 (0, 0))) := heap_later HF.out hb
        have SL' : Aside (Sl w5 7 ao n cap (xs.map Fi.enc)) := SL.out.stays hb
        have HD' : Aside (w5.heap[bd]? = some (.cells #[.int .i64 d1, .int .i64 d2, .string d3, .bool d4, .bool d5, .int .i64 d6, .int .i64 d7] 24 (0, 0))) := heap_later HD.out hb
        have SC' : Aside (Sl w5 7 ac yb.length kc (yb.map Fi.enc)) := SC.out.stays hb
        have HB' : Aside (Below w.heap.size w w5) := HB.out.trans (hb.mono HB.out.size)
        clear hb HB HF SL HD SC hfc0 hfc1 hfc2 hfc3 hfc4 hfc5 hfc6 hfclt
        have HF : Aside (w5.heap[w.heap.size]? = some (.cells #[.int .i64 f1, .int .i64 f2, .string f3, .bool f4, .bool f5, .int .i64 f6, .int .i64 f7] 24 (0, 0))) := HF'.out
        clear HF'
        have SL : Aside (Sl w5 7 ao n cap (xs.map Fi.enc)) := SL'.out
        clear SL'
        have HD : Aside (w5.heap[bd]? = some (.cells #[.int .i64 d1, .int .i64 d2, .string d3, .bool d4, .bool d5, .int .i64 d6, .int .i64 d7] 24 (0, 0))) := HD'.out
        clear HD'
        have SC : Aside (Sl w5 7 ac yb.length kc (yb.map Fi.enc)) := SC'.out
        clear SC'
        have HB : Aside (Below w.heap.size w w5) := HB'.out
        clear HB'
        have HF' : Aside ((w5.alloc (.cells #[.int .i64 f1, .int .i64 f2, .string f3, .bool f4, .bool f5, .int .i64 f6, .int .i64 f7] 24)).heap[w.heap.size]? = some (.cells #[.int .i64 f1, .int .i64 f2, .string f3, .bool f4, .bool f5, .int .i64 f6, .int .i64 f7] 24 (0, 0))) := hp_old HF.out
        have SL' : Aside (Sl (w5.alloc (.cells #[.int .i64 f1, .int .i64 f2, .string f3, .bool f4, .bool f5, .int .i64 f6, .int .i64 f7] 24)) 7 ao n cap (xs.map Fi.enc)) := SL.out.stays ((Below.refl _ _).alloc (Nat.le_refl _) _)
        have HD' : Aside ((w5.alloc (.cells #[.int .i64 f1, .int .i64 f2, .string f3, .bool f4, .bool f5, .int .i64 f6, .int .i64 f7] 24)).heap[bd]? = some (.cells #[.int .i64 d1, .int .i64 d2, .string d3, .bool d4, .bool d5, .int .i64 d6, .int .i64 d7] 24 (0, 0))) := hp_old HD.out
        have SC' : Aside (Sl (w5.alloc (.cells #[.int .i64 f1, .int .i64 f2, .string f3, .bool f4, .bool f5, .int .i64 f6, .int .i64 f7] 24)) 7 ac yb.length kc (yb.map Fi.enc)) := SC.out.stays ((Below.refl _ _).alloc (Nat.le_refl _) _)
        have HG' : Aside ((w5.alloc (.cells #[.int .i64 f1, .int .i64 f2, .string f3, .bool f4, .bool f5, .int .i64 f6, .int .i64 f7] 24)).heap[w5.heap.size]? = some (.cells #[.int .i64 f1, .int .i64 f2, .string f3, .bool f4, .bool f5, .int .i64 f6, .int .i64 f7] 24 (0, 0))) := hp_new rfl
        have HB' : Aside (Below w.heap.size w (w5.alloc (.cells #[.int .i64 f1, .int .i64 f2, .string f3, .bool f4, .bool f5, .int .i64 f6, .int .i64 f7] 24))) := HB.out.alloc HB.out.size _
        clear HB HF SL HD SC
        go_wp2_with fail
        generalize (w5.alloc (.cells #[.int .i64 f1, .int .i64 f2, .string f3, .bool f4, .bool f5, .int .i64 f6, .int .i64 f7] 24)) = v5 at HF' SL' HD' SC' HG' HB' ⊢
        generalize w5.heap.size = bg at HG' ⊢
        have HF : Aside (v5.heap[w.heap.size]? = some (.cells #[.int .i64 f1, .int .i64 f2, .string f3, .bool f4, .bool f5, .int .i64 f6, .int .i64 f7] 24 (0, 0))) := HF'.out
        clear HF'
        have SL : Aside (Sl v5 7 ao n cap (xs.map Fi.enc)) := SL'.out
        clear SL'
        have HD : Aside (v5.heap[bd]? = some (.cells #[.int .i64 d1, .int .i64 d2, .string d3, .bool d4, .bool d5, .int .i64 d6, .int .i64 d7] 24 (0, 0))) := HD'.out
        clear HD'
        have SC : Aside (Sl v5 7 ac yb.length kc (yb.map Fi.enc)) := SC'.out
        clear SC'
        have HG : Aside (v5.heap[bg]? = some (.cells #[.int .i64 f1, .int .i64 f2, .string f3, .bool f4, .bool f5, .int .i64 f6, .int .i64 f7] 24 (0, 0))) := HG'.out
        clear HG'
        have HB : Aside (Below w.heap.size w v5) := HB'.out
        clear HB'
        refine (c10 _ _ _ SC.out).mono ?_
        rintro e w6 ⟨rfl, hb⟩
        have HF' : Aside (w6.heap[w.heap.size]? = some (.cells #[.int .i64 f1, .int .i64 f2, .string f3, .bool f4, .bool f5, .int .i64 f6, .int .i64 f7] 24 (0, 0))) := heap_later HF.out hb
        have SL' : Aside (Sl w6 7 ao n cap (xs.map Fi.enc)) := SL.out.stays hb
        have HD' : Aside (w6.heap[bd]? = some (.cells #[.int .i64 d1, .int .i64 d2, .string d3, .bool d4, .bool d5, .int .i64 d6, .int .i64 d7] 24 (0, 0))) := heap_later HD.out hb
        have SC' : Aside (Sl w6 7 ac yb.length kc (yb.map Fi.enc)) := SC.out.stays hb
        have HG' : Aside (w6.heap[bg]? = some (.cells #[.int .i64 f1, .int .i64 f2, .string f3, .bool f4, .bool f5, .int .i64 f6, .int .i64 f7] 24 (0, 0))) := heap_later HG.out hb
        have HB' : Aside (Below w.heap.size w w6) := HB.out.trans (hb.mono HB.out.size)
        clear hb HB HF SL HD SC HG
        have HF : Aside (w6.heap[w.heap.size]? = some (.cells #[.int .i64 f1, .int .i64 f2, .string f3, .bool f4, .bool f5, .int .i64 f6, .int .i64 f7] 24 (0, 0))) := HF'.out
        clear HF'
        have SL : Aside (Sl w6 7 ao n cap (xs.map Fi.enc)) := SL'.out
        clear SL'
        have HD : Aside (w6.heap[bd]? = some (.cells #[.int .i64 d1, .int .i64 d2, .string d3, .bool d4, .bool d5, .int .i64 d6, .int .i64 d7] 24 (0, 0))) := HD'.out
        clear HD'
        have SC : Aside (Sl w6 7 ac yb.length kc (yb.map Fi.enc)) := SC'.out
        clear SC'
        have HG : Aside (w6.heap[bg]? = some (.cells #[.int .i64 f1, .int .i64 f2, .string f3, .bool f4, .bool f5, .int .i64 f6, .int .i64 f7] 24 (0, 0))) := HG'.out
        clear HG'
        have HB : Aside (Below w.heap.size w w6) := HB'.out
        clear HB'
        have hfc0 := cell_heap HF.out 0 _ rfl
        have hfc1 := cell_heap HF.out 1 _ rfl
        have hfc2 := cell_heap HF.out 2 _ rfl
        have hfc3 := cell_heap HF.out 3 _ rfl
        have hfc4 := cell_heap HF.out 4 _ rfl
        have hfc5 := cell_heap HF.out 5 _ rfl
        have hfc6 := cell_heap HF.out 6 _ rfl
        have hfclt : w.heap.size < w6.heap.size := (Array.getElem?_eq_some_iff.1 HF.out).1
        have hgc0 := cell_heap HG.out 0 _ rfl
        have hgc1 := cell_heap HG.out 1 _ rfl
        have hgc2 := cell_heap HG.out 2 _ rfl
        have hgc3 := cell_heap HG.out 3 _ rfl
        have hgc4 := cell_heap HG.out 4 _ rfl
        have hgc5 := cell_heap HG.out 5 _ rfl
        have hgc6 := cell_heap HG.out 6 _ rfl
        have hgclt : bg < w6.heap.size := (Array.getElem?_eq_some_iff.1 HG.out).1
        have HF' : Aside ((w6.alloc (.cells #[.int .i64 e1, .int .i64 e2, .string e3, .bool e4, .bool e5, .int .i64 e6, .int .i64 e7] 24)).heap[w.heap.size]? = some (.cells #[.int .i64 f1, .int .i64 f2, .string f3, .bool f4, .bool f5, .int .i64 f6, .int .i64 f7] 24 (0, 0))) := hp_old HF.out
        have SL' : Aside (Sl (w6.alloc (.cells #[.int .i64 e1, .int .i64 e2, .string e3, .bool e4, .bool e5, .int .i64 e6, .int .i64 e7] 24)) 7 ao n cap (xs.map Fi.enc)) := SL.out.stays ((Below.refl _ _).alloc (Nat.le_refl _) _)
        have HD' : Aside ((w6.alloc (.cells #[.int .i64 e1, .int .i64 e2, .string e3, .bool e4, .bool e5, .int .i64 e6, .int .i64 e7] 24)).heap[bd]? = some (.cells #[.int .i64 d1, .int .i64 d2, .string d3, .bool d4, .bool d5, .int .i64 d6, .int .i64 d7] 24 (0, 0))) := hp_old HD.out
        have SC' : Aside (Sl (w6.alloc (.cells #[.int .i64 e1, .int .i64 e2, .string e3, .bool e4, .bool e5, .int .i64 e6, .int .i64 e7] 24)) 7 ac yb.length kc (yb.map Fi.enc)) := SC.out.stays ((Below.refl _ _).alloc (Nat.le_refl _) _)
        have HG' : Aside ((w6.alloc (.cells #[.int .i64 e1, .int .i64 e2, .string e3, .bool e4, .bool e5, .int .i64 e6, .int .i64 e7] 24)).heap[bg]? = some (.cells #[.int .i64 f1, .int .i64 f2, .string f3, .bool f4, .bool f5, .int .i64 f6, .int .i64 f7] 24 (0, 0))) := hp_old HG.out
        have HN' : Aside ((w6.alloc (.cells #[.int .i64 e1, .int .i64 e2, .string e3, .bool e4, .bool e5, .int .i64 e6, .int .i64 e7] 24)).heap[w6.heap.size]? = some (.cells #[.int .i64 e1, .int .i64 e2, .string e3, .bool e4, .bool e5, .int .i64 e6, .int .i64 e7] 24 (0, 0))) := hp_new rfl
        have HB' : Aside (Below w.heap.size w (w6.alloc (.cells #[.int .i64 e1, .int .i64 e2, .string e3, .bool e4, .bool e5, .int .i64 e6, .int .i64 e7] 24))) := HB.out.alloc HB.out.size _
        clear HB HF SL HD SC HG
        go_wp2_with fail
        clear hfc0 hfc1 hfc2 hfc3 hfc4 hfc5 hfc6 hfclt hgc0 hgc1 hgc2 hgc3 hgc4 hgc5 hgc6 hgclt
        generalize (w6.alloc (.cells #[.int .i64 e1, .int .i64 e2, .string e3, .bool e4, .bool e5, .int .i64 e6, .int .i64 e7] 24)) = v6 at HF' SL' HD' SC' HG' HN' HB' ⊢
        generalize w6.heap.size = bn at HN' ⊢
        have HF : Aside (v6.heap[w.heap.size]? = some (.cells #[.int .i64 f1, .int .i64 f2, .string f3, .bool f4, .bool f5, .int .i64 f6, .int .i64 f7] 24 (0, 0))) := HF'.out
        clear HF'
        have SL : Aside (Sl v6 7 ao n cap (xs.map Fi.enc)) := SL'.out
        clear SL'
        have HD : Aside (v6.heap[bd]? = some (.cells #[.int .i64 d1, .int .i64 d2, .string d3, .bool d4, .bool d5, .int .i64 d6, .int .i64 d7] 24 (0, 0))) := HD'.out
        clear HD'
        have SC : Aside (Sl v6 7 ac yb.length kc (yb.map Fi.enc)) := SC'.out
        clear SC'
        have HG : Aside (v6.heap[bg]? = some (.cells #[.int .i64 f1, .int .i64 f2, .string f3, .bool f4, .bool f5, .int .i64 f6, .int .i64 f7] 24 (0, 0))) := HG'.out
        clear HG'
        have HN : Aside (v6.heap[bn]? = some (.cells #[.int .i64 e1, .int .i64 e2, .string e3, .bool e4, .bool e5, .int .i64 e6, .int .i64 e7] 24 (0, 0))) := HN'.out
        clear HN'
        have HB : Aside (Below w.heap.size w v6) := HB'.out
        clear HB'
        refine (alive_calls _).mono ?_
        rintro e w7 ⟨rfl, hb⟩
        have HF' : Aside (w7.heap[w.heap.size]? = some (.cells #[.int .i64 f1, .int .i64 f2, .string f3, .bool f4, .bool f5, .int .i64 f6, .int .i64 f7] 24 (0, 0))) := heap_later HF.out hb
        have SL' : Aside (Sl w7 7 ao n cap (xs.map Fi.enc)) := SL.out.stays hb
        have HD' : Aside (w7.heap[bd]? = some (.cells #[.int .i64 d1, .int .i64 d2, .string d3, .bool d4, .bool d5, .int .i64 d6, .int .i64 d7] 24 (0, 0))) := heap_later HD.out hb
        have SC' : Aside (Sl w7 7 ac yb.length kc (yb.map Fi.enc)) := SC.out.stays hb
        have HG' : Aside (w7.heap[bg]? = some (.cells #[.int .i64 f1, .int .i64 f2, .string f3, .bool f4, .bool f5, .int .i64 f6, .int .i64 f7] 24 (0, 0))) := heap_later HG.out hb
        have HN' : Aside (w7.heap[bn]? = some (.cells #[.int .i64 e1, .int .i64 e2, .string e3, .bool e4, .bool e5, .int .i64 e6, .int .i64 e7] 24 (0, 0))) := heap_later HN.out hb
        have HB' : Aside (Below w.heap.size w w7) := HB.out.trans (hb.mono HB.out.size)
        clear hb HB HF SL HD SC HG HN
        have HF : Aside (w7.heap[w.heap.size]? = some (.cells #[.int .i64 f1, .int .i64 f2, .string f3, .bool f4, .bool f5, .int .i64 f6, .int .i64 f7] 24 (0, 0))) := HF'.out
        clear HF'
        have SL : Aside (Sl w7 7 ao n cap (xs.map Fi.enc)) := SL'.out
        clear SL'
        have HD : Aside (w7.heap[bd]? = some (.cells #[.int .i64 d1, .int .i64 d2, .string d3, .bool d4, .bool d5, .int .i64 d6, .int .i64 d7] 24 (0, 0))) := HD'.out
        clear HD'
        have SC : Aside (Sl w7 7 ac yb.length kc (yb.map Fi.enc)) := SC'.out
        clear SC'
        have HG : Aside (w7.heap[bg]? = some (.cells #[.int .i64 f1, .int .i64 f2, .string f3, .bool f4, .bool f5, .int .i64 f6, .int .i64 f7] 24 (0, 0))) := HG'.out
        clear HG'
        have HN : Aside (w7.heap[bn]? = some (.cells #[.int .i64 e1, .int .i64 e2, .string e3, .bool e4, .bool e5, .int .i64 e6, .int .i64 e7] 24 (0, 0))) := HN'.out
        clear HN'
        have HB : Aside (Below w.heap.size w w7) := HB'.out
        clear HB'
        go_wp2
        go_ret
        exact ⟨rfl, HB.out⟩
      · have hne : (num != f1) = true := by simp [hnm]
        have c10 : ∀ U a c, Sl U 7 a yb.length c (yb.map Fi.enc) → Calls Try.prog 20 #[.slice a yb.length c, .int .i64 num] U fun e w' => e = .returned (.tuple #[.agg #[.int .i64 d1, .int .i64 d2, .string d3, .bool d4, .bool d5, .int .i64 d6, .int .i64 d7], .bool had]) ∧ Below U.heap.size U w' := fun U a c hU => by
          have := find_calls num a yb.length c yb U hU
          rw [show fdF num yb = (⟨d1, d2, d3, d4, d5, d6, d7⟩, had) from by rw [← HD0.out]; exact (fd_congr HR.asc SO.out.asc (fun y hy => SO.out.mem y (by rw [hy]; exact hnm))).symm] at this; exact this
        have hnb : (had != had) = false := by simp
        clear hnm HR SO HD0 hyl
        have HB : Aside (Below w.heap.size w (w.alloc (.cells #[.int .i64 f1, .int .i64 f2, .string f3, .bool f4, .bool f5, .int .i64 f6, .int .i64 f7] 24))) := by
          show Below _ _ _
          repeat (first | (with_reducible exact Below.refl _ _) | (with_reducible assumption) | (with_reducible refine below_to_plus ?_ ?_ _) | (with_reducible refine below_holds ?_ ?_ _ _) | (with_reducible refine Below.alloc ?_ ?_ _) | (with_reducible refine Below.drew ?_) | (with_reducible refine below_drewN ?_ _) | (with_reducible refine Below.setCell ?_ ?_ _))
          all_goals first | omega | (simp; done) | (simp [go_sem]; done) | (simp [go_sem]; omega)
        have HF : Aside (((w.alloc (.cells #[.int .i64 f1, .int .i64 f2, .string f3, .bool f4, .bool f5, .int .i64 f6, .int .i64 f7] 24))).heap[w.heap.size]? = some (.cells #[.int .i64 f1, .int .i64 f2, .string f3, .bool f4, .bool f5, .int .i64 f6, .int .i64 f7] 24 (0, 0))) := hp_new rfl
        have SL : Aside (Sl (w.alloc (.cells #[.int .i64 f1, .int .i64 f2, .string f3, .bool f4, .bool f5, .int .i64 f6, .int .i64 f7] 24)) 7 ao n cap (xs.map Fi.enc)) := H.out.stays HB.out
        clear H h
        go_enter Try.func7, Try.ntmps7
        go_wp2_with fail
        refine (c1 _ HB.out).mono ?_
        rintro e w1 ⟨rfl, hb⟩
        have HF' : Aside (w1.heap[w.heap.size]? = some (.cells #[.int .i64 f1, .int .i64 f2, .string f3, .bool f4, .bool f5, .int .i64 f6, .int .i64 f7] 24 (0, 0))) := heap_later HF.out hb
        have SL' : Aside (Sl w1 7 ao n cap (xs.map Fi.enc)) := SL.out.stays hb
        have HB' : Aside (Below w.heap.size w w1) := HB.out.trans (hb.mono HB.out.size)
        clear hb HB HF SL
        have HF : Aside (w1.heap[w.heap.size]? = some (.cells #[.int .i64 f1, .int .i64 f2, .string f3, .bool f4, .bool f5, .int .i64 f6, .int .i64 f7] 24 (0, 0))) := HF'.out
        clear HF'
        have SL : Aside (Sl w1 7 ao n cap (xs.map Fi.enc)) := SL'.out
        clear SL'
        have HB : Aside (Below w.heap.size w w1) := HB'.out
        clear HB'
        go_wp2_with fail
        refine (c3 _ HB.out).mono ?_
        rintro e w2 ⟨rfl, hb⟩
        have HF' : Aside (w2.heap[w.heap.size]? = some (.cells #[.int .i64 f1, .int .i64 f2, .string f3, .bool f4, .bool f5, .int .i64 f6, .int .i64 f7] 24 (0, 0))) := heap_later HF.out hb
        have SL' : Aside (Sl w2 7 ao n cap (xs.map Fi.enc)) := SL.out.stays hb
        have HB' : Aside (Below w.heap.size w w2) := HB.out.trans (hb.mono HB.out.size)
        clear hb HB HF SL
        have HF : Aside (w2.heap[w.heap.size]? = some (.cells #[.int .i64 f1, .int .i64 f2, .string f3, .bool f4, .bool f5, .int .i64 f6, .int .i64 f7] 24 (0, 0))) := HF'.out
        clear HF'
        have SL : Aside (Sl w2 7 ao n cap (xs.map Fi.enc)) := SL'.out
        clear SL'
        have HB : Aside (Below w.heap.size w w2) := HB'.out
        clear HB'
        have hfc0 := cell_heap HF.out 0 _ rfl
        have hfc1 := cell_heap HF.out 1 _ rfl
        have hfc2 := cell_heap HF.out 2 _ rfl
        have hfc3 := cell_heap HF.out 3 _ rfl
        have hfc4 := cell_heap HF.out 4 _ rfl
        have hfc5 := cell_heap HF.out 5 _ rfl
        have hfc6 := cell_heap HF.out 6 _ rfl
        have hfclt : w.heap.size < w2.heap.size := (Array.getElem?_eq_some_iff.1 HF.out).1
        have HF' : Aside ((w2.alloc (.cells #[.int .i64 d1, .int .i64 d2, .string d3, .bool d4, .bool d5, .int .i64 d6, .int .i64 d7] 24)).heap[w.heap.size]? = some (.cells #[.int .i64 f1, .int .i64 f2, .string f3, .bool f4, .bool f5, .int .i64 f6, .int .i64 f7] 24 (0, 0))) := hp_old HF.out
        have SL' : Aside (Sl (w2.alloc (.cells #[.int .i64 d1, .int .i64 d2, .string d3, .bool d4, .bool d5, .int .i64 d6, .int .i64 d7] 24)) 7 ao n cap (xs.map Fi.enc)) := SL.out.stays ((Below.refl _ _).alloc (Nat.le_refl _) _)
        have HD' : Aside ((w2.alloc (.cells #[.int .i64 d1, .int .i64 d2, .string d3, .bool d4, .bool d5, .int .i64 d6, .int .i64 d7] 24)).heap[w2.heap.size]? = some (.cells #[.int .i64 d1, .int .i64 d2, .string d3, .bool d4, .bool d5, .int .i64 d6, .int .i64 d7] 24 (0, 0))) := hp_new rfl
        have HB' : Aside (Below w.heap.size w (w2.alloc (.cells #[.int .i64 d1, .int .i64 d2, .string d3, .bool d4, .bool d5, .int .i64 d6, .int .i64 d7] 24))) := HB.out.alloc HB.out.size _
        clear HB HF SL
        go_wp2_with fail
        clear hfc0 hfc1 hfc2 hfc3 hfc4 hfc5 hfc6 hfclt
        generalize (w2.alloc (.cells #[.int .i64 d1, .int .i64 d2, .string d3, .bool d4, .bool d5, .int .i64 d6, .int .i64 d7] 24)) = v2 at HF' SL' HD' HB' ⊢
        generalize w2.heap.size = bd at HD' ⊢
        have HF : Aside (v2.heap[w.heap.size]? = some (.cells #[.int .i64 f1, .int .i64 f2, .string f3, .bool f4, .bool f5, .int .i64 f6, .int .i64 f7] 24 (0, 0))) := HF'.out
        clear HF'
        have SL : Aside (Sl v2 7 ao n cap (xs.map Fi.enc)) := SL'.out
        clear SL'
        have HD : Aside (v2.heap[bd]? = some (.cells #[.int .i64 d1, .int .i64 d2, .string d3, .bool d4, .bool d5, .int .i64 d6, .int .i64 d7] 24 (0, 0))) := HD'.out
        clear HD'
        have HB : Aside (Below w.heap.size w v2) := HB'.out
        clear HB'
        refine (c4 _ HB.out).mono ?_
        rintro e w3 ⟨aa, ka, rfl, _, hb⟩
        have HF' : Aside (w3.heap[w.heap.size]? = some (.cells #[.int .i64 f1, .int .i64 f2, .string f3, .bool f4, .bool f5, .int .i64 f6, .int .i64 f7] 24 (0, 0))) := heap_later HF.out hb
        have SL' : Aside (Sl w3 7 ao n cap (xs.map Fi.enc)) := SL.out.stays hb
        have HD' : Aside (w3.heap[bd]? = some (.cells #[.int .i64 d1, .int .i64 d2, .string d3, .bool d4, .bool d5, .int .i64 d6, .int .i64 d7] 24 (0, 0))) := heap_later HD.out hb
        have HB' : Aside (Below w.heap.size w w3) := HB.out.trans (hb.mono HB.out.size)
        clear hb HB HF SL HD
        have HF : Aside (w3.heap[w.heap.size]? = some (.cells #[.int .i64 f1, .int .i64 f2, .string f3, .bool f4, .bool f5, .int .i64 f6, .int .i64 f7] 24 (0, 0))) := HF'.out
        clear HF'
        have SL : Aside (Sl w3 7 ao n cap (xs.map Fi.enc)) := SL'.out
        clear SL'
        have HD : Aside (w3.heap[bd]? = some (.cells #[.int .i64 d1, .int .i64 d2, .string d3, .bool d4, .bool d5, .int .i64 d6, .int .i64 d7] 24 (0, 0))) := HD'.out
        clear HD'
        have HB : Aside (Below w.heap.size w w3) := HB'.out
        clear HB'
        have hfc0 := cell_heap HF.out 0 _ rfl
        have hfc1 := cell_heap HF.out 1 _ rfl
        have hfc2 := cell_heap HF.out 2 _ rfl
        have hfc3 := cell_heap HF.out 3 _ rfl
        have hfc4 := cell_heap HF.out 4 _ rfl
        have hfc5 := cell_heap HF.out 5 _ rfl
        have hfc6 := cell_heap HF.out 6 _ rfl
        have hfclt : w.heap.size < w3.heap.size := (Array.getElem?_eq_some_iff.1 HF.out).1
        go_wp2_with fail
        refine (c5 _ HB.out).mono ?_
        rintro e w4 ⟨ac, kc, rfl, hSC, hb⟩
        have HF' : Aside (w4.heap[w.heap.size]? = some (.cells #[.int .i64 f1, .int .i64 f2, .string f3, .bool f4, .bool f5, .int .i64 f6, .int .i64 f7] 24 (0, 0))) := heap_later HF.out hb
        have SL' : Aside (Sl w4 7 ao n cap (xs.map Fi.enc)) := SL.out.stays hb
        have HD' : Aside (w4.heap[bd]? = some (.cells #[.int .i64 d1, .int .i64 d2, .string d3, .bool d4, .bool d5, .int .i64 d6, .int .i64 d7] 24 (0, 0))) := heap_later HD.out hb
        have SC' : Aside (Sl w4 7 ac yb.length kc (yb.map Fi.enc)) := hSC
        have HB' : Aside (Below w.heap.size w w4) := HB.out.trans (hb.mono HB.out.size)
        clear hb HB HF SL HD hSC hfc0 hfc1 hfc2 hfc3 hfc4 hfc5 hfc6 hfclt
        have HF : Aside (w4.heap[w.heap.size]? = some (.cells #[.int .i64 f1, .int .i64 f2, .string f3, .bool f4, .bool f5, .int .i64 f6, .int .i64 f7] 24 (0, 0))) := HF'.out
        clear HF'
        have SL : Aside (Sl w4 7 ao n cap (xs.map Fi.enc)) := SL'.out
        clear SL'
        have HD : Aside (w4.heap[bd]? = some (.cells #[.int .i64 d1, .int .i64 d2, .string d3, .bool d4, .bool d5, .int .i64 d6, .int .i64 d7] 24 (0, 0))) := HD'.out
        clear HD'
        have SC : Aside (Sl w4 7 ac yb.length kc (yb.map Fi.enc)) := SC'.out
        clear SC'
        have HB : Aside (Below w.heap.size w w4) := HB'.out
        clear HB'
        have hfc0 := cell_heap HF.out 0 _ rfl
        have hfc1 := cell_heap HF.out 1 _ rfl
        have hfc2 := cell_heap HF.out 2 _ rfl
        have hfc3 := cell_heap HF.out 3 _ rfl
        have hfc4 := cell_heap HF.out 4 _ rfl
        have hfc5 := cell_heap HF.out 5 _ rfl
        have hfc6 := cell_heap HF.out 6 _ rfl
        have hfclt : w.heap.size < w4.heap.size := (Array.getElem?_eq_some_iff.1 HF.out).1
        go_wp2_with fail
        refine (c9 _ _ _ SC.out).mono ?_
        rintro e w5 ⟨rfl, hb⟩
        have HF' : Aside (w5.heap[w.heap.size]? = some (.cells #[.int .i64 f1, .int .i64 f2, .string f3, .bool f4, .bool f5, .int .i64 f6, .int .i64 f7] 24 (0, 0))) := heap_later HF.out hb
        have SL' : Aside (Sl w5 7 ao n cap (xs.map Fi.enc)) := SL.out.stays hb
        have HD' : Aside (w5.heap[bd]? = some (.cells #[.int .i64 d1, .int .i64 d2, .string d3, .bool d4, .bool d5, .int .i64 d6, .int .i64 d7] 24 (0, 0))) := heap_later HD.out hb
        have SC' : Aside (Sl w5 7 ac yb.length kc (yb.map Fi.enc)) := SC.out.stays hb
        have HB' : Aside (Below w.heap.size w w5) := HB.out.trans (hb.mono HB.out.size)
        clear hb HB HF SL HD SC hfc0 hfc1 hfc2 hfc3 hfc4 hfc5 hfc6 hfclt
        have HF : Aside (w5.heap[w.heap.size]? = some (.cells #[.int .i64 f1, .int .i64 f2, .string f3, .bool f4, .bool f5, .int .i64 f6, .int .i64 f7] 24 (0, 0))) := HF'.out
        clear HF'
        have SL : Aside (Sl w5 7 ao n cap (xs.map Fi.enc)) := SL'.out
        clear SL'
        have HD : Aside (w5.heap[bd]? = some (.cells #[.int .i64 d1, .int .i64 d2, .string d3, .bool d4, .bool d5, .int .i64 d6, .int .i64 d7] 24 (0, 0))) := HD'.out
        clear HD'
        have SC : Aside (Sl w5 7 ac yb.length kc (yb.map Fi.enc)) := SC'.out
        clear SC'
        have HB : Aside (Below w.heap.size w w5) := HB'.out
        clear HB'
        have HF' : Aside ((w5.alloc (.cells #[.int .i64 f1, .int .i64 f2, .string f3, .bool f4, .bool f5, .int .i64 f6, .int .i64 f7] 24)).heap[w.heap.size]? = some (.cells #[.int .i64 f1, .int .i64 f2, .string f3, .bool f4, .bool f5, .int .i64 f6, .int .i64 f7] 24 (0, 0))) := hp_old HF.out
        have SL' : Aside (Sl (w5.alloc (.cells #[.int .i64 f1, .int .i64 f2, .string f3, .bool f4, .bool f5, .int .i64 f6, .int .i64 f7] 24)) 7 ao n cap (xs.map Fi.enc)) := SL.out.stays ((Below.refl _ _).alloc (Nat.le_refl _) _)
        have HD' : Aside ((w5.alloc (.cells #[.int .i64 f1, .int .i64 f2, .string f3, .bool f4, .bool f5, .int .i64 f6, .int .i64 f7] 24)).heap[bd]? = some (.cells #[.int .i64 d1, .int .i64 d2, .string d3, .bool d4, .bool d5, .int .i64 d6, .int .i64 d7] 24 (0, 0))) := hp_old HD.out
        have SC' : Aside (Sl (w5.alloc (.cells #[.int .i64 f1, .int .i64 f2, .string f3, .bool f4, .bool f5, .int .i64 f6, .int .i64 f7] 24)) 7 ac yb.length kc (yb.map Fi.enc)) := SC.out.stays ((Below.refl _ _).alloc (Nat.le_refl _) _)
        have HG' : Aside ((w5.alloc (.cells #[.int .i64 f1, .int .i64 f2, .string f3, .bool f4, .bool f5, .int .i64 f6, .int .i64 f7] 24)).heap[w5.heap.size]? = some (.cells #[.int .i64 f1, .int .i64 f2, .string f3, .bool f4, .bool f5, .int .i64 f6, .int .i64 f7] 24 (0, 0))) := hp_new rfl
        have HB' : Aside (Below w.heap.size w (w5.alloc (.cells #[.int .i64 f1, .int .i64 f2, .string f3, .bool f4, .bool f5, .int .i64 f6, .int .i64 f7] 24))) := HB.out.alloc HB.out.size _
        clear HB HF SL HD SC
        go_wp2_with fail
        generalize (w5.alloc (.cells #[.int .i64 f1, .int .i64 f2, .string f3, .bool f4, .bool f5, .int .i64 f6, .int .i64 f7] 24)) = v5 at HF' SL' HD' SC' HG' HB' ⊢
        generalize w5.heap.size = bg at HG' ⊢
        have HF : Aside (v5.heap[w.heap.size]? = some (.cells #[.int .i64 f1, .int .i64 f2, .string f3, .bool f4, .bool f5, .int .i64 f6, .int .i64 f7] 24 (0, 0))) := HF'.out
        clear HF'
        have SL : Aside (Sl v5 7 ao n cap (xs.map Fi.enc)) := SL'.out
        clear SL'
        have HD : Aside (v5.heap[bd]? = some (.cells #[.int .i64 d1, .int .i64 d2, .string d3, .bool d4, .bool d5, .int .i64 d6, .int .i64 d7] 24 (0, 0))) := HD'.out
        clear HD'
        have SC : Aside (Sl v5 7 ac yb.length kc (yb.map Fi.enc)) := SC'.out
        clear SC'
        have HG : Aside (v5.heap[bg]? = some (.cells #[.int .i64 f1, .int .i64 f2, .string f3, .bool f4, .bool f5, .int .i64 f6, .int .i64 f7] 24 (0, 0))) := HG'.out
        clear HG'
        have HB : Aside (Below w.heap.size w v5) := HB'.out
        clear HB'
        refine (c10 _ _ _ SC.out).mono ?_
        rintro e w6 ⟨rfl, hb⟩
        have HF' : Aside (w6.heap[w.heap.size]? = some (.cells #[.int .i64 f1, .int .i64 f2, .string f3, .bool f4, .bool f5, .int .i64 f6, .int .i64 f7] 24 (0, 0))) := heap_later HF.out hb
        have SL' : Aside (Sl w6 7 ao n cap (xs.map Fi.enc)) := SL.out.stays hb
        have HD' : Aside (w6.heap[bd]? = some (.cells #[.int .i64 d1, .int .i64 d2, .string d3, .bool d4, .bool d5, .int .i64 d6, .int .i64 d7] 24 (0, 0))) := heap_later HD.out hb
        have SC' : Aside (Sl w6 7 ac yb.length kc (yb.map Fi.enc)) := SC.out.stays hb
        have HG' : Aside (w6.heap[bg]? = some (.cells #[.int .i64 f1, .int .i64 f2, .string f3, .bool f4, .bool f5, .int .i64 f6, .int .i64 f7] 24 (0, 0))) := heap_later HG.out hb
        have HB' : Aside (Below w.heap.size w w6) := HB.out.trans (hb.mono HB.out.size)
        clear hb HB HF SL HD SC HG
        have HF : Aside (w6.heap[w.heap.size]? = some (.cells #[.int .i64 f1, .int .i64 f2, .string f3, .bool f4, .bool f5, .int .i64 f6, .int .i64 f7] 24 (0, 0))) := HF'.out
        clear HF'
        have SL : Aside (Sl w6 7 ao n cap (xs.map Fi.enc)) := SL'.out
        clear SL'
        have HD : Aside (w6.heap[bd]? = some (.cells #[.int .i64 d1, .int .i64 d2, .string d3, .bool d4, .bool d5, .int .i64 d6, .int .i64 d7] 24 (0, 0))) := HD'.out
        clear HD'
        have SC : Aside (Sl w6 7 ac yb.length kc (yb.map Fi.enc)) := SC'.out
        clear SC'
        have HG : Aside (w6.heap[bg]? = some (.cells #[.int .i64 f1, .int .i64 f2, .string f3, .bool f4, .bool f5, .int .i64 f6, .int .i64 f7] 24 (0, 0))) := HG'.out
        clear HG'
        have HB : Aside (Below w.heap.size w w6) := HB'.out
        clear HB'
        have hfc0 := cell_heap HF.out 0 _ rfl
        have hfc1 := cell_heap HF.out 1 _ rfl
        have hfc2 := cell_heap HF.out 2 _ rfl
        have hfc3 := cell_heap HF.out 3 _ rfl
        have hfc4 := cell_heap HF.out 4 _ rfl
        have hfc5 := cell_heap HF.out 5 _ rfl
        have hfc6 := cell_heap HF.out 6 _ rfl
        have hfclt : w.heap.size < w6.heap.size := (Array.getElem?_eq_some_iff.1 HF.out).1
        have hgc0 := cell_heap HG.out 0 _ rfl
        have hgc1 := cell_heap HG.out 1 _ rfl
        have hgc2 := cell_heap HG.out 2 _ rfl
        have hgc3 := cell_heap HG.out 3 _ rfl
        have hgc4 := cell_heap HG.out 4 _ rfl
        have hgc5 := cell_heap HG.out 5 _ rfl
        have hgc6 := cell_heap HG.out 6 _ rfl
        have hgclt : bg < w6.heap.size := (Array.getElem?_eq_some_iff.1 HG.out).1
        have hdc0 := cell_heap HD.out 0 _ rfl
        have hdc1 := cell_heap HD.out 1 _ rfl
        have hdc2 := cell_heap HD.out 2 _ rfl
        have hdc3 := cell_heap HD.out 3 _ rfl
        have hdc4 := cell_heap HD.out 4 _ rfl
        have hdc5 := cell_heap HD.out 5 _ rfl
        have hdc6 := cell_heap HD.out 6 _ rfl
        have hdclt : bd < w6.heap.size := (Array.getElem?_eq_some_iff.1 HD.out).1
        have HF' : Aside ((w6.alloc (.cells #[.int .i64 d1, .int .i64 d2, .string d3, .bool d4, .bool d5, .int .i64 d6, .int .i64 d7] 24)).heap[w.heap.size]? = some (.cells #[.int .i64 f1, .int .i64 f2, .string f3, .bool f4, .bool f5, .int .i64 f6, .int .i64 f7] 24 (0, 0))) := hp_old HF.out
        have SL' : Aside (Sl (w6.alloc (.cells #[.int .i64 d1, .int .i64 d2, .string d3, .bool d4, .bool d5, .int .i64 d6, .int .i64 d7] 24)) 7 ao n cap (xs.map Fi.enc)) := SL.out.stays ((Below.refl _ _).alloc (Nat.le_refl _) _)
        have HD' : Aside ((w6.alloc (.cells #[.int .i64 d1, .int .i64 d2, .string d3, .bool d4, .bool d5, .int .i64 d6, .int .i64 d7] 24)).heap[bd]? = some (.cells #[.int .i64 d1, .int .i64 d2, .string d3, .bool d4, .bool d5, .int .i64 d6, .int .i64 d7] 24 (0, 0))) := hp_old HD.out
        have SC' : Aside (Sl (w6.alloc (.cells #[.int .i64 d1, .int .i64 d2, .string d3, .bool d4, .bool d5, .int .i64 d6, .int .i64 d7] 24)) 7 ac yb.length kc (yb.map Fi.enc)) := SC.out.stays ((Below.refl _ _).alloc (Nat.le_refl _) _)
        have HG' : Aside ((w6.alloc (.cells #[.int .i64 d1, .int .i64 d2, .string d3, .bool d4, .bool d5, .int .i64 d6, .int .i64 d7] 24)).heap[bg]? = some (.cells #[.int .i64 f1, .int .i64 f2, .string f3, .bool f4, .bool f5, .int .i64 f6, .int .i64 f7] 24 (0, 0))) := hp_old HG.out
        have HN' : Aside ((w6.alloc (.cells #[.int .i64 d1, .int .i64 d2, .string d3, .bool d4, .bool d5, .int .i64 d6, .int .i64 d7] 24)).heap[w6.heap.size]? = some (.cells #[.int .i64 d1, .int .i64 d2, .string d3, .bool d4, .bool d5, .int .i64 d6, .int .i64 d7] 24 (0, 0))) := hp_new rfl
        have HB' : Aside (Below w.heap.size w (w6.alloc (.cells #[.int .i64 d1, .int .i64 d2, .string d3, .bool d4, .bool d5, .int .i64 d6, .int .i64 d7] 24))) := HB.out.alloc HB.out.size _
        clear HB HF SL HD SC HG
        go_wp2_with fail
        clear hfc0 hfc1 hfc2 hfc3 hfc4 hfc5 hfc6 hfclt hgc0 hgc1 hgc2 hgc3 hgc4 hgc5 hgc6 hgclt hdc0 hdc1 hdc2 hdc3 hdc4 hdc5 hdc6 hdclt
        generalize (w6.alloc (.cells #[.int .i64 d1, .int .i64 d2, .string d3, .bool d4, .bool d5, .int .i64 d6, .int .i64 d7] 24)) = v6 at HF' SL' HD' SC' HG' HN' HB' ⊢
        generalize w6.heap.size = bn at HN' ⊢
        have HF : Aside (v6.heap[w.heap.size]? = some (.cells #[.int .i64 f1, .int .i64 f2, .string f3, .bool f4, .bool f5, .int .i64 f6, .int .i64 f7] 24 (0, 0))) := HF'.out
        clear HF'
        have SL : Aside (Sl v6 7 ao n cap (xs.map Fi.enc)) := SL'.out
        clear SL'
        have HD : Aside (v6.heap[bd]? = some (.cells #[.int .i64 d1, .int .i64 d2, .string d3, .bool d4, .bool d5, .int .i64 d6, .int .i64 d7] 24 (0, 0))) := HD'.out
        clear HD'
        have SC : Aside (Sl v6 7 ac yb.length kc (yb.map Fi.enc)) := SC'.out
        clear SC'
        have HG : Aside (v6.heap[bg]? = some (.cells #[.int .i64 f1, .int .i64 f2, .string f3, .bool f4, .bool f5, .int .i64 f6, .int .i64 f7] 24 (0, 0))) := HG'.out
        clear HG'
        have HN : Aside (v6.heap[bn]? = some (.cells #[.int .i64 d1, .int .i64 d2, .string d3, .bool d4, .bool d5, .int .i64 d6, .int .i64 d7] 24 (0, 0))) := HN'.out
        clear HN'
        have HB : Aside (Below w.heap.size w v6) := HB'.out
        clear HB'
        refine (alive_calls _).mono ?_
        rintro e w7 ⟨rfl, hb⟩
        have HF' : Aside (w7.heap[w.heap.size]? = some (.cells #[.int .i64 f1, .int .i64 f2, .string f3, .bool f4, .bool f5, .int .i64 f6, .int .i64 f7] 24 (0, 0))) := heap_later HF.out hb
        have SL' : Aside (Sl w7 7 ao n cap (xs.map Fi.enc)) := SL.out.stays hb
        have HD' : Aside (w7.heap[bd]? = some (.cells #[.int .i64 d1, .int .i64 d2, .string d3, .bool d4, .bool d5, .int .i64 d6, .int .i64 d7] 24 (0, 0))) := heap_later HD.out hb
        have SC' : Aside (Sl w7 7 ac yb.length kc (yb.map Fi.enc)) := SC.out.stays hb
        have HG' : Aside (w7.heap[bg]? = some (.cells #[.int .i64 f1, .int .i64 f2, .string f3, .bool f4, .bool f5, .int .i64 f6, .int .i64 f7] 24 (0, 0))) := heap_later HG.out hb
        have HN' : Aside (w7.heap[bn]? = some (.cells #[.int .i64 d1, .int .i64 d2, .string d3, .bool d4, .bool d5, .int .i64 d6, .int .i64 d7] 24 (0, 0))) := heap_later HN.out hb
        have HB' : Aside (Below w.heap.size w w7) := HB.out.trans (hb.mono HB.out.size)
        clear hb HB HF SL HD SC HG HN
        have HF : Aside (w7.heap[w.heap.size]? = some (.cells #[.int .i64 f1, .int .i64 f2, .string f3, .bool f4, .bool f5, .int .i64 f6, .int .i64 f7] 24 (0, 0))) := HF'.out
        clear HF'
        have SL : Aside (Sl w7 7 ao n cap (xs.map Fi.enc)) := SL'.out
        clear SL'
        have HD : Aside (w7.heap[bd]? = some (.cells #[.int .i64 d1, .int .i64 d2, .string d3, .bool d4, .bool d5, .int .i64 d6, .int .i64 d7] 24 (0, 0))) := HD'.out
        clear HD'
        have SC : Aside (Sl w7 7 ac yb.length kc (yb.map Fi.enc)) := SC'.out
        clear SC'
        have HG : Aside (w7.heap[bg]? = some (.cells #[.int .i64 f1, .int .i64 f2, .string f3, .bool f4, .bool f5, .int .i64 f6, .int .i64 f7] 24 (0, 0))) := HG'.out
        clear HG'
        have HN : Aside (w7.heap[bn]? = some (.cells #[.int .i64 d1, .int .i64 d2, .string d3, .bool d4, .bool d5, .int .i64 d6, .int .i64 d7] 24 (0, 0))) := HN'.out
        clear HN'
        have HB : Aside (Below w.heap.size w w7) := HB'.out
        clear HB'
        go_wp2
        go_ret
        exact ⟨rfl, HB.out⟩
    · have hse : ((setF ⟨f1, f2, f3, f4, f5, f6, f7⟩ xs).2 == 0) = false := by simpa using hes
      clear hS hr hes
      generalize setF ⟨f1, f2, f3, f4, f5, f6, f7⟩ xs = rb at c5 hse
      obtain ⟨yb, eb⟩ := rb
      simp only [] at hse
      clear HR HD0
      have HB : Aside (Below w.heap.size w (w.alloc (.cells #[.int .i64 f1, .int .i64 f2, .string f3, .bool f4, .bool f5, .int .i64 f6, .int .i64 f7] 24))) := by
        show Below _ _ _
        repeat (first | (with_reducible exact Below.refl _ _) | (with_reducible assumption) | (with_reducible refine below_to_plus ?_ ?_ _) | (with_reducible refine below_holds ?_ ?_ _ _) | (with_reducible refine Below.alloc ?_ ?_ _) | (with_reducible refine Below.drew ?_) | (with_reducible refine below_drewN ?_ _) | (with_reducible refine Below.setCell ?_ ?_ _))
        all_goals first | omega | (simp; done) | (simp [go_sem]; done) | (simp [go_sem]; omega)
      have HF : Aside (((w.alloc (.cells #[.int .i64 f1, .int .i64 f2, .string f3, .bool f4, .bool f5, .int .i64 f6, .int .i64 f7] 24))).heap[w.heap.size]? = some (.cells #[.int .i64 f1, .int .i64 f2, .string f3, .bool f4, .bool f5, .int .i64 f6, .int .i64 f7] 24 (0, 0))) := hp_new rfl
      have SL : Aside (Sl (w.alloc (.cells #[.int .i64 f1, .int .i64 f2, .string f3, .bool f4, .bool f5, .int .i64 f6, .int .i64 f7] 24)) 7 ao n cap (xs.map Fi.enc)) := H.out.stays HB.out
      clear H h
      go_enter Try.func7, Try.ntmps7
      go_wp2_with fail
      refine (c1 _ HB.out).mono ?_
      rintro e w1 ⟨rfl, hb⟩
      have HF' : Aside (w1.heap[w.heap.size]? = some (.cells #[.int .i64 f1, .int .i64 f2, .string f3, .bool f4, .bool f5, .int .i64 f6, .int .i64 f7] 24 (0, 0))) := heap_later HF.out hb
      have SL' : Aside (Sl w1 7 ao n cap (xs.map Fi.enc)) := SL.out.stays hb
      have HB' : Aside (Below w.heap.size w w1) := HB.out.trans (hb.mono HB.out.size)
      clear hb HB HF SL
      have HF : Aside (w1.heap[w.heap.size]? = some (.cells #[.int .i64 f1, .int .i64 f2, .string f3, .bool f4, .bool f5, .int .i64 f6, .int .i64 f7] 24 (0, 0))) := HF'.out
      clear HF'
      have SL : Aside (Sl w1 7 ao n cap (xs.map Fi.enc)) := SL'.out
      clear SL'
      have HB : Aside (Below w.heap.size w w1) := HB'.out
      clear HB'
      go_wp2_with fail
      refine (c3 _ HB.out).mono ?_
      rintro e w2 ⟨rfl, hb⟩
      have HF' : Aside (w2.heap[w.heap.size]? = some (.cells #[.int .i64 f1, .int .i64 f2, .string f3, .bool f4, .bool f5, .int .i64 f6, .int .i64 f7] 24 (0, 0))) := heap_later HF.out hb
      have SL' : Aside (Sl w2 7 ao n cap (xs.map Fi.enc)) := SL.out.stays hb
      have HB' : Aside (Below w.heap.size w w2) := HB.out.trans (hb.mono HB.out.size)
      clear hb HB HF SL
      have HF : Aside (w2.heap[w.heap.size]? = some (.cells #[.int .i64 f1, .int .i64 f2, .string f3, .bool f4, .bool f5, .int .i64 f6, .int .i64 f7] 24 (0, 0))) := HF'.out
      clear HF'
      have SL : Aside (Sl w2 7 ao n cap (xs.map Fi.enc)) := SL'.out
      clear SL'
      have HB : Aside (Below w.heap.size w w2) := HB'.out
      clear HB'
      have hfc0 := cell_heap HF.out 0 _ rfl
      have hfc1 := cell_heap HF.out 1 _ rfl
      have hfc2 := cell_heap HF.out 2 _ rfl
      have hfc3 := cell_heap HF.out 3 _ rfl
      have hfc4 := cell_heap HF.out 4 _ rfl
      have hfc5 := cell_heap HF.out 5 _ rfl
      have hfc6 := cell_heap HF.out 6 _ rfl
      have hfclt : w.heap.size < w2.heap.size := (Array.getElem?_eq_some_iff.1 HF.out).1
      have HF' : Aside ((w2.alloc (.cells #[.int .i64 d1, .int .i64 d2, .string d3, .bool d4, .bool d5, .int .i64 d6, .int .i64 d7] 24)).heap[w.heap.size]? = some (.cells #[.int .i64 f1, .int .i64 f2, .string f3, .bool f4, .bool f5, .int .i64 f6, .int .i64 f7] 24 (0, 0))) := hp_old HF.out
      have SL' : Aside (Sl (w2.alloc (.cells #[.int .i64 d1, .int .i64 d2, .string d3, .bool d4, .bool d5, .int .i64 d6, .int .i64 d7] 24)) 7 ao n cap (xs.map Fi.enc)) := SL.out.stays ((Below.refl _ _).alloc (Nat.le_refl _) _)
      have HD' : Aside ((w2.alloc (.cells #[.int .i64 d1, .int .i64 d2, .string d3, .bool d4, .bool d5, .int .i64 d6, .int .i64 d7] 24)).heap[w2.heap.size]? = some (.cells #[.int .i64 d1, .int .i64 d2, .string d3, .bool d4, .bool d5, .int .i64 d6, .int .i64 d7] 24 (0, 0))) := hp_new rfl
      have HB' : Aside (Below w.heap.size w (w2.alloc (.cells #[.int .i64 d1, .int .i64 d2, .string d3, .bool d4, .bool d5, .int .i64 d6, .int .i64 d7] 24))) := HB.out.alloc HB.out.size _
      clear HB HF SL
      go_wp2_with fail
      clear hfc0 hfc1 hfc2 hfc3 hfc4 hfc5 hfc6 hfclt
      generalize (w2.alloc (.cells #[.int .i64 d1, .int .i64 d2, .string d3, .bool d4, .bool d5, .int .i64 d6, .int .i64 d7] 24)) = v2 at HF' SL' HD' HB' ⊢
      generalize w2.heap.size = bd at HD' ⊢
      have HF : Aside (v2.heap[w.heap.size]? = some (.cells #[.int .i64 f1, .int .i64 f2, .string f3, .bool f4, .bool f5, .int .i64 f6, .int .i64 f7] 24 (0, 0))) := HF'.out
      clear HF'
      have SL : Aside (Sl v2 7 ao n cap (xs.map Fi.enc)) := SL'.out
      clear SL'
      have HD : Aside (v2.heap[bd]? = some (.cells #[.int .i64 d1, .int .i64 d2, .string d3, .bool d4, .bool d5, .int .i64 d6, .int .i64 d7] 24 (0, 0))) := HD'.out
      clear HD'
      have HB : Aside (Below w.heap.size w v2) := HB'.out
      clear HB'
      refine (c4 _ HB.out).mono ?_
      rintro e w3 ⟨aa, ka, rfl, _, hb⟩
      have HF' : Aside (w3.heap[w.heap.size]? = some (.cells #[.int .i64 f1, .int .i64 f2, .string f3, .bool f4, .bool f5, .int .i64 f6, .int .i64 f7] 24 (0, 0))) := heap_later HF.out hb
      have SL' : Aside (Sl w3 7 ao n cap (xs.map Fi.enc)) := SL.out.stays hb
      have HD' : Aside (w3.heap[bd]? = some (.cells #[.int .i64 d1, .int .i64 d2, .string d3, .bool d4, .bool d5, .int .i64 d6, .int .i64 d7] 24 (0, 0))) := heap_later HD.out hb
      have HB' : Aside (Below w.heap.size w w3) := HB.out.trans (hb.mono HB.out.size)
      clear hb HB HF SL HD
      have HF : Aside (w3.heap[w.heap.size]? = some (.cells #[.int .i64 f1, .int .i64 f2, .string f3, .bool f4, .bool f5, .int .i64 f6, .int .i64 f7] 24 (0, 0))) := HF'.out
      clear HF'
      have SL : Aside (Sl w3 7 ao n cap (xs.map Fi.enc)) := SL'.out
      clear SL'
      have HD : Aside (w3.heap[bd]? = some (.cells #[.int .i64 d1, .int .i64 d2, .string d3, .bool d4, .bool d5, .int .i64 d6, .int .i64 d7] 24 (0, 0))) := HD'.out
      clear HD'
      have HB : Aside (Below w.heap.size w w3) := HB'.out
      clear HB'
      have hfc0 := cell_heap HF.out 0 _ rfl
      have hfc1 := cell_heap HF.out 1 _ rfl
      have hfc2 := cell_heap HF.out 2 _ rfl
      have hfc3 := cell_heap HF.out 3 _ rfl
      have hfc4 := cell_heap HF.out 4 _ rfl
      have hfc5 := cell_heap HF.out 5 _ rfl
      have hfc6 := cell_heap HF.out 6 _ rfl
      have hfclt : w.heap.size < w3.heap.size := (Array.getElem?_eq_some_iff.1 HF.out).1
      go_wp2_with fail
      refine (c5 _ HB.out).mono ?_
      rintro e w4 ⟨ac, kc, rfl, _, hb⟩
      have HF' : Aside (w4.heap[w.heap.size]? = some (.cells #[.int .i64 f1, .int .i64 f2, .string f3, .bool f4, .bool f5, .int .i64 f6, .int .i64 f7] 24 (0, 0))) := heap_later HF.out hb
      have SL' : Aside (Sl w4 7 ao n cap (xs.map Fi.enc)) := SL.out.stays hb
      have HD' : Aside (w4.heap[bd]? = some (.cells #[.int .i64 d1, .int .i64 d2, .string d3, .bool d4, .bool d5, .int .i64 d6, .int .i64 d7] 24 (0, 0))) := heap_later HD.out hb
      have HB' : Aside (Below w.heap.size w w4) := HB.out.trans (hb.mono HB.out.size)
      clear hb HB HF SL HD hfc0 hfc1 hfc2 hfc3 hfc4 hfc5 hfc6 hfclt
      have HF : Aside (w4.heap[w.heap.size]? = some (.cells #[.int .i64 f1, .int .i64 f2, .string f3, .bool f4, .bool f5, .int .i64 f6, .int .i64 f7] 24 (0, 0))) := HF'.out
      clear HF'
      have SL : Aside (Sl w4 7 ao n cap (xs.map Fi.enc)) := SL'.out
      clear SL'
      have HD : Aside (w4.heap[bd]? = some (.cells #[.int .i64 d1, .int .i64 d2, .string d3, .bool d4, .bool d5, .int .i64 d6, .int .i64 d7] 24 (0, 0))) := HD'.out
      clear HD'
      have HB : Aside (Below w.heap.size w w4) := HB'.out
      clear HB'
      go_wp2_with fail
      refine (alive_calls _).mono ?_
      rintro e w5 ⟨rfl, hb⟩
      have HF' : Aside (w5.heap[w.heap.size]? = some (.cells #[.int .i64 f1, .int .i64 f2, .string f3, .bool f4, .bool f5, .int .i64 f6, .int .i64 f7] 24 (0, 0))) := heap_later HF.out hb
      have SL' : Aside (Sl w5 7 ao n cap (xs.map Fi.enc)) := SL.out.stays hb
      have HD' : Aside (w5.heap[bd]? = some (.cells #[.int .i64 d1, .int .i64 d2, .string d3, .bool d4, .bool d5, .int .i64 d6, .int .i64 d7] 24 (0, 0))) := heap_later HD.out hb
      have HB' : Aside (Below w.heap.size w w5) := HB.out.trans (hb.mono HB.out.size)
      clear hb HB HF SL HD
      have HF : Aside (w5.heap[w.heap.size]? = some (.cells #[.int .i64 f1, .int .i64 f2, .string f3, .bool f4, .bool f5, .int .i64 f6, .int .i64 f7] 24 (0, 0))) := HF'.out
      clear HF'
      have SL : Aside (Sl w5 7 ao n cap (xs.map Fi.enc)) := SL'.out
      clear SL'
      have HD : Aside (w5.heap[bd]? = some (.cells #[.int .i64 d1, .int .i64 d2, .string d3, .bool d4, .bool d5, .int .i64 d6, .int .i64 d7] 24 (0, 0))) := HD'.out
      clear HD'
      have HB : Aside (Below w.heap.size w w5) := HB'.out
      clear HB'
      go_wp2
      go_ret
      exact ⟨rfl, HB.out⟩
end Go.Proofs.Ytjnfllcbkkcfiaa
