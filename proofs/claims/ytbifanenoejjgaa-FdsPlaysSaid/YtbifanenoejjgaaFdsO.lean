/- This text proves the walks of Right of package fds and of the reference. Conditions: those that each theorem names. -/
import Derived.Test.YtbifanenoejjgaaFdsN
namespace Go.Proofs.Ytbifanenoejjgaa
open Go.ChangeShapes Go.WideShapes Go.ChangeAt Go.RowKit
set_option linter.unusedVariables false
set_option linter.unusedSimpArgs false

/-- The number that Right saw last. -/
def lastI (xs : List Fd) (i : Nat) : Int := if i = 0 then -1 else xs[i - 1]!.num
def GoodAt (xs : List Fd) (i : Nat) : Prop := ¬ xs[i]!.num ≤ lastI xs i ∧ ¬ 64 ≤ xs[i]!.num ∧ validB xs[i]!.dev xs[i]!.id xs[i]!.fid xs[i]!.path xs[i]!.name = true ∧ ¬ xs[i]!.mode < 0 ∧ ¬ 127 < xs[i]!.mode ∧ ¬ xs[i]!.offset < 0 ∧ ¬ 9007199254740991 < xs[i]!.offset ∧ ¬ xs[i]!.copy < 0 ∧ ¬ 64 ≤ xs[i]!.copy ∧ agreesB xs xs[i]! = true
theorem right_good (id : Int) (xs : List Fd) (hid : 0 ≤ id ∧ id ≤ 9007199254740991) (h : ∀ i, i < xs.length → okB xs[i]! = true ∧ (0 < i → xs[i - 1]!.num < xs[i]!.num) ∧ ∀ j, j < i → xs[j]!.copy = xs[i]!.copy → agreeB xs[j]! xs[i]! = true) : rightB id xs = true := by
  rw [rightB_iff]
  have hasc : ∀ d i, i + d + 1 < xs.length → xs[i]!.num < xs[i + d + 1]!.num := by
    intro d
    induction d with
    | zero => intro i hi; exact (h (i + 1) hi).2.1 (by omega)
    | succ d ih =>
      intro i hi
      have h1 := ih i (by omega)
      have h2 := (h (i + (d + 1) + 1) hi).2.1 (by omega)
      rw [show i + (d + 1) + 1 - 1 = i + d + 1 by omega] at h2
      omega
  refine ⟨hid, fun x hx => ?_, ?_, fun x hx y hy e => ?_⟩
  · obtain ⟨i, hi, rfl⟩ := get_of_mem hx
    exact (h i hi).1
  · rw [List.pairwise_iff_getElem]
    intro i j hi hj hij
    have := hasc (j - i - 1) i (by omega)
    rw [show i + (j - i - 1) + 1 = j by omega, getElem!_pos xs i hi, getElem!_pos xs j hj] at this
    exact this
  · obtain ⟨i, hi, rfl⟩ := get_of_mem hx
    obtain ⟨j, hj, rfl⟩ := get_of_mem hy
    rcases Nat.lt_trichotomy i j with hij | hij | hij
    · exact (h j hj).2.2 i hij e
    · subst hij; exact agreeB_self _
    · exact agreeB_symm ((h i hi).2.2 j hij e.symm)
theorem right_bad (id : Int) (xs : List Fd) (h : ¬ (0 ≤ id ∧ id ≤ 9007199254740991) ∨ ∃ i, i < xs.length ∧ (okB xs[i]! = false ∨ (0 < i ∧ xs[i]!.num ≤ xs[i - 1]!.num) ∨ ∃ j, j < xs.length ∧ xs[j]!.copy = xs[i]!.copy ∧ agreeB xs[j]! xs[i]! = false)) : rightB id xs = false := by
  cases hr : rightB id xs with
  | false => rfl
  | true =>
    rw [rightB_iff] at hr
    exfalso
    rcases h with h | ⟨i, hi, h | ⟨h0, h⟩ | ⟨j, hj, h1, h2⟩⟩
    · exact h hr.hid
    · rw [hr.ok _ (mem_of_get hi)] at h; cases h
    · have := asc_get hr.asc (show i - 1 < i by omega) hi; omega
    · rw [hr.cop _ (mem_of_get hj) _ (mem_of_get hi) h1] at h2; cases h2
theorem ok_of {x : Fd} (h0 : 0 ≤ x.num) (h1 : ¬ 64 ≤ x.num) (h2 : validB x.dev x.id x.fid x.path x.name = true) (h3 : ¬ x.mode < 0) (h4 : ¬ 127 < x.mode) (h5 : ¬ x.offset < 0) (h6 : ¬ 9007199254740991 < x.offset) (h7 : ¬ x.copy < 0) (h8 : ¬ 64 ≤ x.copy) : okB x = true := by
  rw [okB_iff]
  exact ⟨h0, by omega, by omega, by omega, by omega, by omega, by omega, by omega, h2⟩
theorem ok_not {x : Fd} (h : x.num < 0 ∨ 64 ≤ x.num ∨ validB x.dev x.id x.fid x.path x.name = false ∨ x.mode < 0 ∨ 127 < x.mode ∨ x.offset < 0 ∨ 9007199254740991 < x.offset ∨ x.copy < 0 ∨ 64 ≤ x.copy) : okB x = false := by
  cases hr : okB x with
  | false => rfl
  | true =>
    rw [okB_iff] at hr
    obtain ⟨a, b, c, d, e, f, g, i, j⟩ := hr
    exfalso
    rcases h with h | h | h | h | h | h | h | h | h
    · omega
    · omega
    · rw [j] at h; cases h
    all_goals omega
theorem agrees_at {xs : List Fd} {d : Fd} (h : agreesB xs d = true) {j : Nat} (hj : j < xs.length) (e : xs[j]!.copy = d.copy) : agreeB xs[j]! d = true := by
  have := List.all_eq_true.1 h _ (mem_of_get hj)
  rw [decide_eq_true e] at this
  simpa using this
theorem good_low {xs : List Fd} : ∀ i, i ≤ xs.length → (∀ j, j < i → GoodAt xs j) → -1 ≤ lastI xs i
  | 0, _, _ => by simp [lastI]
  | i + 1, hi, h => by
    have h1 := (h i (by omega)).1
    have h2 := good_low i (by omega) (fun j hj => h j (by omega))
    simp only [lastI, Nat.add_one_ne_zero, if_false, Nat.add_sub_cancel]
    omega
theorem right_all (id : Int) (xs : List Fd) (hid : 0 ≤ id ∧ id ≤ 9007199254740991) (h : ∀ j, j < xs.length → GoodAt xs j) : rightB id xs = true := by
  refine right_good id xs hid (fun i hi => ?_)
  have hl := good_low i (by omega) (fun j hj => h j (by omega))
  obtain ⟨h0, h1, h2, h3, h4, h5, h6, h7, h8, h9⟩ := h i hi
  refine ⟨ok_of (by omega) h1 h2 h3 h4 h5 h6 h7 h8, fun h0' => ?_, fun j hj e => agrees_at h9 (by omega) e⟩
  unfold lastI at h0
  rw [if_neg (by omega)] at h0
  omega
theorem right_one (id : Int) (xs : List Fd) (i : Nat) (hi : i < xs.length) (h : xs[i]!.num ≤ lastI xs i ∨ 64 ≤ xs[i]!.num ∨ validB xs[i]!.dev xs[i]!.id xs[i]!.fid xs[i]!.path xs[i]!.name = false ∨ xs[i]!.mode < 0 ∨ 127 < xs[i]!.mode ∨ xs[i]!.offset < 0 ∨ 9007199254740991 < xs[i]!.offset ∨ xs[i]!.copy < 0 ∨ 64 ≤ xs[i]!.copy ∨ agreesB xs xs[i]! = false) : rightB id xs = false := by
  refine right_bad id xs (.inr ⟨i, hi, ?_⟩)
  rcases h with h | h | h | h | h | h | h | h | h | h
  · unfold lastI at h
    split at h
    · exact .inl (ok_not (.inl (by omega)))
    · exact .inr (.inl ⟨by omega, h⟩)
  · exact .inl (ok_not (.inr (.inl h)))
  · exact .inl (ok_not (.inr (.inr (.inl h))))
  · exact .inl (ok_not (.inr (.inr (.inr (.inl h)))))
  · exact .inl (ok_not (.inr (.inr (.inr (.inr (.inl h))))))
  · exact .inl (ok_not (.inr (.inr (.inr (.inr (.inr (.inl h)))))))
  · exact .inl (ok_not (.inr (.inr (.inr (.inr (.inr (.inr (.inl h))))))))
  · exact .inl (ok_not (.inr (.inr (.inr (.inr (.inr (.inr (.inr (.inl h)))))))))
  · exact .inl (ok_not (.inr (.inr (.inr (.inr (.inr (.inr (.inr (.inr h)))))))))
  · refine .inr (.inr ?_)
    apply Classical.byContradiction
    intro hn
    rw [agrees_yes xs xs[i]! (fun j hj e => ?_)] at h
    · cases h
    · cases ha : agreeB xs[j]! xs[i]! with
      | true => rfl
      | false => exact absurd ⟨j, hj, e, ha⟩ hn

set_option maxHeartbeats 8000000 in
theorem rright_calls (id : Int) (ao : Option Addr) (n cap : Nat) (xs : List Fd) (w : World) (h : Sl w 9 ao n cap (xs.map Fd.enc)) (hft : ∀ y ∈ xs, y.fit) :
    Calls Try.prog 10 #[.agg #[.int .i64 id, .slice ao n cap]] w fun e w' => e = .returned (.bool (rightB id xs)) ∧ Below w.heap.size w w' := by
  have hbig : n ≤ 9223372036854775807 := Nat.le_trans h.hcap h.hmax
  have HL : Aside (xs.length = n) := Sl.lenE h
  have HC : Aside (CellsFd w ao xs) := cellsFd h
  have HT : Aside (∀ y ∈ xs, y.fit) := hft
  have H : Aside (Sl w 9 ao n cap (xs.map Fd.enc)) := h
  have H1 : Aside (∀ i, i < xs.length → (xs[i]!.num ≤ lastI xs i ∨ 64 ≤ xs[i]!.num ∨ validB xs[i]!.dev xs[i]!.id xs[i]!.fid xs[i]!.path xs[i]!.name = false ∨ xs[i]!.mode < 0 ∨ 127 < xs[i]!.mode ∨ xs[i]!.offset < 0 ∨ 9007199254740991 < xs[i]!.offset ∨ xs[i]!.copy < 0 ∨ 64 ≤ xs[i]!.copy ∨ agreesB xs xs[i]! = false) → rightB id xs = false) := right_one id xs
  have H2 : Aside (0 ≤ id ∧ id ≤ 9007199254740991 → (∀ j, j < xs.length → GoodAt xs j) → rightB id xs = true) := right_all id xs
  have H0 : Aside (¬ (0 ≤ id ∧ id ≤ 9007199254740991) → rightB id xs = false) := fun h => right_bad id xs (.inl h)
  generalize rightB id xs = r at H0 H1 H2 ⊢
  clear h hft
  by_cases i1 : id < 0
  · have e1 := H0.out (by omega)
    subst e1
    clear H0 H1 H2 HC
    go_enter Try.func10, Try.ntmps10
    go_wp2
    go_ret
    refine ⟨rfl, ?_⟩
    repeat (first | (with_reducible exact Below.refl _ _) | (with_reducible assumption) | (with_reducible refine below_to_plus ?_ ?_ _) | (with_reducible refine below_holds ?_ ?_ _ _) | (with_reducible refine Below.alloc ?_ ?_ _) | (with_reducible refine Below.drew ?_) | (with_reducible refine below_drewN ?_ _) | (with_reducible refine Below.setCell ?_ ?_ _))
    all_goals first | omega | (simp; done) | (simp [go_sem]; done) | (simp [go_sem]; omega)
  by_cases i2 : 9007199254740991 < id
  · have e1 := H0.out (by omega)
    subst e1
    clear H0 H1 H2 HC
    go_enter Try.func10, Try.ntmps10
    go_wp2
    go_ret
    refine ⟨rfl, ?_⟩
    repeat (first | (with_reducible exact Below.refl _ _) | (with_reducible assumption) | (with_reducible refine below_to_plus ?_ ?_ _) | (with_reducible refine below_holds ?_ ?_ _ _) | (with_reducible refine Below.alloc ?_ ?_ _) | (with_reducible refine Below.drew ?_) | (with_reducible refine below_drewN ?_ _) | (with_reducible refine Below.setCell ?_ ?_ _))
    all_goals first | omega | (simp; done) | (simp [go_sem]; done) | (simp [go_sem]; omega)
  clear H0
  go_enter Try.func10, Try.ntmps10
  go_wp2
  go_loopg [3, 17] n (fun k s3 s17 wr => ∃ (idx : Nat) (x : World), s17 = .int .i64 (idx : Int) ∧ s3 = .int .i64 (lastI xs idx) ∧ wr = plus (w.alloc (.cells #[.int .i64 id, .slice ao n cap] 24)) x ∧ k + idx = n ∧ Aside (∀ j, j < idx → GoodAt xs j))
  case atStart => exact ⟨0, _, rfl, rfl, plus_self _, by omega, fun j hj => absurd hj (Nat.not_lt_zero _)⟩
  case round =>
    obtain ⟨idx, x, rfl, rfl, rfl, hk, A⟩ := hrel
    by_cases hi : idx < n
    · have hiz : (idx : Int) < (n : Int) := by omega
      have HS : Aside (CellsFd w ao xs) := HC.out
      obtain ⟨b, off, rfl, hbw, l0, l1, l2, l3, l4, l5, l6, l7, l8⟩ := HC.out idx (by have := HL.out; omega)
      have SG : Aside ((¬ xs[idx]!.num ≤ lastI xs idx ∧ ¬ 64 ≤ xs[idx]!.num ∧ validB xs[idx]!.dev xs[idx]!.id xs[idx]!.fid xs[idx]!.path xs[idx]!.name = true ∧ ¬ xs[idx]!.mode < 0 ∧ ¬ 127 < xs[idx]!.mode ∧ ¬ xs[idx]!.offset < 0 ∧ ¬ 9007199254740991 < xs[idx]!.offset ∧ ¬ xs[idx]!.copy < 0 ∧ ¬ 64 ≤ xs[idx]!.copy ∧ agreesB xs xs[idx]! = true) → ∀ j, j < idx + 1 → GoodAt xs j) := fun hh j hj => by
        rcases (by omega : j < idx ∨ j = idx) with h' | h'
        · exact A.out j h'
        · rw [h']; exact hh
      have SB : Aside ((xs[idx]!.num ≤ lastI xs idx ∨ 64 ≤ xs[idx]!.num ∨ validB xs[idx]!.dev xs[idx]!.id xs[idx]!.fid xs[idx]!.path xs[idx]!.name = false ∨ xs[idx]!.mode < 0 ∨ 127 < xs[idx]!.mode ∨ xs[idx]!.offset < 0 ∨ 9007199254740991 < xs[idx]!.offset ∨ xs[idx]!.copy < 0 ∨ 64 ≤ xs[idx]!.copy ∨ agreesB xs xs[idx]! = false) → r = false) := H1.out idx (by have := HL.out; omega)
      have HN : Aside (lastI xs (idx + 1) = xs[idx]!.num) := by show _ = _; simp [lastI]
      have HY : Aside (Fd.fit xs[idx]!) := HT.out _ (mem_of_get (by have := HL.out; omega))
      have ca : ∀ U, Below w.heap.size w U → Calls Try.prog 26 #[.slice (some ⟨b, off, none⟩) n cap, Fd.val xs[idx]!] U fun e w' => e = .returned (.bool (agreesB xs xs[idx]!)) ∧ Below U.heap.size U w' := fun U hU => copies_calls (some ⟨b, off, none⟩) n cap xs _ _ _ _ _ _ _ _ _ U (H.out.stays hU)
      generalize hla : lastI xs idx = la at SG SB
      generalize hag : agreesB xs xs[idx]! = ag at SG SB ca
      clear hla hag H1 H2 A
      generalize xs[idx]! = y at l0 l1 l2 l3 l4 l5 l6 l7 l8 SG SB HN HY ca
      obtain ⟨y1, y2, y3, y4, y5, y6, y7, y8, y9⟩ := y
      have ca : ∀ U, Below w.heap.size w U → Calls Try.prog 26 #[.slice (some ⟨b, off, none⟩) n cap, .agg #[.int .i64 y1, .int .i64 y2, .int .i64 y3, .int .i64 y4, .string y5, .string y6, .int .i64 y7, .int .i64 y8, .int .i64 y9]] U fun e w' => e = .returned (.bool ag) ∧ Below U.heap.size U w' := ca
      simp only [] at l0 l1 l2 l3 l4 l5 l6 l7 l8
      have cv := fun U => rvalid_calls y2 y3 y4 y5 y6 U HY.out.1 HY.out.2.1
      by_cases t0 : y1 ≤ la
      · skip
        have e1 := SB.out (.inl t0)
        subst e1
        clear SB SG HC HN HY ca cv HS
        go_wp2
        go_ret
        refine ⟨rfl, ?_⟩
        repeat (first | (with_reducible exact Below.refl _ _) | (with_reducible assumption) | (with_reducible refine below_to_plus ?_ ?_ _) | (with_reducible refine below_holds ?_ ?_ _ _) | (with_reducible refine Below.alloc ?_ ?_ _) | (with_reducible refine Below.drew ?_) | (with_reducible refine below_drewN ?_ _) | (with_reducible refine Below.setCell ?_ ?_ _))
        all_goals first | omega | (simp; done) | (simp [go_sem]; done) | (simp [go_sem]; omega)
      by_cases t1 : 64 ≤ y1
      · skip
        have e1 := SB.out (.inr (.inl t1))
        subst e1
        clear SB SG HC HN HY ca cv HS
        go_wp2
        go_ret
        refine ⟨rfl, ?_⟩
        repeat (first | (with_reducible exact Below.refl _ _) | (with_reducible assumption) | (with_reducible refine below_to_plus ?_ ?_ _) | (with_reducible refine below_holds ?_ ?_ _ _) | (with_reducible refine Below.alloc ?_ ?_ _) | (with_reducible refine Below.drew ?_) | (with_reducible refine below_drewN ?_ _) | (with_reducible refine Below.setCell ?_ ?_ _))
        all_goals first | omega | (simp; done) | (simp [go_sem]; done) | (simp [go_sem]; omega)
      cases t2 : validB y2 y3 y4 y5 y6 with
      | false =>
        rw [t2] at cv
        have e1 := SB.out (.inr (.inr (.inl t2)))
        subst e1
        clear SB SG HC HN HY ca  HS
        go_wp2_with fail
        refine (cv _).mono ?_
        rintro e w2 ⟨rfl, hb⟩
        obtain ⟨x2, rfl⟩ := plus_of_below hb
        clear hb
        go_wp2
        go_ret
        refine ⟨rfl, ?_⟩
        repeat (first | (with_reducible exact Below.refl _ _) | (with_reducible assumption) | (with_reducible refine below_to_plus ?_ ?_ _) | (with_reducible refine below_holds ?_ ?_ _ _) | (with_reducible refine Below.alloc ?_ ?_ _) | (with_reducible refine Below.drew ?_) | (with_reducible refine below_drewN ?_ _) | (with_reducible refine Below.setCell ?_ ?_ _))
        all_goals first | omega | (simp; done) | (simp [go_sem]; done) | (simp [go_sem]; omega)
      | true =>
        rw [t2] at cv
        by_cases t3 : y7 < 0
        · skip
          have e1 := SB.out (.inr (.inr (.inr (.inl t3))))
          subst e1
          clear SB SG HC HN HY ca  HS
          go_wp2_with fail
          refine (cv _).mono ?_
          rintro e w2 ⟨rfl, hb⟩
          obtain ⟨x2, rfl⟩ := plus_of_below hb
          clear hb
          go_wp2
          go_ret
          refine ⟨rfl, ?_⟩
          repeat (first | (with_reducible exact Below.refl _ _) | (with_reducible assumption) | (with_reducible refine below_to_plus ?_ ?_ _) | (with_reducible refine below_holds ?_ ?_ _ _) | (with_reducible refine Below.alloc ?_ ?_ _) | (with_reducible refine Below.drew ?_) | (with_reducible refine below_drewN ?_ _) | (with_reducible refine Below.setCell ?_ ?_ _))
          all_goals first | omega | (simp; done) | (simp [go_sem]; done) | (simp [go_sem]; omega)
        by_cases t4 : 127 < y7
        · skip
          have e1 := SB.out (.inr (.inr (.inr (.inr (.inl t4)))))
          subst e1
          clear SB SG HC HN HY ca  HS
          go_wp2_with fail
          refine (cv _).mono ?_
          rintro e w2 ⟨rfl, hb⟩
          obtain ⟨x2, rfl⟩ := plus_of_below hb
          clear hb
          go_wp2
          go_ret
          refine ⟨rfl, ?_⟩
          repeat (first | (with_reducible exact Below.refl _ _) | (with_reducible assumption) | (with_reducible refine below_to_plus ?_ ?_ _) | (with_reducible refine below_holds ?_ ?_ _ _) | (with_reducible refine Below.alloc ?_ ?_ _) | (with_reducible refine Below.drew ?_) | (with_reducible refine below_drewN ?_ _) | (with_reducible refine Below.setCell ?_ ?_ _))
          all_goals first | omega | (simp; done) | (simp [go_sem]; done) | (simp [go_sem]; omega)
        by_cases t5 : y8 < 0
        · skip
          have e1 := SB.out (.inr (.inr (.inr (.inr (.inr (.inl t5))))))
          subst e1
          clear SB SG HC HN HY ca  HS
          go_wp2_with fail
          refine (cv _).mono ?_
          rintro e w2 ⟨rfl, hb⟩
          obtain ⟨x2, rfl⟩ := plus_of_below hb
          clear hb
          go_wp2
          go_ret
          refine ⟨rfl, ?_⟩
          repeat (first | (with_reducible exact Below.refl _ _) | (with_reducible assumption) | (with_reducible refine below_to_plus ?_ ?_ _) | (with_reducible refine below_holds ?_ ?_ _ _) | (with_reducible refine Below.alloc ?_ ?_ _) | (with_reducible refine Below.drew ?_) | (with_reducible refine below_drewN ?_ _) | (with_reducible refine Below.setCell ?_ ?_ _))
          all_goals first | omega | (simp; done) | (simp [go_sem]; done) | (simp [go_sem]; omega)
        by_cases t6 : 9007199254740991 < y8
        · skip
          have e1 := SB.out (.inr (.inr (.inr (.inr (.inr (.inr (.inl t6)))))))
          subst e1
          clear SB SG HC HN HY ca  HS
          go_wp2_with fail
          refine (cv _).mono ?_
          rintro e w2 ⟨rfl, hb⟩
          obtain ⟨x2, rfl⟩ := plus_of_below hb
          clear hb
          go_wp2
          go_ret
          refine ⟨rfl, ?_⟩
          repeat (first | (with_reducible exact Below.refl _ _) | (with_reducible assumption) | (with_reducible refine below_to_plus ?_ ?_ _) | (with_reducible refine below_holds ?_ ?_ _ _) | (with_reducible refine Below.alloc ?_ ?_ _) | (with_reducible refine Below.drew ?_) | (with_reducible refine below_drewN ?_ _) | (with_reducible refine Below.setCell ?_ ?_ _))
          all_goals first | omega | (simp; done) | (simp [go_sem]; done) | (simp [go_sem]; omega)
        by_cases t7 : y9 < 0
        · skip
          have e1 := SB.out (.inr (.inr (.inr (.inr (.inr (.inr (.inr (.inl t7))))))))
          subst e1
          clear SB SG HC HN HY ca  HS
          go_wp2_with fail
          refine (cv _).mono ?_
          rintro e w2 ⟨rfl, hb⟩
          obtain ⟨x2, rfl⟩ := plus_of_below hb
          clear hb
          go_wp2
          go_ret
          refine ⟨rfl, ?_⟩
          repeat (first | (with_reducible exact Below.refl _ _) | (with_reducible assumption) | (with_reducible refine below_to_plus ?_ ?_ _) | (with_reducible refine below_holds ?_ ?_ _ _) | (with_reducible refine Below.alloc ?_ ?_ _) | (with_reducible refine Below.drew ?_) | (with_reducible refine below_drewN ?_ _) | (with_reducible refine Below.setCell ?_ ?_ _))
          all_goals first | omega | (simp; done) | (simp [go_sem]; done) | (simp [go_sem]; omega)
        by_cases t8 : 64 ≤ y9
        · skip
          have e1 := SB.out (.inr (.inr (.inr (.inr (.inr (.inr (.inr (.inr (.inl t8)))))))))
          subst e1
          clear SB SG HC HN HY ca  HS
          go_wp2_with fail
          refine (cv _).mono ?_
          rintro e w2 ⟨rfl, hb⟩
          obtain ⟨x2, rfl⟩ := plus_of_below hb
          clear hb
          go_wp2
          go_ret
          refine ⟨rfl, ?_⟩
          repeat (first | (with_reducible exact Below.refl _ _) | (with_reducible assumption) | (with_reducible refine below_to_plus ?_ ?_ _) | (with_reducible refine below_holds ?_ ?_ _ _) | (with_reducible refine Below.alloc ?_ ?_ _) | (with_reducible refine Below.drew ?_) | (with_reducible refine below_drewN ?_ _) | (with_reducible refine Below.setCell ?_ ?_ _))
          all_goals first | omega | (simp; done) | (simp [go_sem]; done) | (simp [go_sem]; omega)
        cases t9 : ag with
        | false =>
          rw [t9] at ca
          have e1 := SB.out (.inr (.inr (.inr (.inr (.inr (.inr (.inr (.inr (.inr t9)))))))))
          subst e1
          clear SB SG HC HN HY   HS
          go_wp2_with fail
          refine (cv _).mono ?_
          rintro e w2 ⟨rfl, hb⟩
          obtain ⟨x2, rfl⟩ := plus_of_below hb
          clear hb
          go_wp2_with fail
          refine (ca _ ?_).mono ?_
          · repeat (first | (with_reducible exact Below.refl _ _) | (with_reducible assumption) | (with_reducible refine below_to_plus ?_ ?_ _) | (with_reducible refine below_holds ?_ ?_ _ _) | (with_reducible refine Below.alloc ?_ ?_ _) | (with_reducible refine Below.drew ?_) | (with_reducible refine below_drewN ?_ _) | (with_reducible refine Below.setCell ?_ ?_ _))
            all_goals first | omega | (simp; done) | (simp [go_sem]; done) | (simp [go_sem]; omega)
          rintro e w2 ⟨rfl, hb⟩
          obtain ⟨x3, rfl⟩ := plus_of_below hb
          clear hb
          go_wp2
          go_ret
          refine ⟨rfl, ?_⟩
          repeat (first | (with_reducible exact Below.refl _ _) | (with_reducible assumption) | (with_reducible refine below_to_plus ?_ ?_ _) | (with_reducible refine below_holds ?_ ?_ _ _) | (with_reducible refine Below.alloc ?_ ?_ _) | (with_reducible refine Below.drew ?_) | (with_reducible refine below_drewN ?_ _) | (with_reducible refine Below.setCell ?_ ?_ _))
          all_goals first | omega | (simp; done) | (simp [go_sem]; done) | (simp [go_sem]; omega)
        | true =>
          rw [t9] at ca
          have A2 := SG.out ⟨t0, t1, t2, t3, t4, t5, t6, t7, t8, t9⟩
          have A3 : Aside (∀ j, j < idx + 1 → GoodAt xs j) := A2
          clear SB SG HC A2 HS
          go_wp2_with fail
          refine (cv _).mono ?_
          rintro e w2 ⟨rfl, hb⟩
          obtain ⟨x2, rfl⟩ := plus_of_below hb
          clear hb
          go_wp2_with fail
          refine (ca _ ?_).mono ?_
          · repeat (first | (with_reducible exact Below.refl _ _) | (with_reducible assumption) | (with_reducible refine below_to_plus ?_ ?_ _) | (with_reducible refine below_holds ?_ ?_ _ _) | (with_reducible refine Below.alloc ?_ ?_ _) | (with_reducible refine Below.drew ?_) | (with_reducible refine below_drewN ?_ _) | (with_reducible refine Below.setCell ?_ ?_ _))
            all_goals first | omega | (simp; done) | (simp [go_sem]; done) | (simp [go_sem]; omega)
          rintro e w2 ⟨rfl, hb⟩
          obtain ⟨x3, rfl⟩ := plus_of_below hb
          clear hb
          go_wp2
          go_roundg (gk - 1)
          case measure => omega
          case rel =>
            obtain ⟨z5, hz5⟩ := plus_of_below (show Below (w.alloc (.cells #[.int .i64 id, .slice (some ⟨b, off, none⟩) n cap] 24)).heap.size (w.alloc (.cells #[.int .i64 id, .slice (some ⟨b, off, none⟩) n cap] 24)) (plus (plus ((plus (w.alloc (.cells #[.int .i64 id, .slice (some ⟨b, off, none⟩) n cap] 24)) x).alloc (.cells #[.int .i64 y1, .int .i64 y2, .int .i64 y3, .int .i64 y4, .string y5, .string y6, .int .i64 y7, .int .i64 y8, .int .i64 y9] 30)) x2) x3) from by
              repeat (first | (with_reducible exact Below.refl _ _) | (with_reducible assumption) | (with_reducible refine below_to_plus ?_ ?_ _) | (with_reducible refine below_holds ?_ ?_ _ _) | (with_reducible refine Below.alloc ?_ ?_ _) | (with_reducible refine Below.drew ?_) | (with_reducible refine below_drewN ?_ _) | (with_reducible refine Below.setCell ?_ ?_ _))
              all_goals first | omega | (simp; done) | (simp [go_sem]; done) | (simp [go_sem]; omega))
            exact ⟨idx + 1, z5, by simp, by rw [HN.out], hz5, by omega, A3⟩
    · have hiz : ¬ (idx : Int) < (n : Int) := by omega
      have e1 := H2.out ⟨by omega, by omega⟩ (fun j hj => A.out j (by have := HL.out; omega))
      subst e1
      clear HC A H1 H2
      go_wp2
      go_ret
      refine ⟨rfl, ?_⟩
      repeat (first | (with_reducible exact Below.refl _ _) | (with_reducible assumption) | (with_reducible refine below_to_plus ?_ ?_ _) | (with_reducible refine below_holds ?_ ?_ _ _) | (with_reducible refine Below.alloc ?_ ?_ _) | (with_reducible refine Below.drew ?_) | (with_reducible refine below_drewN ?_ _) | (with_reducible refine Below.setCell ?_ ?_ _))
      all_goals first | omega | (simp; done) | (simp [go_sem]; done) | (simp [go_sem]; omega)

end Go.Proofs.Ytbifanenoejjgaa
