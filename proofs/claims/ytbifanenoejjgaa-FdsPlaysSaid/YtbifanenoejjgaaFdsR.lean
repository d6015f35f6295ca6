/- This text proves the walk of Right of package fds. Conditions: those that each theorem names. -/
import Derived.Test.YtbifanenoejjgaaFdsO
namespace Go.Proofs.Ytbifanenoejjgaa
open Go.ChangeShapes Go.WideShapes Go.ChangeAt Go.RowKit
set_option linter.unusedVariables false
set_option linter.unusedSimpArgs false

set_option maxRecDepth 100000 in
set_option maxHeartbeats 16000000 in
theorem right_calls (id : Int) (ao : Option Addr) (n cap : Nat) (xs : List Fd) (w : World) (h : Sl w 9 ao n cap (xs.map Fd.enc)) (hft : ∀ y ∈ xs, y.fit) :
    Calls Try.prog 11 #[.agg #[.int .i64 id, .slice ao n cap]] w fun e w' => e = .returned (.bool (rightB id xs)) ∧ Below w.heap.size w w' := by
  have hbig : n ≤ 9223372036854775807 := Nat.le_trans h.hcap h.hmax
  have hcp := h.hcap
  have hcm := h.hmax
  have HL : Aside (xs.length = n) := Sl.lenE h
  have HC : Aside (CellsFd w ao xs) := cellsFd h
  have HT : Aside (∀ y ∈ xs, y.fit) := hft
  have H1 : Aside (∀ i, i < xs.length → (okB xs[i]! = false ∨ (0 < i ∧ xs[i]!.num ≤ xs[i - 1]!.num) ∨ ∃ j, j < xs.length ∧ xs[j]!.copy = xs[i]!.copy ∧ agreeB xs[j]! xs[i]! = false) → rightB id xs = false) := fun i hi hh => right_bad id xs (.inr ⟨i, hi, hh⟩)
  have H2 : Aside (0 ≤ id ∧ id ≤ 9007199254740991 → (∀ i, i < xs.length → okB xs[i]! = true ∧ (0 < i → xs[i - 1]!.num < xs[i]!.num) ∧ ∀ j, j < i → xs[j]!.copy = xs[i]!.copy → agreeB xs[j]! xs[i]! = true) → rightB id xs = true) := right_good id xs
  have H0 : Aside (¬ (0 ≤ id ∧ id ≤ 9007199254740991) → rightB id xs = false) := fun h => right_bad id xs (.inl h)
  generalize rightB id xs = r at H0 H1 H2 ⊢
  clear h hft
  by_cases i1 : id < 0
  · have e1 := H0.out (by omega)
    subst e1
    clear H0 H1 H2 HC
    go_enter Try.func11, Try.ntmps11
    go_wp2
    go_ret
    refine ⟨rfl, ?_⟩
    repeat (first | (with_reducible exact Below.refl _ _) | (with_reducible assumption) | (with_reducible refine below_to_plus ?_ ?_ _) | (with_reducible refine below_holds ?_ ?_ _ _) | (with_reducible refine Below.alloc ?_ ?_ _) | (with_reducible refine Below.drew ?_) | (with_reducible refine below_drewN ?_ _) | (with_reducible refine Below.setCell ?_ ?_ _))
    all_goals first | omega | (simp; done) | (simp [go_sem]; done) | (simp [go_sem]; omega)
  by_cases i2 : 9007199254740991 < id
  · have e1 := H0.out (by omega)
    subst e1
    clear H0 H1 H2 HC
    go_enter Try.func11, Try.ntmps11
    go_wp2
    go_ret
    refine ⟨rfl, ?_⟩
    repeat (first | (with_reducible exact Below.refl _ _) | (with_reducible assumption) | (with_reducible refine below_to_plus ?_ ?_ _) | (with_reducible refine below_holds ?_ ?_ _ _) | (with_reducible refine Below.alloc ?_ ?_ _) | (with_reducible refine Below.drew ?_) | (with_reducible refine below_drewN ?_ _) | (with_reducible refine Below.setCell ?_ ?_ _))
    all_goals first | omega | (simp; done) | (simp [go_sem]; done) | (simp [go_sem]; omega)
  clear H0
  go_enter Try.func11, Try.ntmps11
  go_wp2
  go_loopg [18] n (fun k s18 wr => ∃ (idx : Nat) (x : World), s18 = .int .i64 (idx : Int) ∧ wr = plus (w.alloc (.cells #[.int .i64 id, .slice ao n cap] 24)) x ∧ k + idx = n ∧ Aside (∀ j, j < idx → okB xs[j]! = true ∧ (0 < j → xs[j - 1]!.num < xs[j]!.num) ∧ ∀ i, i < j → xs[i]!.copy = xs[j]!.copy → agreeB xs[i]! xs[j]! = true))
  case atStart => exact ⟨0, _, rfl, plus_self _, by omega, fun j hj => absurd hj (Nat.not_lt_zero _)⟩
  case round =>
    obtain ⟨idx, x, rfl, rfl, hk, A⟩ := hrel
    by_cases hi : idx < n
    · have hiz : (idx : Int) < (n : Int) := by omega
      have HS : Aside (CellsFd w ao xs) := HC.out
      obtain ⟨b, off, rfl, hbw, l0, l1, l2, l3, l4, l5, l6, l7, l8⟩ := HC.out idx (by have := HL.out; omega)
      have PL : Aside (0 < idx → w.cell? ⟨b, off + (idx - 1) * 9, none⟩ = some (.int .i64 xs[idx - 1]!.num)) := fun h0 => by
        obtain ⟨b2, off2, eb2, _, m0, _⟩ := HS.out (idx - 1) (by have := HL.out; omega)
        cases eb2
        exact m0
      have SG : Aside ((okB xs[idx]! = true ∧ (0 < idx → xs[idx - 1]!.num < xs[idx]!.num) ∧ ∀ i, i < idx → xs[i]!.copy = xs[idx]!.copy → agreeB xs[i]! xs[idx]! = true) → ∀ j, j < idx + 1 → okB xs[j]! = true ∧ (0 < j → xs[j - 1]!.num < xs[j]!.num) ∧ ∀ i, i < j → xs[i]!.copy = xs[j]!.copy → agreeB xs[i]! xs[j]! = true) := fun hh j hj => by
        rcases (by omega : j < idx ∨ j = idx) with h' | h'
        · exact A.out j h'
        · rw [h']; exact hh
      have SB : Aside ((okB xs[idx]! = false ∨ (0 < idx ∧ xs[idx]!.num ≤ xs[idx - 1]!.num) ∨ ∃ j, j < xs.length ∧ xs[j]!.copy = xs[idx]!.copy ∧ agreeB xs[j]! xs[idx]! = false) → r = false) := H1.out idx (by have := HL.out; omega)
      have SD : Aside (∀ i, i < idx → xs[i]!.copy = xs[idx]!.copy → agreeB xs[i]! xs[idx]! = false → r = false) := fun i hi2 h1 h2 => SB.out (.inr (.inr ⟨i, by have := HL.out; omega, h1, h2⟩))
      have HY : Aside (Fd.fit xs[idx]!) := HT.out _ (mem_of_get (by have := HL.out; omega))
      have HN := trivial
      generalize xs[idx - 1]!.num = pv at PL SG SB
      clear H1 H2 A
      generalize xs[idx]! = y at l0 l1 l2 l3 l4 l5 l6 l7 l8 SG SB SD HY
      obtain ⟨y1, y2, y3, y4, y5, y6, y7, y8, y9⟩ := y
      simp only [] at l0 l1 l2 l3 l4 l5 l6 l7 l8
      have cv := fun U => valid_calls y2 y3 y4 y5 y6 U HY.out.1 HY.out.2.1
      by_cases t0 : y1 < 0
      · have f0 : decide (y1 < 0) = true := decide_eq_true t0
        have e1 := SB.out (.inl (ok_not (.inl t0)))
        subst e1
        clear SB SG HC HY HN HS
        go_wp2
        refine wp_region_plus (by kernel_rfl) (by kernel_rfl) ?_
        repeat (go_big_quiet_step ((first | (go_at_call 27; exact calls_plus (cv _)))))
        refine wpQuiet_nil ?_
        rintro _ ⟨x1, rfl⟩
        go_wp2
        go_ret
        refine ⟨rfl, ?_⟩
        repeat (first | (with_reducible exact Below.refl _ _) | (with_reducible assumption) | (with_reducible refine below_to_plus ?_ ?_ _) | (with_reducible refine below_holds ?_ ?_ _ _) | (with_reducible refine Below.alloc ?_ ?_ _) | (with_reducible refine Below.drew ?_) | (with_reducible refine below_drewN ?_ _) | (with_reducible refine Below.setCell ?_ ?_ _))
        all_goals first | omega | (simp; done) | (simp [go_sem]; done) | (simp [go_sem]; omega)
      have f0 : decide (y1 < 0) = false := decide_eq_false t0
      by_cases t1 : 64 ≤ y1
      · have f1 : decide (64 ≤ y1) = true := decide_eq_true t1
        have e1 := SB.out (.inl (ok_not (.inr (.inl t1))))
        subst e1
        clear SB SG HC HY HN HS
        go_wp2
        refine wp_region_plus (by kernel_rfl) (by kernel_rfl) ?_
        repeat (go_big_quiet_step ((first | (go_at_call 27; exact calls_plus (cv _)))))
        refine wpQuiet_nil ?_
        rintro _ ⟨x1, rfl⟩
        go_wp2
        go_ret
        refine ⟨rfl, ?_⟩
        repeat (first | (with_reducible exact Below.refl _ _) | (with_reducible assumption) | (with_reducible refine below_to_plus ?_ ?_ _) | (with_reducible refine below_holds ?_ ?_ _ _) | (with_reducible refine Below.alloc ?_ ?_ _) | (with_reducible refine Below.drew ?_) | (with_reducible refine below_drewN ?_ _) | (with_reducible refine Below.setCell ?_ ?_ _))
        all_goals first | omega | (simp; done) | (simp [go_sem]; done) | (simp [go_sem]; omega)
      have f1 : decide (64 ≤ y1) = false := decide_eq_false t1
      by_cases z0 : idx = 0
      · have fz : decide ((0 : Int) < (idx : Int)) = false := decide_eq_false (by omega)
        have fn : decide (0 < idx) = false := decide_eq_false (by omega)
        have zn : ¬ (0 : Int) < (idx : Int) := by omega
        have PZ : Aside (0 < idx → pv < y1) := fun h => absurd h (by omega)
        have Z0 : Aside (idx = 0) := z0
        clear z0
        cases t3 : validB y2 y3 y4 y5 y6 with
        | false =>
          rw [t3] at cv
          have e1 := SB.out (.inl (ok_not (.inr (.inr (.inl t3)))))
          subst e1
          clear SB SG HC HY HN HS
          go_wp2
          refine wp_region_plus (by kernel_rfl) (by kernel_rfl) ?_
          repeat (go_big_quiet_step ((first | (go_at_call 27; exact calls_plus (cv _)))))
          refine wpQuiet_nil ?_
          rintro _ ⟨x1, rfl⟩
          go_wp2
          go_ret
          refine ⟨rfl, ?_⟩
          repeat (first | (with_reducible exact Below.refl _ _) | (with_reducible assumption) | (with_reducible refine below_to_plus ?_ ?_ _) | (with_reducible refine below_holds ?_ ?_ _ _) | (with_reducible refine Below.alloc ?_ ?_ _) | (with_reducible refine Below.drew ?_) | (with_reducible refine below_drewN ?_ _) | (with_reducible refine Below.setCell ?_ ?_ _))
          all_goals first | omega | (simp; done) | (simp [go_sem]; done) | (simp [go_sem]; omega)
        | true =>
          rw [t3] at cv
          by_cases t4 : y7 < 0
          · have f4 : decide (y7 < 0) = true := decide_eq_true t4
            have e1 := SB.out (.inl (ok_not (.inr (.inr (.inr (.inl t4))))))
            subst e1
            clear SB SG HC HY HN HS
            go_wp2
            refine wp_region_plus (by kernel_rfl) (by kernel_rfl) ?_
            repeat (go_big_quiet_step ((first | (go_at_call 27; exact calls_plus (cv _)))))
            refine wpQuiet_nil ?_
            rintro _ ⟨x1, rfl⟩
            go_wp2
            go_ret
            refine ⟨rfl, ?_⟩
            repeat (first | (with_reducible exact Below.refl _ _) | (with_reducible assumption) | (with_reducible refine below_to_plus ?_ ?_ _) | (with_reducible refine below_holds ?_ ?_ _ _) | (with_reducible refine Below.alloc ?_ ?_ _) | (with_reducible refine Below.drew ?_) | (with_reducible refine below_drewN ?_ _) | (with_reducible refine Below.setCell ?_ ?_ _))
            all_goals first | omega | (simp; done) | (simp [go_sem]; done) | (simp [go_sem]; omega)
          have f4 : decide (y7 < 0) = false := decide_eq_false t4
          by_cases t5 : 127 < y7
          · have f5 : decide (127 < y7) = true := decide_eq_true t5
            have e1 := SB.out (.inl (ok_not (.inr (.inr (.inr (.inr (.inl t5)))))))
            subst e1
            clear SB SG HC HY HN HS
            go_wp2
            refine wp_region_plus (by kernel_rfl) (by kernel_rfl) ?_
            repeat (go_big_quiet_step ((first | (go_at_call 27; exact calls_plus (cv _)))))
            refine wpQuiet_nil ?_
            rintro _ ⟨x1, rfl⟩
            go_wp2
            go_ret
            refine ⟨rfl, ?_⟩
            repeat (first | (with_reducible exact Below.refl _ _) | (with_reducible assumption) | (with_reducible refine below_to_plus ?_ ?_ _) | (with_reducible refine below_holds ?_ ?_ _ _) | (with_reducible refine Below.alloc ?_ ?_ _) | (with_reducible refine Below.drew ?_) | (with_reducible refine below_drewN ?_ _) | (with_reducible refine Below.setCell ?_ ?_ _))
            all_goals first | omega | (simp; done) | (simp [go_sem]; done) | (simp [go_sem]; omega)
          have f5 : decide (127 < y7) = false := decide_eq_false t5
          by_cases t6 : y8 < 0
          · skip
            have e1 := SB.out (.inl (ok_not (.inr (.inr (.inr (.inr (.inr (.inl t6))))))))
            subst e1
            clear SB SG HC HY HN HS PZ
            go_wp2
            refine wp_region_plus (by kernel_rfl) (by kernel_rfl) ?_
            repeat (go_big_quiet_step ((first | (go_at_call 27; exact calls_plus (cv _)))))
            refine wpQuiet_nil ?_
            rintro _ ⟨x1, rfl⟩
            go_wp2
            go_ret
            refine ⟨rfl, ?_⟩
            repeat (first | (with_reducible exact Below.refl _ _) | (with_reducible assumption) | (with_reducible refine below_to_plus ?_ ?_ _) | (with_reducible refine below_holds ?_ ?_ _ _) | (with_reducible refine Below.alloc ?_ ?_ _) | (with_reducible refine Below.drew ?_) | (with_reducible refine below_drewN ?_ _) | (with_reducible refine Below.setCell ?_ ?_ _))
            all_goals first | omega | (simp; done) | (simp [go_sem]; done) | (simp [go_sem]; omega)
          by_cases t7 : 9007199254740991 < y8
          · skip
            have e1 := SB.out (.inl (ok_not (.inr (.inr (.inr (.inr (.inr (.inr (.inl t7)))))))))
            subst e1
            clear SB SG HC HY HN HS PZ
            go_wp2
            refine wp_region_plus (by kernel_rfl) (by kernel_rfl) ?_
            repeat (go_big_quiet_step ((first | (go_at_call 27; exact calls_plus (cv _)))))
            refine wpQuiet_nil ?_
            rintro _ ⟨x1, rfl⟩
            go_wp2
            go_ret
            refine ⟨rfl, ?_⟩
            repeat (first | (with_reducible exact Below.refl _ _) | (with_reducible assumption) | (with_reducible refine below_to_plus ?_ ?_ _) | (with_reducible refine below_holds ?_ ?_ _ _) | (with_reducible refine Below.alloc ?_ ?_ _) | (with_reducible refine Below.drew ?_) | (with_reducible refine below_drewN ?_ _) | (with_reducible refine Below.setCell ?_ ?_ _))
            all_goals first | omega | (simp; done) | (simp [go_sem]; done) | (simp [go_sem]; omega)
          by_cases t8 : y9 < 0
          · skip
            have e1 := SB.out (.inl (ok_not (.inr (.inr (.inr (.inr (.inr (.inr (.inr (.inl t8))))))))))
            subst e1
            clear SB SG HC HY HN HS PZ
            go_wp2
            refine wp_region_plus (by kernel_rfl) (by kernel_rfl) ?_
            repeat (go_big_quiet_step ((first | (go_at_call 27; exact calls_plus (cv _)))))
            refine wpQuiet_nil ?_
            rintro _ ⟨x1, rfl⟩
            go_wp2
            go_ret
            refine ⟨rfl, ?_⟩
            repeat (first | (with_reducible exact Below.refl _ _) | (with_reducible assumption) | (with_reducible refine below_to_plus ?_ ?_ _) | (with_reducible refine below_holds ?_ ?_ _ _) | (with_reducible refine Below.alloc ?_ ?_ _) | (with_reducible refine Below.drew ?_) | (with_reducible refine below_drewN ?_ _) | (with_reducible refine Below.setCell ?_ ?_ _))
            all_goals first | omega | (simp; done) | (simp [go_sem]; done) | (simp [go_sem]; omega)
          by_cases t9 : 64 ≤ y9
          · skip
            have e1 := SB.out (.inl (ok_not (.inr (.inr (.inr (.inr (.inr (.inr (.inr (.inr t9))))))))))
            subst e1
            clear SB SG HC HY HN HS PZ
            go_wp2
            refine wp_region_plus (by kernel_rfl) (by kernel_rfl) ?_
            repeat (go_big_quiet_step ((first | (go_at_call 27; exact calls_plus (cv _)))))
            refine wpQuiet_nil ?_
            rintro _ ⟨x1, rfl⟩
            go_wp2
            go_ret
            refine ⟨rfl, ?_⟩
            repeat (first | (with_reducible exact Below.refl _ _) | (with_reducible assumption) | (with_reducible refine below_to_plus ?_ ?_ _) | (with_reducible refine below_holds ?_ ?_ _ _) | (with_reducible refine Below.alloc ?_ ?_ _) | (with_reducible refine Below.drew ?_) | (with_reducible refine below_drewN ?_ _) | (with_reducible refine Below.setCell ?_ ?_ _))
            all_goals first | omega | (simp; done) | (simp [go_sem]; done) | (simp [go_sem]; omega)
          have OK : Aside (okB ⟨y1, y2, y3, y4, y5, y6, y7, y8, y9⟩ = true) := ok_of (by show 0 ≤ y1; omega) (by show ¬ 64 ≤ y1; omega) t3 (by show ¬ y7 < 0; omega) (by show ¬ 127 < y7; omega) (by show ¬ y8 < 0; omega) (by show ¬ 9007199254740991 < y8; omega) (by show ¬ y9 < 0; omega) (by show ¬ 64 ≤ y9; omega)
          clear HY HN SB
          go_wp2
          refine wp_region_plus (by kernel_rfl) (by kernel_rfl) ?_
          repeat (go_big_quiet_step ((first | (go_at_call 27; exact calls_plus (cv _)))))
          refine wpQuiet_nil ?_
          rintro _ ⟨x1, rfl⟩
          go_wp2
          clear cv
          go_loopg [86] idx (fun g s86 wr2 => ∃ (ii : Nat) (x2 : World), s86 = .int .i64 (ii : Int) ∧ wr2 = plus (plus ((plus (w.alloc (.cells #[.int .i64 id, .slice (some ⟨b, off, none⟩) n cap] 24)) x).alloc (.cells #[.int .i64 y1, .int .i64 y2, .int .i64 y3, .int .i64 y4, .string y5, .string y6, .int .i64 y7, .int .i64 y8, .int .i64 y9] 30)) x1) x2 ∧ g + ii = idx ∧ Aside (∀ j, j < ii → xs[j]!.copy = y9 → agreeB xs[j]! ⟨y1, y2, y3, y4, y5, y6, y7, y8, y9⟩ = true))
          case atStart => exact ⟨0, _, rfl, plus_self _, by omega, fun j hj => absurd hj (Nat.not_lt_zero _)⟩
          case round =>
            obtain ⟨ii, x2, rfl, rfl, hkk, B⟩ := hrel
            by_cases hii : ii < idx
            · exact absurd hii (by have := Z0.out; omega)
            · have hiiz : ¬ (ii : Int) < (idx : Int) := by omega
              obtain rfl : ii = idx := by omega
              have A2 := SG.out ⟨OK.out, PZ.out, B.out⟩
              have A3 : Aside (∀ j, j < ii + 1 → okB xs[j]! = true ∧ (0 < j → xs[j - 1]!.num < xs[j]!.num) ∧ ∀ i, i < j → xs[i]!.copy = xs[j]!.copy → agreeB xs[i]! xs[j]! = true) := A2
              clear HC HS SG OK PZ SD B A2
              go_wp2
              go_roundg (n - (ii + 1))
              case measure => omega
              case rel =>
                obtain ⟨z5, hz5⟩ := plus_of_below (show Below (w.alloc (.cells #[.int .i64 id, .slice (some ⟨b, off, none⟩) n cap] 24)).heap.size (w.alloc (.cells #[.int .i64 id, .slice (some ⟨b, off, none⟩) n cap] 24)) (plus (plus ((plus (w.alloc (.cells #[.int .i64 id, .slice (some ⟨b, off, none⟩) n cap] 24)) x).alloc (.cells #[.int .i64 y1, .int .i64 y2, .int .i64 y3, .int .i64 y4, .string y5, .string y6, .int .i64 y7, .int .i64 y8, .int .i64 y9] 30)) x1) x2) from by
                  repeat (first | (with_reducible exact Below.refl _ _) | (with_reducible assumption) | (with_reducible refine below_to_plus ?_ ?_ _) | (with_reducible refine below_holds ?_ ?_ _ _) | (with_reducible refine Below.alloc ?_ ?_ _) | (with_reducible refine Below.drew ?_) | (with_reducible refine below_drewN ?_ _) | (with_reducible refine Below.setCell ?_ ?_ _))
                  all_goals first | omega | (simp; done) | (simp [go_sem]; done) | (simp [go_sem]; omega))
                exact ⟨ii + 1, z5, by simp, hz5, by omega, A3⟩
      · have zp : (0 : Int) < (idx : Int) := by omega
        have zq : ((idx : Int) - 1).toNat = idx - 1 := by omega
        have zr : (idx : Int) - 1 < (n : Int) := by omega
        have fz : decide ((0 : Int) < (idx : Int)) = true := decide_eq_true zp
        have fn : decide (0 < idx) = true := decide_eq_true (by omega)
        have pl := PL.out (by omega)
        by_cases t2 : y1 ≤ pv
        · have f2 : decide (y1 ≤ pv) = true := decide_eq_true t2
          have e1 := SB.out (.inr (.inl ⟨by omega, t2⟩))
          subst e1
          clear SB SG HC HY HN HS
          go_wp2
          refine wp_region_plus (by kernel_rfl) (by kernel_rfl) ?_
          repeat (go_big_quiet_step ((first | (go_at_call 27; exact calls_plus (cv _)))))
          refine wpQuiet_nil ?_
          rintro _ ⟨x1, rfl⟩
          go_wp2
          go_ret
          refine ⟨rfl, ?_⟩
          repeat (first | (with_reducible exact Below.refl _ _) | (with_reducible assumption) | (with_reducible refine below_to_plus ?_ ?_ _) | (with_reducible refine below_holds ?_ ?_ _ _) | (with_reducible refine Below.alloc ?_ ?_ _) | (with_reducible refine Below.drew ?_) | (with_reducible refine below_drewN ?_ _) | (with_reducible refine Below.setCell ?_ ?_ _))
          all_goals first | omega | (simp; done) | (simp [go_sem]; done) | (simp [go_sem]; omega)
        · have f2 : decide (y1 ≤ pv) = false := decide_eq_false t2
          have PZ : Aside (0 < idx → pv < y1) := fun _ => by omega
          cases t3 : validB y2 y3 y4 y5 y6 with
          | false =>
            rw [t3] at cv
            have e1 := SB.out (.inl (ok_not (.inr (.inr (.inl t3)))))
            subst e1
            clear SB SG HC HY HN HS
            go_wp2
            refine wp_region_plus (by kernel_rfl) (by kernel_rfl) ?_
            repeat (go_big_quiet_step ((first | (go_at_call 27; exact calls_plus (cv _)))))
            refine wpQuiet_nil ?_
            rintro _ ⟨x1, rfl⟩
            go_wp2
            go_ret
            refine ⟨rfl, ?_⟩
            repeat (first | (with_reducible exact Below.refl _ _) | (with_reducible assumption) | (with_reducible refine below_to_plus ?_ ?_ _) | (with_reducible refine below_holds ?_ ?_ _ _) | (with_reducible refine Below.alloc ?_ ?_ _) | (with_reducible refine Below.drew ?_) | (with_reducible refine below_drewN ?_ _) | (with_reducible refine Below.setCell ?_ ?_ _))
            all_goals first | omega | (simp; done) | (simp [go_sem]; done) | (simp [go_sem]; omega)
          | true =>
            rw [t3] at cv
            by_cases t4 : y7 < 0
            · have f4 : decide (y7 < 0) = true := decide_eq_true t4
              have e1 := SB.out (.inl (ok_not (.inr (.inr (.inr (.inl t4))))))
              subst e1
              clear SB SG HC HY HN HS
              go_wp2
              refine wp_region_plus (by kernel_rfl) (by kernel_rfl) ?_
              repeat (go_big_quiet_step ((first | (go_at_call 27; exact calls_plus (cv _)))))
              refine wpQuiet_nil ?_
              rintro _ ⟨x1, rfl⟩
              go_wp2
              go_ret
              refine ⟨rfl, ?_⟩
              repeat (first | (with_reducible exact Below.refl _ _) | (with_reducible assumption) | (with_reducible refine below_to_plus ?_ ?_ _) | (with_reducible refine below_holds ?_ ?_ _ _) | (with_reducible refine Below.alloc ?_ ?_ _) | (with_reducible refine Below.drew ?_) | (with_reducible refine below_drewN ?_ _) | (with_reducible refine Below.setCell ?_ ?_ _))
              all_goals first | omega | (simp; done) | (simp [go_sem]; done) | (simp [go_sem]; omega)
            have f4 : decide (y7 < 0) = false := decide_eq_false t4
            by_cases t5 : 127 < y7
            · have f5 : decide (127 < y7) = true := decide_eq_true t5
              have e1 := SB.out (.inl (ok_not (.inr (.inr (.inr (.inr (.inl t5)))))))
              subst e1
              clear SB SG HC HY HN HS
              go_wp2
              refine wp_region_plus (by kernel_rfl) (by kernel_rfl) ?_
              repeat (go_big_quiet_step ((first | (go_at_call 27; exact calls_plus (cv _)))))
              refine wpQuiet_nil ?_
              rintro _ ⟨x1, rfl⟩
              go_wp2
              go_ret
              refine ⟨rfl, ?_⟩
              repeat (first | (with_reducible exact Below.refl _ _) | (with_reducible assumption) | (with_reducible refine below_to_plus ?_ ?_ _) | (with_reducible refine below_holds ?_ ?_ _ _) | (with_reducible refine Below.alloc ?_ ?_ _) | (with_reducible refine Below.drew ?_) | (with_reducible refine below_drewN ?_ _) | (with_reducible refine Below.setCell ?_ ?_ _))
              all_goals first | omega | (simp; done) | (simp [go_sem]; done) | (simp [go_sem]; omega)
            have f5 : decide (127 < y7) = false := decide_eq_false t5
            by_cases t6 : y8 < 0
            · skip
              have e1 := SB.out (.inl (ok_not (.inr (.inr (.inr (.inr (.inr (.inl t6))))))))
              subst e1
              clear SB SG HC HY HN HS PZ
              go_wp2
              refine wp_region_plus (by kernel_rfl) (by kernel_rfl) ?_
              repeat (go_big_quiet_step ((first | (go_at_call 27; exact calls_plus (cv _)))))
              refine wpQuiet_nil ?_
              rintro _ ⟨x1, rfl⟩
              go_wp2
              go_ret
              refine ⟨rfl, ?_⟩
              repeat (first | (with_reducible exact Below.refl _ _) | (with_reducible assumption) | (with_reducible refine below_to_plus ?_ ?_ _) | (with_reducible refine below_holds ?_ ?_ _ _) | (with_reducible refine Below.alloc ?_ ?_ _) | (with_reducible refine Below.drew ?_) | (with_reducible refine below_drewN ?_ _) | (with_reducible refine Below.setCell ?_ ?_ _))
              all_goals first | omega | (simp; done) | (simp [go_sem]; done) | (simp [go_sem]; omega)
            by_cases t7 : 9007199254740991 < y8
            · skip
              have e1 := SB.out (.inl (ok_not (.inr (.inr (.inr (.inr (.inr (.inr (.inl t7)))))))))
              subst e1
              clear SB SG HC HY HN HS PZ
              go_wp2
              refine wp_region_plus (by kernel_rfl) (by kernel_rfl) ?_
              repeat (go_big_quiet_step ((first | (go_at_call 27; exact calls_plus (cv _)))))
              refine wpQuiet_nil ?_
              rintro _ ⟨x1, rfl⟩
              go_wp2
              go_ret
              refine ⟨rfl, ?_⟩
              repeat (first | (with_reducible exact Below.refl _ _) | (with_reducible assumption) | (with_reducible refine below_to_plus ?_ ?_ _) | (with_reducible refine below_holds ?_ ?_ _ _) | (with_reducible refine Below.alloc ?_ ?_ _) | (with_reducible refine Below.drew ?_) | (with_reducible refine below_drewN ?_ _) | (with_reducible refine Below.setCell ?_ ?_ _))
              all_goals first | omega | (simp; done) | (simp [go_sem]; done) | (simp [go_sem]; omega)
            by_cases t8 : y9 < 0
            · skip
              have e1 := SB.out (.inl (ok_not (.inr (.inr (.inr (.inr (.inr (.inr (.inr (.inl t8))))))))))
              subst e1
              clear SB SG HC HY HN HS PZ
              go_wp2
              refine wp_region_plus (by kernel_rfl) (by kernel_rfl) ?_
              repeat (go_big_quiet_step ((first | (go_at_call 27; exact calls_plus (cv _)))))
              refine wpQuiet_nil ?_
              rintro _ ⟨x1, rfl⟩
              go_wp2
              go_ret
              refine ⟨rfl, ?_⟩
              repeat (first | (with_reducible exact Below.refl _ _) | (with_reducible assumption) | (with_reducible refine below_to_plus ?_ ?_ _) | (with_reducible refine below_holds ?_ ?_ _ _) | (with_reducible refine Below.alloc ?_ ?_ _) | (with_reducible refine Below.drew ?_) | (with_reducible refine below_drewN ?_ _) | (with_reducible refine Below.setCell ?_ ?_ _))
              all_goals first | omega | (simp; done) | (simp [go_sem]; done) | (simp [go_sem]; omega)
            by_cases t9 : 64 ≤ y9
            · skip
              have e1 := SB.out (.inl (ok_not (.inr (.inr (.inr (.inr (.inr (.inr (.inr (.inr t9))))))))))
              subst e1
              clear SB SG HC HY HN HS PZ
              go_wp2
              refine wp_region_plus (by kernel_rfl) (by kernel_rfl) ?_
              repeat (go_big_quiet_step ((first | (go_at_call 27; exact calls_plus (cv _)))))
              refine wpQuiet_nil ?_
              rintro _ ⟨x1, rfl⟩
              go_wp2
              go_ret
              refine ⟨rfl, ?_⟩
              repeat (first | (with_reducible exact Below.refl _ _) | (with_reducible assumption) | (with_reducible refine below_to_plus ?_ ?_ _) | (with_reducible refine below_holds ?_ ?_ _ _) | (with_reducible refine Below.alloc ?_ ?_ _) | (with_reducible refine Below.drew ?_) | (with_reducible refine below_drewN ?_ _) | (with_reducible refine Below.setCell ?_ ?_ _))
              all_goals first | omega | (simp; done) | (simp [go_sem]; done) | (simp [go_sem]; omega)
            have OK : Aside (okB ⟨y1, y2, y3, y4, y5, y6, y7, y8, y9⟩ = true) := ok_of (by show 0 ≤ y1; omega) (by show ¬ 64 ≤ y1; omega) t3 (by show ¬ y7 < 0; omega) (by show ¬ 127 < y7; omega) (by show ¬ y8 < 0; omega) (by show ¬ 9007199254740991 < y8; omega) (by show ¬ y9 < 0; omega) (by show ¬ 64 ≤ y9; omega)
            clear HY HN SB
            go_wp2
            refine wp_region_plus (by kernel_rfl) (by kernel_rfl) ?_
            repeat (go_big_quiet_step ((first | (go_at_call 27; exact calls_plus (cv _)))))
            refine wpQuiet_nil ?_
            rintro _ ⟨x1, rfl⟩
            go_wp2
            clear cv
            go_loopg [86] idx (fun g s86 wr2 => ∃ (ii : Nat) (x2 : World), s86 = .int .i64 (ii : Int) ∧ wr2 = plus (plus ((plus (w.alloc (.cells #[.int .i64 id, .slice (some ⟨b, off, none⟩) n cap] 24)) x).alloc (.cells #[.int .i64 y1, .int .i64 y2, .int .i64 y3, .int .i64 y4, .string y5, .string y6, .int .i64 y7, .int .i64 y8, .int .i64 y9] 30)) x1) x2 ∧ g + ii = idx ∧ Aside (∀ j, j < ii → xs[j]!.copy = y9 → agreeB xs[j]! ⟨y1, y2, y3, y4, y5, y6, y7, y8, y9⟩ = true))
            case atStart => exact ⟨0, _, rfl, plus_self _, by omega, fun j hj => absurd hj (Nat.not_lt_zero _)⟩
            case round =>
              obtain ⟨ii, x2, rfl, rfl, hkk, B⟩ := hrel
              by_cases hii : ii < idx
              · have hiiz : (ii : Int) < (idx : Int) := by omega
                obtain ⟨b2, off2, eb2, hbw2, m0, m1, m2, m3, m4, m5, m6, m7, m8⟩ := HS.out ii (by have := HL.out; omega)
                cases eb2
                have BS : Aside ((xs[ii]!.copy = y9 → agreeB xs[ii]! ⟨y1, y2, y3, y4, y5, y6, y7, y8, y9⟩ = true) → ∀ j, j < ii + 1 → xs[j]!.copy = y9 → agreeB xs[j]! ⟨y1, y2, y3, y4, y5, y6, y7, y8, y9⟩ = true) := fun hh j hj => by
                  rcases (by omega : j < ii ∨ j = ii) with h' | h'
                  · exact B.out j h'
                  · rw [h']; exact hh
                have BB : Aside (xs[ii]!.copy = y9 → agreeB xs[ii]! ⟨y1, y2, y3, y4, y5, y6, y7, y8, y9⟩ = false → r = false) := fun h1 h2 => SD.out ii hii h1 h2
                clear HC HS SG OK PZ SD B
                generalize xs[ii]! = z at m0 m1 m2 m3 m4 m5 m6 m7 m8 BS BB
                obtain ⟨z1, z2, z3, z4, z5, z6, z7, z8, z9⟩ := z
                simp only [] at m0 m1 m2 m3 m4 m5 m6 m7 m8
                have nq := fun w => neq_chan z2 z3 z4 z5 z6 y2 y3 y4 y5 y6 w
                have nqq := trivial
                by_cases k0 : z9 = y9
                · have f0 : (z9 == y9) = true := by simp [k0]
                  by_cases k1 : eqC z2 z3 z4 z5 z6 y2 y3 y4 y5 y6 = true
                  · rw [k1] at nq
                    by_cases k2 : z7 = y7
                    · have f2 : (z7 != y7) = false := by simp [k2]
                      by_cases k3 : z8 = y8
                      · have f3 : (z8 != y8) = false := by simp [k3]
                        have B2 : Aside (∀ j, j < ii + 1 → xs[j]!.copy = y9 → agreeB xs[j]! ⟨y1, y2, y3, y4, y5, y6, y7, y8, y9⟩ = true) := BS.out (fun _ => (agree_of k1 k2 k3))
                        clear BS BB k0 nqq
                        try clear k1
                        try clear k2
                        try clear k3
                        go_wp2
                        go_roundg (idx - (ii + 1))
                        case measure => omega
                        case rel =>
                          obtain ⟨z5, hz5⟩ := plus_of_below (show Below (plus ((plus (w.alloc (.cells #[.int .i64 id, .slice (some ⟨b, off, none⟩) n cap] 24)) x).alloc (.cells #[.int .i64 y1, .int .i64 y2, .int .i64 y3, .int .i64 y4, .string y5, .string y6, .int .i64 y7, .int .i64 y8, .int .i64 y9] 30)) x1).heap.size (plus ((plus (w.alloc (.cells #[.int .i64 id, .slice (some ⟨b, off, none⟩) n cap] 24)) x).alloc (.cells #[.int .i64 y1, .int .i64 y2, .int .i64 y3, .int .i64 y4, .string y5, .string y6, .int .i64 y7, .int .i64 y8, .int .i64 y9] 30)) x1) ((plus (plus ((plus (w.alloc (.cells #[.int .i64 id, .slice (some ⟨b, off, none⟩) n cap] 24)) x).alloc (.cells #[.int .i64 y1, .int .i64 y2, .int .i64 y3, .int .i64 y4, .string y5, .string y6, .int .i64 y7, .int .i64 y8, .int .i64 y9] 30)) x1) x2).alloc (.cells #[.int .i64 z1, .int .i64 z2, .int .i64 z3, .int .i64 z4, .string z5, .string z6, .int .i64 z7, .int .i64 z8, .int .i64 z9] 30)) from by
                            repeat (first | (with_reducible exact Below.refl _ _) | (with_reducible assumption) | (with_reducible refine below_to_plus ?_ ?_ _) | (with_reducible refine below_holds ?_ ?_ _ _) | (with_reducible refine Below.alloc ?_ ?_ _) | (with_reducible refine Below.drew ?_) | (with_reducible refine below_drewN ?_ _) | (with_reducible refine Below.setCell ?_ ?_ _))
                            all_goals first | omega | (simp; done) | (simp [go_sem]; done) | (simp [go_sem]; omega))
                          exact ⟨ii + 1, z5, by simp, hz5, by omega, B2⟩
                      · have f3 : (z8 != y8) = true := by simp [k3]
                        have e1 := BB.out k0 (agree_not (.inr (.inr k3)))
                        subst e1
                        clear BS BB k0 nqq
                        try clear k1
                        try clear k2
                        try clear k3
                        go_wp2
                        go_ret
                        refine ⟨rfl, ?_⟩
                        repeat (first | (with_reducible exact Below.refl _ _) | (with_reducible assumption) | (with_reducible refine below_to_plus ?_ ?_ _) | (with_reducible refine below_holds ?_ ?_ _ _) | (with_reducible refine Below.alloc ?_ ?_ _) | (with_reducible refine Below.drew ?_) | (with_reducible refine below_drewN ?_ _) | (with_reducible refine Below.setCell ?_ ?_ _))
                        all_goals first | omega | (simp; done) | (simp [go_sem]; done) | (simp [go_sem]; omega)
                    · have f2 : (z7 != y7) = true := by simp [k2]
                      have e1 := BB.out k0 (agree_not (.inr (.inl k2)))
                      subst e1
                      clear BS BB k0 nqq
                      try clear k1
                      try clear k2
                      try clear k3
                      go_wp2
                      go_ret
                      refine ⟨rfl, ?_⟩
                      repeat (first | (with_reducible exact Below.refl _ _) | (with_reducible assumption) | (with_reducible refine below_to_plus ?_ ?_ _) | (with_reducible refine below_holds ?_ ?_ _ _) | (with_reducible refine Below.alloc ?_ ?_ _) | (with_reducible refine Below.drew ?_) | (with_reducible refine below_drewN ?_ _) | (with_reducible refine Below.setCell ?_ ?_ _))
                      all_goals first | omega | (simp; done) | (simp [go_sem]; done) | (simp [go_sem]; omega)
                  · have k1 := eq_false_of_ne_true k1
                    rw [k1] at nq
                    have e1 := BB.out k0 (agree_not (.inl k1))
                    subst e1
                    clear BS BB k0 nqq
                    try clear k1
                    try clear k2
                    try clear k3
                    go_wp2
                    go_ret
                    refine ⟨rfl, ?_⟩
                    repeat (first | (with_reducible exact Below.refl _ _) | (with_reducible assumption) | (with_reducible refine below_to_plus ?_ ?_ _) | (with_reducible refine below_holds ?_ ?_ _ _) | (with_reducible refine Below.alloc ?_ ?_ _) | (with_reducible refine Below.drew ?_) | (with_reducible refine below_drewN ?_ _) | (with_reducible refine Below.setCell ?_ ?_ _))
                    all_goals first | omega | (simp; done) | (simp [go_sem]; done) | (simp [go_sem]; omega)
                · have f0 : (z9 == y9) = false := by simp [k0]
                  have B2 : Aside (∀ j, j < ii + 1 → xs[j]!.copy = y9 → agreeB xs[j]! ⟨y1, y2, y3, y4, y5, y6, y7, y8, y9⟩ = true) := BS.out (fun h => absurd h k0)
                  clear BS BB k0 nqq
                  try clear k1
                  try clear k2
                  try clear k3
                  go_wp2
                  go_roundg (idx - (ii + 1))
                  case measure => omega
                  case rel =>
                    obtain ⟨z5, hz5⟩ := plus_of_below (show Below (plus ((plus (w.alloc (.cells #[.int .i64 id, .slice (some ⟨b, off, none⟩) n cap] 24)) x).alloc (.cells #[.int .i64 y1, .int .i64 y2, .int .i64 y3, .int .i64 y4, .string y5, .string y6, .int .i64 y7, .int .i64 y8, .int .i64 y9] 30)) x1).heap.size (plus ((plus (w.alloc (.cells #[.int .i64 id, .slice (some ⟨b, off, none⟩) n cap] 24)) x).alloc (.cells #[.int .i64 y1, .int .i64 y2, .int .i64 y3, .int .i64 y4, .string y5, .string y6, .int .i64 y7, .int .i64 y8, .int .i64 y9] 30)) x1) ((plus (plus ((plus (w.alloc (.cells #[.int .i64 id, .slice (some ⟨b, off, none⟩) n cap] 24)) x).alloc (.cells #[.int .i64 y1, .int .i64 y2, .int .i64 y3, .int .i64 y4, .string y5, .string y6, .int .i64 y7, .int .i64 y8, .int .i64 y9] 30)) x1) x2).alloc (.cells #[.int .i64 z1, .int .i64 z2, .int .i64 z3, .int .i64 z4, .string z5, .string z6, .int .i64 z7, .int .i64 z8, .int .i64 z9] 30)) from by
                      repeat (first | (with_reducible exact Below.refl _ _) | (with_reducible assumption) | (with_reducible refine below_to_plus ?_ ?_ _) | (with_reducible refine below_holds ?_ ?_ _ _) | (with_reducible refine Below.alloc ?_ ?_ _) | (with_reducible refine Below.drew ?_) | (with_reducible refine below_drewN ?_ _) | (with_reducible refine Below.setCell ?_ ?_ _))
                      all_goals first | omega | (simp; done) | (simp [go_sem]; done) | (simp [go_sem]; omega))
                    exact ⟨ii + 1, z5, by simp, hz5, by omega, B2⟩
              · have hiiz : ¬ (ii : Int) < (idx : Int) := by omega
                obtain rfl : ii = idx := by omega
                have A2 := SG.out ⟨OK.out, PZ.out, B.out⟩
                have A3 : Aside (∀ j, j < ii + 1 → okB xs[j]! = true ∧ (0 < j → xs[j - 1]!.num < xs[j]!.num) ∧ ∀ i, i < j → xs[i]!.copy = xs[j]!.copy → agreeB xs[i]! xs[j]! = true) := A2
                clear HC HS SG OK PZ SD B A2
                go_wp2
                go_roundg (n - (ii + 1))
                case measure => omega
                case rel =>
                  obtain ⟨z5, hz5⟩ := plus_of_below (show Below (w.alloc (.cells #[.int .i64 id, .slice (some ⟨b, off, none⟩) n cap] 24)).heap.size (w.alloc (.cells #[.int .i64 id, .slice (some ⟨b, off, none⟩) n cap] 24)) (plus (plus ((plus (w.alloc (.cells #[.int .i64 id, .slice (some ⟨b, off, none⟩) n cap] 24)) x).alloc (.cells #[.int .i64 y1, .int .i64 y2, .int .i64 y3, .int .i64 y4, .string y5, .string y6, .int .i64 y7, .int .i64 y8, .int .i64 y9] 30)) x1) x2) from by
                    repeat (first | (with_reducible exact Below.refl _ _) | (with_reducible assumption) | (with_reducible refine below_to_plus ?_ ?_ _) | (with_reducible refine below_holds ?_ ?_ _ _) | (with_reducible refine Below.alloc ?_ ?_ _) | (with_reducible refine Below.drew ?_) | (with_reducible refine below_drewN ?_ _) | (with_reducible refine Below.setCell ?_ ?_ _))
                    all_goals first | omega | (simp; done) | (simp [go_sem]; done) | (simp [go_sem]; omega))
                  exact ⟨ii + 1, z5, by simp, hz5, by omega, A3⟩
    · have hiz : ¬ (idx : Int) < (n : Int) := by omega
      have e1 := H2.out ⟨by omega, by omega⟩ (fun j hj => A.out j (by have := HL.out; omega))
      subst e1
      clear HC A H1 H2
      go_wp2
      go_ret
      refine ⟨rfl, ?_⟩
      repeat (first | (with_reducible exact Below.refl _ _) | (with_reducible assumption) | (with_reducible refine below_to_plus ?_ ?_ _) | (with_reducible refine below_holds ?_ ?_ _ _) | (with_reducible refine Below.alloc ?_ ?_ _) | (with_reducible refine Below.drew ?_) | (with_reducible refine below_drewN ?_ _) | (with_reducible refine Below.setCell ?_ ?_ _))
      all_goals first | omega | (simp; done) | (simp [go_sem]; done) | (simp [go_sem]; omega)

end Go.Proofs.Ytbifanenoejjgaa
