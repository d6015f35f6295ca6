/- This text proves the walk of elements of the reference. Conditions: those that each theorem names. -/
import Derived.Test.YtodoilengdnlfaaGlobD
namespace Go.Proofs.Ytodoilengdnlfaa
open Go.ChangeShapes Go.WideShapes Go.ChangeAt Go.RowKit
set_option linter.unusedVariables false
set_option linter.unusedSimpArgs false

theorem rInfo : ∃ i0 : TypeInfo, Try.prog.info? 39 = some i0 ∧ i0.zero = some (.agg #[.int .i64 0, .int .u8 0, .string ⟨#[]⟩, .bool false]) ∧ i0.size = 4 ∧ i0.bytes = 40 := by
  have h : (Try.prog.info? 39).map (fun i => (i.zero, i.size, i.bytes)) = some (some (.agg #[.int .i64 0, .int .u8 0, .string ⟨#[]⟩, .bool false]), 4, 40) := by kernel_rfl
  cases hi : Try.prog.info? 39 with
  | none => rw [hi] at h; cases h
  | some i0 =>
    rw [hi] at h
    simp only [Option.map_some, Option.some.injEq, Prod.mk.injEq] at h
    exact ⟨i0, rfl, h.1, h.2.1, h.2.2⟩

set_option maxHeartbeats 16000000 in
set_option maxRecDepth 100000 in
theorem elements_calls (s q : ByteArray) (hs : s.size ≤ 20000) (w : World) :
    Calls Try.prog 22 #[.string s, .string q] w fun e w' => ∃ ao cap, e = .returned (.slice ao (elems s q).length cap) ∧ w'.ownsRow w.heap.size 39 4 (.slice ao (elems s q).length cap) (elems s q).length (flatE encR (elems s q)) ∧ Below w.heap.size w w' := by
  obtain ⟨i0, hi0, hz0, hs0, hb0⟩ := rInfo
  have ER : Aside (elems s q = elK s q 0) := rfl
  generalize elems s q = r at ER ⊢
  go_enter Try.func22, Try.ntmps22
  go_wp2
  go_loopg [5, 6] s.size (fun k s5 s6 wr => ∃ (i : Nat) (ao' : Option Addr) (cap' : Nat) (l : List Em), s6 = .int .i64 (i : Int) ∧ s5 = .slice ao' l.length cap' ∧ k + i = s.size ∧ i ≤ s.size ∧ l.length ≤ i ∧ Aside (l ++ elK s q i = r) ∧ Aside (Below w.heap.size w wr ∧ wr.ownsRow w.heap.size 39 4 (.slice ao' l.length cap') l.length (flatE encR l)))
  case atStart => exact ⟨0, none, 0, [], rfl, rfl, by omega, by omega, by simp, ER.out.symm, ⟨Below.refl _ _, World.ownsRow_nil _ _ _ _⟩⟩
  case round =>
    obtain ⟨i, ao', cap', l, rfl, rfl, hk, hkm, hll, A, ST⟩ := hrel
    by_cases hl : i < s.size
    · have hlz : (i : Int) < (s.size : Int) := by omega
      have u0 := ub_eq hl
      have AE : Aside (l ++ (elemAt s q i).1 :: elK s q (elemAt s q i).2 = r) := by show _ = _; rw [← elK_step hl]; exact A.out
      have c91 := fun U => is_calls s q i 91 U
      have c63 := fun U => is_calls s q i 63 U
      have c42 := fun U => is_calls s q i 42 U
      cases hb91 : bareB s q i 91 with
      | false =>
        rw [hb91] at c91
        cases hb63 : bareB s q i 63 with
        | true =>
          have ee : elemAt s q i = (⟨1, 0, false, ⟨#[]⟩⟩, i + 1) := by unfold elemAt; rw [hb91, Bool.false_and, if_neg (by simp)]; rw [hb63]; rfl
          have A2 : Aside ((l ++ [(⟨1, 0, false, ⟨#[]⟩⟩ : Em)]) ++ elK s q (i + 1) = r) := by have := AE.out; rw [ee] at this; show _ = _; rw [List.append_assoc]; exact this
          rw [hb63] at c63
          clear AE A ER hb63 ee
          have hown := ST.out.2
          have hsw := ST.out.1.size
          have hown2 : (wr.alloc (.cells #[.int .i64 0, .int .u8 0, .string ⟨#[]⟩, .bool false] 39)).ownsRow w.heap.size 39 4 (.slice ao' l.length cap') l.length (flatE encR l) := by first | exact own_alloc hown | exact hown
          have hbel2 : Below w.heap.size w (wr.alloc (.cells #[.int .i64 0, .int .u8 0, .string ⟨#[]⟩, .bool false] 39)) := by
            have := ST.out.1
            repeat (first | (with_reducible exact Below.refl _ _) | (with_reducible assumption) | (with_reducible refine below_to_plus ?_ ?_ _) | (with_reducible refine below_holds ?_ ?_ _ _) | (with_reducible refine Below.alloc ?_ ?_ _) | (with_reducible refine Below.drew ?_) | (with_reducible refine below_drewN ?_ _) | (with_reducible refine Below.setCell ?_ ?_ _))
            all_goals first | omega | (simp; done) | (simp [go_sem]; done) | (simp [go_sem]; omega)
          go_wp2_with (first | (go_at_call 35; (first | (with_reducible refine (c91 _).mono ?_) | (with_reducible refine (c63 _).mono ?_) | (with_reducible refine (c42 _).mono ?_)); rintro e w2 ⟨rfl, hw⟩; rw [hw]; clear hw) | (at_builtin; refine wpList_append_own _ rfl _ _ 36 rfl w.heap.size 39 i0 _ 4 40 Try.underlying36 hi0 hz0 hs0 hb0 rfl (by omega) _ _ _ rfl (hown2.alloc _) ⟨wr.heap.size + 1, 0, none⟩ 1 1 [.int .i64 1, .int .u8 0, .string ⟨#[]⟩, .bool false] rfl rfl (cells_new _ _ _ _ (by first | rfl | (simp; done) | (simp [size_plus]; done))) (encR_one ⟨1, 0, false, ⟨#[]⟩⟩) (by unfold maxLen; omega) (by omega) (by first | (simp; omega) | (simp [size_plus]; omega)) ?_))
          intro v' w9 hown' hgrow _
          obtain ⟨ao9, cap9, rfl, hb9, ho9⟩ := app_stateN (U1 := w) (Nat.le_refl _) (Nat.le_refl _) encR_len (by omega) (ys := [(⟨1, 0, false, ⟨#[]⟩⟩ : Em)]) (hbel2.alloc hbel2.size _) (hown2.alloc _) (by rw [flatE_one]; exact hown') hgrow
          have ST9 : Aside (Below w.heap.size w w9 ∧ w9.ownsRow w.heap.size 39 4 (.slice ao9 (l.length + 1) cap9) (l.length + 1) (flatE encR (l ++ [(⟨1, 0, false, ⟨#[]⟩⟩ : Em)]))) := ⟨hb9, ho9⟩
          clear hown hown' hgrow hb9 ho9 hsw hown2 hbel2
          go_wp2
          go_roundg (s.size - (i + 1))
          case measure => omega
          case rel => exact ⟨i + 1, ao9, cap9, l ++ [(⟨1, 0, false, ⟨#[]⟩⟩ : Em)], by first | (simp; done) | (simp; omega), by simp, by omega, by omega, by simp; omega, A2, by first | exact ST9 | simpa using ST9⟩
        | false =>
          cases hb42 : bareB s q i 42 with
          | true =>
            have ee : elemAt s q i = (⟨2, 0, false, ⟨#[]⟩⟩, i + 1) := by unfold elemAt; rw [hb91, Bool.false_and, if_neg (by simp)]; rw [hb63, hb42]; rfl
            have A2 : Aside ((l ++ [(⟨2, 0, false, ⟨#[]⟩⟩ : Em)]) ++ elK s q (i + 1) = r) := by have := AE.out; rw [ee] at this; show _ = _; rw [List.append_assoc]; exact this
            rw [hb63] at c63
            rw [hb42] at c42
            clear AE A ER hb63 hb42 ee
            have hown := ST.out.2
            have hsw := ST.out.1.size
            have hown2 : (wr.alloc (.cells #[.int .i64 0, .int .u8 0, .string ⟨#[]⟩, .bool false] 39)).ownsRow w.heap.size 39 4 (.slice ao' l.length cap') l.length (flatE encR l) := by first | exact own_alloc hown | exact hown
            have hbel2 : Below w.heap.size w (wr.alloc (.cells #[.int .i64 0, .int .u8 0, .string ⟨#[]⟩, .bool false] 39)) := by
              have := ST.out.1
              repeat (first | (with_reducible exact Below.refl _ _) | (with_reducible assumption) | (with_reducible refine below_to_plus ?_ ?_ _) | (with_reducible refine below_holds ?_ ?_ _ _) | (with_reducible refine Below.alloc ?_ ?_ _) | (with_reducible refine Below.drew ?_) | (with_reducible refine below_drewN ?_ _) | (with_reducible refine Below.setCell ?_ ?_ _))
              all_goals first | omega | (simp; done) | (simp [go_sem]; done) | (simp [go_sem]; omega)
            go_wp2_with (first | (go_at_call 35; (first | (with_reducible refine (c91 _).mono ?_) | (with_reducible refine (c63 _).mono ?_) | (with_reducible refine (c42 _).mono ?_)); rintro e w2 ⟨rfl, hw⟩; rw [hw]; clear hw) | (at_builtin; refine wpList_append_own _ rfl _ _ 36 rfl w.heap.size 39 i0 _ 4 40 Try.underlying36 hi0 hz0 hs0 hb0 rfl (by omega) _ _ _ rfl (hown2.alloc _) ⟨wr.heap.size + 1, 0, none⟩ 1 1 [.int .i64 2, .int .u8 0, .string ⟨#[]⟩, .bool false] rfl rfl (cells_new _ _ _ _ (by first | rfl | (simp; done) | (simp [size_plus]; done))) (encR_one ⟨2, 0, false, ⟨#[]⟩⟩) (by unfold maxLen; omega) (by omega) (by first | (simp; omega) | (simp [size_plus]; omega)) ?_))
            intro v' w9 hown' hgrow _
            obtain ⟨ao9, cap9, rfl, hb9, ho9⟩ := app_stateN (U1 := w) (Nat.le_refl _) (Nat.le_refl _) encR_len (by omega) (ys := [(⟨2, 0, false, ⟨#[]⟩⟩ : Em)]) (hbel2.alloc hbel2.size _) (hown2.alloc _) (by rw [flatE_one]; exact hown') hgrow
            have ST9 : Aside (Below w.heap.size w w9 ∧ w9.ownsRow w.heap.size 39 4 (.slice ao9 (l.length + 1) cap9) (l.length + 1) (flatE encR (l ++ [(⟨2, 0, false, ⟨#[]⟩⟩ : Em)]))) := ⟨hb9, ho9⟩
            clear hown hown' hgrow hb9 ho9 hsw hown2 hbel2
            go_wp2
            go_roundg (s.size - (i + 1))
            case measure => omega
            case rel => exact ⟨i + 1, ao9, cap9, l ++ [(⟨2, 0, false, ⟨#[]⟩⟩ : Em)], by first | (simp; done) | (simp; omega), by simp, by omega, by omega, by simp; omega, A2, by first | exact ST9 | simpa using ST9⟩
          | false =>
            have ee : elemAt s q i = (⟨0, ((ub s i).toNat : Int), false, ⟨#[]⟩⟩, i + 1) := by unfold elemAt; rw [hb91, Bool.false_and, if_neg (by simp)]; rw [hb63, hb42]; rfl
            have A2 : Aside ((l ++ [(⟨0, ((ub s i).toNat : Int), false, ⟨#[]⟩⟩ : Em)]) ++ elK s q (i + 1) = r) := by have := AE.out; rw [ee] at this; show _ = _; rw [List.append_assoc]; exact this
            rw [hb63] at c63
            rw [hb42] at c42
            clear AE A ER hb63 hb42 ee
            have hown := ST.out.2
            have hsw := ST.out.1.size
            have hown2 : (wr.alloc (.cells #[.int .i64 0, .int .u8 0, .string ⟨#[]⟩, .bool false] 39)).ownsRow w.heap.size 39 4 (.slice ao' l.length cap') l.length (flatE encR l) := by first | exact own_alloc hown | exact hown
            have hbel2 : Below w.heap.size w (wr.alloc (.cells #[.int .i64 0, .int .u8 0, .string ⟨#[]⟩, .bool false] 39)) := by
              have := ST.out.1
              repeat (first | (with_reducible exact Below.refl _ _) | (with_reducible assumption) | (with_reducible refine below_to_plus ?_ ?_ _) | (with_reducible refine below_holds ?_ ?_ _ _) | (with_reducible refine Below.alloc ?_ ?_ _) | (with_reducible refine Below.drew ?_) | (with_reducible refine below_drewN ?_ _) | (with_reducible refine Below.setCell ?_ ?_ _))
              all_goals first | omega | (simp; done) | (simp [go_sem]; done) | (simp [go_sem]; omega)
            go_wp2_with (first | (go_at_call 35; (first | (with_reducible refine (c91 _).mono ?_) | (with_reducible refine (c63 _).mono ?_) | (with_reducible refine (c42 _).mono ?_)); rintro e w2 ⟨rfl, hw⟩; rw [hw]; clear hw) | (at_builtin; refine wpList_append_own _ rfl _ _ 36 rfl w.heap.size 39 i0 _ 4 40 Try.underlying36 hi0 hz0 hs0 hb0 rfl (by omega) _ _ _ rfl (hown2.alloc _) ⟨wr.heap.size + 1, 0, none⟩ 1 1 [.int .i64 0, .int .u8 ((ub s i).toNat : Int), .string ⟨#[]⟩, .bool false] rfl rfl (cells_new _ _ _ _ (by first | rfl | (simp; done) | (simp [size_plus]; done))) (encR_one ⟨0, ((ub s i).toNat : Int), false, ⟨#[]⟩⟩) (by unfold maxLen; omega) (by omega) (by first | (simp; omega) | (simp [size_plus]; omega)) ?_))
            intro v' w9 hown' hgrow _
            obtain ⟨ao9, cap9, rfl, hb9, ho9⟩ := app_stateN (U1 := w) (Nat.le_refl _) (Nat.le_refl _) encR_len (by omega) (ys := [(⟨0, ((ub s i).toNat : Int), false, ⟨#[]⟩⟩ : Em)]) (hbel2.alloc hbel2.size _) (hown2.alloc _) (by rw [flatE_one]; exact hown') hgrow
            have ST9 : Aside (Below w.heap.size w w9 ∧ w9.ownsRow w.heap.size 39 4 (.slice ao9 (l.length + 1) cap9) (l.length + 1) (flatE encR (l ++ [(⟨0, ((ub s i).toNat : Int), false, ⟨#[]⟩⟩ : Em)]))) := ⟨hb9, ho9⟩
            clear hown hown' hgrow hb9 ho9 hsw hown2 hbel2
            go_wp2
            go_roundg (s.size - (i + 1))
            case measure => omega
            case rel => exact ⟨i + 1, ao9, cap9, l ++ [(⟨0, ((ub s i).toNat : Int), false, ⟨#[]⟩⟩ : Em)], by first | (simp; done) | (simp; omega), by simp, by omega, by omega, by simp; omega, A2, by first | exact ST9 | simpa using ST9⟩
      | true =>
        rw [hb91] at c91
        by_cases hcl : closeN s q i < s.size
        · have hgt := closeN_gt s q i
          have ee : elemAt s q i = (classE s q i (closeN s q i), closeN s q i + 1) := by unfold elemAt; rw [hb91, decide_eq_true hcl]; rfl
          have ce := fun U => class_found s q i (closeN s q i) hgt hcl rfl hs U
          have AE2 := AE.out
          rw [ee] at AE2
          generalize classE s q i (closeN s q i) = y at AE2 ce
          obtain ⟨yk, yc, yn, ys⟩ := y
          generalize closeN s q i = en at *
          have A2 : Aside ((l ++ [(⟨yk, yc, yn, ys⟩ : Em)]) ++ elK s q (en + 1) = r) := by show _ = _; rw [List.append_assoc]; exact AE2
          have ce : ∀ U, Calls Try.prog 36 #[.string s, .string q, .int .i64 i] U fun e w' => e = .returned (.tuple #[.agg #[.int .i64 (yk : Nat), .int .u8 yc, .string ys, .bool yn], .int .i64 ((en : Int) + 1), .bool true]) ∧ Below U.heap.size U w' := ce
          clear AE AE2 A hb91 ee ER c63 c42
          go_wp2_with (go_at_call 35; (first | (with_reducible refine (c91 _).mono ?_)); rintro e w2 ⟨rfl, hw⟩; rw [hw]; clear hw)
          refine (ce _).mono ?_
          rintro e w2 ⟨rfl, hb⟩
          obtain ⟨x, rfl⟩ := plus_of_below hb
          have hsw0 := ST.out.1.size
          have ST2 : Aside (Below w.heap.size w wr ∧ wr.ownsRow w.heap.size 39 4 (.slice ao' l.length cap') l.length (flatE encR l)) := ST.out
          clear hb ce c91
          have hown := ST2.out.2
          have hown2 : (plus (wr.alloc (.cells #[.int .i64 (yk : Nat), .int .u8 yc, .string ys, .bool yn] 39)) x).ownsRow w.heap.size 39 4 (.slice ao' l.length cap') l.length (flatE encR l) := own_plus (own_alloc hown)
          have hbel2 : Below w.heap.size w (plus (wr.alloc (.cells #[.int .i64 (yk : Nat), .int .u8 yc, .string ys, .bool yn] 39)) x) := by
            have := ST2.out.1
            repeat (first | (with_reducible exact Below.refl _ _) | (with_reducible assumption) | (with_reducible refine below_to_plus ?_ ?_ _) | (with_reducible refine below_holds ?_ ?_ _ _) | (with_reducible refine Below.alloc ?_ ?_ _) | (with_reducible refine Below.drew ?_) | (with_reducible refine below_drewN ?_ _) | (with_reducible refine Below.setCell ?_ ?_ _))
            all_goals first | omega | (simp; done) | (simp [go_sem]; done) | (simp [go_sem]; omega)
          go_wp2_with (at_builtin; refine wpList_append_own _ rfl _ _ 36 rfl w.heap.size 39 i0 _ 4 40 Try.underlying36 hi0 hz0 hs0 hb0 rfl (by omega) _ _ _ rfl (hown2.alloc _) ⟨wr.heap.size + 1 + x.heap.size, 0, none⟩ 1 1 [.int .i64 (yk : Nat), .int .u8 yc, .string ys, .bool yn] rfl rfl (cells_new _ _ _ _ (by simp [size_plus])) (encR_one ⟨yk, yc, yn, ys⟩) (by unfold maxLen; omega) (by omega) (by first | (simp; omega) | (simp [size_plus]; omega)) ?_)
          intro v' w9 hown' hgrow _
          obtain ⟨ao9, cap9, rfl, hb9, ho9⟩ := app_stateN (U1 := w) (Nat.le_refl _) (Nat.le_refl _) encR_len (by omega) (ys := [(⟨yk, yc, yn, ys⟩ : Em)]) (hbel2.alloc hbel2.size _) (hown2.alloc _) (by rw [flatE_one]; exact hown') hgrow
          have ST9 : Aside (Below w.heap.size w w9 ∧ w9.ownsRow w.heap.size 39 4 (.slice ao9 (l.length + 1) cap9) (l.length + 1) (flatE encR (l ++ [(⟨yk, yc, yn, ys⟩ : Em)]))) := ⟨hb9, ho9⟩
          clear hown hown' hgrow hb9 ho9 hown2 hbel2
          go_wp2
          go_roundg (s.size - (en + 1))
          case measure => omega
          case rel => exact ⟨en + 1, ao9, cap9, l ++ [(⟨yk, yc, yn, ys⟩ : Em)], by first | (simp; done) | (simp; omega), by simp, by omega, by omega, by simp; omega, A2, by first | exact ST9 | simpa using ST9⟩
        · have cn := fun U => class_none s q i hl (by omega) hs U
          go_wp2_with (go_at_call 35; (first | (with_reducible refine (c91 _).mono ?_)); rintro e w2 ⟨rfl, hw⟩; rw [hw]; clear hw)
          refine (cn _).mono ?_
          rintro e w2 ⟨rfl, hb⟩
          obtain ⟨x, rfl⟩ := plus_of_below hb
          clear hb cn c91
          have hsw0 := ST.out.1.size
          cases hb63 : bareB s q i 63 with
          | true =>
            have ee : elemAt s q i = (⟨1, 0, false, ⟨#[]⟩⟩, i + 1) := by unfold elemAt; rw [hb91, decide_eq_false hcl, Bool.and_false, if_neg (by simp)]; rw [hb63]; rfl
            have A2 : Aside ((l ++ [(⟨1, 0, false, ⟨#[]⟩⟩ : Em)]) ++ elK s q (i + 1) = r) := by have := AE.out; rw [ee] at this; show _ = _; rw [List.append_assoc]; exact this
            rw [hb63] at c63
            clear AE A ER hb63 ee
            have hown := ST.out.2
            have hsw := ST.out.1.size
            have hown2 : (plus (wr.alloc (.cells #[.int .i64 0, .int .u8 0, .string ⟨#[]⟩, .bool false] 39)) x).ownsRow w.heap.size 39 4 (.slice ao' l.length cap') l.length (flatE encR l) := by first | exact own_plus (own_alloc hown) | exact hown
            have hbel2 : Below w.heap.size w (plus (wr.alloc (.cells #[.int .i64 0, .int .u8 0, .string ⟨#[]⟩, .bool false] 39)) x) := by
              have := ST.out.1
              repeat (first | (with_reducible exact Below.refl _ _) | (with_reducible assumption) | (with_reducible refine below_to_plus ?_ ?_ _) | (with_reducible refine below_holds ?_ ?_ _ _) | (with_reducible refine Below.alloc ?_ ?_ _) | (with_reducible refine Below.drew ?_) | (with_reducible refine below_drewN ?_ _) | (with_reducible refine Below.setCell ?_ ?_ _))
              all_goals first | omega | (simp; done) | (simp [go_sem]; done) | (simp [go_sem]; omega)
            go_wp2_with (first | (go_at_call 35; (first | (with_reducible refine (c63 _).mono ?_) | (with_reducible refine (c42 _).mono ?_)); rintro e w2 ⟨rfl, hw⟩; rw [hw]; clear hw) | (at_builtin; refine wpList_append_own _ rfl _ _ 36 rfl w.heap.size 39 i0 _ 4 40 Try.underlying36 hi0 hz0 hs0 hb0 rfl (by omega) _ _ _ rfl (hown2.alloc _) ⟨wr.heap.size + 1 + x.heap.size, 0, none⟩ 1 1 [.int .i64 1, .int .u8 0, .string ⟨#[]⟩, .bool false] rfl rfl (cells_new _ _ _ _ (by first | rfl | (simp; done) | (simp [size_plus]; done))) (encR_one ⟨1, 0, false, ⟨#[]⟩⟩) (by unfold maxLen; omega) (by omega) (by first | (simp; omega) | (simp [size_plus]; omega)) ?_))
            intro v' w9 hown' hgrow _
            obtain ⟨ao9, cap9, rfl, hb9, ho9⟩ := app_stateN (U1 := w) (Nat.le_refl _) (Nat.le_refl _) encR_len (by omega) (ys := [(⟨1, 0, false, ⟨#[]⟩⟩ : Em)]) (hbel2.alloc hbel2.size _) (hown2.alloc _) (by rw [flatE_one]; exact hown') hgrow
            have ST9 : Aside (Below w.heap.size w w9 ∧ w9.ownsRow w.heap.size 39 4 (.slice ao9 (l.length + 1) cap9) (l.length + 1) (flatE encR (l ++ [(⟨1, 0, false, ⟨#[]⟩⟩ : Em)]))) := ⟨hb9, ho9⟩
            clear hown hown' hgrow hb9 ho9 hsw hown2 hbel2
            go_wp2
            go_roundg (s.size - (i + 1))
            case measure => omega
            case rel => exact ⟨i + 1, ao9, cap9, l ++ [(⟨1, 0, false, ⟨#[]⟩⟩ : Em)], by first | (simp; done) | (simp; omega), by simp, by omega, by omega, by simp; omega, A2, by first | exact ST9 | simpa using ST9⟩
          | false =>
            cases hb42 : bareB s q i 42 with
            | true =>
              have ee : elemAt s q i = (⟨2, 0, false, ⟨#[]⟩⟩, i + 1) := by unfold elemAt; rw [hb91, decide_eq_false hcl, Bool.and_false, if_neg (by simp)]; rw [hb63, hb42]; rfl
              have A2 : Aside ((l ++ [(⟨2, 0, false, ⟨#[]⟩⟩ : Em)]) ++ elK s q (i + 1) = r) := by have := AE.out; rw [ee] at this; show _ = _; rw [List.append_assoc]; exact this
              rw [hb63] at c63
              rw [hb42] at c42
              clear AE A ER hb63 hb42 ee
              have hown := ST.out.2
              have hsw := ST.out.1.size
              have hown2 : (plus (wr.alloc (.cells #[.int .i64 0, .int .u8 0, .string ⟨#[]⟩, .bool false] 39)) x).ownsRow w.heap.size 39 4 (.slice ao' l.length cap') l.length (flatE encR l) := by first | exact own_plus (own_alloc hown) | exact hown
              have hbel2 : Below w.heap.size w (plus (wr.alloc (.cells #[.int .i64 0, .int .u8 0, .string ⟨#[]⟩, .bool false] 39)) x) := by
                have := ST.out.1
                repeat (first | (with_reducible exact Below.refl _ _) | (with_reducible assumption) | (with_reducible refine below_to_plus ?_ ?_ _) | (with_reducible refine below_holds ?_ ?_ _ _) | (with_reducible refine Below.alloc ?_ ?_ _) | (with_reducible refine Below.drew ?_) | (with_reducible refine below_drewN ?_ _) | (with_reducible refine Below.setCell ?_ ?_ _))
                all_goals first | omega | (simp; done) | (simp [go_sem]; done) | (simp [go_sem]; omega)
              go_wp2_with (first | (go_at_call 35; (first | (with_reducible refine (c63 _).mono ?_) | (with_reducible refine (c42 _).mono ?_)); rintro e w2 ⟨rfl, hw⟩; rw [hw]; clear hw) | (at_builtin; refine wpList_append_own _ rfl _ _ 36 rfl w.heap.size 39 i0 _ 4 40 Try.underlying36 hi0 hz0 hs0 hb0 rfl (by omega) _ _ _ rfl (hown2.alloc _) ⟨wr.heap.size + 1 + x.heap.size, 0, none⟩ 1 1 [.int .i64 2, .int .u8 0, .string ⟨#[]⟩, .bool false] rfl rfl (cells_new _ _ _ _ (by first | rfl | (simp; done) | (simp [size_plus]; done))) (encR_one ⟨2, 0, false, ⟨#[]⟩⟩) (by unfold maxLen; omega) (by omega) (by first | (simp; omega) | (simp [size_plus]; omega)) ?_))
              intro v' w9 hown' hgrow _
              obtain ⟨ao9, cap9, rfl, hb9, ho9⟩ := app_stateN (U1 := w) (Nat.le_refl _) (Nat.le_refl _) encR_len (by omega) (ys := [(⟨2, 0, false, ⟨#[]⟩⟩ : Em)]) (hbel2.alloc hbel2.size _) (hown2.alloc _) (by rw [flatE_one]; exact hown') hgrow
              have ST9 : Aside (Below w.heap.size w w9 ∧ w9.ownsRow w.heap.size 39 4 (.slice ao9 (l.length + 1) cap9) (l.length + 1) (flatE encR (l ++ [(⟨2, 0, false, ⟨#[]⟩⟩ : Em)]))) := ⟨hb9, ho9⟩
              clear hown hown' hgrow hb9 ho9 hsw hown2 hbel2
              go_wp2
              go_roundg (s.size - (i + 1))
              case measure => omega
              case rel => exact ⟨i + 1, ao9, cap9, l ++ [(⟨2, 0, false, ⟨#[]⟩⟩ : Em)], by first | (simp; done) | (simp; omega), by simp, by omega, by omega, by simp; omega, A2, by first | exact ST9 | simpa using ST9⟩
            | false =>
              have ee : elemAt s q i = (⟨0, ((ub s i).toNat : Int), false, ⟨#[]⟩⟩, i + 1) := by unfold elemAt; rw [hb91, decide_eq_false hcl, Bool.and_false, if_neg (by simp)]; rw [hb63, hb42]; rfl
              have A2 : Aside ((l ++ [(⟨0, ((ub s i).toNat : Int), false, ⟨#[]⟩⟩ : Em)]) ++ elK s q (i + 1) = r) := by have := AE.out; rw [ee] at this; show _ = _; rw [List.append_assoc]; exact this
              rw [hb63] at c63
              rw [hb42] at c42
              clear AE A ER hb63 hb42 ee
              have hown := ST.out.2
              have hsw := ST.out.1.size
              have hown2 : (plus (wr.alloc (.cells #[.int .i64 0, .int .u8 0, .string ⟨#[]⟩, .bool false] 39)) x).ownsRow w.heap.size 39 4 (.slice ao' l.length cap') l.length (flatE encR l) := by first | exact own_plus (own_alloc hown) | exact hown
              have hbel2 : Below w.heap.size w (plus (wr.alloc (.cells #[.int .i64 0, .int .u8 0, .string ⟨#[]⟩, .bool false] 39)) x) := by
                have := ST.out.1
                repeat (first | (with_reducible exact Below.refl _ _) | (with_reducible assumption) | (with_reducible refine below_to_plus ?_ ?_ _) | (with_reducible refine below_holds ?_ ?_ _ _) | (with_reducible refine Below.alloc ?_ ?_ _) | (with_reducible refine Below.drew ?_) | (with_reducible refine below_drewN ?_ _) | (with_reducible refine Below.setCell ?_ ?_ _))
                all_goals first | omega | (simp; done) | (simp [go_sem]; done) | (simp [go_sem]; omega)
              go_wp2_with (first | (go_at_call 35; (first | (with_reducible refine (c63 _).mono ?_) | (with_reducible refine (c42 _).mono ?_)); rintro e w2 ⟨rfl, hw⟩; rw [hw]; clear hw) | (at_builtin; refine wpList_append_own _ rfl _ _ 36 rfl w.heap.size 39 i0 _ 4 40 Try.underlying36 hi0 hz0 hs0 hb0 rfl (by omega) _ _ _ rfl (hown2.alloc _) ⟨wr.heap.size + 1 + x.heap.size, 0, none⟩ 1 1 [.int .i64 0, .int .u8 ((ub s i).toNat : Int), .string ⟨#[]⟩, .bool false] rfl rfl (cells_new _ _ _ _ (by first | rfl | (simp; done) | (simp [size_plus]; done))) (encR_one ⟨0, ((ub s i).toNat : Int), false, ⟨#[]⟩⟩) (by unfold maxLen; omega) (by omega) (by first | (simp; omega) | (simp [size_plus]; omega)) ?_))
              intro v' w9 hown' hgrow _
              obtain ⟨ao9, cap9, rfl, hb9, ho9⟩ := app_stateN (U1 := w) (Nat.le_refl _) (Nat.le_refl _) encR_len (by omega) (ys := [(⟨0, ((ub s i).toNat : Int), false, ⟨#[]⟩⟩ : Em)]) (hbel2.alloc hbel2.size _) (hown2.alloc _) (by rw [flatE_one]; exact hown') hgrow
              have ST9 : Aside (Below w.heap.size w w9 ∧ w9.ownsRow w.heap.size 39 4 (.slice ao9 (l.length + 1) cap9) (l.length + 1) (flatE encR (l ++ [(⟨0, ((ub s i).toNat : Int), false, ⟨#[]⟩⟩ : Em)]))) := ⟨hb9, ho9⟩
              clear hown hown' hgrow hb9 ho9 hsw hown2 hbel2
              go_wp2
              go_roundg (s.size - (i + 1))
              case measure => omega
              case rel => exact ⟨i + 1, ao9, cap9, l ++ [(⟨0, ((ub s i).toNat : Int), false, ⟨#[]⟩⟩ : Em)], by first | (simp; done) | (simp; omega), by simp, by omega, by omega, by simp; omega, A2, by first | exact ST9 | simpa using ST9⟩
    · have hlz : ¬ (i : Int) < (s.size : Int) := by omega
      have el : l = r := by rw [← A.out, elK_end (by omega), List.append_nil]
      subst el
      clear A ER
      go_wp2
      go_ret
      exact ⟨ao', cap', rfl, ST.out.2, ST.out.1⟩

end Go.Proofs.Ytodoilengdnlfaa
