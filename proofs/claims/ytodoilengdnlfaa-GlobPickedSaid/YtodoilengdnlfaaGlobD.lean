/- This text proves the walks of class and elements of the reference. Conditions: those that each theorem names. -/
import Derived.Test.YtodoilengdnlfaaGlobC
import Derived.Laws.DeepStrings4
namespace Go.Proofs.Ytodoilengdnlfaa
open Go.ChangeShapes Go.WideShapes Go.ChangeAt Go.RowKit
set_option linter.unusedVariables false
set_option linter.unusedSimpArgs false

theorem scan_spec (p : Nat → Bool) : ∀ (f k : Nat), scan p f k < k + f → p (scan p f k) = true ∧ ∀ j, k ≤ j → j < scan p f k → p j = false
  | 0, k, h => by unfold scan at h; omega
  | f + 1, k, h => by
    by_cases hp : p k = true
    · have e : scan p (f + 1) k = k := by unfold scan; rw [if_pos hp]
      rw [e]
      exact ⟨hp, fun j h1 h2 => by omega⟩
    · have e : scan p (f + 1) k = scan p f (k + 1) := by show (if p k = true then k else scan p f (k + 1)) = _; rw [if_neg hp]
      rw [e] at h ⊢
      obtain ⟨h1, h2⟩ := scan_spec p f (k + 1) (by omega)
      refine ⟨h1, fun j h3 h4 => ?_⟩
      by_cases hj : j = k
      · subst hj; simpa using hp
      · exact h2 j (by omega) h4
theorem scan_none (p : Nat → Bool) : ∀ (f k : Nat), k + f ≤ scan p f k → ∀ j, k ≤ j → j < k + f → p j = false
  | 0, k, h, j, h1, h2 => by omega
  | f + 1, k, h, j, h1, h2 => by
    by_cases hp : p k = true
    · have e : scan p (f + 1) k = k := by unfold scan; rw [if_pos hp]
      omega
    · have e : scan p (f + 1) k = scan p f (k + 1) := by show (if p k = true then k else scan p f (k + 1)) = _; rw [if_neg hp]
      rw [e] at h
      by_cases hj : j = k
      · subst hj; simpa using hp
      · exact scan_none p f (k + 1) (by omega) j (by omega) (by omega)
theorem ext1 {s : ByteArray} {k : Nat} (h : k < s.size) : s.extract k (k + 1) = ⟨#[ub s k]⟩ := by
  apply ByteArray.ext
  rw [ByteArray.data_extract]
  apply Array.ext_getElem?
  intro j
  rw [Array.getElem?_extract]
  cases j with
  | zero =>
    have hs : k < s.data.size := h
    simp only [Nat.add_zero]
    rw [if_pos (by omega), Array.getElem?_eq_getElem hs, ← ub_eq h]
    rfl
  | succ j => rw [if_neg (by omega)]; rfl
theorem sl_one {s : ByteArray} {k : Nat} (hk : k < s.size) (i j : Int) (hi : i = (k : Int)) (hj : j = (k : Int) + 1) (U : World) :
    (Instr.slice 9 (.string s) (some (.int .i64 i)) (some (.int .i64 j)) none).run Try.prog U = .ok (.string ⟨#[ub s k]⟩) U := by
  rw [run_slice_string_if (P := Try.prog) U 9 s .i64 .i64 i j Try.underlying9, if_pos (by omega), if_pos (by omega), show i.toNat = k by omega, show j.toNat = k + 1 by omega, ext1 hk]
theorem cat2 (l : List UInt8) (a b : UInt8) : (⟨l.toArray⟩ : ByteArray) ++ ⟨#[a]⟩ ++ ⟨#[b]⟩ = ⟨(l ++ [a, b]).toArray⟩ := by
  apply ByteArray.ext
  simp [ByteArray.data_append]

set_option maxHeartbeats 16000000 in
set_option maxRecDepth 100000 in
theorem class_found (s q : ByteArray) (i en : Nat) (hie : i < en) (hen : en < s.size) (hec : closeN s q i = en) (hs : s.size ≤ 20000) (w : World) :
    Calls Try.prog 36 #[.string s, .string q, .int .i64 i] w fun e w' => e = .returned (.tuple #[.agg (encR (classE s q i en)).toArray, .int .i64 ((en : Int) + 1), .bool true]) ∧ Below w.heap.size w w' := by
  have hsp := scan_spec (fun k => bareB s q k 93) (s.size - (i + 1)) (i + 1) (by show closeN s q i < _; omega)
  have HN : Aside (∀ j, i + 1 ≤ j → j < en → bareB s q j 93 = false) := fun j h1 h2 => hsp.2 j h1 (by show j < closeN s q i; omega)
  have HH : Aside (bareB s q en 93 = true) := by have := hsp.1; rw [← hec]; exact this
  clear hsp
  have c0 := fun U => is_calls s q (i + 1) 94 U
  rw [show ((i + 1 : Nat) : Int) = (i : Int) + 1 by omega] at c0
  have hR : ∀ neg : Bool, negB s q i en = neg → classE s q i en = ⟨3, 0, neg, ⟨(setK s q en (if neg then i + 2 else i + 1)).toArray⟩⟩ := fun neg h => by unfold classE; rw [h]
  clear hec
  go_enter Try.func36, Try.ntmps36
  go_wp2
  go_loopg [9] (s.size - (i + 1)) (fun k s9 wr => ∃ kk : Nat, s9 = .int .i64 (kk : Int) ∧ wr = (w.alloc (.cells #[.int .i64 0, .int .u8 0, .string ⟨#[]⟩, .bool false] 39)) ∧ k + kk = s.size ∧ i + 1 ≤ kk ∧ kk ≤ en)
  case atStart => exact ⟨i + 1, by simp, rfl, by omega, by omega, by omega⟩
  case round =>
    obtain ⟨kk, rfl, rfl, hk, hik, hke⟩ := hrel
    have hlz : (kk : Int) < (s.size : Int) := by omega
    have cb := fun U => is_calls s q kk 93 U
    by_cases hl : kk < en
    · rw [HN.out kk hik hl] at cb
      clear HN HH
      go_wp2_with (go_at_call 35; (with_reducible refine (cb _).mono ?_); rintro e w2 ⟨rfl, hw⟩; rw [hw]; clear hw)
      go_roundg (gk - 1)
      case measure => omega
      case rel => exact ⟨kk + 1, by simp, rfl, by omega, by omega, by omega⟩
    · have hke2 : en = kk := by omega
      subst hke2
      rw [HH.out] at cb
      have hnz : ¬ (s.size : Int) ≤ (en : Int) := by omega
      clear HN HH hl
      by_cases h1 : i + 1 < en
      · have h1z : (i : Int) + 1 < (en : Int) := by omega
        cases hb : bareB s q (i + 1) 94 with
        | true =>
          rw [hb] at c0
          have HR : Aside (classE s q i en = ⟨3, 0, true, ⟨(setK s q en (i + 2)).toArray⟩⟩) := hR true (by unfold negB; rw [decide_eq_true h1, hb]; rfl)
          clear hb hR
          go_wp2_with (first | (go_at_call 35; (with_reducible refine (cb _).mono ?_); rintro e w2 ⟨rfl, hw⟩; rw [hw]; clear hw) | (go_at_call 35; (with_reducible refine (c0 _).mono ?_); rintro e w2 ⟨rfl, hw⟩; rw [hw]; clear hw))
          go_loopg [11] (s.size + 3 - (i + 2)) (fun k s11 wr => ∃ (kk : Nat) (l : List UInt8) (y : World), s11 = .int .i64 (kk : Int) ∧ wr = plus ((w.alloc (.cells #[.int .i64 0, .int .u8 0, .string ⟨#[]⟩, .bool false] 39)).alloc (.cells #[.int .i64 3, .int .u8 0, .string ⟨l.toArray⟩, .bool true] 39)) y ∧ k + kk = s.size + 3 ∧ kk ≤ en + 1 ∧ l.length ≤ 2 * kk ∧ Aside (l ++ setK s q en kk = setK s q en (i + 2)))
          case atStart => exact ⟨i + 2, [], _, by first | (simp; done) | (simp; omega), plus_self _, by omega, by omega, by simp, rfl⟩
          case round =>
            obtain ⟨kk, l, y, rfl, rfl, hk, hkm, hll, A⟩ := hrel
            by_cases hl : kk < en
            · have hlz : (kk : Int) < (en : Int) := by omega
              have hks : kk < s.size := by omega
              have hw1 : IntKind.i64.wrap ((kk : Int) + 1) = (kk : Int) + 1 := by rw [IntKind.wrap_i64]; omega
              have hw2 : IntKind.i64.wrap ((kk : Int) + 2) = (kk : Int) + 2 := by rw [IntKind.wrap_i64]; omega
              have hw3 : IntKind.i64.wrap ((kk : Int) + 3) = (kk : Int) + 3 := by rw [IntKind.wrap_i64]; omega
              have ht1 : ((kk : Int) + 1).toNat = kk + 1 := by omega
              have ht2 : ((kk : Int) + 2).toNat = kk + 2 := by omega
              have ht3 : ((kk : Int) + 3).toNat = kk + 3 := by omega
              have hn1 : ¬ 9223372036854775807 < l.length + 1 := by omega
              have hn2 : ¬ 9223372036854775807 < l.length + 1 + 1 := by omega
              have hg1 : (0 : Int) ≤ (kk : Int) + 1 := by omega
              have hg2 : (0 : Int) ≤ (kk : Int) + 2 := by omega
              have hg3 : (0 : Int) ≤ (kk : Int) + 3 := by omega
              have hle1 : (kk : Int) + 1 ≤ (s.size : Int) := by omega
              have hle1n : kk + 1 ≤ s.size := by omega
              by_cases h2 : kk + 2 < en
              · have h2z : (kk : Int) + 2 < (en : Int) := by omega
                have hks2 : kk + 2 < s.size := by omega
                have hle3 : (kk : Int) + 3 ≤ (s.size : Int) := by omega
                have hle3n : kk + 3 ≤ s.size := by omega
                have hle23 : (kk : Int) + 2 ≤ (kk : Int) + 3 := by omega
                have cb := fun U => is_calls s q (kk + 1) 45 U
                rw [show ((kk + 1 : Nat) : Int) = (kk : Int) + 1 by omega] at cb
                cases hb : bareB s q (kk + 1) 45 with
                | true =>
                  rw [hb] at cb
                  have A2 : Aside ((l ++ [ub s kk, ub s (kk + 2)]) ++ setK s q en (kk + 3) = setK s q en (i + 2)) := by show _ = _; rw [← A.out, setK_range h2 hb, List.append_assoc]
                  have x1 := fun U => sl_one hks (kk : Int) ((kk : Int) + 1) rfl rfl U
                  have x2 := fun U => sl_one hks2 ((kk : Int) + 2) ((kk : Int) + 3) (by omega) (by omega) U
                  clear hb A
                  go_wp2_with (go_at_call 35; (with_reducible refine (cb _).mono ?_); rintro e w2 ⟨rfl, hw⟩; rw [hw]; clear hw)
                  refine wp_region_lo_plus 16 [] (by kernel_rfl) (by kernel_rfl) ?_
                  simp only [List.take, List.drop]
                  repeat (refine lo_tame rfl rfl rfl (fun K hK => ?_); simp [go_sem, ↓IntWalk.iteOmega, *]; refine hK _ ?_; clear hK; clear K)
                  refine lo_nil ?_
                  rintro _ ⟨y2, rfl⟩
                  refine specEnd_nil ?_
                  obtain ⟨y3, hy3⟩ := plus_plus ((w.alloc (.cells #[.int .i64 0, .int .u8 0, .string ⟨#[]⟩, .bool false] 39)).alloc (.cells #[.int .i64 3, .int .u8 0, .string ⟨l.toArray⟩, .bool true] 39)) y y2
                  rw [hy3]
                  clear hy3
                  go_wp2
                  go_roundg (gk - 3)
                  case measure => omega
                  case rel => exact ⟨kk + 3, l ++ [ub s kk, ub s (kk + 2)], y3, by simp, by rw [← cat2], by omega, by omega, by simp; omega, A2⟩
                | false =>
                  rw [hb] at cb
                  have A2 : Aside ((l ++ [ub s kk, ub s kk]) ++ setK s q en (kk + 1) = setK s q en (i + 2)) := by show _ = _; rw [← A.out, setK_one hl (by rw [hb, Bool.and_false]), List.append_assoc]
                  have x1 := fun U => sl_one hks (kk : Int) ((kk : Int) + 1) rfl rfl U
                  clear hb A
                  go_wp2_with (go_at_call 35; (with_reducible refine (cb _).mono ?_); rintro e w2 ⟨rfl, hw⟩; rw [hw]; clear hw)
                  refine wp_region_lo_plus 15 [] (by kernel_rfl) (by kernel_rfl) ?_
                  simp only [List.take, List.drop]
                  repeat (refine lo_tame rfl rfl rfl (fun K hK => ?_); simp [go_sem, ↓IntWalk.iteOmega, *]; refine hK _ ?_; clear hK; clear K)
                  refine lo_nil ?_
                  rintro _ ⟨y2, rfl⟩
                  refine specEnd_nil ?_
                  obtain ⟨y3, hy3⟩ := plus_plus ((w.alloc (.cells #[.int .i64 0, .int .u8 0, .string ⟨#[]⟩, .bool false] 39)).alloc (.cells #[.int .i64 3, .int .u8 0, .string ⟨l.toArray⟩, .bool true] 39)) y y2
                  rw [hy3]
                  clear hy3
                  go_wp2
                  go_roundg (gk - 1)
                  case measure => omega
                  case rel => exact ⟨kk + 1, l ++ [ub s kk, ub s kk], y3, by simp, by rw [← cat2], by omega, by omega, by simp; omega, A2⟩
              · have h2z : ¬ (kk : Int) + 2 < (en : Int) := by omega
                have A2 : Aside ((l ++ [ub s kk, ub s kk]) ++ setK s q en (kk + 1) = setK s q en (i + 2)) := by show _ = _; rw [← A.out, setK_one hl (by rw [decide_eq_false h2]; rfl), List.append_assoc]
                have x1 := fun U => sl_one hks (kk : Int) ((kk : Int) + 1) rfl rfl U
                clear A
                go_wp2
                refine wp_region_lo_plus 15 [] (by kernel_rfl) (by kernel_rfl) ?_
                simp only [List.take, List.drop]
                repeat (refine lo_tame rfl rfl rfl (fun K hK => ?_); simp [go_sem, ↓IntWalk.iteOmega, *]; refine hK _ ?_; clear hK; clear K)
                refine lo_nil ?_
                rintro _ ⟨y2, rfl⟩
                refine specEnd_nil ?_
                obtain ⟨y3, hy3⟩ := plus_plus ((w.alloc (.cells #[.int .i64 0, .int .u8 0, .string ⟨#[]⟩, .bool false] 39)).alloc (.cells #[.int .i64 3, .int .u8 0, .string ⟨l.toArray⟩, .bool true] 39)) y y2
                rw [hy3]
                clear hy3
                go_wp2
                go_roundg (gk - 1)
                case measure => omega
                case rel => exact ⟨kk + 1, l ++ [ub s kk, ub s kk], y3, by simp, by rw [← cat2], by omega, by omega, by simp; omega, A2⟩
            · have hlz : ¬ (kk : Int) < (en : Int) := by omega
              have el : l = setK s q en (i + 2) := by rw [← A.out, setK_end (by omega), List.append_nil]
              subst el
              clear A
              generalize setK s q en (i + 2) = l at HR ⊢
              go_wp2
              refine bodyPost_ret (v := .tuple #[.agg #[.int .i64 3, .int .u8 0, .string ⟨l.toArray⟩, .bool true], .int .i64 ((en : Int) + 1), .bool true]) (by simp [results, Try.results36, go_sem, ↓IntWalk.iteOmega]) rfl ⟨by rw [HR.out]; rfl, ?_⟩
              repeat (first | (with_reducible exact Below.refl _ _) | (with_reducible assumption) | (with_reducible refine below_to_plus ?_ ?_ _) | (with_reducible refine below_holds ?_ ?_ _ _) | (with_reducible refine Below.alloc ?_ ?_ _) | (with_reducible refine Below.drew ?_) | (with_reducible refine below_drewN ?_ _) | (with_reducible refine Below.setCell ?_ ?_ _))
              all_goals first | omega | (simp; done) | (simp [go_sem]; done) | (simp [go_sem]; omega)
        | false =>
          rw [hb] at c0
          have HR : Aside (classE s q i en = ⟨3, 0, false, ⟨(setK s q en (i + 1)).toArray⟩⟩) := hR false (by unfold negB; rw [hb, Bool.and_false])
          clear hb hR
          go_wp2_with (first | (go_at_call 35; (with_reducible refine (cb _).mono ?_); rintro e w2 ⟨rfl, hw⟩; rw [hw]; clear hw) | (go_at_call 35; (with_reducible refine (c0 _).mono ?_); rintro e w2 ⟨rfl, hw⟩; rw [hw]; clear hw))
          go_loopg [11] (s.size + 3 - (i + 1)) (fun k s11 wr => ∃ (kk : Nat) (l : List UInt8) (y : World), s11 = .int .i64 (kk : Int) ∧ wr = plus ((w.alloc (.cells #[.int .i64 0, .int .u8 0, .string ⟨#[]⟩, .bool false] 39)).alloc (.cells #[.int .i64 3, .int .u8 0, .string ⟨l.toArray⟩, .bool false] 39)) y ∧ k + kk = s.size + 3 ∧ kk ≤ en + 1 ∧ l.length ≤ 2 * kk ∧ Aside (l ++ setK s q en kk = setK s q en (i + 1)))
          case atStart => exact ⟨i + 1, [], _, by first | (simp; done) | (simp; omega), plus_self _, by omega, by omega, by simp, rfl⟩
          case round =>
            obtain ⟨kk, l, y, rfl, rfl, hk, hkm, hll, A⟩ := hrel
            by_cases hl : kk < en
            · have hlz : (kk : Int) < (en : Int) := by omega
              have hks : kk < s.size := by omega
              have hw1 : IntKind.i64.wrap ((kk : Int) + 1) = (kk : Int) + 1 := by rw [IntKind.wrap_i64]; omega
              have hw2 : IntKind.i64.wrap ((kk : Int) + 2) = (kk : Int) + 2 := by rw [IntKind.wrap_i64]; omega
              have hw3 : IntKind.i64.wrap ((kk : Int) + 3) = (kk : Int) + 3 := by rw [IntKind.wrap_i64]; omega
              have ht1 : ((kk : Int) + 1).toNat = kk + 1 := by omega
              have ht2 : ((kk : Int) + 2).toNat = kk + 2 := by omega
              have ht3 : ((kk : Int) + 3).toNat = kk + 3 := by omega
              have hn1 : ¬ 9223372036854775807 < l.length + 1 := by omega
              have hn2 : ¬ 9223372036854775807 < l.length + 1 + 1 := by omega
              have hg1 : (0 : Int) ≤ (kk : Int) + 1 := by omega
              have hg2 : (0 : Int) ≤ (kk : Int) + 2 := by omega
              have hg3 : (0 : Int) ≤ (kk : Int) + 3 := by omega
              have hle1 : (kk : Int) + 1 ≤ (s.size : Int) := by omega
              have hle1n : kk + 1 ≤ s.size := by omega
              by_cases h2 : kk + 2 < en
              · have h2z : (kk : Int) + 2 < (en : Int) := by omega
                have hks2 : kk + 2 < s.size := by omega
                have hle3 : (kk : Int) + 3 ≤ (s.size : Int) := by omega
                have hle3n : kk + 3 ≤ s.size := by omega
                have hle23 : (kk : Int) + 2 ≤ (kk : Int) + 3 := by omega
                have cb := fun U => is_calls s q (kk + 1) 45 U
                rw [show ((kk + 1 : Nat) : Int) = (kk : Int) + 1 by omega] at cb
                cases hb : bareB s q (kk + 1) 45 with
                | true =>
                  rw [hb] at cb
                  have A2 : Aside ((l ++ [ub s kk, ub s (kk + 2)]) ++ setK s q en (kk + 3) = setK s q en (i + 1)) := by show _ = _; rw [← A.out, setK_range h2 hb, List.append_assoc]
                  have x1 := fun U => sl_one hks (kk : Int) ((kk : Int) + 1) rfl rfl U
                  have x2 := fun U => sl_one hks2 ((kk : Int) + 2) ((kk : Int) + 3) (by omega) (by omega) U
                  clear hb A
                  go_wp2_with (go_at_call 35; (with_reducible refine (cb _).mono ?_); rintro e w2 ⟨rfl, hw⟩; rw [hw]; clear hw)
                  refine wp_region_lo_plus 16 [] (by kernel_rfl) (by kernel_rfl) ?_
                  simp only [List.take, List.drop]
                  repeat (refine lo_tame rfl rfl rfl (fun K hK => ?_); simp [go_sem, ↓IntWalk.iteOmega, *]; refine hK _ ?_; clear hK; clear K)
                  refine lo_nil ?_
                  rintro _ ⟨y2, rfl⟩
                  refine specEnd_nil ?_
                  obtain ⟨y3, hy3⟩ := plus_plus ((w.alloc (.cells #[.int .i64 0, .int .u8 0, .string ⟨#[]⟩, .bool false] 39)).alloc (.cells #[.int .i64 3, .int .u8 0, .string ⟨l.toArray⟩, .bool false] 39)) y y2
                  rw [hy3]
                  clear hy3
                  go_wp2
                  go_roundg (gk - 3)
                  case measure => omega
                  case rel => exact ⟨kk + 3, l ++ [ub s kk, ub s (kk + 2)], y3, by simp, by rw [← cat2], by omega, by omega, by simp; omega, A2⟩
                | false =>
                  rw [hb] at cb
                  have A2 : Aside ((l ++ [ub s kk, ub s kk]) ++ setK s q en (kk + 1) = setK s q en (i + 1)) := by show _ = _; rw [← A.out, setK_one hl (by rw [hb, Bool.and_false]), List.append_assoc]
                  have x1 := fun U => sl_one hks (kk : Int) ((kk : Int) + 1) rfl rfl U
                  clear hb A
                  go_wp2_with (go_at_call 35; (with_reducible refine (cb _).mono ?_); rintro e w2 ⟨rfl, hw⟩; rw [hw]; clear hw)
                  refine wp_region_lo_plus 15 [] (by kernel_rfl) (by kernel_rfl) ?_
                  simp only [List.take, List.drop]
                  repeat (refine lo_tame rfl rfl rfl (fun K hK => ?_); simp [go_sem, ↓IntWalk.iteOmega, *]; refine hK _ ?_; clear hK; clear K)
                  refine lo_nil ?_
                  rintro _ ⟨y2, rfl⟩
                  refine specEnd_nil ?_
                  obtain ⟨y3, hy3⟩ := plus_plus ((w.alloc (.cells #[.int .i64 0, .int .u8 0, .string ⟨#[]⟩, .bool false] 39)).alloc (.cells #[.int .i64 3, .int .u8 0, .string ⟨l.toArray⟩, .bool false] 39)) y y2
                  rw [hy3]
                  clear hy3
                  go_wp2
                  go_roundg (gk - 1)
                  case measure => omega
                  case rel => exact ⟨kk + 1, l ++ [ub s kk, ub s kk], y3, by simp, by rw [← cat2], by omega, by omega, by simp; omega, A2⟩
              · have h2z : ¬ (kk : Int) + 2 < (en : Int) := by omega
                have A2 : Aside ((l ++ [ub s kk, ub s kk]) ++ setK s q en (kk + 1) = setK s q en (i + 1)) := by show _ = _; rw [← A.out, setK_one hl (by rw [decide_eq_false h2]; rfl), List.append_assoc]
                have x1 := fun U => sl_one hks (kk : Int) ((kk : Int) + 1) rfl rfl U
                clear A
                go_wp2
                refine wp_region_lo_plus 15 [] (by kernel_rfl) (by kernel_rfl) ?_
                simp only [List.take, List.drop]
                repeat (refine lo_tame rfl rfl rfl (fun K hK => ?_); simp [go_sem, ↓IntWalk.iteOmega, *]; refine hK _ ?_; clear hK; clear K)
                refine lo_nil ?_
                rintro _ ⟨y2, rfl⟩
                refine specEnd_nil ?_
                obtain ⟨y3, hy3⟩ := plus_plus ((w.alloc (.cells #[.int .i64 0, .int .u8 0, .string ⟨#[]⟩, .bool false] 39)).alloc (.cells #[.int .i64 3, .int .u8 0, .string ⟨l.toArray⟩, .bool false] 39)) y y2
                rw [hy3]
                clear hy3
                go_wp2
                go_roundg (gk - 1)
                case measure => omega
                case rel => exact ⟨kk + 1, l ++ [ub s kk, ub s kk], y3, by simp, by rw [← cat2], by omega, by omega, by simp; omega, A2⟩
            · have hlz : ¬ (kk : Int) < (en : Int) := by omega
              have el : l = setK s q en (i + 1) := by rw [← A.out, setK_end (by omega), List.append_nil]
              subst el
              clear A
              generalize setK s q en (i + 1) = l at HR ⊢
              go_wp2
              refine bodyPost_ret (v := .tuple #[.agg #[.int .i64 3, .int .u8 0, .string ⟨l.toArray⟩, .bool false], .int .i64 ((en : Int) + 1), .bool true]) (by simp [results, Try.results36, go_sem, ↓IntWalk.iteOmega]) rfl ⟨by rw [HR.out]; rfl, ?_⟩
              repeat (first | (with_reducible exact Below.refl _ _) | (with_reducible assumption) | (with_reducible refine below_to_plus ?_ ?_ _) | (with_reducible refine below_holds ?_ ?_ _ _) | (with_reducible refine Below.alloc ?_ ?_ _) | (with_reducible refine Below.drew ?_) | (with_reducible refine below_drewN ?_ _) | (with_reducible refine Below.setCell ?_ ?_ _))
              all_goals first | omega | (simp; done) | (simp [go_sem]; done) | (simp [go_sem]; omega)
      · have h1z : ¬ (i : Int) + 1 < (en : Int) := by omega
        have HR : Aside (classE s q i en = ⟨3, 0, false, ⟨(setK s q en (i + 1)).toArray⟩⟩) := hR false (by unfold negB; rw [decide_eq_false h1]; rfl)
        clear hR
        go_wp2_with (first | (go_at_call 35; (with_reducible refine (cb _).mono ?_); rintro e w2 ⟨rfl, hw⟩; rw [hw]; clear hw) | (go_at_call 35; (with_reducible refine (c0 _).mono ?_); rintro e w2 ⟨rfl, hw⟩; rw [hw]; clear hw))
        go_loopg [11] (s.size + 3 - (i + 1)) (fun k s11 wr => ∃ (kk : Nat) (l : List UInt8) (y : World), s11 = .int .i64 (kk : Int) ∧ wr = plus ((w.alloc (.cells #[.int .i64 0, .int .u8 0, .string ⟨#[]⟩, .bool false] 39)).alloc (.cells #[.int .i64 3, .int .u8 0, .string ⟨l.toArray⟩, .bool false] 39)) y ∧ k + kk = s.size + 3 ∧ kk ≤ en + 1 ∧ l.length ≤ 2 * kk ∧ Aside (l ++ setK s q en kk = setK s q en (i + 1)))
        case atStart => exact ⟨i + 1, [], _, by first | (simp; done) | (simp; omega), plus_self _, by omega, by omega, by simp, rfl⟩
        case round =>
          obtain ⟨kk, l, y, rfl, rfl, hk, hkm, hll, A⟩ := hrel
          by_cases hl : kk < en
          · have hlz : (kk : Int) < (en : Int) := by omega
            have hks : kk < s.size := by omega
            have hw1 : IntKind.i64.wrap ((kk : Int) + 1) = (kk : Int) + 1 := by rw [IntKind.wrap_i64]; omega
            have hw2 : IntKind.i64.wrap ((kk : Int) + 2) = (kk : Int) + 2 := by rw [IntKind.wrap_i64]; omega
            have hw3 : IntKind.i64.wrap ((kk : Int) + 3) = (kk : Int) + 3 := by rw [IntKind.wrap_i64]; omega
            have ht1 : ((kk : Int) + 1).toNat = kk + 1 := by omega
            have ht2 : ((kk : Int) + 2).toNat = kk + 2 := by omega
            have ht3 : ((kk : Int) + 3).toNat = kk + 3 := by omega
            have hn1 : ¬ 9223372036854775807 < l.length + 1 := by omega
            have hn2 : ¬ 9223372036854775807 < l.length + 1 + 1 := by omega
            have hg1 : (0 : Int) ≤ (kk : Int) + 1 := by omega
            have hg2 : (0 : Int) ≤ (kk : Int) + 2 := by omega
            have hg3 : (0 : Int) ≤ (kk : Int) + 3 := by omega
            have hle1 : (kk : Int) + 1 ≤ (s.size : Int) := by omega
            have hle1n : kk + 1 ≤ s.size := by omega
            by_cases h2 : kk + 2 < en
            · have h2z : (kk : Int) + 2 < (en : Int) := by omega
              have hks2 : kk + 2 < s.size := by omega
              have hle3 : (kk : Int) + 3 ≤ (s.size : Int) := by omega
              have hle3n : kk + 3 ≤ s.size := by omega
              have hle23 : (kk : Int) + 2 ≤ (kk : Int) + 3 := by omega
              have cb := fun U => is_calls s q (kk + 1) 45 U
              rw [show ((kk + 1 : Nat) : Int) = (kk : Int) + 1 by omega] at cb
              cases hb : bareB s q (kk + 1) 45 with
              | true =>
                rw [hb] at cb
                have A2 : Aside ((l ++ [ub s kk, ub s (kk + 2)]) ++ setK s q en (kk + 3) = setK s q en (i + 1)) := by show _ = _; rw [← A.out, setK_range h2 hb, List.append_assoc]
                have x1 := fun U => sl_one hks (kk : Int) ((kk : Int) + 1) rfl rfl U
                have x2 := fun U => sl_one hks2 ((kk : Int) + 2) ((kk : Int) + 3) (by omega) (by omega) U
                clear hb A
                go_wp2_with (go_at_call 35; (with_reducible refine (cb _).mono ?_); rintro e w2 ⟨rfl, hw⟩; rw [hw]; clear hw)
                refine wp_region_lo_plus 16 [] (by kernel_rfl) (by kernel_rfl) ?_
                simp only [List.take, List.drop]
                repeat (refine lo_tame rfl rfl rfl (fun K hK => ?_); simp [go_sem, ↓IntWalk.iteOmega, *]; refine hK _ ?_; clear hK; clear K)
                refine lo_nil ?_
                rintro _ ⟨y2, rfl⟩
                refine specEnd_nil ?_
                obtain ⟨y3, hy3⟩ := plus_plus ((w.alloc (.cells #[.int .i64 0, .int .u8 0, .string ⟨#[]⟩, .bool false] 39)).alloc (.cells #[.int .i64 3, .int .u8 0, .string ⟨l.toArray⟩, .bool false] 39)) y y2
                rw [hy3]
                clear hy3
                go_wp2
                go_roundg (gk - 3)
                case measure => omega
                case rel => exact ⟨kk + 3, l ++ [ub s kk, ub s (kk + 2)], y3, by simp, by rw [← cat2], by omega, by omega, by simp; omega, A2⟩
              | false =>
                rw [hb] at cb
                have A2 : Aside ((l ++ [ub s kk, ub s kk]) ++ setK s q en (kk + 1) = setK s q en (i + 1)) := by show _ = _; rw [← A.out, setK_one hl (by rw [hb, Bool.and_false]), List.append_assoc]
                have x1 := fun U => sl_one hks (kk : Int) ((kk : Int) + 1) rfl rfl U
                clear hb A
                go_wp2_with (go_at_call 35; (with_reducible refine (cb _).mono ?_); rintro e w2 ⟨rfl, hw⟩; rw [hw]; clear hw)
                refine wp_region_lo_plus 15 [] (by kernel_rfl) (by kernel_rfl) ?_
                simp only [List.take, List.drop]
                repeat (refine lo_tame rfl rfl rfl (fun K hK => ?_); simp [go_sem, ↓IntWalk.iteOmega, *]; refine hK _ ?_; clear hK; clear K)
                refine lo_nil ?_
                rintro _ ⟨y2, rfl⟩
                refine specEnd_nil ?_
                obtain ⟨y3, hy3⟩ := plus_plus ((w.alloc (.cells #[.int .i64 0, .int .u8 0, .string ⟨#[]⟩, .bool false] 39)).alloc (.cells #[.int .i64 3, .int .u8 0, .string ⟨l.toArray⟩, .bool false] 39)) y y2
                rw [hy3]
                clear hy3
                go_wp2
                go_roundg (gk - 1)
                case measure => omega
                case rel => exact ⟨kk + 1, l ++ [ub s kk, ub s kk], y3, by simp, by rw [← cat2], by omega, by omega, by simp; omega, A2⟩
            · have h2z : ¬ (kk : Int) + 2 < (en : Int) := by omega
              have A2 : Aside ((l ++ [ub s kk, ub s kk]) ++ setK s q en (kk + 1) = setK s q en (i + 1)) := by show _ = _; rw [← A.out, setK_one hl (by rw [decide_eq_false h2]; rfl), List.append_assoc]
              have x1 := fun U => sl_one hks (kk : Int) ((kk : Int) + 1) rfl rfl U
              clear A
              go_wp2
              refine wp_region_lo_plus 15 [] (by kernel_rfl) (by kernel_rfl) ?_
              simp only [List.take, List.drop]
              repeat (refine lo_tame rfl rfl rfl (fun K hK => ?_); simp [go_sem, ↓IntWalk.iteOmega, *]; refine hK _ ?_; clear hK; clear K)
              refine lo_nil ?_
              rintro _ ⟨y2, rfl⟩
              refine specEnd_nil ?_
              obtain ⟨y3, hy3⟩ := plus_plus ((w.alloc (.cells #[.int .i64 0, .int .u8 0, .string ⟨#[]⟩, .bool false] 39)).alloc (.cells #[.int .i64 3, .int .u8 0, .string ⟨l.toArray⟩, .bool false] 39)) y y2
              rw [hy3]
              clear hy3
              go_wp2
              go_roundg (gk - 1)
              case measure => omega
              case rel => exact ⟨kk + 1, l ++ [ub s kk, ub s kk], y3, by simp, by rw [← cat2], by omega, by omega, by simp; omega, A2⟩
          · have hlz : ¬ (kk : Int) < (en : Int) := by omega
            have el : l = setK s q en (i + 1) := by rw [← A.out, setK_end (by omega), List.append_nil]
            subst el
            clear A
            generalize setK s q en (i + 1) = l at HR ⊢
            go_wp2
            refine bodyPost_ret (v := .tuple #[.agg #[.int .i64 3, .int .u8 0, .string ⟨l.toArray⟩, .bool false], .int .i64 ((en : Int) + 1), .bool true]) (by simp [results, Try.results36, go_sem, ↓IntWalk.iteOmega]) rfl ⟨by rw [HR.out]; rfl, ?_⟩
            repeat (first | (with_reducible exact Below.refl _ _) | (with_reducible assumption) | (with_reducible refine below_to_plus ?_ ?_ _) | (with_reducible refine below_holds ?_ ?_ _ _) | (with_reducible refine Below.alloc ?_ ?_ _) | (with_reducible refine Below.drew ?_) | (with_reducible refine below_drewN ?_ _) | (with_reducible refine Below.setCell ?_ ?_ _))
            all_goals first | omega | (simp; done) | (simp [go_sem]; done) | (simp [go_sem]; omega)

set_option maxHeartbeats 4000000 in
theorem class_none (s q : ByteArray) (i : Nat) (hi : i < s.size) (hec : s.size ≤ closeN s q i) (hs : s.size ≤ 20000) (w : World) :
    Calls Try.prog 36 #[.string s, .string q, .int .i64 i] w fun e w' => e = .returned (.tuple #[.agg #[.int .i64 0, .int .u8 0, .string ⟨#[]⟩, .bool false], .int .i64 0, .bool false]) ∧ Below w.heap.size w w' := by
  have hsp := scan_none (fun k => bareB s q k 93) (s.size - (i + 1)) (i + 1) (by show _ ≤ closeN s q i; omega)
  have HN : Aside (∀ j, i + 1 ≤ j → j < s.size → bareB s q j 93 = false) := fun j h1 h2 => hsp j h1 (by omega)
  clear hsp hec
  go_enter Try.func36, Try.ntmps36
  go_wp2
  go_loopg [9] (s.size - (i + 1)) (fun k s9 wr => ∃ kk : Nat, s9 = .int .i64 (kk : Int) ∧ wr = (w.alloc (.cells #[.int .i64 0, .int .u8 0, .string ⟨#[]⟩, .bool false] 39)) ∧ k + kk = s.size ∧ i + 1 ≤ kk)
  case atStart => exact ⟨i + 1, by simp, rfl, by omega, by omega⟩
  case round =>
    obtain ⟨kk, rfl, rfl, hk, hik⟩ := hrel
    by_cases hl : kk < s.size
    · have hlz : (kk : Int) < (s.size : Int) := by omega
      have cb := fun U => is_calls s q kk 93 U
      rw [HN.out kk hik hl] at cb
      clear HN
      go_wp2_with (go_at_call 35; (with_reducible refine (cb _).mono ?_); rintro e w2 ⟨rfl, hw⟩; rw [hw]; clear hw)
      go_roundg (gk - 1)
      case measure => omega
      case rel => exact ⟨kk + 1, by simp, rfl, by omega, by omega⟩
    · have hlz : ¬ (kk : Int) < (s.size : Int) := by omega
      have hnz : (s.size : Int) ≤ (kk : Int) := by omega
      clear HN
      go_wp2
      refine bodyPost_ret (v := .tuple #[.agg #[.int .i64 0, .int .u8 0, .string ⟨#[]⟩, .bool false], .int .i64 0, .bool false]) (by simp [results, Try.results36, go_sem, ↓IntWalk.iteOmega]) rfl ⟨rfl, ?_⟩
      repeat (first | (with_reducible exact Below.refl _ _) | (with_reducible assumption) | (with_reducible refine below_to_plus ?_ ?_ _) | (with_reducible refine below_holds ?_ ?_ _ _) | (with_reducible refine Below.alloc ?_ ?_ _) | (with_reducible refine Below.drew ?_) | (with_reducible refine below_drewN ?_ _) | (with_reducible refine Below.setCell ?_ ?_ _))
      all_goals first | omega | (simp; done) | (simp [go_sem]; done) | (simp [go_sem]; omega)

end Go.Proofs.Ytodoilengdnlfaa
