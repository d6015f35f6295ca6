/- This text proves the walk of Pick of package glob. Conditions: those that each theorem names. -/
import Derived.Test.YtodoilengdnlfaaGlobP
import Derived.Test.YtodoilengdnlfaaGlobN
import Derived.Test.YtodoilengdnlfaaGlobS
namespace Go.Proofs.Ytodoilengdnlfaa
open Go.ChangeShapes Go.WideShapes Go.ChangeAt Go.RowKit Go.Sort
set_option linter.unusedVariables false
set_option linter.unusedSimpArgs false

theorem own_prefix {w : World} {B : Nat} {E : TypeId} {ao : Option Addr} {n m cap : Nat} {l : List Value} (h : w.ownsRow B E 1 (.slice ao n cap) n l) (hm : m ≤ n) (h0 : 0 < n) : w.ownsRow B E 1 (.slice ao m cap) m (l.take m) := by
  obtain ⟨h1, h2 | ⟨g, cap', cur, h3, h4, h5, h6, h7, h8, h9⟩⟩ := h
  · obtain ⟨_, rfl⟩ := h2; omega
  · cases h3
    refine ⟨by rw [List.length_take, h1]; omega, .inr ⟨g, cap, cur, rfl, h4, h5, by omega, h7, h8, ?_⟩⟩
    rw [← h9, List.take_take]
    congr 1
    omega
theorem dot_prefix (s : ByteArray) : Lib.hasPrefix s.data.toList [46] = dotB s := by
  unfold dotB gb
  by_cases h : 0 < s.size
  · rw [decide_eq_true h, Bool.true_and, ← seqL_all, show s.size = (s.size - 1) + 1 by omega, seqL_succ]
    show ((46 : UInt8) == ub s 0 && _) = _
    rw [show (List.isPrefixOf ([] : List UInt8) (seqL s (0 + 1) (s.size - 1))) = true from rfl, Bool.and_true, Bool.eq_iff_iff, beq_iff_eq, decide_eq_true_eq]
    constructor
    · intro e; rw [← e]; rfl
    · intro e
      have : (ub s 0).toNat = (46 : UInt8).toNat := by have : ((ub s 0).toNat : Int) = ((46 : UInt8).toNat : Int) := e; exact_mod_cast this
      exact (UInt8.toNat_inj.1 this).symm
  · rw [decide_eq_false h, Bool.false_and]
    have : s.data.toList = [] := List.eq_nil_of_length_eq_zero (by rw [Array.length_toList]; show s.size = 0; omega)
    rw [this]; rfl
theorem prefix_calls (s : ByteArray) (U : World) : Calls Try.prog 25 #[.string s, .string ⟨#[46]⟩] U fun e w' => e = .returned (.bool (dotB s)) ∧ w' = U := by
  have := sh_strings_HasPrefix s ⟨#[46]⟩ U
  rwa [show Lib.hasPrefix s.data.toList (ByteArray.mk #[46]).data.toList = dotB s from dot_prefix s] at this
theorem flat_sEnc (l : List ByteArray) : flatE sEnc l = (l.map dl).map encStr := by
  induction l with
  | nil => rfl
  | cons x l ih => rw [flatE_cons, ih]; simp [sEnc, encStr, dl]
theorem filter_take {p q : ByteArray} {xs : List ByteArray} {j : Nat} (h : j < xs.length) : (xs.take (j + 1)).filter (shownB p q) = (xs.take j).filter (shownB p q) ++ (if shownB p q (nth xs j) then [nth xs j] else []) := by
  rw [List.take_add_one, nth_get h, List.filter_append]
  congr 1
  simp only [Option.toList_some, List.filter_cons, List.filter_nil]

set_option maxRecDepth 100000 in
set_option maxHeartbeats 8000000 in
theorem pick_calls (p q : ByteArray) (ao : Option Addr) (n cap : Nat) (xs : List ByteArray) (hn : n ≤ 20000) (hp : p.size ≤ 20000) (hx : ∀ y ∈ xs, y.size ≤ 140737488351232) (w : World) (ha : Sl w 1 ao n cap (xs.map sEnc)) :
    Calls Try.prog 15 #[.string p, .string q, .slice ao n cap] w fun e w' => ∃ a2 c2, e = .returned (.slice a2 (pickL p q xs).length c2) ∧ Sl w' 1 a2 (pickL p q xs).length c2 ((pickL p q xs).map sEnc) ∧ Below w.heap.size w w' := by
  obtain ⟨i0, hi0, hz0, hs0, hb0⟩ := sInfo
  have HL : Aside (xs.length = n) := Sl.lenE ha
  have HA : Aside (CellsS w ao xs) := cellsS ha
  have HX : Aside (∀ y ∈ xs, y.size ≤ 140737488351232) := hx
  have EF0 : Aside (Lib.compact (sortS ((xs.filter (shownB p q)).map dl)) = (pickL p q xs).map dl) := pick_eq p q xs
  generalize pickL p q xs = r at EF0 ⊢
  clear ha hx
  go_enter Try.func15, Try.ntmps15
  go_wp2
  go_loopg [7, 13] n (fun k s7 s13 wr => ∃ (idx : Nat) (ao' : Option Addr) (cap' : Nat) (l : List ByteArray), s13 = .int .i64 (idx : Int) ∧ s7 = .slice ao' l.length cap' ∧ k + idx = n ∧ l.length ≤ idx ∧ Aside ((xs.take idx).filter (shownB p q) = l) ∧ Aside (Below w.heap.size w wr ∧ wr.ownsRow w.heap.size 9 1 (.slice ao' l.length cap') l.length (flatE sEnc l)))
  case atStart => exact ⟨0, none, 0, [], rfl, rfl, by omega, by simp, rfl, (show _ ∧ _ from ⟨Below.refl _ _, World.ownsRow_nil _ _ _ _⟩)⟩
  case round =>
    obtain ⟨idx, ao', cap', l, rfl, rfl, hk, hll, PL, ST⟩ := hrel
    by_cases hi : idx < n
    · have hiz : (idx : Int) < (n : Int) := by omega
      have hix : idx < xs.length := by have := HL.out; omega
      obtain ⟨b, off, rfl, hbw0, l0⟩ := HA.out idx hix
      replace l0 := (ST.out.1.cell (p := ⟨b, off + idx, none⟩) hbw0).trans l0
      have hbw : b < wr.heap.size := Nat.lt_of_lt_of_le hbw0 ST.out.1.size
      have FN : Aside ((xs.take (idx + 1)).filter (shownB p q) = l ++ (if shownB p q (nth xs idx) then [nth xs idx] else [])) := by show _ = _; rw [filter_take hix, PL.out]
      have hy := HX.out _ (nth_mem hix)
      generalize nth xs idx = y at l0 FN hy
      have cm := fun U => match_calls p q y hp hy U
      have cy := fun U => prefix_calls y U
      have cp := fun U => prefix_calls p U
      clear HA PL hix EF0
      cases D1 : dotB y with
      | false =>
        rw [D1] at cy
        clear cp
        have hsh : shownB p q y = matchB p q y := by unfold shownB; rw [D1]; rfl
        have F1 : Aside (matchB p q y = true → (xs.take (idx + 1)).filter (shownB p q) = l ++ [y]) := fun h => by rw [FN.out, hsh, h]; rfl
        have F0 : Aside (matchB p q y = false → (xs.take (idx + 1)).filter (shownB p q) = l) := fun h => by rw [FN.out, hsh, h]; exact List.append_nil _
        clear FN hsh D1
        generalize matchB p q y = mb at cm F1 F0
        cases mb with
        | false =>
          have H2 : Aside ((xs.take (idx + 1)).filter (shownB p q) = l) := F0.out rfl
          clear F1 F0
          go_wp2_with (first | (go_at_call 25; (with_reducible refine (cy _).mono ?_); rintro e w2 ⟨rfl, hw⟩; rw [hw]; clear hw) | (go_at_call 12; (with_reducible refine (cm _).mono ?_); rintro e w2 ⟨rfl, hb⟩))
          have ST2 : Aside (Below w.heap.size w w2 ∧ w2.ownsRow w.heap.size 9 1 (.slice ao' l.length cap') l.length (flatE sEnc l)) := ⟨ST.out.1.trans (hb.mono ST.out.1.size), own_from ST.out.2 (hb.mono (Nat.le_refl _))⟩
          clear ST cm hb cy
          go_wp2
          go_roundg (n - (idx + 1))
          case measure => omega
          case rel => exact ⟨idx + 1, ao', cap', l, by simp, rfl, by omega, by omega, H2, ST2⟩
        | true =>
          have H2 : Aside ((xs.take (idx + 1)).filter (shownB p q) = l ++ [y]) := F1.out rfl
          clear F1 F0
          go_wp2_with (first | (go_at_call 25; (with_reducible refine (cy _).mono ?_); rintro e w2 ⟨rfl, hw⟩; rw [hw]; clear hw))
          refine (cm _).mono ?_
          rintro e w2 ⟨rfl, hb⟩
          have ST2 : Aside (Below w.heap.size w w2 ∧ w2.ownsRow w.heap.size 9 1 (.slice ao' l.length cap') l.length (flatE sEnc l)) := ⟨ST.out.1.trans (hb.mono ST.out.1.size), own_from ST.out.2 (hb.mono (Nat.le_refl _))⟩
          clear ST cm hb cy
          have hown := ST2.out.2
          have hsw := ST2.out.1.size
          go_wp2_with (at_builtin; refine wpList_append_own _ rfl _ _ 25 rfl w.heap.size 9 i0 _ 1 16 Try.underlying25 hi0 hz0 hs0 hb0 rfl (by omega) _ _ _ rfl (hown.alloc _) ⟨w2.heap.size, 0, none⟩ 1 1 [.string y] rfl rfl (cells_new _ _ _ _ rfl) (s_one y) (by unfold maxLen; omega) (by omega) (by first | (simp; omega) | (simp [size_plus]; omega)) ?_)
          intro v' w9 hown' hgrow _
          obtain ⟨ao9, cap9, rfl, hb9, ho9⟩ := app_stateN (U1 := w) (Nat.le_refl _) (Nat.le_refl _) s_len (by omega) (ys := [(y : ByteArray)]) (ST2.out.1.alloc ST2.out.1.size _) (hown.alloc _) (by rw [flatE_one]; exact hown') hgrow
          have ST9 : Aside (Below w.heap.size w w9 ∧ w9.ownsRow w.heap.size 9 1 (.slice ao9 (l.length + 1) cap9) (l.length + 1) (flatE sEnc (l ++ [(y : ByteArray)]))) := ⟨hb9, ho9⟩
          clear hown hown' hgrow hb9 ho9 hsw
          go_wp2
          go_roundg (n - (idx + 1))
          case measure => omega
          case rel => exact ⟨idx + 1, ao9, cap9, l ++ [y], by simp, by simp, by omega, by simp; omega, H2, by first | exact ST9 | simpa using ST9⟩
      | true =>
        rw [D1] at cy
        cases D2 : dotB p with
        | true =>
          rw [D2] at cp
          have hsh : shownB p q y = matchB p q y := by unfold shownB; rw [D1, D2]; rfl
          have F1 : Aside (matchB p q y = true → (xs.take (idx + 1)).filter (shownB p q) = l ++ [y]) := fun h => by rw [FN.out, hsh, h]; rfl
          have F0 : Aside (matchB p q y = false → (xs.take (idx + 1)).filter (shownB p q) = l) := fun h => by rw [FN.out, hsh, h]; exact List.append_nil _
          clear FN hsh D1 D2
          generalize matchB p q y = mb at cm F1 F0
          cases mb with
          | false =>
            have H2 : Aside ((xs.take (idx + 1)).filter (shownB p q) = l) := F0.out rfl
            clear F1 F0
            go_wp2_with (first | (go_at_call 25; (with_reducible refine (cy _).mono ?_); rintro e w2 ⟨rfl, hw⟩; rw [hw]; clear hw) | (go_at_call 25; (with_reducible refine (cp _).mono ?_); rintro e w2 ⟨rfl, hw⟩; rw [hw]; clear hw) | (go_at_call 12; (with_reducible refine (cm _).mono ?_); rintro e w2 ⟨rfl, hb⟩))
            have ST2 : Aside (Below w.heap.size w w2 ∧ w2.ownsRow w.heap.size 9 1 (.slice ao' l.length cap') l.length (flatE sEnc l)) := ⟨ST.out.1.trans (hb.mono ST.out.1.size), own_from ST.out.2 (hb.mono (Nat.le_refl _))⟩
            clear ST cm hb cy cp
            go_wp2
            go_roundg (n - (idx + 1))
            case measure => omega
            case rel => exact ⟨idx + 1, ao', cap', l, by simp, rfl, by omega, by omega, H2, ST2⟩
          | true =>
            have H2 : Aside ((xs.take (idx + 1)).filter (shownB p q) = l ++ [y]) := F1.out rfl
            clear F1 F0
            go_wp2_with (first | (go_at_call 25; (with_reducible refine (cy _).mono ?_); rintro e w2 ⟨rfl, hw⟩; rw [hw]; clear hw) | (go_at_call 25; (with_reducible refine (cp _).mono ?_); rintro e w2 ⟨rfl, hw⟩; rw [hw]; clear hw))
            refine (cm _).mono ?_
            rintro e w2 ⟨rfl, hb⟩
            have ST2 : Aside (Below w.heap.size w w2 ∧ w2.ownsRow w.heap.size 9 1 (.slice ao' l.length cap') l.length (flatE sEnc l)) := ⟨ST.out.1.trans (hb.mono ST.out.1.size), own_from ST.out.2 (hb.mono (Nat.le_refl _))⟩
            clear ST cm hb cy cp
            have hown := ST2.out.2
            have hsw := ST2.out.1.size
            go_wp2_with (at_builtin; refine wpList_append_own _ rfl _ _ 25 rfl w.heap.size 9 i0 _ 1 16 Try.underlying25 hi0 hz0 hs0 hb0 rfl (by omega) _ _ _ rfl (hown.alloc _) ⟨w2.heap.size, 0, none⟩ 1 1 [.string y] rfl rfl (cells_new _ _ _ _ rfl) (s_one y) (by unfold maxLen; omega) (by omega) (by first | (simp; omega) | (simp [size_plus]; omega)) ?_)
            intro v' w9 hown' hgrow _
            obtain ⟨ao9, cap9, rfl, hb9, ho9⟩ := app_stateN (U1 := w) (Nat.le_refl _) (Nat.le_refl _) s_len (by omega) (ys := [(y : ByteArray)]) (ST2.out.1.alloc ST2.out.1.size _) (hown.alloc _) (by rw [flatE_one]; exact hown') hgrow
            have ST9 : Aside (Below w.heap.size w w9 ∧ w9.ownsRow w.heap.size 9 1 (.slice ao9 (l.length + 1) cap9) (l.length + 1) (flatE sEnc (l ++ [(y : ByteArray)]))) := ⟨hb9, ho9⟩
            clear hown hown' hgrow hb9 ho9 hsw
            go_wp2
            go_roundg (n - (idx + 1))
            case measure => omega
            case rel => exact ⟨idx + 1, ao9, cap9, l ++ [y], by simp, by simp, by omega, by simp; omega, H2, by first | exact ST9 | simpa using ST9⟩
        | false =>
          rw [D2] at cp
          have H2 : Aside ((xs.take (idx + 1)).filter (shownB p q) = l) := by show _ = _; rw [FN.out, show shownB p q y = false from by unfold shownB; rw [D1, D2]; rfl]; exact List.append_nil _
          clear FN D1 D2
          go_wp2_with (first | (go_at_call 25; (with_reducible refine (cy _).mono ?_); rintro e w2 ⟨rfl, hw⟩; rw [hw]; clear hw) | (go_at_call 25; (with_reducible refine (cp _).mono ?_); rintro e w2 ⟨rfl, hw⟩; rw [hw]; clear hw))
          have ST2 := ST
          clear ST cm cy cp
          go_wp2
          go_roundg (n - (idx + 1))
          case measure => omega
          case rel => exact ⟨idx + 1, ao', cap', l, by simp, rfl, by omega, by omega, H2, ST2⟩
    · have hiz : ¬ (idx : Int) < (n : Int) := by omega
      have el : (xs.take idx).filter (shownB p q) = xs.filter (shownB p q) := by rw [List.take_of_length_le (by have := HL.out; omega)]
      have EF : Aside (Lib.compact (sortS (l.map dl)) = r.map dl) := by show _ = _; rw [← PL.out, el]; exact EF0.out
      clear PL HA el EF0 HX
      by_cases h0 : l.length = 0
      · have hl0 : l = [] := List.eq_nil_of_length_eq_zero h0
        subst hl0
        have er : r = [] := by
          have := EF.out
          rw [show sortS (([] : List ByteArray).map dl) = [] from by simp [sortS]] at this
          exact List.map_eq_nil_iff.1 this.symm
        subst er
        have HB : Aside (Below w.heap.size w wr) := ST.out.1
        have HSL : Aside (Sl wr 1 ao' 0 cap' (([] : List ByteArray).map sEnc)) := by
          obtain ⟨a9, c9, hv9, hsl9⟩ := ownE_sl s_len (by omega) ST.out.2
          cases hv9
          exact hsl9
        clear ST EF h0
        have cS : ∀ U, Calls Try.prog 26 #[.slice ao' 0 cap'] U fun e w' => e = .returned (.tuple #[]) ∧ w' = U := fun U => sh_slices_Sort_string_none ao' cap' U
        have cC : ∀ U, Calls Try.prog 27 #[.slice ao' 0 cap'] U fun e w' => e = .returned (.slice ao' 0 cap') ∧ w' = U := fun U => sh_slices_Compact_string_empty ao' cap' U
        go_wp2_with fail
        refine (cS _).mono ?_
        rintro e w2 ⟨rfl, rfl⟩
        go_wp2_with fail
        refine (cC _).mono ?_
        rintro e w2 ⟨rfl, rfl⟩
        clear cS cC
        go_wp2
        go_ret
        exact ⟨ao', cap', rfl, HSL.out, HB.out⟩
      · obtain ⟨hl, ⟨hv, _⟩ | ⟨g, cap3, cur, hv, hBg, hh, hnc, hcm, hcs, htk⟩⟩ := ST.out.2
        · injection hv with _ h9 _
          exact absurd h9 h0
        injection hv with e1 _ e3
        subst e1
        subst e3
        have hgs : g < wr.heap.size := (Array.getElem?_eq_some_iff.1 hh).1
        have HB : Aside (Below w.heap.size w wr) := ST.out.1
        rw [Nat.mul_one, flat_sEnc] at htk
        obtain ⟨L, hL⟩ : ∃ L, L = l.map dl := ⟨_, rfl⟩
        have hLl : L.length = l.length := by rw [hL, List.length_map]
        rw [← hL] at htk
        have EF2 : Aside (Lib.compact (sortS L) = r.map dl) := by rw [hL]; exact EF.out
        rw [← hLl] at htk hnc h0
        have hlb : L.length ≤ idx := by omega
        clear ST EF hL hl hll
        rw [← hLl]
        clear hLl
        have hH := holds_of_block hh htk
        have cS := sh_slices_Sort_string g 0 cap' L wr hH hgs (by omega)
        have HX : Aside (wr.heap[g]? = some (.cells cur 9 (0, 0)) ∧ L.length ≤ cap' ∧ cap' ≤ maxLen ∧ cur.size = cap' * 1 ∧ w.heap.size ≤ g) := ⟨hh, hnc, hcm, hcs, hBg⟩
        clear hh hcs htk hH
        go_wp2_with fail
        refine cS.mono ?_
        rintro e w2 ⟨rfl, k, os, hw2⟩
        have ho2 : w2.ownsRow w.heap.size 9 1 (.slice (some ⟨g, 0, none⟩) L.length cap') L.length ((sortS L).map encStr) := by
          rw [hw2]
          exact ownsRow_sorted (sortS_len L) HX.out.2.2.2.2 HX.out.1 HX.out.2.1 HX.out.2.2.1 HX.out.2.2.2.1
        have hg2 : wr.grownBy w2 (some g) := by rw [hw2]; exact grownBy_sorted _
        have hb2 : Below w.heap.size w w2 := HB.out.grown hg2 HB.out.size (fun k hk => by cases hk; exact HX.out.2.2.2.2)
        have HB2 : Aside (Below w.heap.size w w2) := hb2
        clear hw2 hg2 cS HB hb2 HX
        obtain ⟨hl, ⟨hv, _⟩ | ⟨g2, cap4, cur2, hv, hBg2, hh2, hnc2, hcm2, hcs2, htk2⟩⟩ := ho2
        · cases hv
        cases hv
        rw [Nat.mul_one, ← sortS_len L] at htk2
        have hH := holds_of_block hh2 htk2
        have cC := sh_slices_Compact_string g 0 cap' (sortS L) w2 hH (by rw [sortS_len]; omega) (by rw [sortS_len]; exact hnc2)
        rw [sortS_len] at cC
        have HX : Aside (w2.heap[g]? = some (.cells cur2 9 (0, 0)) ∧ L.length ≤ cap' ∧ cap' ≤ maxLen ∧ cur2.size = cap' * 1 ∧ w.heap.size ≤ g) := ⟨hh2, hnc2, hcm2, hcs2, hBg2⟩
        have HLE : Aside ((Lib.compact (sortS L)).length ≤ L.length) := by have := compact_leS (sortS L); rw [sortS_len] at this; exact this
        have HSLN := sortS_len L
        have HSL2 : Aside (_ = _) := HSLN
        generalize sortS L = m at cC EF2 HLE HSL2
        have e1 := EF2.out
        rw [e1] at cC HLE
        rw [List.length_map] at cC HLE
        clear hh2 hcs2 htk2 hH hl HSLN EF2 e1
        go_wp2_with fail
        refine cC.mono ?_
        rintro e w3 ⟨rfl, k, hw3⟩
        have ho3 : w3.ownsRow w.heap.size 9 1 (.slice (some ⟨g, 0, none⟩) m.length cap') m.length ((r.map dl ++ List.replicate (L.length - r.length) []).map encStr) := by
          rw [hw3, ← grow_empty (putRow _ _ _ _ _)]
          exact ownsRow_sorted (by simp; have := HLE.out; have := HSL2.out; omega) HX.out.2.2.2.2 HX.out.1 (by rw [HSL2.out]; exact HX.out.2.1) HX.out.2.2.1 HX.out.2.2.2.1
        have hg3 : w2.grownBy w3 (some g) := by rw [hw3, ← grow_empty (putRow _ _ _ _ _)]; exact grownBy_sorted _
        have HB3 : Aside (Below w.heap.size w w3) := HB2.out.grown hg3 HB2.out.size (fun k hk => by cases hk; exact HX.out.2.2.2.2)
        have hp3 := own_prefix (m := r.length) ho3 (by rw [HSL2.out]; exact HLE.out) (by rw [HSL2.out]; omega)
        rw [← List.map_take, List.take_left' (by simp), ← flat_sEnc] at hp3
        have HP : Aside (w3.ownsRow w.heap.size 9 1 (.slice (some ⟨g, 0, none⟩) r.length cap') r.length (flatE sEnc r)) := hp3
        clear hw3 hg3 cC HB2 HX ho3 hp3
        go_wp2
        go_ret
        refine ⟨_, _, rfl, ?_, HB3.out⟩
        obtain ⟨a9, c9, hv9, hsl9⟩ := ownE_sl s_len (by omega) HP.out
        cases hv9
        exact hsl9

end Go.Proofs.Ytodoilengdnlfaa
