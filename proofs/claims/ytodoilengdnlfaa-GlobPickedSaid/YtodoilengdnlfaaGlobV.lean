/- This text proves the walks of the statements GlobMatches, GlobPicks, GlobEscapes and GlobLiteral. Conditions: those that each theorem names. -/
import Derived.Test.YtodoilengdnlfaaGlobU
namespace Go.Proofs.Ytodoilengdnlfaa
open Go.ChangeShapes Go.WideShapes Go.ChangeAt Go.RowKit
set_option linter.unusedVariables false
set_option linter.unusedSimpArgs false

set_option maxHeartbeats 8000000 in
set_option maxRecDepth 100000 in
theorem lawMatches_calls (s q nm : ByteArray) (w : World) :
    Calls Try.prog 3 #[.string s, .string q, .string nm] w fun e w' => e = .returned (.bool true) ∧ Below w.heap.size w w' := by
  by_cases i1 : 200 < s.size
  · have i1z : (200 : Int) < (s.size : Int) := by omega
    go_enter Try.func3, Try.ntmps3
    have HB0 : Aside (Below w.heap.size w w) := Below.refl _ _
    go_wp2_with fail
    refine (awake_calls _).mono ?_
    rintro e w1 ⟨rfl, hb⟩
    have HB1 : Aside (Below w.heap.size w w1) := HB0.out.trans (hb.mono HB0.out.size)
    clear hb HB0
    go_wp2
    go_ret
    exact ⟨rfl, HB1.out⟩
  have i1z : ¬ (200 : Int) < (s.size : Int) := by omega
  by_cases i2 : 400 < q.size
  · have i2z : (400 : Int) < (q.size : Int) := by omega
    go_enter Try.func3, Try.ntmps3
    have HB0 : Aside (Below w.heap.size w w) := Below.refl _ _
    go_wp2_with fail
    refine (awake_calls _).mono ?_
    rintro e w2 ⟨rfl, hb⟩
    have HB2 : Aside (Below w.heap.size w w2) := HB0.out.trans (hb.mono HB0.out.size)
    clear hb HB0
    go_wp2
    go_ret
    exact ⟨rfl, HB2.out⟩
  have i2z : ¬ (400 : Int) < (q.size : Int) := by omega
  by_cases i3 : 200 < nm.size
  · have i3z : (200 : Int) < (nm.size : Int) := by omega
    go_enter Try.func3, Try.ntmps3
    have HB0 : Aside (Below w.heap.size w w) := Below.refl _ _
    go_wp2_with fail
    refine (awake_calls _).mono ?_
    rintro e w3 ⟨rfl, hb⟩
    have HB3 : Aside (Below w.heap.size w w3) := HB0.out.trans (hb.mono HB0.out.size)
    clear hb HB0
    go_wp2
    go_ret
    exact ⟨rfl, HB3.out⟩
  have i3z : ¬ (200 : Int) < (nm.size : Int) := by omega
  have c1 := fun U => has_calls s q (by omega) U
  have c2 := fun U => rhas_calls s q (by omega) U
  have c3 := fun U => match_calls s q nm (by omega) (by omega) U
  have c4 := fun U => rmatch_calls s q nm (by omega) (by omega) U
  generalize hasB s q = h at c1 c2
  generalize matchB s q nm = m at c3 c4
  have e1 : (h == h) = true := beq_self_eq_true h
  have e2 : (m == m) = true := beq_self_eq_true m
  go_enter Try.func3, Try.ntmps3
  have HB0 : Aside (Below w.heap.size w w) := Below.refl _ _
  go_wp2_with fail
  refine (c1 _).mono ?_
  rintro e w4 ⟨rfl, hb⟩
  have HB4 : Aside (Below w.heap.size w w4) := HB0.out.trans (hb.mono HB0.out.size)
  clear hb HB0
  go_wp2_with fail
  refine (c2 _).mono ?_
  rintro e w5 ⟨rfl, hb⟩
  have HB5 : Aside (Below w.heap.size w w5) := HB4.out.trans (hb.mono HB4.out.size)
  clear hb HB4
  go_wp2_with fail
  refine (c3 _).mono ?_
  rintro e w6 ⟨rfl, hb⟩
  have HB6 : Aside (Below w.heap.size w w6) := HB5.out.trans (hb.mono HB5.out.size)
  clear hb HB5
  go_wp2_with fail
  refine (c4 _).mono ?_
  rintro e w7 ⟨rfl, hb⟩
  have HB7 : Aside (Below w.heap.size w w7) := HB6.out.trans (hb.mono HB6.out.size)
  clear hb HB6
  go_wp2_with fail
  refine (awake_calls _).mono ?_
  rintro e w8 ⟨rfl, hb⟩
  have HB8 : Aside (Below w.heap.size w w8) := HB7.out.trans (hb.mono HB7.out.size)
  clear hb HB7
  go_wp2
  go_ret
  exact ⟨rfl, HB8.out⟩

set_option maxHeartbeats 8000000 in
set_option maxRecDepth 100000 in
theorem lawPicks_calls (p q : ByteArray) (ao : Option Addr) (n cap : Nat) (xs : List ByteArray) (w : World) (ha : Sl w 1 ao n cap (xs.map sEnc)) :
    Calls Try.prog 4 #[.string p, .string q, .slice ao n cap] w fun e w' => e = .returned (.bool true) ∧ Below w.heap.size w w' := by
  have HL : Aside (xs.length = n) := Sl.lenE ha
  have HA : Aside (CellsS w ao xs) := cellsS ha
  have HS : Aside (Sl w 1 ao n cap (xs.map sEnc)) := ha
  have hbig : n ≤ 9223372036854775807 := Nat.le_trans ha.hcap ha.hmax
  clear ha
  by_cases i1 : 100 < p.size
  · have i1z : (100 : Int) < (p.size : Int) := by omega
    go_enter Try.func4, Try.ntmps4
    have HB0 : Aside (Below w.heap.size w w) := Below.refl _ _
    go_wp2_with fail
    refine (awake_calls _).mono ?_
    rintro e w9 ⟨rfl, hb⟩
    have HB9 : Aside (Below w.heap.size w w9) := HB0.out.trans (hb.mono HB0.out.size)
    clear hb HB0
    go_wp2
    go_ret
    exact ⟨rfl, HB9.out⟩
  have i1z : ¬ (100 : Int) < (p.size : Int) := by omega
  by_cases i2 : 200 < q.size
  · have i2z : (200 : Int) < (q.size : Int) := by omega
    go_enter Try.func4, Try.ntmps4
    have HB0 : Aside (Below w.heap.size w w) := Below.refl _ _
    go_wp2_with fail
    refine (awake_calls _).mono ?_
    rintro e w10 ⟨rfl, hb⟩
    have HB10 : Aside (Below w.heap.size w w10) := HB0.out.trans (hb.mono HB0.out.size)
    clear hb HB0
    go_wp2
    go_ret
    exact ⟨rfl, HB10.out⟩
  have i2z : ¬ (200 : Int) < (q.size : Int) := by omega
  by_cases i3 : 40 < n
  · have i3z : (40 : Int) < (n : Int) := by omega
    go_enter Try.func4, Try.ntmps4
    have HB0 : Aside (Below w.heap.size w w) := Below.refl _ _
    go_wp2_with fail
    refine (awake_calls _).mono ?_
    rintro e w11 ⟨rfl, hb⟩
    have HB11 : Aside (Below w.heap.size w w11) := HB0.out.trans (hb.mono HB0.out.size)
    clear hb HB0
    go_wp2
    go_ret
    exact ⟨rfl, HB11.out⟩
  have i3z : ¬ (40 : Int) < (n : Int) := by omega
  go_enter Try.func4, Try.ntmps4
  go_wp2
  go_loopg [24] n (fun k s24 wr => ∃ (idx : Nat), s24 = .int .i64 (idx : Int) ∧ w = wr ∧ k + idx = n ∧ Aside (∀ j, j < idx → (nth xs j).size ≤ 100))
  case atStart => exact ⟨0, rfl, rfl, by omega, fun j hj => absurd hj (Nat.not_lt_zero _)⟩
  case round =>
    obtain ⟨idx, rfl, rfl, hk, A⟩ := hrel
    by_cases hi : idx < n
    · have hiz : (idx : Int) < (n : Int) := by omega
      have hix : idx < xs.length := by have := HL.out; omega
      obtain ⟨b, off, rfl, hbw, l0⟩ := HA.out idx hix
      have AS : Aside ((nth xs idx).size ≤ 100 → ∀ j, j < idx + 1 → (nth xs j).size ≤ 100) := fun hh j hj => by
        rcases (by omega : j < idx ∨ j = idx) with h' | h'
        · exact A.out j h'
        · rw [h']; exact hh
      generalize nth xs idx = y at l0 AS
      by_cases hy : 100 < y.size
      · have hyz : (100 : Int) < (y.size : Int) := by omega
        clear A AS HA HS HL
        have HB0 : Aside (Below w.heap.size w w) := Below.refl _ _
        go_wp2_with fail
        refine (awake_calls _).mono ?_
        rintro e w12 ⟨rfl, hb⟩
        have HB12 : Aside (Below w.heap.size w w12) := HB0.out.trans (hb.mono HB0.out.size)
        clear hb HB0
        go_wp2
        go_ret
        exact ⟨rfl, HB12.out⟩
      · have hyz : ¬ (100 : Int) < (y.size : Int) := by omega
        have A3 : Aside (∀ j, j < idx + 1 → (nth xs j).size ≤ 100) := AS.out (by omega)
        clear A AS HS HA HL
        go_wp2
        go_roundg (n - (idx + 1))
        case measure => omega
        case rel => exact ⟨idx + 1, by simp, rfl, by omega, A3⟩
    · have hiz : ¬ (idx : Int) < (n : Int) := by omega
      have hx : ∀ y ∈ xs, y.size ≤ 2000000 := fun y hy => by
        obtain ⟨j, hj⟩ := List.mem_iff_getElem?.1 hy
        have hjl := (List.getElem?_eq_some_iff.1 hj).1
        rw [nth_get hjl] at hj
        have := A.out j (by have := HL.out; omega)
        rw [Option.some.inj hj] at this
        omega
      have c1 : ∀ U, Below w.heap.size w U → Calls Try.prog 15 #[.string p, .string q, .slice ao n cap] U fun e w' => ∃ a2 c2, e = .returned (.slice a2 (pickL p q xs).length c2) ∧ Sl w' 1 a2 (pickL p q xs).length c2 ((pickL p q xs).map sEnc) ∧ Below U.heap.size U w' := fun U hU => pick_calls p q ao n cap xs (by omega) (by omega) (fun y hy => Nat.le_trans (hx y hy) (by decide)) U (HS.out.stays hU)
      have c2 : ∀ U, Below w.heap.size w U → Calls Try.prog 16 #[.string p, .string q, .slice ao n cap] U fun e w' => ∃ a2 n2 c2, e = .returned (.slice a2 n2 c2) ∧ Sl w' 1 a2 n2 c2 ((pickL p q xs).map sEnc) ∧ Below U.heap.size U w' := fun U hU => rpick_calls p q ao n cap xs (by omega) (by omega) hx U (HS.out.stays hU)
      clear A HA HS HL hx
      generalize pickL p q xs = r at c1 c2
      go_wp2_with fail
      refine (c1 _ (Below.refl _ _)).mono ?_
      rintro e u1 ⟨a1, k1, rfl, h1, hb⟩
      have HB1 : Aside (Below w.heap.size w u1) := hb
      have HS1 : Aside (Sl u1 1 a1 r.length k1 (r.map sEnc)) := h1
      clear hb h1
      go_wp2_with fail
      refine (c2 _ HB1.out).mono ?_
      rintro e u2 ⟨a2, n2, k2, rfl, h2, hb⟩
      have HB2 : Aside (Below w.heap.size w u2) := HB1.out.trans (hb.mono HB1.out.size)
      have HS2 : Aside (Sl u2 1 a1 r.length k1 (r.map sEnc) ∧ Sl u2 1 a2 n2 k2 (r.map sEnc)) := ⟨HS1.out.stays hb, h2⟩
      have cs : Calls Try.prog 14 #[.slice a1 r.length k1, .slice a2 n2 k2] u2 fun e w' => e = .returned (.bool true) ∧ Below u2.heap.size u2 w' := by
        have := same_calls _ _ _ _ _ _ r r u2 HS2.out.1 HS2.out.2
        rwa [decide_eq_true rfl] at this
      clear hb h2 HB1 HS1 HS2 c1 c2
      go_wp2_with fail
      refine (cs).mono ?_
      rintro e w13 ⟨rfl, hb⟩
      have HB13 : Aside (Below w.heap.size w w13) := HB2.out.trans (hb.mono HB2.out.size)
      clear hb HB2
      go_wp2_with fail
      refine (awake_calls _).mono ?_
      rintro e w14 ⟨rfl, hb⟩
      have HB14 : Aside (Below w.heap.size w w14) := HB13.out.trans (hb.mono HB13.out.size)
      clear hb HB13
      go_wp2
      go_ret
      exact ⟨rfl, HB14.out⟩

set_option maxHeartbeats 8000000 in
set_option maxRecDepth 100000 in
theorem lawEscapes_calls (s t : ByteArray) (w : World) :
    Calls Try.prog 5 #[.string s, .string t] w fun e w' => e = .returned (.bool true) ∧ Below w.heap.size w w' := by
  by_cases i1 : 200 < s.size
  · have i1z : (200 : Int) < (s.size : Int) := by omega
    go_enter Try.func5, Try.ntmps5
    have HB0 : Aside (Below w.heap.size w w) := Below.refl _ _
    go_wp2_with fail
    refine (awake_calls _).mono ?_
    rintro e w15 ⟨rfl, hb⟩
    have HB15 : Aside (Below w.heap.size w w15) := HB0.out.trans (hb.mono HB0.out.size)
    clear hb HB0
    go_wp2
    go_ret
    exact ⟨rfl, HB15.out⟩
  have i1z : ¬ (200 : Int) < (s.size : Int) := by omega
  by_cases i2 : 200 < t.size
  · have i2z : (200 : Int) < (t.size : Int) := by omega
    go_enter Try.func5, Try.ntmps5
    have HB0 : Aside (Below w.heap.size w w) := Below.refl _ _
    go_wp2_with fail
    refine (awake_calls _).mono ?_
    rintro e w16 ⟨rfl, hb⟩
    have HB16 : Aside (Below w.heap.size w w16) := HB0.out.trans (hb.mono HB0.out.size)
    clear hb HB0
    go_wp2
    go_ret
    exact ⟨rfl, HB16.out⟩
  have i2z : ¬ (200 : Int) < (t.size : Int) := by omega
  have hz := escB_size s
  have c1 := fun U => esc_calls s (by omega) U
  have c2 := fun U => resc_calls s (by omega) U
  have m4 : matchB (escB s) ⟨#[]⟩ s = true := by rw [esc_match]; exact decide_eq_true rfl
  have c4 := fun U => ev_match m4 (by omega) (by omega) U
  by_cases hst : s = t
  · have m3 : matchB (escB s) ⟨#[]⟩ t = true := by rw [esc_match]; exact decide_eq_true hst
    have c3 := fun U => ev_match m3 (by omega) (by omega) U
    have hf : (s.toList == t.toList) = true := by simp [hst]
    clear m3 m4 hst hz
    generalize escB s = P at c1 c2 c3 c4
    go_enter Try.func5, Try.ntmps5
    have HB0 : Aside (Below w.heap.size w w) := Below.refl _ _
    go_wp2_with fail
    refine (c1 _).mono ?_
    rintro e w17 ⟨rfl, hb⟩
    have HB17 : Aside (Below w.heap.size w w17) := HB0.out.trans (hb.mono HB0.out.size)
    clear hb HB0
    go_wp2_with fail
    refine (c2 _).mono ?_
    rintro e w18 ⟨rfl, hw⟩
    rw [hw]
    clear hw
    go_wp2_with fail
    refine (c3 _).mono ?_
    rintro e w19 ⟨rfl, hb⟩
    have HB19 : Aside (Below w.heap.size w w19) := HB17.out.trans (hb.mono HB17.out.size)
    clear hb HB17
    go_wp2_with fail
    refine (c4 _).mono ?_
    rintro e w20 ⟨rfl, hb⟩
    have HB20 : Aside (Below w.heap.size w w20) := HB19.out.trans (hb.mono HB19.out.size)
    clear hb HB19
    go_wp2_with fail
    refine (awake_calls _).mono ?_
    rintro e w21 ⟨rfl, hb⟩
    have HB21 : Aside (Below w.heap.size w w21) := HB20.out.trans (hb.mono HB20.out.size)
    clear hb HB20
    go_wp2
    go_ret
    exact ⟨rfl, HB21.out⟩
  · have m3 : matchB (escB s) ⟨#[]⟩ t = false := by rw [esc_match]; exact decide_eq_false hst
    have c3 := fun U => ev_match m3 (by omega) (by omega) U
    have hf : (s.toList == t.toList) = false := by simp [str_inj, hst]
    clear m3 m4 hst hz
    generalize escB s = P at c1 c2 c3 c4
    go_enter Try.func5, Try.ntmps5
    have HB0 : Aside (Below w.heap.size w w) := Below.refl _ _
    go_wp2_with fail
    refine (c1 _).mono ?_
    rintro e w22 ⟨rfl, hb⟩
    have HB22 : Aside (Below w.heap.size w w22) := HB0.out.trans (hb.mono HB0.out.size)
    clear hb HB0
    go_wp2_with fail
    refine (c2 _).mono ?_
    rintro e w23 ⟨rfl, hw⟩
    rw [hw]
    clear hw
    go_wp2_with fail
    refine (c3 _).mono ?_
    rintro e w24 ⟨rfl, hb⟩
    have HB24 : Aside (Below w.heap.size w w24) := HB22.out.trans (hb.mono HB22.out.size)
    clear hb HB22
    go_wp2_with fail
    refine (c4 _).mono ?_
    rintro e w25 ⟨rfl, hb⟩
    have HB25 : Aside (Below w.heap.size w w25) := HB24.out.trans (hb.mono HB24.out.size)
    clear hb HB24
    go_wp2_with fail
    refine (awake_calls _).mono ?_
    rintro e w26 ⟨rfl, hb⟩
    have HB26 : Aside (Below w.heap.size w w26) := HB25.out.trans (hb.mono HB25.out.size)
    clear hb HB25
    go_wp2
    go_ret
    exact ⟨rfl, HB26.out⟩

set_option maxHeartbeats 8000000 in
set_option maxRecDepth 100000 in
theorem lawLiteral_calls (s q nm : ByteArray) (w : World) :
    Calls Try.prog 6 #[.string s, .string q, .string nm] w fun e w' => e = .returned (.bool true) ∧ Below w.heap.size w w' := by
  by_cases i1 : 200 < s.size
  · have i1z : (200 : Int) < (s.size : Int) := by omega
    go_enter Try.func6, Try.ntmps6
    have HB0 : Aside (Below w.heap.size w w) := Below.refl _ _
    go_wp2_with fail
    refine (awake_calls _).mono ?_
    rintro e w27 ⟨rfl, hb⟩
    have HB27 : Aside (Below w.heap.size w w27) := HB0.out.trans (hb.mono HB0.out.size)
    clear hb HB0
    go_wp2
    go_ret
    exact ⟨rfl, HB27.out⟩
  have i1z : ¬ (200 : Int) < (s.size : Int) := by omega
  by_cases i2 : 400 < q.size
  · have i2z : (400 : Int) < (q.size : Int) := by omega
    go_enter Try.func6, Try.ntmps6
    have HB0 : Aside (Below w.heap.size w w) := Below.refl _ _
    go_wp2_with fail
    refine (awake_calls _).mono ?_
    rintro e w28 ⟨rfl, hb⟩
    have HB28 : Aside (Below w.heap.size w w28) := HB0.out.trans (hb.mono HB0.out.size)
    clear hb HB0
    go_wp2
    go_ret
    exact ⟨rfl, HB28.out⟩
  have i2z : ¬ (400 : Int) < (q.size : Int) := by omega
  by_cases i3 : 200 < nm.size
  · have i3z : (200 : Int) < (nm.size : Int) := by omega
    go_enter Try.func6, Try.ntmps6
    have HB0 : Aside (Below w.heap.size w w) := Below.refl _ _
    go_wp2_with fail
    refine (awake_calls _).mono ?_
    rintro e w29 ⟨rfl, hb⟩
    have HB29 : Aside (Below w.heap.size w w29) := HB0.out.trans (hb.mono HB0.out.size)
    clear hb HB0
    go_wp2
    go_ret
    exact ⟨rfl, HB29.out⟩
  have i3z : ¬ (200 : Int) < (nm.size : Int) := by omega
  have L := literal_marked s nm
  have L2 := literal_marked s s
  have c1 := fun U => ev_has L.1 (by omega) U
  have m3 : matchB s (onesB s.size) s = true := by rw [L2.2]; exact decide_eq_true rfl
  have c3 := fun U => ev_match m3 (by omega) (by omega) U
  by_cases hst : s = nm
  · have m2 : matchB s (onesB s.size) nm = true := by rw [L.2]; exact decide_eq_true hst
    have c2 := fun U => ev_match m2 (by omega) (by omega) U
    have hf : (s.toList == nm.toList) = true := by simp [hst]
    have co := fun U => ones_calls s.size (by omega) U
    clear m2 m3 L L2
    generalize onesB s.size = all at c1 c2 c3 co
    cases hh : hasB s q with
    | true =>
      have c4 := fun U => ev_has hh (by omega) U
      clear hh hst
      go_enter Try.func6, Try.ntmps6
      have HB0 : Aside (Below w.heap.size w w) := Below.refl _ _
      go_wp2_with fail
      refine (co _).mono ?_
      rintro e w30 ⟨rfl, hw⟩
      rw [hw]
      clear hw
      go_wp2_with fail
      refine (c1 _).mono ?_
      rintro e w31 ⟨rfl, hb⟩
      have HB31 : Aside (Below w.heap.size w w31) := HB0.out.trans (hb.mono HB0.out.size)
      clear hb HB0
      go_wp2_with fail
      refine (c2 _).mono ?_
      rintro e w32 ⟨rfl, hb⟩
      have HB32 : Aside (Below w.heap.size w w32) := HB31.out.trans (hb.mono HB31.out.size)
      clear hb HB31
      go_wp2_with fail
      refine (c3 _).mono ?_
      rintro e w33 ⟨rfl, hb⟩
      have HB33 : Aside (Below w.heap.size w w33) := HB32.out.trans (hb.mono HB32.out.size)
      clear hb HB32
      go_wp2_with fail
      refine (c4 _).mono ?_
      rintro e w34 ⟨rfl, hb⟩
      have HB34 : Aside (Below w.heap.size w w34) := HB33.out.trans (hb.mono HB33.out.size)
      clear hb HB33
      go_wp2_with fail
      refine (awake_calls _).mono ?_
      rintro e w35 ⟨rfl, hb⟩
      have HB35 : Aside (Below w.heap.size w w35) := HB34.out.trans (hb.mono HB34.out.size)
      clear hb HB34
      go_wp2
      go_ret
      exact ⟨rfl, HB35.out⟩
    | false =>
      have c4 := fun U => ev_has hh (by omega) U
      have m5 : matchB s q nm = true := by rw [literal_plain nm hh]; exact decide_eq_true hst
      have m6 : matchB s q s = true := by rw [literal_plain s hh]; exact decide_eq_true rfl
      have c5 := fun U => ev_match m5 (by omega) (by omega) U
      have c6 := fun U => ev_match m6 (by omega) (by omega) U
      clear hh m5 m6 hst
      go_enter Try.func6, Try.ntmps6
      have HB0 : Aside (Below w.heap.size w w) := Below.refl _ _
      go_wp2_with fail
      refine (co _).mono ?_
      rintro e w36 ⟨rfl, hw⟩
      rw [hw]
      clear hw
      go_wp2_with fail
      refine (c1 _).mono ?_
      rintro e w37 ⟨rfl, hb⟩
      have HB37 : Aside (Below w.heap.size w w37) := HB0.out.trans (hb.mono HB0.out.size)
      clear hb HB0
      go_wp2_with fail
      refine (c2 _).mono ?_
      rintro e w38 ⟨rfl, hb⟩
      have HB38 : Aside (Below w.heap.size w w38) := HB37.out.trans (hb.mono HB37.out.size)
      clear hb HB37
      go_wp2_with fail
      refine (c3 _).mono ?_
      rintro e w39 ⟨rfl, hb⟩
      have HB39 : Aside (Below w.heap.size w w39) := HB38.out.trans (hb.mono HB38.out.size)
      clear hb HB38
      go_wp2_with fail
      refine (c4 _).mono ?_
      rintro e w40 ⟨rfl, hb⟩
      have HB40 : Aside (Below w.heap.size w w40) := HB39.out.trans (hb.mono HB39.out.size)
      clear hb HB39
      go_wp2_with fail
      refine (c5 _).mono ?_
      rintro e w41 ⟨rfl, hb⟩
      have HB41 : Aside (Below w.heap.size w w41) := HB40.out.trans (hb.mono HB40.out.size)
      clear hb HB40
      go_wp2_with fail
      refine (c6 _).mono ?_
      rintro e w42 ⟨rfl, hb⟩
      have HB42 : Aside (Below w.heap.size w w42) := HB41.out.trans (hb.mono HB41.out.size)
      clear hb HB41
      go_wp2_with fail
      refine (awake_calls _).mono ?_
      rintro e w43 ⟨rfl, hb⟩
      have HB43 : Aside (Below w.heap.size w w43) := HB42.out.trans (hb.mono HB42.out.size)
      clear hb HB42
      go_wp2
      go_ret
      exact ⟨rfl, HB43.out⟩
  · have m2 : matchB s (onesB s.size) nm = false := by rw [L.2]; exact decide_eq_false hst
    have c2 := fun U => ev_match m2 (by omega) (by omega) U
    have hf : (s.toList == nm.toList) = false := by simp [str_inj, hst]
    have co := fun U => ones_calls s.size (by omega) U
    clear m2 m3 L L2
    generalize onesB s.size = all at c1 c2 c3 co
    cases hh : hasB s q with
    | true =>
      have c4 := fun U => ev_has hh (by omega) U
      clear hh hst
      go_enter Try.func6, Try.ntmps6
      have HB0 : Aside (Below w.heap.size w w) := Below.refl _ _
      go_wp2_with fail
      refine (co _).mono ?_
      rintro e w44 ⟨rfl, hw⟩
      rw [hw]
      clear hw
      go_wp2_with fail
      refine (c1 _).mono ?_
      rintro e w45 ⟨rfl, hb⟩
      have HB45 : Aside (Below w.heap.size w w45) := HB0.out.trans (hb.mono HB0.out.size)
      clear hb HB0
      go_wp2_with fail
      refine (c2 _).mono ?_
      rintro e w46 ⟨rfl, hb⟩
      have HB46 : Aside (Below w.heap.size w w46) := HB45.out.trans (hb.mono HB45.out.size)
      clear hb HB45
      go_wp2_with fail
      refine (c3 _).mono ?_
      rintro e w47 ⟨rfl, hb⟩
      have HB47 : Aside (Below w.heap.size w w47) := HB46.out.trans (hb.mono HB46.out.size)
      clear hb HB46
      go_wp2_with fail
      refine (c4 _).mono ?_
      rintro e w48 ⟨rfl, hb⟩
      have HB48 : Aside (Below w.heap.size w w48) := HB47.out.trans (hb.mono HB47.out.size)
      clear hb HB47
      go_wp2_with fail
      refine (awake_calls _).mono ?_
      rintro e w49 ⟨rfl, hb⟩
      have HB49 : Aside (Below w.heap.size w w49) := HB48.out.trans (hb.mono HB48.out.size)
      clear hb HB48
      go_wp2
      go_ret
      exact ⟨rfl, HB49.out⟩
    | false =>
      have c4 := fun U => ev_has hh (by omega) U
      have m5 : matchB s q nm = false := by rw [literal_plain nm hh]; exact decide_eq_false hst
      have m6 : matchB s q s = true := by rw [literal_plain s hh]; exact decide_eq_true rfl
      have c5 := fun U => ev_match m5 (by omega) (by omega) U
      have c6 := fun U => ev_match m6 (by omega) (by omega) U
      clear hh m5 m6 hst
      go_enter Try.func6, Try.ntmps6
      have HB0 : Aside (Below w.heap.size w w) := Below.refl _ _
      go_wp2_with fail
      refine (co _).mono ?_
      rintro e w50 ⟨rfl, hw⟩
      rw [hw]
      clear hw
      go_wp2_with fail
      refine (c1 _).mono ?_
      rintro e w51 ⟨rfl, hb⟩
      have HB51 : Aside (Below w.heap.size w w51) := HB0.out.trans (hb.mono HB0.out.size)
      clear hb HB0
      go_wp2_with fail
      refine (c2 _).mono ?_
      rintro e w52 ⟨rfl, hb⟩
      have HB52 : Aside (Below w.heap.size w w52) := HB51.out.trans (hb.mono HB51.out.size)
      clear hb HB51
      go_wp2_with fail
      refine (c3 _).mono ?_
      rintro e w53 ⟨rfl, hb⟩
      have HB53 : Aside (Below w.heap.size w w53) := HB52.out.trans (hb.mono HB52.out.size)
      clear hb HB52
      go_wp2_with fail
      refine (c4 _).mono ?_
      rintro e w54 ⟨rfl, hb⟩
      have HB54 : Aside (Below w.heap.size w w54) := HB53.out.trans (hb.mono HB53.out.size)
      clear hb HB53
      go_wp2_with fail
      refine (c5 _).mono ?_
      rintro e w55 ⟨rfl, hb⟩
      have HB55 : Aside (Below w.heap.size w w55) := HB54.out.trans (hb.mono HB54.out.size)
      clear hb HB54
      go_wp2_with fail
      refine (c6 _).mono ?_
      rintro e w56 ⟨rfl, hb⟩
      have HB56 : Aside (Below w.heap.size w w56) := HB55.out.trans (hb.mono HB55.out.size)
      clear hb HB55
      go_wp2_with fail
      refine (awake_calls _).mono ?_
      rintro e w57 ⟨rfl, hb⟩
      have HB57 : Aside (Below w.heap.size w w57) := HB56.out.trans (hb.mono HB56.out.size)
      clear hb HB56
      go_wp2
      go_ret
      exact ⟨rfl, HB57.out⟩

end Go.Proofs.Ytodoilengdnlfaa
