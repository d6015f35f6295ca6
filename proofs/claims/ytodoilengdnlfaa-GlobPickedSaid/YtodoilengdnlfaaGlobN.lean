/- This text proves the walk of Pick of the reference. Conditions: those that each theorem names. -/
import Derived.Test.YtodoilengdnlfaaGlobM
namespace Go.Proofs.Ytodoilengdnlfaa
open Go.ChangeShapes Go.WideShapes Go.ChangeAt Go.RowKit
set_option linter.unusedVariables false
set_option linter.unusedSimpArgs false

theorem sl_nil (W : World) : Sl W 1 none 0 0 (([] : List ByteArray).map sEnc) := by
  obtain ⟨a, c, h, hs⟩ := ownE_sl (enc := sEnc) (xs := []) s_len (by omega) (World.ownsRow_nil W 0 9 1)
  injection h with h1 h2 h3
  subst h1
  subst h3
  exact hs

set_option maxHeartbeats 8000000 in
theorem rpick_calls (p q : ByteArray) (ao : Option Addr) (n cap : Nat) (xs : List ByteArray) (hn : n ≤ 20000) (hp : p.size ≤ 20000) (hx : ∀ y ∈ xs, y.size ≤ 2000000) (w : World) (ha : Sl w 1 ao n cap (xs.map sEnc)) :
    Calls Try.prog 16 #[.string p, .string q, .slice ao n cap] w fun e w' => ∃ a2 n2 c2, e = .returned (.slice a2 n2 c2) ∧ Sl w' 1 a2 n2 c2 ((pickL p q xs).map sEnc) ∧ Below w.heap.size w w' := by
  have HL : Aside (xs.length = n) := Sl.lenE ha
  have HA : Aside (CellsS w ao xs) := cellsS ha
  have HX : Aside (∀ y ∈ xs, y.size ≤ 2000000) := hx
  clear ha hx
  go_enter Try.func16, Try.ntmps16
  go_wp2
  go_loopg [7, 13] n (fun k s7 s13 wr => ∃ (idx : Nat) (ao' : Option Addr) (cap' : Nat) (l : List ByteArray), s13 = .int .i64 (idx : Int) ∧ s7 = .slice ao' l.length cap' ∧ k + idx = n ∧ l.length ≤ idx ∧ Aside (pickL p q (xs.take idx) = l) ∧ Aside (Below w.heap.size w wr ∧ Sl wr 1 ao' l.length cap' (l.map sEnc)))
  case atStart => exact ⟨0, none, 0, [], rfl, rfl, by omega, by simp, rfl, (show _ ∧ _ from ⟨Below.refl _ _, sl_nil _⟩)⟩
  case round =>
    obtain ⟨idx, ao', cap', l, rfl, rfl, hk, hll, PL, ST⟩ := hrel
    by_cases hi : idx < n
    · have hiz : (idx : Int) < (n : Int) := by omega
      have hix : idx < xs.length := by have := HL.out; omega
      obtain ⟨b, off, rfl, hbw0, l0⟩ := HA.out idx hix
      replace l0 := (ST.out.1.cell (p := ⟨b, off + idx, none⟩) hbw0).trans l0
      have hbw : b < wr.heap.size := Nat.lt_of_lt_of_le hbw0 ST.out.1.size
      have FN : Aside (pickL p q (xs.take (idx + 1)) = pickStep p q l (nth xs idx)) := by show _ = _; rw [pickL_take hix, PL.out]
      have hy := HX.out _ (nth_mem hix)
      generalize nth xs idx = y at l0 FN hy
      have cm := fun U => rmatch_calls p q y hp hy U
      have ci := fun U hU => insert_calls ao' l.length cap' l y (by omega) U hU
      clear HA PL hix
      by_cases hy0 : 0 < y.size
      · have hyz : (0 : Int) < (y.size : Int) := by omega
        have u0 := ub_eq hy0
        by_cases hy46 : ((ub y 0).toNat : Int) = 46
        · have f46 : (((ub y 0).toNat : Int) == 46) = true := by simpa using hy46
          have D1 : dotB y = true := by unfold dotB gb; rw [decide_eq_true hy0, decide_eq_true hy46]; rfl
          by_cases hp0 : 0 < p.size
          · have hpz : (0 : Int) < (p.size : Int) := by omega
            have v0 := ub_eq hp0
            by_cases hp46 : ((ub p 0).toNat : Int) = 46
            · have g46 : (((ub p 0).toNat : Int) == 46) = true := by simpa using hp46
              have D2 : dotB p = true := by unfold dotB gb; rw [decide_eq_true hp0, decide_eq_true hp46]; rfl
              clear hp46 hy46
              have hsh : shownB p q y = matchB p q y := by unfold shownB; rw [D1, D2]; rfl
              have F1 : Aside (matchB p q y = true → pickL p q (xs.take (idx + 1)) = insB y l) := fun h => by rw [FN.out]; unfold pickStep; rw [hsh, h]; rfl
              have F0 : Aside (matchB p q y = false → pickL p q (xs.take (idx + 1)) = l) := fun h => by rw [FN.out]; unfold pickStep; rw [hsh, h]; rfl
              clear FN hsh
              generalize matchB p q y = mb at cm F1 F0
              cases mb with
              | false =>
                have H2 : Aside (pickL p q (xs.take (idx + 1)) = l) := F0.out rfl
                clear F1 F0 ci
                go_wp2_with (go_at_call 13; (with_reducible refine (cm _).mono ?_); rintro e w2 ⟨rfl, hb⟩)
                have ST2 : Aside (Below w.heap.size w w2 ∧ Sl w2 1 ao' l.length cap' (l.map sEnc)) := ⟨ST.out.1.trans (hb.mono ST.out.1.size), Sl.stays ST.out.2 hb⟩
                clear ST cm hb
                go_wp2
                go_roundg (n - (idx + 1))
                case measure => omega
                case rel => exact ⟨idx + 1, ao', cap', l, by simp, rfl, by omega, by omega, H2, ST2⟩
              | true =>
                have H2 : Aside (pickL p q (xs.take (idx + 1)) = insB y l) := F1.out rfl
                clear F1 F0
                go_wp2_with (go_at_call 13; (with_reducible refine (cm _).mono ?_); rintro e w2 ⟨rfl, hb⟩)
                have ST2 : Aside (Below w.heap.size w w2 ∧ Sl w2 1 ao' l.length cap' (l.map sEnc)) := ⟨ST.out.1.trans (hb.mono ST.out.1.size), Sl.stays ST.out.2 hb⟩
                clear ST cm hb
                go_wp2_with fail
                refine (ci _ ST2.out.2).mono ?_
                rintro e w3 ⟨a3, n3, c3, rfl, hsl, hb3⟩
                have hl3 := Sl.lenE hsl
                subst hl3
                have hle := insB_len y l
                have ST3 : Aside (Below w.heap.size w w3 ∧ Sl w3 1 a3 (insB y l).length c3 ((insB y l).map sEnc)) := ⟨ST2.out.1.trans (hb3.mono ST2.out.1.size), hsl⟩
                clear ST2 ci hb3 hsl
                go_wp2
                go_roundg (n - (idx + 1))
                case measure => omega
                case rel => exact ⟨idx + 1, a3, c3, insB y l, by simp, rfl, by omega, by omega, H2, ST3⟩
            · have g46 : (((ub p 0).toNat : Int) == 46) = false := by simpa using hp46
              have D2 : dotB p = false := by unfold dotB gb; rw [decide_eq_false hp46, Bool.and_false]
              clear hp46 hy46
              have H2 : Aside (pickL p q (xs.take (idx + 1)) = l) := by show _ = _; rw [FN.out]; unfold pickStep shownB; rw [D1, D2]; rfl
              clear FN D1 D2 cm ci
              go_wp2
              go_roundg (n - (idx + 1))
              case measure => omega
              case rel => exact ⟨idx + 1, ao', cap', l, by simp, rfl, by omega, by omega, H2, ST⟩
          · have hpz : ¬ (0 : Int) < (p.size : Int) := by omega
            have D2 : dotB p = false := by unfold dotB; rw [decide_eq_false hp0, Bool.false_and]
            clear hy46
            have H2 : Aside (pickL p q (xs.take (idx + 1)) = l) := by show _ = _; rw [FN.out]; unfold pickStep shownB; rw [D1, D2]; rfl
            clear FN D1 D2 cm ci
            go_wp2
            go_roundg (n - (idx + 1))
            case measure => omega
            case rel => exact ⟨idx + 1, ao', cap', l, by simp, rfl, by omega, by omega, H2, ST⟩
        · have f46 : (((ub y 0).toNat : Int) == 46) = false := by simpa using hy46
          have D1 : dotB y = false := by unfold dotB gb; rw [decide_eq_false hy46, Bool.and_false]
          clear hy46
          have hsh : shownB p q y = matchB p q y := by unfold shownB; rw [D1]; rfl
          have F1 : Aside (matchB p q y = true → pickL p q (xs.take (idx + 1)) = insB y l) := fun h => by rw [FN.out]; unfold pickStep; rw [hsh, h]; rfl
          have F0 : Aside (matchB p q y = false → pickL p q (xs.take (idx + 1)) = l) := fun h => by rw [FN.out]; unfold pickStep; rw [hsh, h]; rfl
          clear FN hsh
          generalize matchB p q y = mb at cm F1 F0
          cases mb with
          | false =>
            have H2 : Aside (pickL p q (xs.take (idx + 1)) = l) := F0.out rfl
            clear F1 F0 ci
            go_wp2_with (go_at_call 13; (with_reducible refine (cm _).mono ?_); rintro e w2 ⟨rfl, hb⟩)
            have ST2 : Aside (Below w.heap.size w w2 ∧ Sl w2 1 ao' l.length cap' (l.map sEnc)) := ⟨ST.out.1.trans (hb.mono ST.out.1.size), Sl.stays ST.out.2 hb⟩
            clear ST cm hb
            go_wp2
            go_roundg (n - (idx + 1))
            case measure => omega
            case rel => exact ⟨idx + 1, ao', cap', l, by simp, rfl, by omega, by omega, H2, ST2⟩
          | true =>
            have H2 : Aside (pickL p q (xs.take (idx + 1)) = insB y l) := F1.out rfl
            clear F1 F0
            go_wp2_with (go_at_call 13; (with_reducible refine (cm _).mono ?_); rintro e w2 ⟨rfl, hb⟩)
            have ST2 : Aside (Below w.heap.size w w2 ∧ Sl w2 1 ao' l.length cap' (l.map sEnc)) := ⟨ST.out.1.trans (hb.mono ST.out.1.size), Sl.stays ST.out.2 hb⟩
            clear ST cm hb
            go_wp2_with fail
            refine (ci _ ST2.out.2).mono ?_
            rintro e w3 ⟨a3, n3, c3, rfl, hsl, hb3⟩
            have hl3 := Sl.lenE hsl
            subst hl3
            have hle := insB_len y l
            have ST3 : Aside (Below w.heap.size w w3 ∧ Sl w3 1 a3 (insB y l).length c3 ((insB y l).map sEnc)) := ⟨ST2.out.1.trans (hb3.mono ST2.out.1.size), hsl⟩
            clear ST2 ci hb3 hsl
            go_wp2
            go_roundg (n - (idx + 1))
            case measure => omega
            case rel => exact ⟨idx + 1, a3, c3, insB y l, by simp, rfl, by omega, by omega, H2, ST3⟩
      · have hyz : ¬ (0 : Int) < (y.size : Int) := by omega
        have D1 : dotB y = false := by unfold dotB; rw [decide_eq_false hy0, Bool.false_and]
        have hsh : shownB p q y = matchB p q y := by unfold shownB; rw [D1]; rfl
        have F1 : Aside (matchB p q y = true → pickL p q (xs.take (idx + 1)) = insB y l) := fun h => by rw [FN.out]; unfold pickStep; rw [hsh, h]; rfl
        have F0 : Aside (matchB p q y = false → pickL p q (xs.take (idx + 1)) = l) := fun h => by rw [FN.out]; unfold pickStep; rw [hsh, h]; rfl
        clear FN hsh
        generalize matchB p q y = mb at cm F1 F0
        cases mb with
        | false =>
          have H2 : Aside (pickL p q (xs.take (idx + 1)) = l) := F0.out rfl
          clear F1 F0 ci
          go_wp2_with (go_at_call 13; (with_reducible refine (cm _).mono ?_); rintro e w2 ⟨rfl, hb⟩)
          have ST2 : Aside (Below w.heap.size w w2 ∧ Sl w2 1 ao' l.length cap' (l.map sEnc)) := ⟨ST.out.1.trans (hb.mono ST.out.1.size), Sl.stays ST.out.2 hb⟩
          clear ST cm hb
          go_wp2
          go_roundg (n - (idx + 1))
          case measure => omega
          case rel => exact ⟨idx + 1, ao', cap', l, by simp, rfl, by omega, by omega, H2, ST2⟩
        | true =>
          have H2 : Aside (pickL p q (xs.take (idx + 1)) = insB y l) := F1.out rfl
          clear F1 F0
          go_wp2_with (go_at_call 13; (with_reducible refine (cm _).mono ?_); rintro e w2 ⟨rfl, hb⟩)
          have ST2 : Aside (Below w.heap.size w w2 ∧ Sl w2 1 ao' l.length cap' (l.map sEnc)) := ⟨ST.out.1.trans (hb.mono ST.out.1.size), Sl.stays ST.out.2 hb⟩
          clear ST cm hb
          go_wp2_with fail
          refine (ci _ ST2.out.2).mono ?_
          rintro e w3 ⟨a3, n3, c3, rfl, hsl, hb3⟩
          have hl3 := Sl.lenE hsl
          subst hl3
          have hle := insB_len y l
          have ST3 : Aside (Below w.heap.size w w3 ∧ Sl w3 1 a3 (insB y l).length c3 ((insB y l).map sEnc)) := ⟨ST2.out.1.trans (hb3.mono ST2.out.1.size), hsl⟩
          clear ST2 ci hb3 hsl
          go_wp2
          go_roundg (n - (idx + 1))
          case measure => omega
          case rel => exact ⟨idx + 1, a3, c3, insB y l, by simp, rfl, by omega, by omega, H2, ST3⟩
    · have hiz : ¬ (idx : Int) < (n : Int) := by omega
      have er : Aside (pickL p q xs = l) := by show _ = _; rw [← PL.out, List.take_of_length_le (by have := HL.out; omega)]
      clear HA PL HX
      go_wp2
      go_ret
      exact ⟨_, _, _, rfl, by rw [er.out]; exact ST.out.2, ST.out.1⟩

end Go.Proofs.Ytodoilengdnlfaa
