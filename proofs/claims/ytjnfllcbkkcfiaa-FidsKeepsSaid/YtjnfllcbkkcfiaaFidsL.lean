/- This text proves the walk of the fixed examples of the statements on fids. Conditions: those that each theorem names. -/
import Derived.Test.YtjnfllcbkkcfiaaFidsK
import Derived.Test.YtjnfllcbkkcfiaaLook
namespace Go.Proofs.Ytjnfllcbkkcfiaa
open Go.ChangeShapes Go.WideShapes Go.ChangeAt Go.RowKit
set_option linter.unusedVariables false
set_option linter.unusedSimpArgs false

theorem al_add1 (ao : Option Addr) (cap : Nat) (w : World) (h : Sl w 7 ao 2 cap (([⟨1, 7, ⟨#[]⟩, false, false, 0, 0⟩, ⟨3, 5, ⟨#[]⟩, true, false, 0, 0⟩] : List Fi).map Fi.enc)) :
    Calls Try.prog 11 #[.slice ao 2 cap, .agg #[.int .i64 2, .int .i64 5, .string ⟨#[97, 110, 110]⟩, .bool false, .bool false, .int .i64 0, .int .i64 0]] w fun e w' => ∃ ao' cap', e = .returned (.tuple #[.slice ao' 3 cap', .int .i64 0]) ∧ Sl w' 7 ao' 3 cap' (([⟨1, 7, ⟨#[]⟩, false, false, 0, 0⟩, ⟨2, 5, ⟨#[97, 110, 110]⟩, false, false, 0, 0⟩, ⟨3, 5, ⟨#[]⟩, true, false, 0, 0⟩] : List Fi).map Fi.enc) ∧ Below w.heap.size w w' := by
  have e : addF ⟨2, 5, ⟨#[97, 110, 110]⟩, false, false, 0, 0⟩ ([⟨1, 7, ⟨#[]⟩, false, false, 0, 0⟩, ⟨3, 5, ⟨#[]⟩, true, false, 0, 0⟩] : List Fi) = (([⟨1, 7, ⟨#[]⟩, false, false, 0, 0⟩, ⟨2, 5, ⟨#[97, 110, 110]⟩, false, false, 0, 0⟩, ⟨3, 5, ⟨#[]⟩, true, false, 0, 0⟩] : List Fi), 0) := by rfl
  refine (add_calls 2 5 ⟨#[97, 110, 110]⟩ false false 0 0 ao 2 cap ([⟨1, 7, ⟨#[]⟩, false, false, 0, 0⟩, ⟨3, 5, ⟨#[]⟩, true, false, 0, 0⟩] : List Fi) w h (by omega)).mono ?_
  rintro en w' ⟨ao', cap', he, ho, hb⟩
  rw [e] at he ho
  obtain ⟨a9, c9, hv9, hsl9⟩ := ownE_sl fi_len (by omega) ho
  cases hv9
  exact ⟨_, _, he, hsl9, hb⟩

theorem al_add2 (ao : Option Addr) (cap : Nat) (w : World) (h : Sl w 7 ao 2 cap (([⟨1, 7, ⟨#[]⟩, false, false, 0, 0⟩, ⟨3, 5, ⟨#[]⟩, true, false, 0, 0⟩] : List Fi).map Fi.enc)) :
    Calls Try.prog 11 #[.slice ao 2 cap, .agg #[.int .i64 (-1), .int .i64 5, .string ⟨#[]⟩, .bool false, .bool false, .int .i64 0, .int .i64 0]] w fun e w' => ∃ ao' cap', e = .returned (.tuple #[.slice ao' 2 cap', .int .i64 5]) ∧ Sl w' 7 ao' 2 cap' (([⟨1, 7, ⟨#[]⟩, false, false, 0, 0⟩, ⟨3, 5, ⟨#[]⟩, true, false, 0, 0⟩] : List Fi).map Fi.enc) ∧ Below w.heap.size w w' := by
  have e : addF ⟨-1, 5, ⟨#[]⟩, false, false, 0, 0⟩ ([⟨1, 7, ⟨#[]⟩, false, false, 0, 0⟩, ⟨3, 5, ⟨#[]⟩, true, false, 0, 0⟩] : List Fi) = (([⟨1, 7, ⟨#[]⟩, false, false, 0, 0⟩, ⟨3, 5, ⟨#[]⟩, true, false, 0, 0⟩] : List Fi), 5) := by rfl
  refine (add_calls (-1) 5 ⟨#[]⟩ false false 0 0 ao 2 cap ([⟨1, 7, ⟨#[]⟩, false, false, 0, 0⟩, ⟨3, 5, ⟨#[]⟩, true, false, 0, 0⟩] : List Fi) w h (by omega)).mono ?_
  rintro en w' ⟨ao', cap', he, ho, hb⟩
  rw [e] at he ho
  obtain ⟨a9, c9, hv9, hsl9⟩ := ownE_sl fi_len (by omega) ho
  cases hv9
  exact ⟨_, _, he, hsl9, hb⟩

theorem al_add3 (ao : Option Addr) (cap : Nat) (w : World) (h : Sl w 7 ao 2 cap (([⟨1, 7, ⟨#[]⟩, false, false, 0, 0⟩, ⟨3, 5, ⟨#[]⟩, true, false, 0, 0⟩] : List Fi).map Fi.enc)) :
    Calls Try.prog 11 #[.slice ao 2 cap, .agg #[.int .i64 1, .int .i64 7, .string ⟨#[]⟩, .bool false, .bool false, .int .i64 0, .int .i64 0]] w fun e w' => ∃ ao' cap', e = .returned (.tuple #[.slice ao' 2 cap', .int .i64 14]) ∧ Sl w' 7 ao' 2 cap' (([⟨1, 7, ⟨#[]⟩, false, false, 0, 0⟩, ⟨3, 5, ⟨#[]⟩, true, false, 0, 0⟩] : List Fi).map Fi.enc) ∧ Below w.heap.size w w' := by
  have e : addF ⟨1, 7, ⟨#[]⟩, false, false, 0, 0⟩ ([⟨1, 7, ⟨#[]⟩, false, false, 0, 0⟩, ⟨3, 5, ⟨#[]⟩, true, false, 0, 0⟩] : List Fi) = (([⟨1, 7, ⟨#[]⟩, false, false, 0, 0⟩, ⟨3, 5, ⟨#[]⟩, true, false, 0, 0⟩] : List Fi), 14) := by rfl
  refine (add_calls 1 7 ⟨#[]⟩ false false 0 0 ao 2 cap ([⟨1, 7, ⟨#[]⟩, false, false, 0, 0⟩, ⟨3, 5, ⟨#[]⟩, true, false, 0, 0⟩] : List Fi) w h (by omega)).mono ?_
  rintro en w' ⟨ao', cap', he, ho, hb⟩
  rw [e] at he ho
  obtain ⟨a9, c9, hv9, hsl9⟩ := ownE_sl fi_len (by omega) ho
  cases hv9
  exact ⟨_, _, he, hsl9, hb⟩

theorem al_set (ao : Option Addr) (cap : Nat) (w : World) (h : Sl w 7 ao 2 cap (([⟨1, 7, ⟨#[]⟩, false, false, 0, 0⟩, ⟨3, 5, ⟨#[]⟩, true, false, 0, 0⟩] : List Fi).map Fi.enc)) :
    Calls Try.prog 13 #[.slice ao 2 cap, .agg #[.int .i64 2, .int .i64 5, .string ⟨#[]⟩, .bool false, .bool false, .int .i64 0, .int .i64 0]] w fun e w' => ∃ ao' cap', e = .returned (.tuple #[.slice ao' 2 cap', .int .i64 13]) ∧ Sl w' 7 ao' 2 cap' (([⟨1, 7, ⟨#[]⟩, false, false, 0, 0⟩, ⟨3, 5, ⟨#[]⟩, true, false, 0, 0⟩] : List Fi).map Fi.enc) ∧ Below w.heap.size w w' := by
  have e : setF ⟨2, 5, ⟨#[]⟩, false, false, 0, 0⟩ ([⟨1, 7, ⟨#[]⟩, false, false, 0, 0⟩, ⟨3, 5, ⟨#[]⟩, true, false, 0, 0⟩] : List Fi) = (([⟨1, 7, ⟨#[]⟩, false, false, 0, 0⟩, ⟨3, 5, ⟨#[]⟩, true, false, 0, 0⟩] : List Fi), 13) := by rfl
  refine (set_calls 2 5 ⟨#[]⟩ false false 0 0 ao 2 cap ([⟨1, 7, ⟨#[]⟩, false, false, 0, 0⟩, ⟨3, 5, ⟨#[]⟩, true, false, 0, 0⟩] : List Fi) w h (by omega)).mono ?_
  rintro en w' ⟨ao', cap', he, ho, hb⟩
  rw [e] at he ho
  obtain ⟨a9, c9, hv9, hsl9⟩ := ownE_sl fi_len (by omega) ho
  cases hv9
  exact ⟨_, _, he, hsl9, hb⟩

theorem al_drop (ao : Option Addr) (cap : Nat) (w : World) (h : Sl w 7 ao 3 cap (([⟨1, 7, ⟨#[]⟩, false, false, 0, 0⟩, ⟨2, 5, ⟨#[97, 110, 110]⟩, false, false, 0, 0⟩, ⟨3, 5, ⟨#[]⟩, true, false, 0, 0⟩] : List Fi).map Fi.enc)) :
    Calls Try.prog 15 #[.slice ao 3 cap, .int .i64 2] w fun e w' => ∃ ao' cap', e = .returned (.tuple #[.slice ao' 2 cap', .int .i64 0]) ∧ Sl w' 7 ao' 2 cap' (([⟨1, 7, ⟨#[]⟩, false, false, 0, 0⟩, ⟨3, 5, ⟨#[]⟩, true, false, 0, 0⟩] : List Fi).map Fi.enc) ∧ Below w.heap.size w w' := by
  have e : dropF 2 ([⟨1, 7, ⟨#[]⟩, false, false, 0, 0⟩, ⟨2, 5, ⟨#[97, 110, 110]⟩, false, false, 0, 0⟩, ⟨3, 5, ⟨#[]⟩, true, false, 0, 0⟩] : List Fi) = (([⟨1, 7, ⟨#[]⟩, false, false, 0, 0⟩, ⟨3, 5, ⟨#[]⟩, true, false, 0, 0⟩] : List Fi), 0) := by rfl
  refine (drop_calls 2 ao 3 cap ([⟨1, 7, ⟨#[]⟩, false, false, 0, 0⟩, ⟨2, 5, ⟨#[97, 110, 110]⟩, false, false, 0, 0⟩, ⟨3, 5, ⟨#[]⟩, true, false, 0, 0⟩] : List Fi) w h (by omega)).mono ?_
  rintro en w' ⟨ao', cap', he, ho, hb⟩
  rw [e] at he ho
  obtain ⟨a9, c9, hv9, hsl9⟩ := ownE_sl fi_len (by omega) ho
  cases hv9
  exact ⟨_, _, he, hsl9, hb⟩


set_option maxHeartbeats 16000000 in
set_option maxRecDepth 100000 in
theorem alive_calls (w : World) : Calls Try.prog 10 #[] w fun e w' => e = .returned (.bool true) ∧ Below w.heap.size w w' := by
  have hs0 : Sl (w.alloc (.cells #[.int .i64 1, .int .i64 7, .string ⟨#[]⟩, .bool false, .bool false, .int .i64 0, .int .i64 0, .int .i64 3, .int .i64 5, .string ⟨#[]⟩, .bool true, .bool false, .int .i64 0, .int .i64 0] 24)) 7 (some ⟨w.heap.size, 0, none⟩) 2 2 (([⟨1, 7, ⟨#[]⟩, false, false, 0, 0⟩, ⟨3, 5, ⟨#[]⟩, true, false, 0, 0⟩] : List Fi).map Fi.enc) := sl_block fi_len (by omega) _ rfl (by omega) (hp_new rfl)
  have SLL : Aside (Sl (w.alloc (.cells #[.int .i64 1, .int .i64 7, .string ⟨#[]⟩, .bool false, .bool false, .int .i64 0, .int .i64 0, .int .i64 3, .int .i64 5, .string ⟨#[]⟩, .bool true, .bool false, .int .i64 0, .int .i64 0] 24)) 7 (some ⟨w.heap.size, 0, none⟩) 2 2 (([⟨1, 7, ⟨#[]⟩, false, false, 0, 0⟩, ⟨3, 5, ⟨#[]⟩, true, false, 0, 0⟩] : List Fi).map Fi.enc)) := hs0
  have hb0 : Below w.heap.size w (w.alloc (.cells #[.int .i64 1, .int .i64 7, .string ⟨#[]⟩, .bool false, .bool false, .int .i64 0, .int .i64 0, .int .i64 3, .int .i64 5, .string ⟨#[]⟩, .bool true, .bool false, .int .i64 0, .int .i64 0] 24)) := (Below.refl _ _).alloc (Nat.le_refl _) _
  have HB : Aside (Below w.heap.size w (w.alloc (.cells #[.int .i64 1, .int .i64 7, .string ⟨#[]⟩, .bool false, .bool false, .int .i64 0, .int .i64 0, .int .i64 3, .int .i64 5, .string ⟨#[]⟩, .bool true, .bool false, .int .i64 0, .int .i64 0] 24))) := hb0
  clear hs0 hb0
  go_enter Try.func10, Try.ntmps10
  go_wp2_with fail
  generalize (w.alloc (.cells #[.int .i64 1, .int .i64 7, .string ⟨#[]⟩, .bool false, .bool false, .int .i64 0, .int .i64 0, .int .i64 3, .int .i64 5, .string ⟨#[]⟩, .bool true, .bool false, .int .i64 0, .int .i64 0] 24)) = W at SLL HB ⊢
  obtain ⟨lb, elb⟩ : ∃ lb, w.heap.size = lb := ⟨_, rfl⟩
  rw [elb] at SLL ⊢
  go_wp2_with fail
  refine (al_add1 _ _ W SLL.out).mono ?_
  rintro e w1 ⟨am, cm, rfl, hSLM, hb⟩
  have SLL' : Aside (Sl w1 7 (some ⟨lb, 0, none⟩) 2 2 (([⟨1, 7, ⟨#[]⟩, false, false, 0, 0⟩, ⟨3, 5, ⟨#[]⟩, true, false, 0, 0⟩] : List Fi).map Fi.enc)) := SLL.out.stays hb
  have SLM' : Aside (Sl w1 7 am 3 cm (([⟨1, 7, ⟨#[]⟩, false, false, 0, 0⟩, ⟨2, 5, ⟨#[97, 110, 110]⟩, false, false, 0, 0⟩, ⟨3, 5, ⟨#[]⟩, true, false, 0, 0⟩] : List Fi).map Fi.enc)) := hSLM
  have HB' : Aside (Below w.heap.size w w1) := HB.out.trans (hb.mono HB.out.size)
  clear hb HB SLL hSLM
  have HB : Aside _ := HB'.out
  clear HB'
  have SLL : Aside (Sl w1 7 (some ⟨lb, 0, none⟩) 2 2 (([⟨1, 7, ⟨#[]⟩, false, false, 0, 0⟩, ⟨3, 5, ⟨#[]⟩, true, false, 0, 0⟩] : List Fi).map Fi.enc)) := SLL'.out
  clear SLL'
  have SLM : Aside (Sl w1 7 am 3 cm (([⟨1, 7, ⟨#[]⟩, false, false, 0, 0⟩, ⟨2, 5, ⟨#[97, 110, 110]⟩, false, false, 0, 0⟩, ⟨3, 5, ⟨#[]⟩, true, false, 0, 0⟩] : List Fi).map Fi.enc)) := SLM'.out
  clear SLM'
  go_wp2_with fail
  refine (al_add2 _ _ _ SLL.out).mono ?_
  rintro e w2 ⟨a2, c2, rfl, _, hb⟩
  have SLL' : Aside (Sl w2 7 (some ⟨lb, 0, none⟩) 2 2 (([⟨1, 7, ⟨#[]⟩, false, false, 0, 0⟩, ⟨3, 5, ⟨#[]⟩, true, false, 0, 0⟩] : List Fi).map Fi.enc)) := SLL.out.stays hb
  have SLM' : Aside (Sl w2 7 am 3 cm (([⟨1, 7, ⟨#[]⟩, false, false, 0, 0⟩, ⟨2, 5, ⟨#[97, 110, 110]⟩, false, false, 0, 0⟩, ⟨3, 5, ⟨#[]⟩, true, false, 0, 0⟩] : List Fi).map Fi.enc)) := SLM.out.stays hb
  have HB' : Aside (Below w.heap.size w w2) := HB.out.trans (hb.mono HB.out.size)
  clear hb HB SLL SLM 
  have HB : Aside _ := HB'.out
  clear HB'
  have SLL : Aside (Sl w2 7 (some ⟨lb, 0, none⟩) 2 2 (([⟨1, 7, ⟨#[]⟩, false, false, 0, 0⟩, ⟨3, 5, ⟨#[]⟩, true, false, 0, 0⟩] : List Fi).map Fi.enc)) := SLL'.out
  clear SLL'
  have SLM : Aside (Sl w2 7 am 3 cm (([⟨1, 7, ⟨#[]⟩, false, false, 0, 0⟩, ⟨2, 5, ⟨#[97, 110, 110]⟩, false, false, 0, 0⟩, ⟨3, 5, ⟨#[]⟩, true, false, 0, 0⟩] : List Fi).map Fi.enc)) := SLM'.out
  clear SLM'
  obtain ⟨b9, o9, eb9, hbw9, l0, l1, l2, l3, l4, l5, l6⟩ := cellsFi SLL.out 0 (by decide)
  cases eb9
  simp only [Nat.zero_mul, Nat.add_zero, List.getElem!_cons_zero] at l0 l1 l2 l3 l4 l5 l6
  have hlr := hbw9
  go_wp2_with fail
  refine (al_add3 _ _ _ SLL.out).mono ?_
  rintro e w3 ⟨a3, c3, rfl, _, hb⟩
  have SLL' : Aside (Sl w3 7 (some ⟨lb, 0, none⟩) 2 2 (([⟨1, 7, ⟨#[]⟩, false, false, 0, 0⟩, ⟨3, 5, ⟨#[]⟩, true, false, 0, 0⟩] : List Fi).map Fi.enc)) := SLL.out.stays hb
  have SLM' : Aside (Sl w3 7 am 3 cm (([⟨1, 7, ⟨#[]⟩, false, false, 0, 0⟩, ⟨2, 5, ⟨#[97, 110, 110]⟩, false, false, 0, 0⟩, ⟨3, 5, ⟨#[]⟩, true, false, 0, 0⟩] : List Fi).map Fi.enc)) := SLM.out.stays hb
  have HB' : Aside (Below w.heap.size w w3) := HB.out.trans (hb.mono HB.out.size)
  clear l0 l1 l2 l3 l4 l5 l6 hbw9 hlr
  clear hb HB SLL SLM 
  have HB : Aside _ := HB'.out
  clear HB'
  have SLL : Aside (Sl w3 7 (some ⟨lb, 0, none⟩) 2 2 (([⟨1, 7, ⟨#[]⟩, false, false, 0, 0⟩, ⟨3, 5, ⟨#[]⟩, true, false, 0, 0⟩] : List Fi).map Fi.enc)) := SLL'.out
  clear SLL'
  have SLM : Aside (Sl w3 7 am 3 cm (([⟨1, 7, ⟨#[]⟩, false, false, 0, 0⟩, ⟨2, 5, ⟨#[97, 110, 110]⟩, false, false, 0, 0⟩, ⟨3, 5, ⟨#[]⟩, true, false, 0, 0⟩] : List Fi).map Fi.enc)) := SLM'.out
  clear SLM'
  go_wp2_with fail
  refine (al_set _ _ _ SLL.out).mono ?_
  rintro e w4 ⟨a4, c4, rfl, _, hb⟩
  have SLL' : Aside (Sl w4 7 (some ⟨lb, 0, none⟩) 2 2 (([⟨1, 7, ⟨#[]⟩, false, false, 0, 0⟩, ⟨3, 5, ⟨#[]⟩, true, false, 0, 0⟩] : List Fi).map Fi.enc)) := SLL.out.stays hb
  have SLM' : Aside (Sl w4 7 am 3 cm (([⟨1, 7, ⟨#[]⟩, false, false, 0, 0⟩, ⟨2, 5, ⟨#[97, 110, 110]⟩, false, false, 0, 0⟩, ⟨3, 5, ⟨#[]⟩, true, false, 0, 0⟩] : List Fi).map Fi.enc)) := SLM.out.stays hb
  have HB' : Aside (Below w.heap.size w w4) := HB.out.trans (hb.mono HB.out.size)
  clear hb HB SLL SLM 
  have HB : Aside _ := HB'.out
  clear HB'
  have SLL : Aside (Sl w4 7 (some ⟨lb, 0, none⟩) 2 2 (([⟨1, 7, ⟨#[]⟩, false, false, 0, 0⟩, ⟨3, 5, ⟨#[]⟩, true, false, 0, 0⟩] : List Fi).map Fi.enc)) := SLL'.out
  clear SLL'
  have SLM : Aside (Sl w4 7 am 3 cm (([⟨1, 7, ⟨#[]⟩, false, false, 0, 0⟩, ⟨2, 5, ⟨#[97, 110, 110]⟩, false, false, 0, 0⟩, ⟨3, 5, ⟨#[]⟩, true, false, 0, 0⟩] : List Fi).map Fi.enc)) := SLM'.out
  clear SLM'
  go_wp2_with fail
  refine (al_drop _ _ _ SLM.out).mono ?_
  rintro e w5 ⟨ad, cd, rfl, hSLD, hb⟩
  have SLL' : Aside (Sl w5 7 (some ⟨lb, 0, none⟩) 2 2 (([⟨1, 7, ⟨#[]⟩, false, false, 0, 0⟩, ⟨3, 5, ⟨#[]⟩, true, false, 0, 0⟩] : List Fi).map Fi.enc)) := SLL.out.stays hb
  have SLM' : Aside (Sl w5 7 am 3 cm (([⟨1, 7, ⟨#[]⟩, false, false, 0, 0⟩, ⟨2, 5, ⟨#[97, 110, 110]⟩, false, false, 0, 0⟩, ⟨3, 5, ⟨#[]⟩, true, false, 0, 0⟩] : List Fi).map Fi.enc)) := SLM.out.stays hb
  have SLD' : Aside (Sl w5 7 ad 2 cd (([⟨1, 7, ⟨#[]⟩, false, false, 0, 0⟩, ⟨3, 5, ⟨#[]⟩, true, false, 0, 0⟩] : List Fi).map Fi.enc)) := hSLD
  have HB' : Aside (Below w.heap.size w w5) := HB.out.trans (hb.mono HB.out.size)
  clear hb HB SLL SLM hSLD
  have HB : Aside _ := HB'.out
  clear HB'
  have SLL : Aside (Sl w5 7 (some ⟨lb, 0, none⟩) 2 2 (([⟨1, 7, ⟨#[]⟩, false, false, 0, 0⟩, ⟨3, 5, ⟨#[]⟩, true, false, 0, 0⟩] : List Fi).map Fi.enc)) := SLL'.out
  clear SLL'
  have SLM : Aside (Sl w5 7 am 3 cm (([⟨1, 7, ⟨#[]⟩, false, false, 0, 0⟩, ⟨2, 5, ⟨#[97, 110, 110]⟩, false, false, 0, 0⟩, ⟨3, 5, ⟨#[]⟩, true, false, 0, 0⟩] : List Fi).map Fi.enc)) := SLM'.out
  clear SLM'
  have SLD : Aside (Sl w5 7 ad 2 cd (([⟨1, 7, ⟨#[]⟩, false, false, 0, 0⟩, ⟨3, 5, ⟨#[]⟩, true, false, 0, 0⟩] : List Fi).map Fi.enc)) := SLD'.out
  clear SLD'
  obtain ⟨b9, o9, eb9, hbw9, l0, l1, l2, l3, l4, l5, l6⟩ := cellsFi SLL.out 0 (by decide)
  cases eb9
  simp only [Nat.zero_mul, Nat.add_zero, List.getElem!_cons_zero] at l0 l1 l2 l3 l4 l5 l6
  obtain ⟨b8, o8, rfl, hbw8, _, _, m2, _⟩ := cellsFi SLM.out 1 (by decide)
  simp only [List.getElem!_cons_succ, List.getElem!_cons_zero] at m2
  generalize w5 = W5 at *
  have cR : ∀ U, Below W5.heap.size W5 U → Calls Try.prog 9 #[.slice (some ⟨lb, 0, none⟩) 2 2] U fun e w' => e = .returned (.bool true) ∧ Below U.heap.size U w' := fun U hU => by
    have := right_calls _ _ _ _ U (SLL.out.stays hU)
    rwa [show rightB ([⟨1, 7, ⟨#[]⟩, false, false, 0, 0⟩, ⟨3, 5, ⟨#[]⟩, true, false, 0, 0⟩] : List Fi) = true from rfl] at this
  have cS : ∀ U, Below W5.heap.size W5 U → Calls Try.prog 17 #[.slice ad 2 cd, .slice (some ⟨lb, 0, none⟩) 2 2] U fun e w' => e = .returned (.bool true) ∧ Below U.heap.size U w' := fun U hU => by
    have := same_calls _ _ _ _ _ _ _ _ U (SLD.out.stays hU) (SLL.out.stays hU)
    rwa [(same_iff ([⟨1, 7, ⟨#[]⟩, false, false, 0, 0⟩, ⟨3, 5, ⟨#[]⟩, true, false, 0, 0⟩] : List Fi) ([⟨1, 7, ⟨#[]⟩, false, false, 0, 0⟩, ⟨3, 5, ⟨#[]⟩, true, false, 0, 0⟩] : List Fi)).2 rfl] at this
  have cU : ∀ U, Below W5.heap.size W5 U → Calls Try.prog 19 #[.slice (some ⟨b8, o8, none⟩) 3 cm, .int .i64 5] U fun e w' => e = .returned (.int .i64 1) ∧ Below U.heap.size U w' := fun U hU => by
    have := uses_calls 5 _ _ _ _ U (SLM.out.stays hU)
    rwa [show usesF 5 ([⟨1, 7, ⟨#[]⟩, false, false, 0, 0⟩, ⟨2, 5, ⟨#[97, 110, 110]⟩, false, false, 0, 0⟩, ⟨3, 5, ⟨#[]⟩, true, false, 0, 0⟩] : List Fi) = 1 from rfl] at this
  have cF : ∀ U, Below W5.heap.size W5 U → Calls Try.prog 18 #[.slice (some ⟨b8, o8, none⟩) 3 cm] U fun e w' => ∃ a7 c7, e = .returned (.slice a7 2 c7) ∧ Sl w' 1 a7 2 c7 (([5, 7] : List Int).map iEnc) ∧ Below U.heap.size U w' := fun U hU => by
    have := files_calls _ _ _ _ U (SLM.out.stays hU) (by omega)
    rwa [show filesF ([⟨1, 7, ⟨#[]⟩, false, false, 0, 0⟩, ⟨2, 5, ⟨#[97, 110, 110]⟩, false, false, 0, 0⟩, ⟨3, 5, ⟨#[]⟩, true, false, 0, 0⟩] : List Fi) = [5, 7] from rfl] at this
  have cI : ∀ U a7 c7 a8 c8, Sl U 1 a7 2 c7 (([5, 7] : List Int).map iEnc) → Sl U 1 a8 2 c8 (([5, 7] : List Int).map iEnc) → Calls Try.prog 23 #[.slice a7 2 c7, .slice a8 2 c8] U fun e w' => e = .returned (.bool true) ∧ Below U.heap.size U w' := fun U a7 c7 a8 c8 h1 h2 =>
    ints_calls _ _ _ _ _ _ [5, 7] [5, 7] U h1 h2
  have cN : ∀ U a7 c7, Sl U 7 a7 2 c7 (([⟨1, 7, ⟨#[]⟩, false, false, 0, 0⟩, ⟨1, 7, ⟨#[]⟩, false, false, 0, 0⟩] : List Fi).map Fi.enc) → Calls Try.prog 9 #[.slice a7 2 c7] U fun e w' => e = .returned (.bool false) ∧ Below U.heap.size U w' := fun U a7 c7 h2 => by
    have := right_calls _ _ _ _ U h2
    rwa [show rightB ([⟨1, 7, ⟨#[]⟩, false, false, 0, 0⟩, ⟨1, 7, ⟨#[]⟩, false, false, 0, 0⟩] : List Fi) = false from rfl] at this
  clear SLL SLD SLM
  go_wp2_with fail
  refine wp_region_lo_plus 56 [41, 42, 52] (by kernel_rfl) (by kernel_rfl) ?_
  simp only [List.take, List.drop]
  refine lo_tame rfl rfl rfl (fun K hK => ?_)
  simp [go_sem]
  refine hK _ ?_
  clear hK
  clear K
  refine lo_tcall 9 #[.slice (some ⟨lb, 0, none⟩) 2 2] (.bool true) rfl rfl rfl (fun x => by simp [go_sem]) (fun x => cR _ (below_plus _ _)) ?_
  simp only [Act.put, Array.setIfInBounds, List.size_toArray, List.length_cons, List.length_nil, Nat.reduceAdd, Nat.reduceLT, dite_true, List.set_toArray, List.set_cons_succ, List.set_cons_zero]
  refine lo_tame rfl rfl rfl (fun K hK => ?_)
  simp [go_sem]
  refine hK _ ?_
  clear hK
  clear K
  refine lo_tame rfl rfl rfl (fun K hK => ?_)
  simp [go_sem]
  refine hK _ ?_
  clear hK
  clear K
  refine lo_tame rfl rfl rfl (fun K hK => ?_)
  simp [go_sem]
  refine hK _ ?_
  clear hK
  clear K
  refine lo_tame rfl rfl rfl (fun K hK => ?_)
  simp [go_sem]
  refine hK _ ?_
  clear hK
  clear K
  refine lo_tame rfl rfl rfl (fun K hK => ?_)
  simp [go_sem]
  refine hK _ ?_
  clear hK
  clear K
  refine lo_tame rfl rfl rfl (fun K hK => ?_)
  simp [go_sem]
  refine hK _ ?_
  clear hK
  clear K
  refine lo_tame rfl rfl rfl (fun K hK => ?_)
  simp [go_sem, *]
  refine hK _ ?_
  clear hK
  clear K
  refine lo_tame rfl rfl rfl (fun K hK => ?_)
  simp [go_sem, *]
  refine hK _ ?_
  clear hK
  clear K
  refine lo_tame rfl rfl rfl (fun K hK => ?_)
  simp [go_sem, *]
  refine hK _ ?_
  clear hK
  clear K
  refine lo_tame rfl rfl rfl (fun K hK => ?_)
  simp [go_sem]
  refine hK _ ?_
  clear hK
  clear K
  refine lo_tame rfl rfl rfl (fun K hK => ?_)
  simp [go_sem]
  refine hK _ ?_
  clear hK
  clear K
  refine lo_tame rfl rfl rfl (fun K hK => ?_)
  simp [go_sem]
  refine hK _ ?_
  clear hK
  clear K
  refine lo_tame rfl rfl rfl (fun K hK => ?_)
  simp [go_sem]
  refine hK _ ?_
  clear hK
  clear K
  refine lo_tame rfl rfl rfl (fun K hK => ?_)
  simp [go_sem]
  refine hK _ ?_
  clear hK
  clear K
  refine lo_tame rfl rfl rfl (fun K hK => ?_)
  simp [go_sem]
  refine hK _ ?_
  clear hK
  clear K
  refine lo_tame rfl rfl rfl (fun K hK => ?_)
  simp [go_sem]
  refine hK _ ?_
  clear hK
  clear K
  refine lo_tame rfl rfl rfl (fun K hK => ?_)
  simp [go_sem]
  refine hK _ ?_
  clear hK
  clear K
  refine lo_tame rfl rfl rfl (fun K hK => ?_)
  simp [go_sem]
  refine hK _ ?_
  clear hK
  clear K
  refine lo_tame rfl rfl rfl (fun K hK => ?_)
  simp [go_sem]
  refine hK _ ?_
  clear hK
  clear K
  refine lo_tame rfl rfl rfl (fun K hK => ?_)
  simp [go_sem]
  refine hK _ ?_
  clear hK
  clear K
  refine lo_tame rfl rfl rfl (fun K hK => ?_)
  simp [go_sem]
  refine hK _ ?_
  clear hK
  clear K
  refine lo_tame rfl rfl rfl (fun K hK => ?_)
  simp [go_sem]
  refine hK _ ?_
  clear hK
  clear K
  refine lo_tame rfl rfl rfl (fun K hK => ?_)
  simp [go_sem]
  refine hK _ ?_
  clear hK
  clear K
  refine lo_tame rfl rfl rfl (fun K hK => ?_)
  simp [go_sem]
  refine hK _ ?_
  clear hK
  clear K
  refine lo_tame rfl rfl rfl (fun K hK => ?_)
  simp [go_sem]
  refine hK _ ?_
  clear hK
  clear K
  refine lo_tame rfl rfl rfl (fun K hK => ?_)
  simp [go_sem]
  refine hK _ ?_
  clear hK
  clear K
  refine lo_tame rfl rfl rfl (fun K hK => ?_)
  simp [go_sem]
  refine hK _ ?_
  clear hK
  clear K
  refine lo_tame rfl rfl rfl (fun K hK => ?_)
  simp [go_sem]
  refine hK _ ?_
  clear hK
  clear K
  refine lo_tame rfl rfl rfl (fun K hK => ?_)
  simp [go_sem]
  refine hK _ ?_
  clear hK
  clear K
  refine lo_tame rfl rfl rfl (fun K hK => ?_)
  simp [go_sem]
  refine hK _ ?_
  clear hK
  clear K
  refine lo_tcall 17 #[.slice ad 2 cd, .slice (some ⟨lb, 0, none⟩) 2 2] (.bool true) rfl rfl rfl (fun x => by simp [go_sem]) (fun x => cS _ (below_plus _ _)) ?_
  simp only [Act.put, Array.setIfInBounds, List.size_toArray, List.length_cons, List.length_nil, Nat.reduceAdd, Nat.reduceLT, dite_true, List.set_toArray, List.set_cons_succ, List.set_cons_zero]
  refine lo_tame rfl rfl rfl (fun K hK => ?_)
  simp [go_sem]
  refine hK _ ?_
  clear hK
  clear K
  refine lo_tame rfl rfl rfl (fun K hK => ?_)
  simp [go_sem]
  refine hK _ ?_
  clear hK
  clear K
  refine lo_tame rfl rfl rfl (fun K hK => ?_)
  simp [go_sem]
  refine hK _ ?_
  clear hK
  clear K
  refine lo_tcall 19 #[.slice (some ⟨b8, o8, none⟩) 3 cm, .int .i64 5] (.int .i64 1) rfl rfl rfl (fun x => by simp [go_sem]) (fun x => cU _ (below_plus _ _)) ?_
  simp only [Act.put, Array.setIfInBounds, List.size_toArray, List.length_cons, List.length_nil, Nat.reduceAdd, Nat.reduceLT, dite_true, List.set_toArray, List.set_cons_succ, List.set_cons_zero]
  refine lo_tame rfl rfl rfl (fun K hK => ?_)
  simp [go_sem]
  refine hK _ ?_
  clear hK
  clear K
  refine lo_tame rfl rfl rfl (fun K hK => ?_)
  simp [go_sem]
  refine hK _ ?_
  clear hK
  clear K
  refine lo_tame rfl rfl rfl (fun K hK => ?_)
  simp [go_sem]
  refine hK _ ?_
  clear hK
  clear K
  refine lo_tame rfl rfl rfl (fun K hK => ?_)
  simp [go_sem]
  refine hK _ ?_
  clear hK
  clear K
  refine lo_call (slV 1 2 (([5, 7] : List Int).map iEnc)) (slV_mono _ _ _) 18 #[.slice (some ⟨b8, o8, none⟩) 3 cm] rfl rfl rfl (fun x => by simp [go_sem]) (fun x => (cF _ (below_plus _ _)).mono (by rintro e w2 ⟨a7, c7, rfl, hsl, hb⟩; exact ⟨_, rfl, hb, a7, c7, rfl, hsl⟩)) ?_
  simp only [List.nil_append, List.cons_append]
  refine lo_build (enc := iEnc) i_len (by omega) [5, 7] 2 rfl (by omega) #[.int .i64 5, .int .i64 7] 3 rfl rfl rfl rfl (fun x => by simp [go_sem]) ?_
  simp only [List.nil_append, List.cons_append]
  refine lo_tcall2 23 (.bool true) rfl rfl rfl (fun x ao1 c1 ao2 c2 => ⟨#[.slice ao1 2 c1, .slice ao2 2 c2], by simp [go_sem], fun h1 h2 => cI _ _ _ _ _ h1 h2⟩) ?_
  simp only [Act.put, Array.setIfInBounds, List.size_toArray, List.length_cons, List.length_nil, Nat.reduceAdd, Nat.reduceLT, dite_true, List.set_toArray, List.set_cons_succ, List.set_cons_zero]
  refine lo_tame rfl rfl rfl (fun K hK => ?_)
  simp [go_sem]
  refine hK _ ?_
  clear hK
  clear K
  refine lo_tame rfl rfl rfl (fun K hK => ?_)
  simp [go_sem]
  refine hK _ ?_
  clear hK
  clear K
  refine lo_tame rfl rfl rfl (fun K hK => ?_)
  simp [go_sem]
  refine hK _ ?_
  clear hK
  clear K
  refine lo_tame rfl rfl rfl (fun K hK => ?_)
  simp [go_sem, *]
  refine hK _ ?_
  clear hK
  clear K
  refine lo_tame rfl rfl rfl (fun K hK => ?_)
  simp [go_sem, *]
  refine hK _ ?_
  clear hK
  clear K
  refine lo_tame rfl rfl rfl (fun K hK => ?_)
  simp [go_sem]
  refine hK _ ?_
  clear hK
  clear K
  refine lo_tame rfl rfl rfl (fun K hK => ?_)
  simp [go_sem, *]
  refine hK _ ?_
  clear hK
  clear K
  refine lo_tame rfl rfl rfl (fun K hK => ?_)
  simp [go_sem, *]
  refine hK _ ?_
  clear hK
  clear K
  refine lo_build (enc := Fi.enc) fi_len (by omega) ([⟨1, 7, ⟨#[]⟩, false, false, 0, 0⟩, ⟨1, 7, ⟨#[]⟩, false, false, 0, 0⟩] : List Fi) 2 rfl (by omega) #[.int .i64 1, .int .i64 7, .string ⟨#[]⟩, .bool false, .bool false, .int .i64 0, .int .i64 0, .int .i64 1, .int .i64 7, .string ⟨#[]⟩, .bool false, .bool false, .int .i64 0, .int .i64 0] 24 rfl rfl rfl rfl (fun x => by simp [go_sem]) ?_
  simp only [List.nil_append, List.cons_append]
  refine lo_tcall1 9 (.bool false) rfl rfl rfl (fun x ao1 c1 => ⟨#[.slice ao1 2 c1], by simp [go_sem], fun h1 => cN _ _ _ h1⟩) ?_
  simp only [Act.put, Array.setIfInBounds, List.size_toArray, List.length_cons, List.length_nil, Nat.reduceAdd, Nat.reduceLT, dite_true, List.set_toArray, List.set_cons_succ, List.set_cons_zero]
  refine lo_tame rfl rfl rfl (fun K hK => ?_)
  simp [go_sem]
  refine hK _ ?_
  clear hK
  clear K
  refine lo_tame rfl rfl rfl (fun K hK => ?_)
  simp [go_sem]
  refine hK _ ?_
  clear hK
  clear K
  refine lo_nil ?_
  rintro _ ⟨y, rfl⟩
  refine specEnd_sl (fun aS41 cS41 _ hS41 => ?_)
  refine specEnd_sl (fun aS42 cS42 _ hS42 => ?_)
  refine specEnd_sl (fun aS52 cS52 _ hS52 => ?_)
  refine specEnd_nil ?_
  simp only [Act.put, Array.setIfInBounds, List.size_toArray, List.length_cons, List.length_nil, Nat.reduceAdd, Nat.reduceLT, dite_true, List.set_toArray, List.set_cons_succ, List.set_cons_zero]
  go_wp2
  go_ret
  exact ⟨rfl, below_to_plus HB.out HB.out.size _⟩

end Go.Proofs.Ytjnfllcbkkcfiaa
