/- This text proves the walks of LinkSends and LinkDrops. It has no conditions beyond the types' ranges. -/
import Derived.Test.YtchpbfepjlncpaaLinkF
namespace Go.Proofs.Ytchpbfepjlncpaa
open Go.ChangeShapes Go.WideShapes Go.ChangeAt Go.RowKit
set_option linter.unusedVariables false


set_option maxHeartbeats 1000000 in
theorem sends_long (up : Bool) (cap : Int) (ts tc : ByteArray) (lost : Int) (s : ByteArray) (server : Bool) (w : World) (h : ¬ (ts.size ≤ 70000 ∧ tc.size ≤ 70000)) :
    Calls Try.prog 4 #[.agg #[.bool up, .int .i64 cap, .string ts, .string tc, .int .i64 lost], .string s, .bool server] w fun e w' => e = .returned (.bool true) ∧ Below w.heap.size w w' := by
  have hs := fun w => short_no up cap ts tc lost w h
  clear h
  go_enter Try.func4, Try.ntmps4
  go_wp2_with (first | (go_at_call 8; (with_reducible refine (hs _).mono ?_); (rintro e w1 ⟨rfl, hb⟩; obtain ⟨x, hx⟩ := plus_of_below hb; subst hx); clear hb) | (go_at_call 9; (with_reducible refine (alive_calls _).mono ?_); (rintro e w1 ⟨rfl, hb⟩; obtain ⟨x, hx⟩ := plus_of_below hb; subst hx); clear hb))
  go_ret
  refine ⟨rfl, ?_⟩
  repeat (first | (with_reducible exact Below.refl _ _) | (with_reducible assumption) | (with_reducible refine below_to_plus ?_ ?_ _) | (with_reducible refine Below.alloc ?_ ?_ _) | (with_reducible refine Below.drew ?_) | (with_reducible refine below_drewN ?_ _) | (with_reducible refine Below.setCell ?_ ?_ _))
  all_goals first | (simp; done) | (simp [go_sem]; done) | (simp [go_sem]; omega)

set_option maxHeartbeats 1000000 in
theorem sends_much (up : Bool) (cap : Int) (ts tc : ByteArray) (lost : Int) (s : ByteArray) (server : Bool) (w : World) (h1 : ts.size ≤ 70000) (h2 : tc.size ≤ 70000) (h3 : 70000 < s.size) :
    Calls Try.prog 4 #[.agg #[.bool up, .int .i64 cap, .string ts, .string tc, .int .i64 lost], .string s, .bool server] w fun e w' => e = .returned (.bool true) ∧ Below w.heap.size w w' := by
  have hs := fun w => short_yes up cap ts tc lost w h1 h2
  go_enter Try.func4, Try.ntmps4
  go_wp2_with (first | (go_at_call 8; (with_reducible refine (hs _).mono ?_); (rintro e w1 ⟨rfl, hb⟩; obtain ⟨x, hx⟩ := plus_of_below hb; subst hx); clear hb) | (go_at_call 9; (with_reducible refine (alive_calls _).mono ?_); (rintro e w1 ⟨rfl, hb⟩; obtain ⟨x, hx⟩ := plus_of_below hb; subst hx); clear hb))
  go_ret
  refine ⟨rfl, ?_⟩
  repeat (first | (with_reducible exact Below.refl _ _) | (with_reducible assumption) | (with_reducible refine below_to_plus ?_ ?_ _) | (with_reducible refine Below.alloc ?_ ?_ _) | (with_reducible refine Below.drew ?_) | (with_reducible refine below_drewN ?_ _) | (with_reducible refine Below.setCell ?_ ?_ _))
  all_goals first | (simp; done) | (simp [go_sem]; done) | (simp [go_sem]; omega)

set_option maxHeartbeats 1000000 in
theorem sends_wrong (up : Bool) (cap : Int) (ts tc : ByteArray) (lost : Int) (s : ByteArray) (server : Bool) (w : World) (h1 : ts.size ≤ 70000) (h2 : tc.size ≤ 70000) (h3 : s.size ≤ 70000) (h : rightB ⟨up, cap, ts, tc, lost⟩ = false) :
    Calls Try.prog 4 #[.agg #[.bool up, .int .i64 cap, .string ts, .string tc, .int .i64 lost], .string s, .bool server] w fun e w' => e = .returned (.bool true) ∧ Below w.heap.size w w' := by
  have hs := fun w => short_yes up cap ts tc lost w h1 h2
  have hr := fun w => refRight_calls up cap ts tc lost w h1 h2
  rw [h] at hr
  clear h
  go_enter Try.func4, Try.ntmps4
  go_wp2_with (first | (go_at_call 8; (with_reducible refine (hs _).mono ?_); (rintro e w1 ⟨rfl, hb⟩; obtain ⟨x, hx⟩ := plus_of_below hb; subst hx); clear hb) | (go_at_call 13; (with_reducible refine (hr _).mono ?_); (rintro e w1 ⟨rfl, hb⟩; obtain ⟨x, hx⟩ := plus_of_below hb; subst hx); clear hb) | (go_at_call 9; (with_reducible refine (alive_calls _).mono ?_); (rintro e w1 ⟨rfl, hb⟩; obtain ⟨x, hx⟩ := plus_of_below hb; subst hx); clear hb))
  go_ret
  refine ⟨rfl, ?_⟩
  repeat (first | (with_reducible exact Below.refl _ _) | (with_reducible assumption) | (with_reducible refine below_to_plus ?_ ?_ _) | (with_reducible refine Below.alloc ?_ ?_ _) | (with_reducible refine Below.drew ?_) | (with_reducible refine below_drewN ?_ _) | (with_reducible refine Below.setCell ?_ ?_ _))
  all_goals first | (simp; done) | (simp [go_sem]; done) | (simp [go_sem]; omega)


set_option maxHeartbeats 2000000 in
theorem sends_good (up : Bool) (cap : Int) (ts tc : ByteArray) (lost : Int) (s : ByteArray) (server : Bool) (w : World) (h1 : ts.size ≤ 70000) (h2 : tc.size ≤ 70000) (h3 : s.size ≤ 70000) (h : rightB ⟨up, cap, ts, tc, lost⟩ = true) :
    Calls Try.prog 4 #[.agg #[.bool up, .int .i64 cap, .string ts, .string tc, .int .i64 lost], .string s, .bool server] w fun e w' => e = .returned (.bool true) ∧ Below w.heap.size w w' := by
  have hs := fun w => short_yes up cap ts tc lost w h1 h2
  have hr := fun w => refRight_calls up cap ts tc lost w h1 h2
  have hv := (right_iff up cap ts tc lost).1 h
  obtain ⟨v1, v2, v3, v4, v5, v6, v7⟩ := hv
  rw [h] at hr
  have c16 := fun w => send_calls up cap ts tc lost server s w v1 v2 v5 v6 h3
  have c17 := fun w => refSend_calls up cap ts tc lost server s w v1 v2 v5 v6 h3
  clear h v7
  generalize sendL ⟨up, cap, ts, tc, lost⟩ server s = y at c16 c17
  obtain ⟨⟨u1, c1, a1, b1, l1⟩, e1⟩ := y
  simp only [] at c16 c17
  go_enter Try.func4, Try.ntmps4
  go_wp2_with (first | (go_at_call 8; (with_reducible refine (hs _).mono ?_); (rintro e w1 ⟨rfl, hb⟩; obtain ⟨x, hx⟩ := plus_of_below hb; subst hx); clear hb) | (go_at_call 13; (with_reducible refine (hr _).mono ?_); (rintro e w1 ⟨rfl, hb⟩; obtain ⟨x, hx⟩ := plus_of_below hb; subst hx); clear hb) | (go_at_call 16; (with_reducible refine (c16 _).mono ?_); (rintro e w1 ⟨rfl, hb⟩; obtain ⟨x, hx⟩ := plus_of_below hb; subst hx); clear hb) | (go_at_call 17; (with_reducible refine (c17 _).mono ?_); (rintro e w1 ⟨rfl, hb⟩; obtain ⟨x, hx⟩ := plus_of_below hb; subst hx); clear hb) | (go_at_call 9; (with_reducible refine (alive_calls _).mono ?_); (rintro e w1 ⟨rfl, hb⟩; obtain ⟨x, hx⟩ := plus_of_below hb; subst hx); clear hb))
  go_ret
  refine ⟨rfl, ?_⟩
  repeat (first | (with_reducible exact Below.refl _ _) | (with_reducible assumption) | (with_reducible refine below_to_plus ?_ ?_ _) | (with_reducible refine Below.alloc ?_ ?_ _) | (with_reducible refine Below.drew ?_) | (with_reducible refine below_drewN ?_ _) | (with_reducible refine Below.setCell ?_ ?_ _))
  all_goals first | (simp; done) | (simp [go_sem]; done) | (simp [go_sem]; omega)

theorem sends_calls (up : Bool) (cap : Int) (ts tc : ByteArray) (lost : Int) (s : ByteArray) (server : Bool) (w : World) :
    Calls Try.prog 4 #[.agg #[.bool up, .int .i64 cap, .string ts, .string tc, .int .i64 lost], .string s, .bool server] w fun e w' => e = .returned (.bool true) ∧ Below w.heap.size w w' := by
  by_cases h : ts.size ≤ 70000 ∧ tc.size ≤ 70000
  · by_cases h3 : s.size ≤ 70000
    · cases hr : rightB ⟨up, cap, ts, tc, lost⟩ with
      | true => exact sends_good up cap ts tc lost s server w h.1 h.2 h3 hr
      | false => exact sends_wrong up cap ts tc lost s server w h.1 h.2 h3 hr
    · exact sends_much up cap ts tc lost s server w h.1 h.2 (by omega)
  · exact sends_long up cap ts tc lost s server w h

end Go.Proofs.Ytchpbfepjlncpaa
