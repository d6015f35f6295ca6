/- This text proves the walk of LinkReads: for every link and every number the call returns true and leaves old memory as it was. It has no conditions beyond the types' ranges. -/
import Derived.Test.YtchpbfepjlncpaaLinkE
namespace Go.Proofs.Ytchpbfepjlncpaa
open Go.ChangeShapes Go.WideShapes Go.ChangeAt Go.RowKit
set_option linter.unusedVariables false

theorem short_yes (up : Bool) (cap : Int) (ts tc : ByteArray) (lost : Int) (w : World) (h1 : ts.size ≤ 70000) (h2 : tc.size ≤ 70000) :
    Calls Try.prog 8 #[.agg #[.bool up, .int .i64 cap, .string ts, .string tc, .int .i64 lost]] w fun e w' => e = .returned (.bool true) ∧ Below w.heap.size w w' := by
  have h := short_calls up cap ts tc lost w
  rwa [decide_eq_true ⟨h1, h2⟩] at h
theorem short_no (up : Bool) (cap : Int) (ts tc : ByteArray) (lost : Int) (w : World) (h1 : ¬ (ts.size ≤ 70000 ∧ tc.size ≤ 70000)) :
    Calls Try.prog 8 #[.agg #[.bool up, .int .i64 cap, .string ts, .string tc, .int .i64 lost]] w fun e w' => e = .returned (.bool false) ∧ Below w.heap.size w w' := by
  have h := short_calls up cap ts tc lost w
  rwa [decide_eq_false h1] at h

set_option maxHeartbeats 1000000 in
theorem reads_long (up : Bool) (cap : Int) (ts tc : ByteArray) (lost : Int) (most : Int) (w : World) (h : ¬ (ts.size ≤ 70000 ∧ tc.size ≤ 70000)) :
    Calls Try.prog 3 #[.agg #[.bool up, .int .i64 cap, .string ts, .string tc, .int .i64 lost], .int .i64 most] w fun e w' => e = .returned (.bool true) ∧ Below w.heap.size w w' := by
  have hs := fun w => short_no up cap ts tc lost w h
  clear h
  go_enter Try.func3, Try.ntmps3
  go_wp2_with (first | (go_at_call 8; (with_reducible refine (hs _).mono ?_); (rintro e w1 ⟨rfl, hb⟩; obtain ⟨x, hx⟩ := plus_of_below hb; subst hx); clear hb) | (go_at_call 9; (with_reducible refine (alive_calls _).mono ?_); (rintro e w1 ⟨rfl, hb⟩; obtain ⟨x, hx⟩ := plus_of_below hb; subst hx); clear hb))
  go_ret
  refine ⟨rfl, ?_⟩
  repeat (first | (with_reducible exact Below.refl _ _) | (with_reducible assumption) | (with_reducible refine below_to_plus ?_ ?_ _) | (with_reducible refine Below.alloc ?_ ?_ _) | (with_reducible refine Below.drew ?_) | (with_reducible refine below_drewN ?_ _) | (with_reducible refine Below.setCell ?_ ?_ _))
  all_goals first | (simp; done) | (simp [go_sem]; done) | (simp [go_sem]; omega)

set_option maxHeartbeats 1000000 in
theorem reads_short (r i : Bool) (up : Bool) (cap : Int) (ts tc : ByteArray) (lost : Int) (most : Int) (w : World) (h1 : ts.size ≤ 70000) (h2 : tc.size ≤ 70000) (hm1 : -9223372036854775808 ≤ most) (hm2 : most ≤ 9223372036854775807)
    (hr : rightB ⟨up, cap, ts, tc, lost⟩ = r) (hi : idleB ⟨up, cap, ts, tc, lost⟩ = i) :
    Calls Try.prog 3 #[.agg #[.bool up, .int .i64 cap, .string ts, .string tc, .int .i64 lost], .int .i64 most] w fun e w' => e = .returned (.bool true) ∧ Below w.heap.size w w' := by
  have hs := fun w => short_yes up cap ts tc lost w h1 h2
  have c10 := fun w => new_calls most w hm1 hm2
  have c11 := fun w => refNew_calls most w hm1 hm2
  have c12 := fun w => right_calls up cap ts tc lost w h1 h2
  have c13 := fun w => refRight_calls up cap ts tc lost w h1 h2
  have c14 := fun w => idle_calls up cap ts tc lost w
  have c15 := fun w => refIdle_calls up cap ts tc lost w
  rw [hr] at c12 c13
  rw [hi] at c14 c15
  generalize min (max most 1) 65536 = v at c10 c11
  clear h1 h2 hm1 hm2 hr hi
  cases r
  all_goals
    go_enter Try.func3, Try.ntmps3
    go_wp2_with (first | (go_at_call 8; (with_reducible refine (hs _).mono ?_); (rintro e w1 ⟨rfl, hb⟩; obtain ⟨x, hx⟩ := plus_of_below hb; subst hx); clear hb))
    refine wp_region_plus (by kernel_rfl) (by kernel_rfl) ?_
    repeat (go_big_quiet_step (first
      | (go_at_call 10; exact calls_plus (c10 _)) | (go_at_call 11; exact calls_plus (c11 _))
      | (go_at_call 12; exact calls_plus (c12 _)) | (go_at_call 13; exact calls_plus (c13 _))
      | (go_at_call 14; exact calls_plus (c14 _)) | (go_at_call 15; exact calls_plus (c15 _))
      | (go_at_call 9; exact calls_plus (alive_calls _))))
    refine wpQuiet_nil ?_
    rintro _ ⟨x, rfl⟩
    go_wp2
    go_ret
    refine ⟨rfl, ?_⟩
    repeat (first | (with_reducible exact Below.refl _ _) | (with_reducible assumption) | (with_reducible refine below_to_plus ?_ ?_ _) | (with_reducible refine Below.alloc ?_ ?_ _) | (with_reducible refine Below.drew ?_) | (with_reducible refine below_drewN ?_ _) | (with_reducible refine Below.setCell ?_ ?_ _))
    all_goals first | (simp; done) | (simp [go_sem]; done) | (simp [go_sem]; omega)

theorem reads_calls (up : Bool) (cap : Int) (ts tc : ByteArray) (lost : Int) (most : Int) (w : World) (hm1 : -9223372036854775808 ≤ most) (hm2 : most ≤ 9223372036854775807) :
    Calls Try.prog 3 #[.agg #[.bool up, .int .i64 cap, .string ts, .string tc, .int .i64 lost], .int .i64 most] w fun e w' => e = .returned (.bool true) ∧ Below w.heap.size w w' := by
  by_cases h : ts.size ≤ 70000 ∧ tc.size ≤ 70000
  · exact reads_short _ _ up cap ts tc lost most w h.1 h.2 hm1 hm2 rfl rfl
  · exact reads_long up cap ts tc lost most w h

end Go.Proofs.Ytchpbfepjlncpaa
