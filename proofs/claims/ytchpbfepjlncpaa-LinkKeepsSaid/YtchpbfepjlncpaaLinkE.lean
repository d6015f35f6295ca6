/- This text proves that the fixed examples of the statements about package link hold: alive returns true. It has no conditions. -/
import Derived.Test.YtchpbfepjlncpaaLinkD
namespace Go.Proofs.Ytchpbfepjlncpaa
open Go.ChangeShapes Go.WideShapes Go.ChangeAt Go.RowKit
set_option linter.unusedVariables false

theorem al_new4 (w : World) : Calls Try.prog 10 #[.int .i64 4] w fun e w' => e = .returned (.agg #[.bool true, .int .i64 4, .string ⟨#[]⟩, .string ⟨#[]⟩, .int .i64 0]) ∧ Below w.heap.size w w' := by
  exact new_calls 4 w (by decide) (by decide)

theorem al_new0 (w : World) : Calls Try.prog 10 #[.int .i64 0] w fun e w' => e = .returned (.agg #[.bool true, .int .i64 1, .string ⟨#[]⟩, .string ⟨#[]⟩, .int .i64 0]) ∧ Below w.heap.size w w' := by
  exact new_calls 0 w (by decide) (by decide)

theorem al_new100000 (w : World) : Calls Try.prog 10 #[.int .i64 100000] w fun e w' => e = .returned (.agg #[.bool true, .int .i64 65536, .string ⟨#[]⟩, .string ⟨#[]⟩, .int .i64 0]) ∧ Below w.heap.size w w' := by
  exact new_calls 100000 w (by decide) (by decide)

theorem al_send1 (w : World) : Calls Try.prog 16 #[.agg #[.bool true, .int .i64 4, .string ⟨#[]⟩, .string ⟨#[]⟩, .int .i64 0], .bool true, .string ⟨#[97, 98, 99]⟩] w fun e w' => e = .returned (.tuple #[.agg #[.bool true, .int .i64 4, .string ⟨#[97, 98, 99]⟩, .string ⟨#[]⟩, .int .i64 0], .int .i64 0]) ∧ Below w.heap.size w w' := by
  exact send_fit 4 ⟨#[]⟩ ⟨#[]⟩ 0 ⟨#[97, 98, 99]⟩ w (by decide) (by decide) (by decide) (by decide) (by decide) (by decide)

theorem al_send2 (w : World) : Calls Try.prog 16 #[.agg #[.bool true, .int .i64 4, .string ⟨#[97, 98, 99]⟩, .string ⟨#[]⟩, .int .i64 0], .bool true, .string ⟨#[100, 101]⟩] w fun e w' => e = .returned (.tuple #[.agg #[.bool true, .int .i64 4, .string ⟨#[97, 98, 99]⟩, .string ⟨#[]⟩, .int .i64 0], .int .i64 22]) ∧ Below w.heap.size w w' := by
  exact send_full 4 ⟨#[97, 98, 99]⟩ ⟨#[]⟩ 0 ⟨#[100, 101]⟩ w (by decide) (by decide) (by decide) (by decide) (by decide) (by decide)

theorem al_send3 (w : World) : Calls Try.prog 16 #[.agg #[.bool true, .int .i64 4, .string ⟨#[97, 98, 99]⟩, .string ⟨#[]⟩, .int .i64 0], .bool false, .string ⟨#[100, 101]⟩] w fun e w' => e = .returned (.tuple #[.agg #[.bool true, .int .i64 4, .string ⟨#[97, 98, 99]⟩, .string ⟨#[100, 101]⟩, .int .i64 0], .int .i64 0]) ∧ Below w.heap.size w w' := by
  exact send_fitc 4 ⟨#[97, 98, 99]⟩ ⟨#[]⟩ 0 ⟨#[100, 101]⟩ w (by decide) (by decide) (by decide) (by decide) (by decide) (by decide)

theorem al_take (w : World) : Calls Try.prog 18 #[.agg #[.bool true, .int .i64 4, .string ⟨#[97, 98, 99]⟩, .string ⟨#[100, 101]⟩, .int .i64 0], .bool true, .int .i64 2] w fun e w' => e = .returned (.tuple #[.agg #[.bool true, .int .i64 4, .string ⟨#[99]⟩, .string ⟨#[100, 101]⟩, .int .i64 0], .string ⟨#[97, 98]⟩]) ∧ Below w.heap.size w w' := by
  exact take_ts_mid true 4 ⟨#[97, 98, 99]⟩ ⟨#[100, 101]⟩ 0 2 w (by decide) (by decide) (by decide) (by decide)

theorem al_drop (w : World) : Calls Try.prog 20 #[.agg #[.bool true, .int .i64 4, .string ⟨#[99]⟩, .string ⟨#[100, 101]⟩, .int .i64 0]] w fun e w' => e = .returned (.agg #[.bool false, .int .i64 4, .string ⟨#[]⟩, .string ⟨#[]⟩, .int .i64 3]) ∧ Below w.heap.size w w' := by
  exact drop_lo 4 ⟨#[99]⟩ ⟨#[100, 101]⟩ 0 w (by decide) (by decide) (by decide) (by decide) (by decide)

theorem al_send4 (w : World) : Calls Try.prog 16 #[.agg #[.bool false, .int .i64 4, .string ⟨#[]⟩, .string ⟨#[]⟩, .int .i64 3], .bool true, .string ⟨#[]⟩] w fun e w' => e = .returned (.tuple #[.agg #[.bool false, .int .i64 4, .string ⟨#[]⟩, .string ⟨#[]⟩, .int .i64 3], .int .i64 30]) ∧ Below w.heap.size w w' := by
  exact send_down 4 ⟨#[]⟩ ⟨#[]⟩ 3 true ⟨#[]⟩ w (by decide) (by decide) (by decide) (by decide) (by decide)

theorem al_restore (w : World) : Calls Try.prog 21 #[.agg #[.bool false, .int .i64 4, .string ⟨#[]⟩, .string ⟨#[]⟩, .int .i64 3]] w fun e w' => e = .returned (.agg #[.bool true, .int .i64 4, .string ⟨#[]⟩, .string ⟨#[]⟩, .int .i64 3]) ∧ Below w.heap.size w w' := by
  exact restore_calls false 4 ⟨#[]⟩ ⟨#[]⟩ 3 w

theorem al_idle1 (w : World) : Calls Try.prog 14 #[.agg #[.bool false, .int .i64 4, .string ⟨#[]⟩, .string ⟨#[]⟩, .int .i64 3]] w fun e w' => e = .returned (.bool true) ∧ Below w.heap.size w w' := by
  exact idle_calls false 4 ⟨#[]⟩ ⟨#[]⟩ 3 w

theorem al_idle2 (w : World) : Calls Try.prog 14 #[.agg #[.bool true, .int .i64 4, .string ⟨#[99]⟩, .string ⟨#[100, 101]⟩, .int .i64 0]] w fun e w' => e = .returned (.bool false) ∧ Below w.heap.size w w' := by
  exact idle_calls true 4 ⟨#[99]⟩ ⟨#[100, 101]⟩ 0 w

theorem al_right (w : World) : Calls Try.prog 12 #[.agg #[.bool false, .int .i64 4, .string ⟨#[]⟩, .string ⟨#[]⟩, .int .i64 3]] w fun e w' => e = .returned (.bool true) ∧ Below w.heap.size w w' := by
  exact right_calls false 4 ⟨#[]⟩ ⟨#[]⟩ 3 w (by decide) (by decide)

theorem link_field0 (a b c d e : Value) (w : World) : (Instr.field 23 (.agg #[a, b, c, d, e]) 0).run Try.prog w = .ok a w := by kernel_rfl
theorem link_field1 (a b c d e : Value) (w : World) : (Instr.field 23 (.agg #[a, b, c, d, e]) 1).run Try.prog w = .ok b w := by kernel_rfl
theorem link_field4 (a b c d e : Value) (w : World) : (Instr.field 23 (.agg #[a, b, c, d, e]) 4).run Try.prog w = .ok e w := by kernel_rfl

set_option maxHeartbeats 1000000 in
theorem alive_calls (w : World) : Calls Try.prog 9 #[] w fun e w' => e = .returned (.bool true) ∧ Below w.heap.size w w' := by
  have f0 := link_field0
  have f1 := link_field1
  go_enter Try.func9, Try.ntmps9
  go_wp2_with (first | (go_at_call 10; (with_reducible refine (al_new4 _).mono ?_); (rintro e w1 ⟨rfl, hb⟩; first | (obtain ⟨x, hx⟩ := plus_next hb; subst hx) | (obtain ⟨x, hx⟩ := plus_of_below hb; subst hx)); clear hb) | (go_at_call 10; (with_reducible refine (al_new0 _).mono ?_); (rintro e w1 ⟨rfl, hb⟩; first | (obtain ⟨x, hx⟩ := plus_next hb; subst hx) | (obtain ⟨x, hx⟩ := plus_of_below hb; subst hx)); clear hb) | (go_at_call 10; (with_reducible refine (al_new100000 _).mono ?_); (rintro e w1 ⟨rfl, hb⟩; first | (obtain ⟨x, hx⟩ := plus_next hb; subst hx) | (obtain ⟨x, hx⟩ := plus_of_below hb; subst hx)); clear hb) | (go_at_call 16; (with_reducible refine (al_send1 _).mono ?_); (rintro e w1 ⟨rfl, hb⟩; first | (obtain ⟨x, hx⟩ := plus_next hb; subst hx) | (obtain ⟨x, hx⟩ := plus_of_below hb; subst hx)); clear hb) | (go_at_call 16; (with_reducible refine (al_send2 _).mono ?_); (rintro e w1 ⟨rfl, hb⟩; first | (obtain ⟨x, hx⟩ := plus_next hb; subst hx) | (obtain ⟨x, hx⟩ := plus_of_below hb; subst hx)); clear hb) | (go_at_call 16; (with_reducible refine (al_send3 _).mono ?_); (rintro e w1 ⟨rfl, hb⟩; first | (obtain ⟨x, hx⟩ := plus_next hb; subst hx) | (obtain ⟨x, hx⟩ := plus_of_below hb; subst hx)); clear hb) | (go_at_call 16; (with_reducible refine (al_send4 _).mono ?_); (rintro e w1 ⟨rfl, hb⟩; first | (obtain ⟨x, hx⟩ := plus_next hb; subst hx) | (obtain ⟨x, hx⟩ := plus_of_below hb; subst hx)); clear hb) | (go_at_call 18; (with_reducible refine (al_take _).mono ?_); (rintro e w1 ⟨rfl, hb⟩; first | (obtain ⟨x, hx⟩ := plus_next hb; subst hx) | (obtain ⟨x, hx⟩ := plus_of_below hb; subst hx)); clear hb) | (go_at_call 20; (with_reducible refine (al_drop _).mono ?_); (rintro e w1 ⟨rfl, hb⟩; first | (obtain ⟨x, hx⟩ := plus_next hb; subst hx) | (obtain ⟨x, hx⟩ := plus_of_below hb; subst hx)); clear hb) | (go_at_call 21; (with_reducible refine (al_restore _).mono ?_); (rintro e w1 ⟨rfl, hb⟩; first | (obtain ⟨x, hx⟩ := plus_next hb; subst hx) | (obtain ⟨x, hx⟩ := plus_of_below hb; subst hx)); clear hb) | (go_at_call 14; (with_reducible refine (al_idle1 _).mono ?_); (rintro e w1 ⟨rfl, hb⟩; first | (obtain ⟨x, hx⟩ := plus_next hb; subst hx) | (obtain ⟨x, hx⟩ := plus_of_below hb; subst hx)); clear hb) | (go_at_call 14; (with_reducible refine (al_idle2 _).mono ?_); (rintro e w1 ⟨rfl, hb⟩; first | (obtain ⟨x, hx⟩ := plus_next hb; subst hx) | (obtain ⟨x, hx⟩ := plus_of_below hb; subst hx)); clear hb) | (go_at_call 12; (with_reducible refine (al_right _).mono ?_); (rintro e w1 ⟨rfl, hb⟩; first | (obtain ⟨x, hx⟩ := plus_next hb; subst hx) | (obtain ⟨x, hx⟩ := plus_of_below hb; subst hx)); clear hb))
  go_ret
  refine ⟨rfl, ?_⟩
  repeat (first | (with_reducible exact Below.refl _ _) | (with_reducible assumption) | (with_reducible refine below_to_plus ?_ ?_ _) | (with_reducible refine Below.alloc ?_ ?_ _) | (with_reducible refine Below.drew ?_) | (with_reducible refine below_drewN ?_ _) | (with_reducible refine Below.setCell ?_ ?_ _))
  all_goals first | (simp; done) | (simp [go_sem]; done) | (simp [go_sem]; omega)

end Go.Proofs.Ytchpbfepjlncpaa
