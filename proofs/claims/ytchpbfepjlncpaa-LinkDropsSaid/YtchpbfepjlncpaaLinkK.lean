/- This text proves the walks of LinkDrops. It has no conditions beyond the types' ranges. -/
import Derived.Test.YtchpbfepjlncpaaLinkF
import Derived.Test.YtchpbfepjlncpaaMix
namespace Go.Proofs.Ytchpbfepjlncpaa
open Go.ChangeShapes Go.WideShapes Go.ChangeAt Go.RowKit
set_option linter.unusedVariables false


set_option maxHeartbeats 1000000 in
theorem drops_long (up : Bool) (cap : Int) (ts tc : ByteArray) (lost : Int)  (w : World) (h : ¬ (ts.size ≤ 70000 ∧ tc.size ≤ 70000)) :
    Calls Try.prog 6 #[.agg #[.bool up, .int .i64 cap, .string ts, .string tc, .int .i64 lost]] w fun e w' => e = .returned (.bool true) ∧ Below w.heap.size w w' := by
  have hs := fun w => short_no up cap ts tc lost w h
  clear h
  go_enter Try.func6, Try.ntmps6
  go_wp2_with (first | (go_at_call 8; (with_reducible refine (hs _).mono ?_); (rintro e w1 ⟨rfl, hb⟩; obtain ⟨x, hx⟩ := plus_of_below hb; subst hx); clear hb) | (go_at_call 9; (with_reducible refine (alive_calls _).mono ?_); (rintro e w1 ⟨rfl, hb⟩; obtain ⟨x, hx⟩ := plus_of_below hb; subst hx); clear hb))
  go_ret
  refine ⟨rfl, ?_⟩
  repeat (first | (with_reducible exact Below.refl _ _) | (with_reducible assumption) | (with_reducible refine below_to_plus ?_ ?_ _) | (with_reducible refine Below.alloc ?_ ?_ _) | (with_reducible refine Below.drew ?_) | (with_reducible refine below_drewN ?_ _) | (with_reducible refine Below.setCell ?_ ?_ _))
  all_goals first | (simp; done) | (simp [go_sem]; done) | (simp [go_sem]; omega)

set_option maxHeartbeats 1000000 in
theorem drops_wrong (up : Bool) (cap : Int) (ts tc : ByteArray) (lost : Int)  (w : World) (h1 : ts.size ≤ 70000) (h2 : tc.size ≤ 70000) (h : rightB ⟨up, cap, ts, tc, lost⟩ = false) :
    Calls Try.prog 6 #[.agg #[.bool up, .int .i64 cap, .string ts, .string tc, .int .i64 lost]] w fun e w' => e = .returned (.bool true) ∧ Below w.heap.size w w' := by
  have hs := fun w => short_yes up cap ts tc lost w h1 h2
  have hr := fun w => refRight_calls up cap ts tc lost w h1 h2
  rw [h] at hr
  clear h
  go_enter Try.func6, Try.ntmps6
  go_wp2_with (first | (go_at_call 8; (with_reducible refine (hs _).mono ?_); (rintro e w1 ⟨rfl, hb⟩; obtain ⟨x, hx⟩ := plus_of_below hb; subst hx); clear hb) | (go_at_call 13; (with_reducible refine (hr _).mono ?_); (rintro e w1 ⟨rfl, hb⟩; obtain ⟨x, hx⟩ := plus_of_below hb; subst hx); clear hb) | (go_at_call 9; (with_reducible refine (alive_calls _).mono ?_); (rintro e w1 ⟨rfl, hb⟩; obtain ⟨x, hx⟩ := plus_of_below hb; subst hx); clear hb))
  go_ret
  refine ⟨rfl, ?_⟩
  repeat (first | (with_reducible exact Below.refl _ _) | (with_reducible assumption) | (with_reducible refine below_to_plus ?_ ?_ _) | (with_reducible refine Below.alloc ?_ ?_ _) | (with_reducible refine Below.drew ?_) | (with_reducible refine below_drewN ?_ _) | (with_reducible refine Below.setCell ?_ ?_ _))
  all_goals first | (simp; done) | (simp [go_sem]; done) | (simp [go_sem]; omega)


theorem dropL_good (up : Bool) (cap : Int) (ts tc : ByteArray) (lost : Int) (h : rightB ⟨up, cap, ts, tc, lost⟩ = true) : ∃ dc dl, dropL ⟨up, cap, ts, tc, lost⟩ = ⟨false, dc, ⟨#[]⟩, ⟨#[]⟩, dl⟩ := by
  obtain ⟨_, _, _, _, _, _, v7⟩ := (right_iff up cap ts tc lost).1 h
  cases up
  · have v8 : ts.size = 0 ∧ tc.size = 0 := by simpa using v7
    rw [empty_eq ts v8.1, empty_eq tc v8.2]
    exact ⟨cap, lost, rfl⟩
  · exact ⟨cap, min 9007199254740991 (lost + ts.size + tc.size), by simp [dropL]⟩

set_option maxHeartbeats 2000000 in
theorem drops_good (up : Bool) (cap : Int) (ts tc : ByteArray) (lost : Int) (w : World) (h1 : ts.size ≤ 70000) (h2 : tc.size ≤ 70000) (h : rightB ⟨up, cap, ts, tc, lost⟩ = true) :
    Calls Try.prog 6 #[.agg #[.bool up, .int .i64 cap, .string ts, .string tc, .int .i64 lost]] w fun e w' => e = .returned (.bool true) ∧ Below w.heap.size w w' := by
  have hs := fun w => short_yes up cap ts tc lost w h1 h2
  have hr := fun w => refRight_calls up cap ts tc lost w h1 h2
  obtain ⟨v1, v2, v3, v4, v5, v6, v7⟩ := (right_iff up cap ts tc lost).1 h
  have c20 := fun w => drop_calls up cap ts tc lost w (by omega) (by omega) v3 v4
  have c22 := fun w => refDrop_calls up cap ts tc lost w (by omega) (by omega) v3 v4
  obtain ⟨dc, dl, hd⟩ := dropL_good up cap ts tc lost h
  rw [hd] at c20 c22
  simp only [] at c20 c22
  have ci := fun w => idle_calls false dc ⟨#[]⟩ ⟨#[]⟩ dl w
  have hi : idleB ⟨false, dc, ⟨#[]⟩, ⟨#[]⟩, dl⟩ = true := by simp [idleB, ByteArray.size]
  rw [hi] at ci
  rw [h] at hr
  clear h hd hi v1 v2 v3 v4 v5 v6 v7
  have c21 := fun w => restore_calls up cap ts tc lost w
  have c23 := fun w => refRestore_calls up cap ts tc lost w
  have c20d := fun w => drop_down dc ⟨#[]⟩ ⟨#[]⟩ dl w
  have c21u := fun w => restore_calls true cap ts tc lost w
  go_enter Try.func6, Try.ntmps6
  go_wp2_with (first | (go_at_call 8; (with_reducible refine (hs _).mono ?_); (rintro e w1 ⟨rfl, hb⟩; obtain ⟨x, hx⟩ := plus_of_below hb; subst hx); clear hb) | (go_at_call 13; (with_reducible refine (hr _).mono ?_); (rintro e w1 ⟨rfl, hb⟩; obtain ⟨x, hx⟩ := plus_of_below hb; subst hx); clear hb))
  refine wp_region_mix_plus 6 [4, 5] (by kernel_rfl) (by kernel_rfl) ?_
  simp only [List.take, List.drop]
  refine mix_quiet rfl rfl (fun K hK => ?_)
  simp [go_sem, ↓IntWalk.iteOmega]
  refine hK _ ?_
  clear hK
  clear K
  refine mix_quiet rfl rfl (fun K hK => ?_)
  simp [go_sem]
  refine ⟨_, fun x => c20 _, hK _ ?_⟩
  clear hK
  clear K
  refine mix_quiet rfl rfl (fun K hK => ?_)
  simp [go_sem, ↓IntWalk.iteOmega]
  refine hK _ ?_
  clear hK
  clear K
  refine mix_quiet rfl rfl (fun K hK => ?_)
  simp [go_sem]
  refine ⟨_, fun x => c21 _, hK _ ?_⟩
  clear hK
  clear K
  refine mix_cells #[.bool false, .int .i64 0, .string .empty, .string .empty, .int .i64 0] 23 rfl rfl (fun y => ?_) ?_
  · simp [go_sem]
    refine cellsV_alloc _ _ _ _ _ ?_
    simp [go_sem]
  refine mix_cells #[.bool false, .int .i64 0, .string .empty, .string .empty, .int .i64 0] 23 rfl rfl (fun y => ?_) ?_
  · simp [go_sem]
    refine cellsV_alloc _ _ _ _ _ ?_
    simp [go_sem]
  refine mix_nil ?_
  rintro _ ⟨y, rfl⟩
  simp only [List.nil_append, List.cons_append]
  refine specEnd_cells (fun lo1 hl1 hs1 hi1 => ?_)
  refine specEnd_cells (fun lo2 hl2 hs2 hi2 => ?_)
  refine specEnd_nil ?_
  simp [go_sem] at hl1 hl2 hs1 hs2 hi2
  clear hi1
  simp only [Act.put, Array.setIfInBounds, List.size_toArray, List.length_cons, List.length_nil, Nat.reduceAdd, Nat.reduceLT, dite_true, List.set_toArray, List.set_cons_succ, List.set_cons_zero]
  go_wp2
  refine wp_region_plus (by kernel_rfl) (by kernel_rfl) ?_
  repeat (go_big_quiet_step (first
      | (go_at_call 22; exact calls_plus (c22 _)) | (go_at_call 23; exact calls_plus (c23 _)) | (go_at_call 20; exact calls_plus (c20d _)) | (go_at_call 21; exact calls_plus (c21u _)) | (go_at_call 14; exact calls_plus (ci _)) | (go_at_call 9; exact calls_plus (alive_calls _))))
  refine wpQuiet_nil ?_
  rintro _ ⟨x, rfl⟩
  go_wp2
  go_ret
  refine ⟨rfl, ?_⟩
  repeat (first | (with_reducible exact Below.refl _ _) | (with_reducible assumption) | (with_reducible refine below_to_plus ?_ ?_ _) | (with_reducible refine below_holds ?_ ?_ _ _) | (with_reducible refine Below.alloc ?_ ?_ _) | (with_reducible refine Below.drew ?_) | (with_reducible refine below_drewN ?_ _) | (with_reducible refine Below.setCell ?_ ?_ _))
  all_goals first | omega | (simp; done) | (simp [go_sem]; done) | (simp [go_sem]; omega)

theorem drops_calls (up : Bool) (cap : Int) (ts tc : ByteArray) (lost : Int) (w : World) :
    Calls Try.prog 6 #[.agg #[.bool up, .int .i64 cap, .string ts, .string tc, .int .i64 lost]] w fun e w' => e = .returned (.bool true) ∧ Below w.heap.size w w' := by
  by_cases h : ts.size ≤ 70000 ∧ tc.size ≤ 70000
  · cases hr : rightB ⟨up, cap, ts, tc, lost⟩ with
    | true => exact drops_good up cap ts tc lost w h.1 h.2 hr
    | false => exact drops_wrong up cap ts tc lost w h.1 h.2 hr
  · exact drops_long up cap ts tc lost w h

end Go.Proofs.Ytchpbfepjlncpaa
