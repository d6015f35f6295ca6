/- This text proves what each function of package link and of its reference returns: the walks through their code. Conditions: those that each theorem names. -/
import Derived.Test.YtchpbfepjlncpaaLinkA
namespace Go.Proofs.Ytchpbfepjlncpaa
open Go.ChangeShapes Go.WideShapes Go.ChangeAt Go.RowKit
set_option linter.unusedVariables false

theorem new_calls (m : Int) (w : World) (h1 : -9223372036854775808 ≤ m) (h2 : m ≤ 9223372036854775807) :
    Calls Try.prog 10 #[.int .i64 m] w fun e w' => e = .returned (.agg #[.bool true, .int .i64 (min (max m 1) 65536), .string ⟨#[]⟩, .string ⟨#[]⟩, .int .i64 0]) ∧ Below w.heap.size w w' := by
  rcases (by omega : m < 1 ∨ (1 ≤ m ∧ m ≤ 65536) ∨ 65536 < m) with h | ⟨h, h'⟩ | h
  · have e : min (max m 1) 65536 = 1 := by omega
    rw [e]
    clear e
    go_enter Try.func10, Try.ntmps10
    go_wp2
    exact bodyPost_ret (v := .agg #[.bool true, .int .i64 1, .string ⟨#[]⟩, .string ⟨#[]⟩, .int .i64 0]) (by simp [results, Try.results10, go_sem]) rfl ⟨rfl, (Below.refl _ _).alloc (Nat.le_refl _) _⟩
  · have e : min (max m 1) 65536 = m := by omega
    rw [e]
    clear e
    go_enter Try.func10, Try.ntmps10
    go_wp2
    exact bodyPost_ret (v := .agg #[.bool true, .int .i64 m, .string ⟨#[]⟩, .string ⟨#[]⟩, .int .i64 0]) (by simp [results, Try.results10, go_sem]) rfl ⟨rfl, (Below.refl _ _).alloc (Nat.le_refl _) _⟩
  · have e : min (max m 1) 65536 = 65536 := by omega
    rw [e]
    clear e
    go_enter Try.func10, Try.ntmps10
    go_wp2
    exact bodyPost_ret (v := .agg #[.bool true, .int .i64 65536, .string ⟨#[]⟩, .string ⟨#[]⟩, .int .i64 0]) (by simp [results, Try.results10, go_sem]) rfl ⟨rfl, (Below.refl _ _).alloc (Nat.le_refl _) _⟩

theorem right_calls (up : Bool) (cap : Int) (ts tc : ByteArray) (lost : Int) (w : World) (ht : ts.size ≤ 70000) (hc : tc.size ≤ 70000) :
    Calls Try.prog 12 #[.agg #[.bool up, .int .i64 cap, .string ts, .string tc, .int .i64 lost]] w fun e w' => e = .returned (.bool (rightB ⟨up, cap, ts, tc, lost⟩)) ∧ Below w.heap.size w w' := by
  go_enter Try.func12, Try.ntmps12
  go_wp2
  all_goals go_ret
  all_goals refine ⟨ret_bool ?_, by repeat (first | exact Below.refl _ _ | refine Below.drew ?_ | refine below_drewN ?_ _ | refine Below.setCell ?_ (by simp) _ | refine Below.alloc ?_ (by simp) _)⟩
  all_goals (try simp only [toList_nil, toList_isEmpty] at *)
  all_goals first | (simp [rightB, *]; done) | (simp [rightB, *]; omega) | (rw [Bool.eq_iff_iff, decide_eq_true_iff, right_iff]; exact ⟨fun _ => ⟨by omega, by omega, by omega, by omega, by omega, by omega, Or.inr ⟨by omega, by omega⟩⟩, fun _ => by omega⟩)

set_option maxHeartbeats 1000000 in
theorem refRight_calls (up : Bool) (cap : Int) (ts tc : ByteArray) (lost : Int) (w : World) (ht : ts.size ≤ 70000) (hc : tc.size ≤ 70000) :
    Calls Try.prog 13 #[.agg #[.bool up, .int .i64 cap, .string ts, .string tc, .int .i64 lost]] w fun e w' => e = .returned (.bool (rightB ⟨up, cap, ts, tc, lost⟩)) ∧ Below w.heap.size w w' := by
  go_enter Try.func13, Try.ntmps13
  go_wp2
  all_goals go_ret
  all_goals refine ⟨ret_bool ?_, by repeat (first | exact Below.refl _ _ | refine Below.drew ?_ | refine below_drewN ?_ _ | refine Below.setCell ?_ (by simp) _ | refine Below.alloc ?_ (by simp) _)⟩
  all_goals (try simp only [toList_nil, toList_isEmpty] at *)
  all_goals first | (simp [rightB, *]; done) | (simp [rightB, *]; omega)

theorem idle_calls (up : Bool) (cap : Int) (ts tc : ByteArray) (lost : Int) (w : World) :
    Calls Try.prog 14 #[.agg #[.bool up, .int .i64 cap, .string ts, .string tc, .int .i64 lost]] w fun e w' => e = .returned (.bool (idleB ⟨up, cap, ts, tc, lost⟩)) ∧ Below w.heap.size w w' := by
  go_enter Try.func14, Try.ntmps14
  go_wp2
  all_goals go_ret
  all_goals refine ⟨ret_bool ?_, by repeat (first | exact Below.refl _ _ | refine Below.drew ?_ | refine below_drewN ?_ _ | refine Below.setCell ?_ (by simp) _ | refine Below.alloc ?_ (by simp) _)⟩
  all_goals (try simp only [toList_nil, toList_isEmpty] at *)
  all_goals first | (simp [idleB, *]; done)

theorem refIdle_calls (up : Bool) (cap : Int) (ts tc : ByteArray) (lost : Int) (w : World) :
    Calls Try.prog 15 #[.agg #[.bool up, .int .i64 cap, .string ts, .string tc, .int .i64 lost]] w fun e w' => e = .returned (.bool (idleB ⟨up, cap, ts, tc, lost⟩)) ∧ Below w.heap.size w w' := by
  go_enter Try.func15, Try.ntmps15
  go_wp2
  all_goals go_ret
  all_goals refine ⟨ret_bool ?_, by repeat (first | exact Below.refl _ _ | refine Below.drew ?_ | refine below_drewN ?_ _ | refine Below.setCell ?_ (by simp) _ | refine Below.alloc ?_ (by simp) _)⟩
  all_goals (try simp only [toList_nil, toList_isEmpty] at *)
  all_goals first | (simp [idleB, *]; done)

/-- The buffer of a direction: the address of the field. -/
theorem buffer_calls (b : Nat) (server : Bool) (w : World) :
    Calls Try.prog 24 #[.pointer (some ⟨b, 0, none⟩), .bool server] w fun e w' => e = .returned (.pointer (some ⟨b, if server = true then 2 else 3, none⟩)) ∧ w = w' := by
  cases server
  all_goals
    go_enter Try.func24, Try.ntmps24
    go_wp2
    go_ret
    exact ⟨rfl, rfl⟩

theorem short_calls (up : Bool) (cap : Int) (ts tc : ByteArray) (lost : Int) (w : World) :
    Calls Try.prog 8 #[.agg #[.bool up, .int .i64 cap, .string ts, .string tc, .int .i64 lost]] w fun e w' => e = .returned (.bool (decide (ts.size ≤ 70000 ∧ tc.size ≤ 70000))) ∧ Below w.heap.size w w' := by
  go_enter Try.func8, Try.ntmps8
  go_wp2
  all_goals go_ret
  all_goals refine ⟨ret_bool ?_, by repeat (first | exact Below.refl _ _ | refine Below.drew ?_ | refine below_drewN ?_ _ | refine Below.setCell ?_ (by simp) _ | refine Below.alloc ?_ (by simp) _)⟩
  all_goals (rw [Bool.eq_iff_iff])
  all_goals first | (simp [*]; done) | (simp [*]; omega)

end Go.Proofs.Ytchpbfepjlncpaa
