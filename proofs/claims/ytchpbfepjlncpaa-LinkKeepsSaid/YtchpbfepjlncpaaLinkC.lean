/- This text proves what Send, Take, Drop and Restore of package link and of its reference return: the walks through their code. Conditions: those that each theorem names. -/
import Derived.Test.YtchpbfepjlncpaaLinkB
namespace Go.Proofs.Ytchpbfepjlncpaa
open Go.ChangeShapes Go.WideShapes Go.ChangeAt Go.RowKit
set_option linter.unusedVariables false

theorem refNew_calls (m : Int) (w : World) (h1 : -9223372036854775808 ≤ m) (h2 : m ≤ 9223372036854775807) :
    Calls Try.prog 11 #[.int .i64 m] w fun e w' => e = .returned (.agg #[.bool true, .int .i64 (min (max m 1) 65536), .string ⟨#[]⟩, .string ⟨#[]⟩, .int .i64 0]) ∧ Below w.heap.size w w' := by
  rcases (by omega : m < 1 ∨ (1 ≤ m ∧ m ≤ 65536) ∨ 65536 < m) with h | ⟨h, h'⟩ | h
  · have e : min (max m 1) 65536 = 1 := by omega
    rw [e]
    clear e
    go_enter Try.func11, Try.ntmps11
    go_wp2
    exact bodyPost_ret (v := .agg #[.bool true, .int .i64 1, .string ⟨#[]⟩, .string ⟨#[]⟩, .int .i64 0]) (by simp [results, Try.results11, go_sem]) rfl ⟨rfl, (Below.refl _ _).alloc (Nat.le_refl _) _⟩
  · have e : min (max m 1) 65536 = m := by omega
    rw [e]
    clear e
    go_enter Try.func11, Try.ntmps11
    go_wp2
    exact bodyPost_ret (v := .agg #[.bool true, .int .i64 m, .string ⟨#[]⟩, .string ⟨#[]⟩, .int .i64 0]) (by simp [results, Try.results11, go_sem]) rfl ⟨rfl, (Below.refl _ _).alloc (Nat.le_refl _) _⟩
  · have e : min (max m 1) 65536 = 65536 := by omega
    rw [e]
    clear e
    go_enter Try.func11, Try.ntmps11
    go_wp2
    exact bodyPost_ret (v := .agg #[.bool true, .int .i64 65536, .string ⟨#[]⟩, .string ⟨#[]⟩, .int .i64 0]) (by simp [results, Try.results11, go_sem]) rfl ⟨rfl, (Below.refl _ _).alloc (Nat.le_refl _) _⟩

set_option maxHeartbeats 1000000 in
theorem send_down (cap : Int) (ts tc : ByteArray) (lost : Int) (server : Bool) (s : ByteArray) (w : World) (h1 : 1 ≤ cap) (h2 : cap ≤ 65536) (h3 : ts.size ≤ 65536) (h4 : tc.size ≤ 65536) (h5 : s.size ≤ 70000)  :
    Calls Try.prog 16 #[.agg #[.bool false, .int .i64 cap, .string ts, .string tc, .int .i64 lost], .bool server, .string s] w fun e w' => e = .returned (.tuple #[.agg #[.bool false, .int .i64 cap, .string ts, .string tc, .int .i64 lost], .int .i64 30]) ∧ Below w.heap.size w w' := by
  cases server
  all_goals
    go_enter Try.func16, Try.ntmps16
    go_wp2_with (go_at_call 24; refine (buffer_calls _ _ _).mono ?_; rintro e w' ⟨rfl, rfl⟩)
    refine bodyPost_ret (v := .tuple #[.agg #[.bool false, .int .i64 cap, .string ts, .string tc, .int .i64 lost], .int .i64 30]) (by simp [results, Try.results16, go_sem]) rfl ⟨rfl, ?_⟩
    repeat (first | exact Below.refl _ _ | refine Below.drew ?_ | refine below_drewN ?_ _ | refine Below.setCell ?_ (by simp <;> omega) _ | refine Below.alloc ?_ (by simp <;> omega) _)

set_option maxHeartbeats 1000000 in
theorem send_full (cap : Int) (ts tc : ByteArray) (lost : Int)  (s : ByteArray) (w : World) (h1 : 1 ≤ cap) (h2 : cap ≤ 65536) (h3 : ts.size ≤ 65536) (h4 : tc.size ≤ 65536) (h5 : s.size ≤ 70000) (h6 : cap < (ts.size + s.size : Int)) :
    Calls Try.prog 16 #[.agg #[.bool true, .int .i64 cap, .string ts, .string tc, .int .i64 lost], .bool true, .string s] w fun e w' => e = .returned (.tuple #[.agg #[.bool true, .int .i64 cap, .string ts, .string tc, .int .i64 lost], .int .i64 22]) ∧ Below w.heap.size w w' := by
  have g6 : cap - (ts.size : Int) < (s.size : Int) := by omega
  go_enter Try.func16, Try.ntmps16
  go_wp2_with (go_at_call 24; refine (buffer_calls _ _ _).mono ?_; rintro e w' ⟨rfl, rfl⟩)
  go_quiet (fail)
  go_wp2
  refine bodyPost_ret (v := .tuple #[.agg #[.bool true, .int .i64 cap, .string ts, .string tc, .int .i64 lost], .int .i64 22]) (by simp [results, Try.results16, go_sem]) rfl ⟨rfl, ?_⟩
  repeat (first | exact Below.refl _ _ | refine Below.drew ?_ | refine below_drewN ?_ _ | refine Below.setCell ?_ (by simp <;> omega) _ | refine Below.alloc ?_ (by simp <;> omega) _)

set_option maxHeartbeats 1000000 in
theorem send_fit (cap : Int) (ts tc : ByteArray) (lost : Int)  (s : ByteArray) (w : World) (h1 : 1 ≤ cap) (h2 : cap ≤ 65536) (h3 : ts.size ≤ 65536) (h4 : tc.size ≤ 65536) (h5 : s.size ≤ 70000) (h6 : (ts.size + s.size : Int) ≤ cap) :
    Calls Try.prog 16 #[.agg #[.bool true, .int .i64 cap, .string ts, .string tc, .int .i64 lost], .bool true, .string s] w fun e w' => e = .returned (.tuple #[.agg #[.bool true, .int .i64 cap, .string (ts ++ s), .string tc, .int .i64 lost], .int .i64 0]) ∧ Below w.heap.size w w' := by
  have g6 : (s.size : Int) ≤ cap - (ts.size : Int) := by omega
  go_enter Try.func16, Try.ntmps16
  go_wp2_with (go_at_call 24; refine (buffer_calls _ _ _).mono ?_; rintro e w' ⟨rfl, rfl⟩)
  go_quiet (fail)
  go_wp2
  refine bodyPost_ret (v := .tuple #[.agg #[.bool true, .int .i64 cap, .string (ts ++ s), .string tc, .int .i64 lost], .int .i64 0]) (by simp [results, Try.results16, go_sem]) rfl ⟨rfl, ?_⟩
  repeat (first | exact Below.refl _ _ | refine Below.drew ?_ | refine below_drewN ?_ _ | refine Below.setCell ?_ (by simp <;> omega) _ | refine Below.alloc ?_ (by simp <;> omega) _)

set_option maxHeartbeats 1000000 in
theorem send_fullc (cap : Int) (ts tc : ByteArray) (lost : Int)  (s : ByteArray) (w : World) (h1 : 1 ≤ cap) (h2 : cap ≤ 65536) (h3 : ts.size ≤ 65536) (h4 : tc.size ≤ 65536) (h5 : s.size ≤ 70000) (h6 : cap < (tc.size + s.size : Int)) :
    Calls Try.prog 16 #[.agg #[.bool true, .int .i64 cap, .string ts, .string tc, .int .i64 lost], .bool false, .string s] w fun e w' => e = .returned (.tuple #[.agg #[.bool true, .int .i64 cap, .string ts, .string tc, .int .i64 lost], .int .i64 22]) ∧ Below w.heap.size w w' := by
  have g6 : cap - (tc.size : Int) < (s.size : Int) := by omega
  go_enter Try.func16, Try.ntmps16
  go_wp2_with (go_at_call 24; refine (buffer_calls _ _ _).mono ?_; rintro e w' ⟨rfl, rfl⟩)
  go_quiet (fail)
  go_wp2
  refine bodyPost_ret (v := .tuple #[.agg #[.bool true, .int .i64 cap, .string ts, .string tc, .int .i64 lost], .int .i64 22]) (by simp [results, Try.results16, go_sem]) rfl ⟨rfl, ?_⟩
  repeat (first | exact Below.refl _ _ | refine Below.drew ?_ | refine below_drewN ?_ _ | refine Below.setCell ?_ (by simp <;> omega) _ | refine Below.alloc ?_ (by simp <;> omega) _)

set_option maxHeartbeats 1000000 in
theorem send_fitc (cap : Int) (ts tc : ByteArray) (lost : Int)  (s : ByteArray) (w : World) (h1 : 1 ≤ cap) (h2 : cap ≤ 65536) (h3 : ts.size ≤ 65536) (h4 : tc.size ≤ 65536) (h5 : s.size ≤ 70000) (h6 : (tc.size + s.size : Int) ≤ cap) :
    Calls Try.prog 16 #[.agg #[.bool true, .int .i64 cap, .string ts, .string tc, .int .i64 lost], .bool false, .string s] w fun e w' => e = .returned (.tuple #[.agg #[.bool true, .int .i64 cap, .string ts, .string (tc ++ s), .int .i64 lost], .int .i64 0]) ∧ Below w.heap.size w w' := by
  have g6 : (s.size : Int) ≤ cap - (tc.size : Int) := by omega
  go_enter Try.func16, Try.ntmps16
  go_wp2_with (go_at_call 24; refine (buffer_calls _ _ _).mono ?_; rintro e w' ⟨rfl, rfl⟩)
  go_quiet (fail)
  go_wp2
  refine bodyPost_ret (v := .tuple #[.agg #[.bool true, .int .i64 cap, .string ts, .string (tc ++ s), .int .i64 lost], .int .i64 0]) (by simp [results, Try.results16, go_sem]) rfl ⟨rfl, ?_⟩
  repeat (first | exact Below.refl _ _ | refine Below.drew ?_ | refine below_drewN ?_ _ | refine Below.setCell ?_ (by simp <;> omega) _ | refine Below.alloc ?_ (by simp <;> omega) _)

set_option maxHeartbeats 1000000 in
theorem refSend_down (cap : Int) (ts tc : ByteArray) (lost : Int) (server : Bool) (s : ByteArray) (w : World) (h1 : 1 ≤ cap) (h2 : cap ≤ 65536) (h3 : ts.size ≤ 65536) (h4 : tc.size ≤ 65536) (h5 : s.size ≤ 70000)  :
    Calls Try.prog 17 #[.agg #[.bool false, .int .i64 cap, .string ts, .string tc, .int .i64 lost], .bool server, .string s] w fun e w' => e = .returned (.tuple #[.agg #[.bool false, .int .i64 cap, .string ts, .string tc, .int .i64 lost], .int .i64 30]) ∧ Below w.heap.size w w' := by
  cases server
  all_goals
    go_enter Try.func17, Try.ntmps17
    go_wp2_with (go_at_call 24; refine (buffer_calls _ _ _).mono ?_; rintro e w' ⟨rfl, rfl⟩)
    refine bodyPost_ret (v := .tuple #[.agg #[.bool false, .int .i64 cap, .string ts, .string tc, .int .i64 lost], .int .i64 30]) (by simp [results, Try.results17, go_sem]) rfl ⟨rfl, ?_⟩
    repeat (first | exact Below.refl _ _ | refine Below.drew ?_ | refine below_drewN ?_ _ | refine Below.setCell ?_ (by simp <;> omega) _ | refine Below.alloc ?_ (by simp <;> omega) _)

set_option maxHeartbeats 1000000 in
theorem refSend_full (cap : Int) (ts tc : ByteArray) (lost : Int)  (s : ByteArray) (w : World) (h1 : 1 ≤ cap) (h2 : cap ≤ 65536) (h3 : ts.size ≤ 65536) (h4 : tc.size ≤ 65536) (h5 : s.size ≤ 70000) (h6 : cap < (ts.size + s.size : Int)) (h7 : (ts.size : Int) ≤ cap) (h8 : (tc.size : Int) ≤ cap) :
    Calls Try.prog 17 #[.agg #[.bool true, .int .i64 cap, .string ts, .string tc, .int .i64 lost], .bool true, .string s] w fun e w' => e = .returned (.tuple #[.agg #[.bool true, .int .i64 cap, .string ts, .string tc, .int .i64 lost], .int .i64 22]) ∧ Below w.heap.size w w' := by
  go_enter Try.func17, Try.ntmps17
  go_wp2_with (go_at_call 24; refine (buffer_calls _ _ _).mono ?_; rintro e w' ⟨rfl, rfl⟩)
  refine bodyPost_ret (v := .tuple #[.agg #[.bool true, .int .i64 cap, .string ts, .string tc, .int .i64 lost], .int .i64 22]) (by simp [results, Try.results17, go_sem]) rfl ⟨rfl, ?_⟩
  repeat (first | exact Below.refl _ _ | refine Below.drew ?_ | refine below_drewN ?_ _ | refine Below.setCell ?_ (by simp <;> omega) _ | refine Below.alloc ?_ (by simp <;> omega) _)

set_option maxHeartbeats 1000000 in
theorem refSend_fit (cap : Int) (ts tc : ByteArray) (lost : Int)  (s : ByteArray) (w : World) (h1 : 1 ≤ cap) (h2 : cap ≤ 65536) (h3 : ts.size ≤ 65536) (h4 : tc.size ≤ 65536) (h5 : s.size ≤ 70000) (h6 : (ts.size + s.size : Int) ≤ cap) (h7 : (ts.size : Int) ≤ cap) (h8 : (tc.size : Int) ≤ cap) :
    Calls Try.prog 17 #[.agg #[.bool true, .int .i64 cap, .string ts, .string tc, .int .i64 lost], .bool true, .string s] w fun e w' => e = .returned (.tuple #[.agg #[.bool true, .int .i64 cap, .string (ts ++ s), .string tc, .int .i64 lost], .int .i64 0]) ∧ Below w.heap.size w w' := by
  go_enter Try.func17, Try.ntmps17
  go_wp2_with (go_at_call 24; refine (buffer_calls _ _ _).mono ?_; rintro e w' ⟨rfl, rfl⟩)
  refine bodyPost_ret (v := .tuple #[.agg #[.bool true, .int .i64 cap, .string (ts ++ s), .string tc, .int .i64 lost], .int .i64 0]) (by simp [results, Try.results17, go_sem]) rfl ⟨rfl, ?_⟩
  repeat (first | exact Below.refl _ _ | refine Below.drew ?_ | refine below_drewN ?_ _ | refine Below.setCell ?_ (by simp <;> omega) _ | refine Below.alloc ?_ (by simp <;> omega) _)

set_option maxHeartbeats 1000000 in
theorem refSend_fullc (cap : Int) (ts tc : ByteArray) (lost : Int)  (s : ByteArray) (w : World) (h1 : 1 ≤ cap) (h2 : cap ≤ 65536) (h3 : ts.size ≤ 65536) (h4 : tc.size ≤ 65536) (h5 : s.size ≤ 70000) (h6 : cap < (tc.size + s.size : Int)) (h7 : (ts.size : Int) ≤ cap) (h8 : (tc.size : Int) ≤ cap) :
    Calls Try.prog 17 #[.agg #[.bool true, .int .i64 cap, .string ts, .string tc, .int .i64 lost], .bool false, .string s] w fun e w' => e = .returned (.tuple #[.agg #[.bool true, .int .i64 cap, .string ts, .string tc, .int .i64 lost], .int .i64 22]) ∧ Below w.heap.size w w' := by
  go_enter Try.func17, Try.ntmps17
  go_wp2_with (go_at_call 24; refine (buffer_calls _ _ _).mono ?_; rintro e w' ⟨rfl, rfl⟩)
  refine bodyPost_ret (v := .tuple #[.agg #[.bool true, .int .i64 cap, .string ts, .string tc, .int .i64 lost], .int .i64 22]) (by simp [results, Try.results17, go_sem]) rfl ⟨rfl, ?_⟩
  repeat (first | exact Below.refl _ _ | refine Below.drew ?_ | refine below_drewN ?_ _ | refine Below.setCell ?_ (by simp <;> omega) _ | refine Below.alloc ?_ (by simp <;> omega) _)

set_option maxHeartbeats 1000000 in
theorem refSend_fitc (cap : Int) (ts tc : ByteArray) (lost : Int)  (s : ByteArray) (w : World) (h1 : 1 ≤ cap) (h2 : cap ≤ 65536) (h3 : ts.size ≤ 65536) (h4 : tc.size ≤ 65536) (h5 : s.size ≤ 70000) (h6 : (tc.size + s.size : Int) ≤ cap) (h7 : (ts.size : Int) ≤ cap) (h8 : (tc.size : Int) ≤ cap) :
    Calls Try.prog 17 #[.agg #[.bool true, .int .i64 cap, .string ts, .string tc, .int .i64 lost], .bool false, .string s] w fun e w' => e = .returned (.tuple #[.agg #[.bool true, .int .i64 cap, .string ts, .string (tc ++ s), .int .i64 lost], .int .i64 0]) ∧ Below w.heap.size w w' := by
  go_enter Try.func17, Try.ntmps17
  go_wp2_with (go_at_call 24; refine (buffer_calls _ _ _).mono ?_; rintro e w' ⟨rfl, rfl⟩)
  refine bodyPost_ret (v := .tuple #[.agg #[.bool true, .int .i64 cap, .string ts, .string (tc ++ s), .int .i64 lost], .int .i64 0]) (by simp [results, Try.results17, go_sem]) rfl ⟨rfl, ?_⟩
  repeat (first | exact Below.refl _ _ | refine Below.drew ?_ | refine below_drewN ?_ _ | refine Below.setCell ?_ (by simp <;> omega) _ | refine Below.alloc ?_ (by simp <;> omega) _)

end Go.Proofs.Ytchpbfepjlncpaa
