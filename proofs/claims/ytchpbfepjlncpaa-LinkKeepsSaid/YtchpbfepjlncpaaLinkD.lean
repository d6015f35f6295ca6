/- This text proves what Take, Drop and Restore of package link and of its reference return, and joins the cases of Send. Conditions: those that each theorem names. -/
import Derived.Test.YtchpbfepjlncpaaLinkC
namespace Go.Proofs.Ytchpbfepjlncpaa
open Go.ChangeShapes Go.WideShapes Go.ChangeAt Go.RowKit
set_option linter.unusedVariables false

set_option maxHeartbeats 400000 in
theorem take_ts_lo (up : Bool) (cap : Int) (ts tc : ByteArray) (lost : Int) (n : Int) (w : World) (h3 : ts.size ≤ 65536) (h4 : tc.size ≤ 65536) (h6 : n < 0) :
    Calls Try.prog 18 #[.agg #[.bool up, .int .i64 cap, .string ts, .string tc, .int .i64 lost], .bool true, .int .i64 n] w fun e w' => e = .returned (.tuple #[.agg #[.bool up, .int .i64 cap, .string (ts.extract 0 ts.size), .string tc, .int .i64 lost], .string (ts.extract 0 0)]) ∧ Below w.heap.size w w' := by
  go_enter Try.func18, Try.ntmps18
  go_wp2_with (go_at_call 24; refine (buffer_calls _ _ _).mono ?_; rintro e w' ⟨rfl, rfl⟩)
  all_goals refine bodyPost_ret (v := .tuple #[.agg #[.bool up, .int .i64 cap, .string (ts.extract 0 ts.size), .string tc, .int .i64 lost], .string (ts.extract 0 0)]) (by simp [results, Try.results18, go_sem]) rfl ⟨rfl, ?_⟩
  all_goals repeat (first | exact Below.refl _ _ | refine Below.drew ?_ | refine below_drewN ?_ _ | refine Below.setCell ?_ (by simp <;> omega) _ | refine Below.alloc ?_ (by simp <;> omega) _)

set_option maxHeartbeats 400000 in
theorem take_ts_mid (up : Bool) (cap : Int) (ts tc : ByteArray) (lost : Int) (n : Int) (w : World) (h3 : ts.size ≤ 65536) (h4 : tc.size ≤ 65536) (h6 : 0 ≤ n) (h7 : n ≤ ts.size) :
    Calls Try.prog 18 #[.agg #[.bool up, .int .i64 cap, .string ts, .string tc, .int .i64 lost], .bool true, .int .i64 n] w fun e w' => e = .returned (.tuple #[.agg #[.bool up, .int .i64 cap, .string (ts.extract n.toNat ts.size), .string tc, .int .i64 lost], .string (ts.extract 0 n.toNat)]) ∧ Below w.heap.size w w' := by
  go_enter Try.func18, Try.ntmps18
  go_wp2_with (go_at_call 24; refine (buffer_calls _ _ _).mono ?_; rintro e w' ⟨rfl, rfl⟩)
  all_goals refine bodyPost_ret (v := .tuple #[.agg #[.bool up, .int .i64 cap, .string (ts.extract n.toNat ts.size), .string tc, .int .i64 lost], .string (ts.extract 0 n.toNat)]) (by simp [results, Try.results18, go_sem]) rfl ⟨rfl, ?_⟩
  all_goals repeat (first | exact Below.refl _ _ | refine Below.drew ?_ | refine below_drewN ?_ _ | refine Below.setCell ?_ (by simp <;> omega) _ | refine Below.alloc ?_ (by simp <;> omega) _)

set_option maxHeartbeats 400000 in
theorem take_ts_hi (up : Bool) (cap : Int) (ts tc : ByteArray) (lost : Int) (n : Int) (w : World) (h3 : ts.size ≤ 65536) (h4 : tc.size ≤ 65536) (h6 : 0 ≤ n) (h7 : (ts.size : Int) < n) :
    Calls Try.prog 18 #[.agg #[.bool up, .int .i64 cap, .string ts, .string tc, .int .i64 lost], .bool true, .int .i64 n] w fun e w' => e = .returned (.tuple #[.agg #[.bool up, .int .i64 cap, .string (ts.extract ts.size ts.size), .string tc, .int .i64 lost], .string (ts.extract 0 ts.size)]) ∧ Below w.heap.size w w' := by
  go_enter Try.func18, Try.ntmps18
  go_wp2_with (go_at_call 24; refine (buffer_calls _ _ _).mono ?_; rintro e w' ⟨rfl, rfl⟩)
  all_goals refine bodyPost_ret (v := .tuple #[.agg #[.bool up, .int .i64 cap, .string (ts.extract ts.size ts.size), .string tc, .int .i64 lost], .string (ts.extract 0 ts.size)]) (by simp [results, Try.results18, go_sem]) rfl ⟨rfl, ?_⟩
  all_goals repeat (first | exact Below.refl _ _ | refine Below.drew ?_ | refine below_drewN ?_ _ | refine Below.setCell ?_ (by simp <;> omega) _ | refine Below.alloc ?_ (by simp <;> omega) _)

set_option maxHeartbeats 400000 in
theorem take_tc_lo (up : Bool) (cap : Int) (ts tc : ByteArray) (lost : Int) (n : Int) (w : World) (h3 : ts.size ≤ 65536) (h4 : tc.size ≤ 65536) (h6 : n < 0) :
    Calls Try.prog 18 #[.agg #[.bool up, .int .i64 cap, .string ts, .string tc, .int .i64 lost], .bool false, .int .i64 n] w fun e w' => e = .returned (.tuple #[.agg #[.bool up, .int .i64 cap, .string ts, .string (tc.extract 0 tc.size), .int .i64 lost], .string (tc.extract 0 0)]) ∧ Below w.heap.size w w' := by
  go_enter Try.func18, Try.ntmps18
  go_wp2_with (go_at_call 24; refine (buffer_calls _ _ _).mono ?_; rintro e w' ⟨rfl, rfl⟩)
  all_goals refine bodyPost_ret (v := .tuple #[.agg #[.bool up, .int .i64 cap, .string ts, .string (tc.extract 0 tc.size), .int .i64 lost], .string (tc.extract 0 0)]) (by simp [results, Try.results18, go_sem]) rfl ⟨rfl, ?_⟩
  all_goals repeat (first | exact Below.refl _ _ | refine Below.drew ?_ | refine below_drewN ?_ _ | refine Below.setCell ?_ (by simp <;> omega) _ | refine Below.alloc ?_ (by simp <;> omega) _)

set_option maxHeartbeats 400000 in
theorem take_tc_mid (up : Bool) (cap : Int) (ts tc : ByteArray) (lost : Int) (n : Int) (w : World) (h3 : ts.size ≤ 65536) (h4 : tc.size ≤ 65536) (h6 : 0 ≤ n) (h7 : n ≤ tc.size) :
    Calls Try.prog 18 #[.agg #[.bool up, .int .i64 cap, .string ts, .string tc, .int .i64 lost], .bool false, .int .i64 n] w fun e w' => e = .returned (.tuple #[.agg #[.bool up, .int .i64 cap, .string ts, .string (tc.extract n.toNat tc.size), .int .i64 lost], .string (tc.extract 0 n.toNat)]) ∧ Below w.heap.size w w' := by
  go_enter Try.func18, Try.ntmps18
  go_wp2_with (go_at_call 24; refine (buffer_calls _ _ _).mono ?_; rintro e w' ⟨rfl, rfl⟩)
  all_goals refine bodyPost_ret (v := .tuple #[.agg #[.bool up, .int .i64 cap, .string ts, .string (tc.extract n.toNat tc.size), .int .i64 lost], .string (tc.extract 0 n.toNat)]) (by simp [results, Try.results18, go_sem]) rfl ⟨rfl, ?_⟩
  all_goals repeat (first | exact Below.refl _ _ | refine Below.drew ?_ | refine below_drewN ?_ _ | refine Below.setCell ?_ (by simp <;> omega) _ | refine Below.alloc ?_ (by simp <;> omega) _)

set_option maxHeartbeats 400000 in
theorem take_tc_hi (up : Bool) (cap : Int) (ts tc : ByteArray) (lost : Int) (n : Int) (w : World) (h3 : ts.size ≤ 65536) (h4 : tc.size ≤ 65536) (h6 : 0 ≤ n) (h7 : (tc.size : Int) < n) :
    Calls Try.prog 18 #[.agg #[.bool up, .int .i64 cap, .string ts, .string tc, .int .i64 lost], .bool false, .int .i64 n] w fun e w' => e = .returned (.tuple #[.agg #[.bool up, .int .i64 cap, .string ts, .string (tc.extract tc.size tc.size), .int .i64 lost], .string (tc.extract 0 tc.size)]) ∧ Below w.heap.size w w' := by
  go_enter Try.func18, Try.ntmps18
  go_wp2_with (go_at_call 24; refine (buffer_calls _ _ _).mono ?_; rintro e w' ⟨rfl, rfl⟩)
  all_goals refine bodyPost_ret (v := .tuple #[.agg #[.bool up, .int .i64 cap, .string ts, .string (tc.extract tc.size tc.size), .int .i64 lost], .string (tc.extract 0 tc.size)]) (by simp [results, Try.results18, go_sem]) rfl ⟨rfl, ?_⟩
  all_goals repeat (first | exact Below.refl _ _ | refine Below.drew ?_ | refine below_drewN ?_ _ | refine Below.setCell ?_ (by simp <;> omega) _ | refine Below.alloc ?_ (by simp <;> omega) _)

theorem take_calls (up : Bool) (cap : Int) (ts tc : ByteArray) (lost : Int) (server : Bool) (n : Int) (w : World) (h3 : ts.size ≤ 65536) (h4 : tc.size ≤ 65536) :
    Calls Try.prog 18 #[.agg #[.bool up, .int .i64 cap, .string ts, .string tc, .int .i64 lost], .bool server, .int .i64 n] w fun e w' =>
      e = .returned (.tuple #[.agg #[.bool (takeL ⟨up, cap, ts, tc, lost⟩ server n).1.up, .int .i64 (takeL ⟨up, cap, ts, tc, lost⟩ server n).1.cap, .string (takeL ⟨up, cap, ts, tc, lost⟩ server n).1.ts, .string (takeL ⟨up, cap, ts, tc, lost⟩ server n).1.tc, .int .i64 (takeL ⟨up, cap, ts, tc, lost⟩ server n).1.lost], .string (takeL ⟨up, cap, ts, tc, lost⟩ server n).2]) ∧ Below w.heap.size w w' := by
  cases server
  · rw [show takeL ⟨up, cap, ts, tc, lost⟩ false n = (⟨up, cap, ts, tc.extract (takeN n tc.size) tc.size, lost⟩, tc.extract 0 (takeN n tc.size)) from by simp [takeL]]
    rcases (by omega : n < 0 ∨ (0 ≤ n ∧ n ≤ tc.size) ∨ (0 ≤ n ∧ (tc.size : Int) < n)) with h | ⟨h, h'⟩ | ⟨h, h'⟩
    · rw [takeN_lo _ _ h]; exact take_tc_lo up cap ts tc lost n w h3 h4 h
    · rw [takeN_mid _ _ h h']; exact take_tc_mid up cap ts tc lost n w h3 h4 h h'
    · rw [takeN_hi _ _ h h']; exact take_tc_hi up cap ts tc lost n w h3 h4 h h'
  · rw [show takeL ⟨up, cap, ts, tc, lost⟩ true n = (⟨up, cap, ts.extract (takeN n ts.size) ts.size, tc, lost⟩, ts.extract 0 (takeN n ts.size)) from by simp [takeL]]
    rcases (by omega : n < 0 ∨ (0 ≤ n ∧ n ≤ ts.size) ∨ (0 ≤ n ∧ (ts.size : Int) < n)) with h | ⟨h, h'⟩ | ⟨h, h'⟩
    · rw [takeN_lo _ _ h]; exact take_ts_lo up cap ts tc lost n w h3 h4 h
    · rw [takeN_mid _ _ h h']; exact take_ts_mid up cap ts tc lost n w h3 h4 h h'
    · rw [takeN_hi _ _ h h']; exact take_ts_hi up cap ts tc lost n w h3 h4 h h'

set_option maxHeartbeats 400000 in
theorem refTake_ts_lo (up : Bool) (cap : Int) (ts tc : ByteArray) (lost : Int) (n : Int) (w : World) (h3 : ts.size ≤ 65536) (h4 : tc.size ≤ 65536) (h6 : n < 0) :
    Calls Try.prog 19 #[.agg #[.bool up, .int .i64 cap, .string ts, .string tc, .int .i64 lost], .bool true, .int .i64 n] w fun e w' => e = .returned (.tuple #[.agg #[.bool up, .int .i64 cap, .string (ts.extract 0 ts.size), .string tc, .int .i64 lost], .string (ts.extract 0 0)]) ∧ Below w.heap.size w w' := by
  go_enter Try.func19, Try.ntmps19
  go_wp2_with fail
  go_region
  all_goals go_wp2
  all_goals refine bodyPost_ret (v := .tuple #[.agg #[.bool up, .int .i64 cap, .string (ts.extract 0 ts.size), .string tc, .int .i64 lost], .string (ts.extract 0 0)]) (by simp [results, Try.results19, go_sem]) rfl ⟨rfl, ?_⟩
  all_goals repeat (first | exact Below.refl _ _ | refine Below.drew ?_ | refine below_drewN ?_ _ | refine Below.setCell ?_ (by simp <;> omega) _ | refine Below.alloc ?_ (by simp <;> omega) _)

set_option maxHeartbeats 400000 in
theorem refTake_ts_mid (up : Bool) (cap : Int) (ts tc : ByteArray) (lost : Int) (n : Int) (w : World) (h3 : ts.size ≤ 65536) (h4 : tc.size ≤ 65536) (h6 : 0 ≤ n) (h7 : n ≤ ts.size) :
    Calls Try.prog 19 #[.agg #[.bool up, .int .i64 cap, .string ts, .string tc, .int .i64 lost], .bool true, .int .i64 n] w fun e w' => e = .returned (.tuple #[.agg #[.bool up, .int .i64 cap, .string (ts.extract n.toNat ts.size), .string tc, .int .i64 lost], .string (ts.extract 0 n.toNat)]) ∧ Below w.heap.size w w' := by
  go_enter Try.func19, Try.ntmps19
  go_wp2_with fail
  go_region
  all_goals go_wp2
  all_goals refine bodyPost_ret (v := .tuple #[.agg #[.bool up, .int .i64 cap, .string (ts.extract n.toNat ts.size), .string tc, .int .i64 lost], .string (ts.extract 0 n.toNat)]) (by simp [results, Try.results19, go_sem]) rfl ⟨rfl, ?_⟩
  all_goals repeat (first | exact Below.refl _ _ | refine Below.drew ?_ | refine below_drewN ?_ _ | refine Below.setCell ?_ (by simp <;> omega) _ | refine Below.alloc ?_ (by simp <;> omega) _)

set_option maxHeartbeats 400000 in
theorem refTake_ts_hi (up : Bool) (cap : Int) (ts tc : ByteArray) (lost : Int) (n : Int) (w : World) (h3 : ts.size ≤ 65536) (h4 : tc.size ≤ 65536) (h6 : 0 ≤ n) (h7 : (ts.size : Int) < n) :
    Calls Try.prog 19 #[.agg #[.bool up, .int .i64 cap, .string ts, .string tc, .int .i64 lost], .bool true, .int .i64 n] w fun e w' => e = .returned (.tuple #[.agg #[.bool up, .int .i64 cap, .string (ts.extract ts.size ts.size), .string tc, .int .i64 lost], .string (ts.extract 0 ts.size)]) ∧ Below w.heap.size w w' := by
  go_enter Try.func19, Try.ntmps19
  go_wp2_with fail
  go_region
  all_goals go_wp2
  all_goals refine bodyPost_ret (v := .tuple #[.agg #[.bool up, .int .i64 cap, .string (ts.extract ts.size ts.size), .string tc, .int .i64 lost], .string (ts.extract 0 ts.size)]) (by simp [results, Try.results19, go_sem]) rfl ⟨rfl, ?_⟩
  all_goals repeat (first | exact Below.refl _ _ | refine Below.drew ?_ | refine below_drewN ?_ _ | refine Below.setCell ?_ (by simp <;> omega) _ | refine Below.alloc ?_ (by simp <;> omega) _)

set_option maxHeartbeats 400000 in
theorem refTake_tc_lo (up : Bool) (cap : Int) (ts tc : ByteArray) (lost : Int) (n : Int) (w : World) (h3 : ts.size ≤ 65536) (h4 : tc.size ≤ 65536) (h6 : n < 0) :
    Calls Try.prog 19 #[.agg #[.bool up, .int .i64 cap, .string ts, .string tc, .int .i64 lost], .bool false, .int .i64 n] w fun e w' => e = .returned (.tuple #[.agg #[.bool up, .int .i64 cap, .string ts, .string (tc.extract 0 tc.size), .int .i64 lost], .string (tc.extract 0 0)]) ∧ Below w.heap.size w w' := by
  go_enter Try.func19, Try.ntmps19
  go_wp2_with fail
  go_region
  all_goals go_wp2
  all_goals refine bodyPost_ret (v := .tuple #[.agg #[.bool up, .int .i64 cap, .string ts, .string (tc.extract 0 tc.size), .int .i64 lost], .string (tc.extract 0 0)]) (by simp [results, Try.results19, go_sem]) rfl ⟨rfl, ?_⟩
  all_goals repeat (first | exact Below.refl _ _ | refine Below.drew ?_ | refine below_drewN ?_ _ | refine Below.setCell ?_ (by simp <;> omega) _ | refine Below.alloc ?_ (by simp <;> omega) _)

set_option maxHeartbeats 400000 in
theorem refTake_tc_mid (up : Bool) (cap : Int) (ts tc : ByteArray) (lost : Int) (n : Int) (w : World) (h3 : ts.size ≤ 65536) (h4 : tc.size ≤ 65536) (h6 : 0 ≤ n) (h7 : n ≤ tc.size) :
    Calls Try.prog 19 #[.agg #[.bool up, .int .i64 cap, .string ts, .string tc, .int .i64 lost], .bool false, .int .i64 n] w fun e w' => e = .returned (.tuple #[.agg #[.bool up, .int .i64 cap, .string ts, .string (tc.extract n.toNat tc.size), .int .i64 lost], .string (tc.extract 0 n.toNat)]) ∧ Below w.heap.size w w' := by
  go_enter Try.func19, Try.ntmps19
  go_wp2_with fail
  go_region
  all_goals go_wp2
  all_goals refine bodyPost_ret (v := .tuple #[.agg #[.bool up, .int .i64 cap, .string ts, .string (tc.extract n.toNat tc.size), .int .i64 lost], .string (tc.extract 0 n.toNat)]) (by simp [results, Try.results19, go_sem]) rfl ⟨rfl, ?_⟩
  all_goals repeat (first | exact Below.refl _ _ | refine Below.drew ?_ | refine below_drewN ?_ _ | refine Below.setCell ?_ (by simp <;> omega) _ | refine Below.alloc ?_ (by simp <;> omega) _)

set_option maxHeartbeats 400000 in
theorem refTake_tc_hi (up : Bool) (cap : Int) (ts tc : ByteArray) (lost : Int) (n : Int) (w : World) (h3 : ts.size ≤ 65536) (h4 : tc.size ≤ 65536) (h6 : 0 ≤ n) (h7 : (tc.size : Int) < n) :
    Calls Try.prog 19 #[.agg #[.bool up, .int .i64 cap, .string ts, .string tc, .int .i64 lost], .bool false, .int .i64 n] w fun e w' => e = .returned (.tuple #[.agg #[.bool up, .int .i64 cap, .string ts, .string (tc.extract tc.size tc.size), .int .i64 lost], .string (tc.extract 0 tc.size)]) ∧ Below w.heap.size w w' := by
  go_enter Try.func19, Try.ntmps19
  go_wp2_with fail
  go_region
  all_goals go_wp2
  all_goals refine bodyPost_ret (v := .tuple #[.agg #[.bool up, .int .i64 cap, .string ts, .string (tc.extract tc.size tc.size), .int .i64 lost], .string (tc.extract 0 tc.size)]) (by simp [results, Try.results19, go_sem]) rfl ⟨rfl, ?_⟩
  all_goals repeat (first | exact Below.refl _ _ | refine Below.drew ?_ | refine below_drewN ?_ _ | refine Below.setCell ?_ (by simp <;> omega) _ | refine Below.alloc ?_ (by simp <;> omega) _)

theorem refTake_calls (up : Bool) (cap : Int) (ts tc : ByteArray) (lost : Int) (server : Bool) (n : Int) (w : World) (h3 : ts.size ≤ 65536) (h4 : tc.size ≤ 65536) :
    Calls Try.prog 19 #[.agg #[.bool up, .int .i64 cap, .string ts, .string tc, .int .i64 lost], .bool server, .int .i64 n] w fun e w' =>
      e = .returned (.tuple #[.agg #[.bool (takeL ⟨up, cap, ts, tc, lost⟩ server n).1.up, .int .i64 (takeL ⟨up, cap, ts, tc, lost⟩ server n).1.cap, .string (takeL ⟨up, cap, ts, tc, lost⟩ server n).1.ts, .string (takeL ⟨up, cap, ts, tc, lost⟩ server n).1.tc, .int .i64 (takeL ⟨up, cap, ts, tc, lost⟩ server n).1.lost], .string (takeL ⟨up, cap, ts, tc, lost⟩ server n).2]) ∧ Below w.heap.size w w' := by
  cases server
  · rw [show takeL ⟨up, cap, ts, tc, lost⟩ false n = (⟨up, cap, ts, tc.extract (takeN n tc.size) tc.size, lost⟩, tc.extract 0 (takeN n tc.size)) from by simp [takeL]]
    rcases (by omega : n < 0 ∨ (0 ≤ n ∧ n ≤ tc.size) ∨ (0 ≤ n ∧ (tc.size : Int) < n)) with h | ⟨h, h'⟩ | ⟨h, h'⟩
    · rw [takeN_lo _ _ h]; exact refTake_tc_lo up cap ts tc lost n w h3 h4 h
    · rw [takeN_mid _ _ h h']; exact refTake_tc_mid up cap ts tc lost n w h3 h4 h h'
    · rw [takeN_hi _ _ h h']; exact refTake_tc_hi up cap ts tc lost n w h3 h4 h h'
  · rw [show takeL ⟨up, cap, ts, tc, lost⟩ true n = (⟨up, cap, ts.extract (takeN n ts.size) ts.size, tc, lost⟩, ts.extract 0 (takeN n ts.size)) from by simp [takeL]]
    rcases (by omega : n < 0 ∨ (0 ≤ n ∧ n ≤ ts.size) ∨ (0 ≤ n ∧ (ts.size : Int) < n)) with h | ⟨h, h'⟩ | ⟨h, h'⟩
    · rw [takeN_lo _ _ h]; exact refTake_ts_lo up cap ts tc lost n w h3 h4 h
    · rw [takeN_mid _ _ h h']; exact refTake_ts_mid up cap ts tc lost n w h3 h4 h h'
    · rw [takeN_hi _ _ h h']; exact refTake_ts_hi up cap ts tc lost n w h3 h4 h h'

theorem send_calls (up : Bool) (cap : Int) (ts tc : ByteArray) (lost : Int) (server : Bool) (s : ByteArray) (w : World) (h1 : 1 ≤ cap) (h2 : cap ≤ 65536) (h3 : (ts.size : Int) ≤ cap) (h4 : (tc.size : Int) ≤ cap) (h5 : s.size ≤ 70000) :
    Calls Try.prog 16 #[.agg #[.bool up, .int .i64 cap, .string ts, .string tc, .int .i64 lost], .bool server, .string s] w fun e w' =>
      e = .returned (.tuple #[.agg #[.bool (sendL ⟨up, cap, ts, tc, lost⟩ server s).1.up, .int .i64 (sendL ⟨up, cap, ts, tc, lost⟩ server s).1.cap, .string (sendL ⟨up, cap, ts, tc, lost⟩ server s).1.ts, .string (sendL ⟨up, cap, ts, tc, lost⟩ server s).1.tc, .int .i64 (sendL ⟨up, cap, ts, tc, lost⟩ server s).1.lost], .int .i64 (sendL ⟨up, cap, ts, tc, lost⟩ server s).2]) ∧ Below w.heap.size w w' := by
  cases up
  · rw [sendL_down]; exact send_down cap ts tc lost server s w h1 h2 (by omega) (by omega) h5
  · cases server
    · by_cases h : cap < (tc.size + s.size : Int)
      · rw [sendL_full' cap ts tc lost s h]; exact send_fullc cap ts tc lost s w h1 h2 (by omega) (by omega) h5 h
      · rw [sendL_fit' cap ts tc lost s (by omega)]; exact send_fitc cap ts tc lost s w h1 h2 (by omega) (by omega) h5 (by omega)
    · by_cases h : cap < (ts.size + s.size : Int)
      · rw [sendL_full cap ts tc lost s h]; exact send_full cap ts tc lost s w h1 h2 (by omega) (by omega) h5 h
      · rw [sendL_fit cap ts tc lost s (by omega)]; exact send_fit cap ts tc lost s w h1 h2 (by omega) (by omega) h5 (by omega)

theorem refSend_calls (up : Bool) (cap : Int) (ts tc : ByteArray) (lost : Int) (server : Bool) (s : ByteArray) (w : World) (h1 : 1 ≤ cap) (h2 : cap ≤ 65536) (h3 : (ts.size : Int) ≤ cap) (h4 : (tc.size : Int) ≤ cap) (h5 : s.size ≤ 70000) :
    Calls Try.prog 17 #[.agg #[.bool up, .int .i64 cap, .string ts, .string tc, .int .i64 lost], .bool server, .string s] w fun e w' =>
      e = .returned (.tuple #[.agg #[.bool (sendL ⟨up, cap, ts, tc, lost⟩ server s).1.up, .int .i64 (sendL ⟨up, cap, ts, tc, lost⟩ server s).1.cap, .string (sendL ⟨up, cap, ts, tc, lost⟩ server s).1.ts, .string (sendL ⟨up, cap, ts, tc, lost⟩ server s).1.tc, .int .i64 (sendL ⟨up, cap, ts, tc, lost⟩ server s).1.lost], .int .i64 (sendL ⟨up, cap, ts, tc, lost⟩ server s).2]) ∧ Below w.heap.size w w' := by
  cases up
  · rw [sendL_down]; exact refSend_down cap ts tc lost server s w h1 h2 (by omega) (by omega) h5
  · cases server
    · by_cases h : cap < (tc.size + s.size : Int)
      · rw [sendL_full' cap ts tc lost s h]; exact refSend_fullc cap ts tc lost s w h1 h2 (by omega) (by omega) h5 h (by omega) (by omega)
      · rw [sendL_fit' cap ts tc lost s (by omega)]; exact refSend_fitc cap ts tc lost s w h1 h2 (by omega) (by omega) h5 (by omega) (by omega) (by omega)
    · by_cases h : cap < (ts.size + s.size : Int)
      · rw [sendL_full cap ts tc lost s h]; exact refSend_full cap ts tc lost s w h1 h2 (by omega) (by omega) h5 h (by omega) (by omega)
      · rw [sendL_fit cap ts tc lost s (by omega)]; exact refSend_fit cap ts tc lost s w h1 h2 (by omega) (by omega) h5 (by omega) (by omega) (by omega)

theorem drop_down (cap : Int) (ts tc : ByteArray) (lost : Int) (w : World) :
    Calls Try.prog 20 #[.agg #[.bool false, .int .i64 cap, .string ts, .string tc, .int .i64 lost]] w fun e w' => e = .returned (.agg #[.bool false, .int .i64 cap, .string ts, .string tc, .int .i64 lost]) ∧ Below w.heap.size w w' := by
  go_enter Try.func20, Try.ntmps20
  go_wp2
  refine bodyPost_ret (v := .agg #[.bool false, .int .i64 cap, .string ts, .string tc, .int .i64 lost]) (by simp [results, Try.results20, go_sem]) rfl ⟨rfl, ?_⟩
  repeat (first | exact Below.refl _ _ | refine Below.drew ?_ | refine below_drewN ?_ _ | refine Below.setCell ?_ (by simp <;> omega) _ | refine Below.alloc ?_ (by simp <;> omega) _)

set_option maxHeartbeats 400000 in
theorem drop_lo (cap : Int) (ts tc : ByteArray) (lost : Int) (w : World) (h3 : ts.size ≤ 65536) (h4 : tc.size ≤ 65536) (h5 : 0 ≤ lost) (h6 : lost ≤ 9007199254740991) (h7 : lost + ts.size + tc.size ≤ 9007199254740991) :
    Calls Try.prog 20 #[.agg #[.bool true, .int .i64 cap, .string ts, .string tc, .int .i64 lost]] w fun e w' => e = .returned (.agg #[.bool false, .int .i64 cap, .string ⟨#[]⟩, .string ⟨#[]⟩, .int .i64 (lost + ts.size + tc.size)]) ∧ Below w.heap.size w w' := by
  go_enter Try.func20, Try.ntmps20
  go_wp2
  all_goals refine bodyPost_ret (v := .agg #[.bool false, .int .i64 cap, .string ⟨#[]⟩, .string ⟨#[]⟩, .int .i64 (lost + ts.size + tc.size)]) (by simp [results, Try.results20, go_sem] <;> omega) rfl ⟨rfl, ?_⟩
  all_goals repeat (first | exact Below.refl _ _ | refine Below.drew ?_ | refine below_drewN ?_ _ | refine Below.setCell ?_ (by simp <;> omega) _ | refine Below.alloc ?_ (by simp <;> omega) _)

set_option maxHeartbeats 400000 in
theorem drop_hi (cap : Int) (ts tc : ByteArray) (lost : Int) (w : World) (h3 : ts.size ≤ 65536) (h4 : tc.size ≤ 65536) (h5 : 0 ≤ lost) (h6 : lost ≤ 9007199254740991) (h7 : 9007199254740991 < lost + ts.size + tc.size) :
    Calls Try.prog 20 #[.agg #[.bool true, .int .i64 cap, .string ts, .string tc, .int .i64 lost]] w fun e w' => e = .returned (.agg #[.bool false, .int .i64 cap, .string ⟨#[]⟩, .string ⟨#[]⟩, .int .i64 9007199254740991]) ∧ Below w.heap.size w w' := by
  go_enter Try.func20, Try.ntmps20
  go_wp2
  all_goals refine bodyPost_ret (v := .agg #[.bool false, .int .i64 cap, .string ⟨#[]⟩, .string ⟨#[]⟩, .int .i64 9007199254740991]) (by simp [results, Try.results20, go_sem] <;> omega) rfl ⟨rfl, ?_⟩
  all_goals repeat (first | exact Below.refl _ _ | refine Below.drew ?_ | refine below_drewN ?_ _ | refine Below.setCell ?_ (by simp <;> omega) _ | refine Below.alloc ?_ (by simp <;> omega) _)

theorem drop_calls (up : Bool) (cap : Int) (ts tc : ByteArray) (lost : Int) (w : World) (h3 : ts.size ≤ 65536) (h4 : tc.size ≤ 65536) (h5 : 0 ≤ lost) (h6 : lost ≤ 9007199254740991) :
    Calls Try.prog 20 #[.agg #[.bool up, .int .i64 cap, .string ts, .string tc, .int .i64 lost]] w fun e w' => e = .returned (.agg #[.bool (dropL ⟨up, cap, ts, tc, lost⟩).up, .int .i64 (dropL ⟨up, cap, ts, tc, lost⟩).cap, .string (dropL ⟨up, cap, ts, tc, lost⟩).ts, .string (dropL ⟨up, cap, ts, tc, lost⟩).tc, .int .i64 (dropL ⟨up, cap, ts, tc, lost⟩).lost]) ∧ Below w.heap.size w w' := by
  cases up
  · exact drop_down cap ts tc lost w
  · by_cases h : lost + ts.size + tc.size ≤ 9007199254740991
    · have e : dropL ⟨true, cap, ts, tc, lost⟩ = ⟨false, cap, ⟨#[]⟩, ⟨#[]⟩, lost + ts.size + tc.size⟩ := by simp [dropL]; omega
      rw [e]; exact drop_lo cap ts tc lost w h3 h4 h5 h6 h
    · have e : dropL ⟨true, cap, ts, tc, lost⟩ = ⟨false, cap, ⟨#[]⟩, ⟨#[]⟩, 9007199254740991⟩ := by simp [dropL]; omega
      rw [e]; exact drop_hi cap ts tc lost w h3 h4 h5 h6 (by omega)

theorem refDrop_down (cap : Int) (ts tc : ByteArray) (lost : Int) (w : World) :
    Calls Try.prog 22 #[.agg #[.bool false, .int .i64 cap, .string ts, .string tc, .int .i64 lost]] w fun e w' => e = .returned (.agg #[.bool false, .int .i64 cap, .string ts, .string tc, .int .i64 lost]) ∧ Below w.heap.size w w' := by
  go_enter Try.func22, Try.ntmps22
  go_wp2
  refine bodyPost_ret (v := .agg #[.bool false, .int .i64 cap, .string ts, .string tc, .int .i64 lost]) (by simp [results, Try.results22, go_sem]) rfl ⟨rfl, ?_⟩
  repeat (first | exact Below.refl _ _ | refine Below.drew ?_ | refine below_drewN ?_ _ | refine Below.setCell ?_ (by simp <;> omega) _ | refine Below.alloc ?_ (by simp <;> omega) _)

set_option maxHeartbeats 400000 in
theorem refDrop_lo (cap : Int) (ts tc : ByteArray) (lost : Int) (w : World) (h3 : ts.size ≤ 65536) (h4 : tc.size ≤ 65536) (h5 : 0 ≤ lost) (h6 : lost ≤ 9007199254740991) (h7 : lost + ts.size + tc.size ≤ 9007199254740991) :
    Calls Try.prog 22 #[.agg #[.bool true, .int .i64 cap, .string ts, .string tc, .int .i64 lost]] w fun e w' => e = .returned (.agg #[.bool false, .int .i64 cap, .string ⟨#[]⟩, .string ⟨#[]⟩, .int .i64 (lost + ts.size + tc.size)]) ∧ Below w.heap.size w w' := by
  go_enter Try.func22, Try.ntmps22
  go_wp2
  all_goals refine bodyPost_ret (v := .agg #[.bool false, .int .i64 cap, .string ⟨#[]⟩, .string ⟨#[]⟩, .int .i64 (lost + ts.size + tc.size)]) (by simp [results, Try.results22, go_sem] <;> omega) rfl ⟨rfl, ?_⟩
  all_goals repeat (first | exact Below.refl _ _ | refine Below.drew ?_ | refine below_drewN ?_ _ | refine Below.setCell ?_ (by simp <;> omega) _ | refine Below.alloc ?_ (by simp <;> omega) _)

set_option maxHeartbeats 400000 in
theorem refDrop_hi (cap : Int) (ts tc : ByteArray) (lost : Int) (w : World) (h3 : ts.size ≤ 65536) (h4 : tc.size ≤ 65536) (h5 : 0 ≤ lost) (h6 : lost ≤ 9007199254740991) (h7 : 9007199254740991 < lost + ts.size + tc.size) :
    Calls Try.prog 22 #[.agg #[.bool true, .int .i64 cap, .string ts, .string tc, .int .i64 lost]] w fun e w' => e = .returned (.agg #[.bool false, .int .i64 cap, .string ⟨#[]⟩, .string ⟨#[]⟩, .int .i64 9007199254740991]) ∧ Below w.heap.size w w' := by
  go_enter Try.func22, Try.ntmps22
  go_wp2
  all_goals refine bodyPost_ret (v := .agg #[.bool false, .int .i64 cap, .string ⟨#[]⟩, .string ⟨#[]⟩, .int .i64 9007199254740991]) (by simp [results, Try.results22, go_sem] <;> omega) rfl ⟨rfl, ?_⟩
  all_goals repeat (first | exact Below.refl _ _ | refine Below.drew ?_ | refine below_drewN ?_ _ | refine Below.setCell ?_ (by simp <;> omega) _ | refine Below.alloc ?_ (by simp <;> omega) _)

theorem refDrop_calls (up : Bool) (cap : Int) (ts tc : ByteArray) (lost : Int) (w : World) (h3 : ts.size ≤ 65536) (h4 : tc.size ≤ 65536) (h5 : 0 ≤ lost) (h6 : lost ≤ 9007199254740991) :
    Calls Try.prog 22 #[.agg #[.bool up, .int .i64 cap, .string ts, .string tc, .int .i64 lost]] w fun e w' => e = .returned (.agg #[.bool (dropL ⟨up, cap, ts, tc, lost⟩).up, .int .i64 (dropL ⟨up, cap, ts, tc, lost⟩).cap, .string (dropL ⟨up, cap, ts, tc, lost⟩).ts, .string (dropL ⟨up, cap, ts, tc, lost⟩).tc, .int .i64 (dropL ⟨up, cap, ts, tc, lost⟩).lost]) ∧ Below w.heap.size w w' := by
  cases up
  · exact refDrop_down cap ts tc lost w
  · by_cases h : lost + ts.size + tc.size ≤ 9007199254740991
    · have e : dropL ⟨true, cap, ts, tc, lost⟩ = ⟨false, cap, ⟨#[]⟩, ⟨#[]⟩, lost + ts.size + tc.size⟩ := by simp [dropL]; omega
      rw [e]; exact refDrop_lo cap ts tc lost w h3 h4 h5 h6 h
    · have e : dropL ⟨true, cap, ts, tc, lost⟩ = ⟨false, cap, ⟨#[]⟩, ⟨#[]⟩, 9007199254740991⟩ := by simp [dropL]; omega
      rw [e]; exact refDrop_hi cap ts tc lost w h3 h4 h5 h6 (by omega)

theorem restore_calls (up : Bool) (cap : Int) (ts tc : ByteArray) (lost : Int) (w : World) :
    Calls Try.prog 21 #[.agg #[.bool up, .int .i64 cap, .string ts, .string tc, .int .i64 lost]] w fun e w' => e = .returned (.agg #[.bool true, .int .i64 cap, .string ts, .string tc, .int .i64 lost]) ∧ Below w.heap.size w w' := by
  go_enter Try.func21, Try.ntmps21
  go_wp2
  refine bodyPost_ret (v := .agg #[.bool true, .int .i64 cap, .string ts, .string tc, .int .i64 lost]) (by simp [results, Try.results21, go_sem]) rfl ⟨rfl, ?_⟩
  repeat (first | exact Below.refl _ _ | refine Below.drew ?_ | refine below_drewN ?_ _ | refine Below.setCell ?_ (by simp <;> omega) _ | refine Below.alloc ?_ (by simp <;> omega) _)

theorem refRestore_calls (up : Bool) (cap : Int) (ts tc : ByteArray) (lost : Int) (w : World) :
    Calls Try.prog 23 #[.agg #[.bool up, .int .i64 cap, .string ts, .string tc, .int .i64 lost]] w fun e w' => e = .returned (.agg #[.bool true, .int .i64 cap, .string ts, .string tc, .int .i64 lost]) ∧ Below w.heap.size w w' := by
  go_enter Try.func23, Try.ntmps23
  go_wp2
  refine bodyPost_ret (v := .agg #[.bool true, .int .i64 cap, .string ts, .string tc, .int .i64 lost]) (by simp [results, Try.results23, go_sem]) rfl ⟨rfl, ?_⟩
  repeat (first | exact Below.refl _ _ | refine Below.drew ?_ | refine below_drewN ?_ _ | refine Below.setCell ?_ (by simp <;> omega) _ | refine Below.alloc ?_ (by simp <;> omega) _)

end Go.Proofs.Ytchpbfepjlncpaa
