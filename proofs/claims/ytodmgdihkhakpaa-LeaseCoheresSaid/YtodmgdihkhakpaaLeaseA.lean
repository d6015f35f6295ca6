/- This text gives the plain lease and the walks of the small functions of package lease and of its reference. Conditions: those that each theorem names. -/
import Derived.Test.YtodmgdihkhakpaaMix
namespace Go.Proofs.Ytodmgdihkhakpaa
open Go.ChangeShapes Go.WideShapes Go.ChangeAt Go.RowKit
set_option linter.unusedVariables false

structure Le where
  conn : Int
  id : Int
  kind : Int
  til : Int

instance : Inhabited Le := ⟨⟨0, 0, 0, 0⟩⟩

def Le.enc (x : Le) : List Value := [.int .i64 x.conn, .int .i64 x.id, .int .i64 x.kind, .int .i64 x.til]
def Le.val (x : Le) : Value := .agg #[.int .i64 x.conn, .int .i64 x.id, .int .i64 x.kind, .int .i64 x.til]
theorem ret_bool {a b : Bool} (h : a = b) : Ending.returned (.bool a) = .returned (.bool b) := by rw [h]
theorem ret_int {k : IntKind} {a b : Int} (h : a = b) : Ending.returned (.int k a) = .returned (.int k b) := by rw [h]

def inB (n lo hi : Int) : Bool := decide (lo ≤ n ∧ n ≤ hi)
def kindB (k : Int) : Bool := decide (k = 1 ∨ k = 2)
def beforeB (a b : Le) : Bool := decide (a.id < b.id ∨ (a.id = b.id ∧ a.conn < b.conn))
def conflictB (a b : Le) : Bool := decide (a.id = b.id ∧ a.conn ≠ b.conn ∧ (a.kind = 2 ∨ b.kind = 2))
def cmpI (a b : Int) : Int := if a < b then -1 else if b < a then 1 else 0
def orderI (a b : Le) : Int := if cmpI a.id b.id ≠ 0 then cmpI a.id b.id else cmpI a.conn b.conn

set_option maxHeartbeats 400000 in
theorem within_calls (n lo hi : Int) (w : World)  : Calls Try.prog 27 #[.int .i64 n, .int .i64 lo, .int .i64 hi] w fun e w' => e = .returned (.bool (inB n lo hi)) ∧ Below w.heap.size w w' := by
  go_enter Try.func27, Try.ntmps27
  go_wp2
  all_goals go_ret
  all_goals refine ⟨ret_bool (by first | (simp [inB, *]; done) | (rw [Bool.eq_iff_iff]; simp [inB, *]; done) | (rw [Bool.eq_iff_iff]; simp [inB]; omega) | (rw [Bool.eq_iff_iff]; simp [inB, *]; omega)), ?_⟩
  all_goals try (
    repeat (first | (with_reducible exact Below.refl _ _) | (with_reducible assumption) | (with_reducible refine below_to_plus ?_ ?_ _) | (with_reducible refine below_holds ?_ ?_ _ _) | (with_reducible refine Below.alloc ?_ ?_ _) | (with_reducible refine Below.drew ?_) | (with_reducible refine below_drewN ?_ _) | (with_reducible refine Below.setCell ?_ ?_ _))
    all_goals first | omega | (simp; done) | (simp [go_sem]; done) | (simp [go_sem]; omega))

set_option maxHeartbeats 400000 in
theorem in_calls (n lo hi : Int) (w : World)  : Calls Try.prog 30 #[.int .i64 n, .int .i64 lo, .int .i64 hi] w fun e w' => e = .returned (.bool (inB n lo hi)) ∧ Below w.heap.size w w' := by
  go_enter Try.func30, Try.ntmps30
  go_wp2
  all_goals go_ret
  all_goals refine ⟨ret_bool (by first | (simp [inB, *]; done) | (rw [Bool.eq_iff_iff]; simp [inB, *]; done) | (rw [Bool.eq_iff_iff]; simp [inB]; omega) | (rw [Bool.eq_iff_iff]; simp [inB, *]; omega)), ?_⟩
  all_goals try (
    repeat (first | (with_reducible exact Below.refl _ _) | (with_reducible assumption) | (with_reducible refine below_to_plus ?_ ?_ _) | (with_reducible refine below_holds ?_ ?_ _ _) | (with_reducible refine Below.alloc ?_ ?_ _) | (with_reducible refine Below.drew ?_) | (with_reducible refine below_drewN ?_ _) | (with_reducible refine Below.setCell ?_ ?_ _))
    all_goals first | omega | (simp; done) | (simp [go_sem]; done) | (simp [go_sem]; omega))

set_option maxHeartbeats 400000 in
theorem isKind_calls (k : Int) (w : World)  : Calls Try.prog 28 #[.int .i64 k] w fun e w' => e = .returned (.bool (kindB k)) ∧ Below w.heap.size w w' := by
  go_enter Try.func28, Try.ntmps28
  go_wp2
  all_goals go_ret
  all_goals refine ⟨ret_bool (by first | (simp [kindB, *]; done) | (rw [Bool.eq_iff_iff]; simp [kindB, *]; done) | (rw [Bool.eq_iff_iff]; simp [kindB]; omega) | (rw [Bool.eq_iff_iff]; simp [kindB, *]; omega)), ?_⟩
  all_goals try (
    repeat (first | (with_reducible exact Below.refl _ _) | (with_reducible assumption) | (with_reducible refine below_to_plus ?_ ?_ _) | (with_reducible refine below_holds ?_ ?_ _ _) | (with_reducible refine Below.alloc ?_ ?_ _) | (with_reducible refine Below.drew ?_) | (with_reducible refine below_drewN ?_ _) | (with_reducible refine Below.setCell ?_ ?_ _))
    all_goals first | omega | (simp; done) | (simp [go_sem]; done) | (simp [go_sem]; omega))

set_option maxHeartbeats 400000 in
theorem kindly_calls (k : Int) (w : World)  : Calls Try.prog 31 #[.int .i64 k] w fun e w' => e = .returned (.bool (kindB k)) ∧ Below w.heap.size w w' := by
  go_enter Try.func31, Try.ntmps31
  go_wp2
  all_goals go_ret
  all_goals refine ⟨ret_bool (by first | (simp [kindB, *]; done) | (rw [Bool.eq_iff_iff]; simp [kindB, *]; done) | (rw [Bool.eq_iff_iff]; simp [kindB]; omega) | (rw [Bool.eq_iff_iff]; simp [kindB, *]; omega)), ?_⟩
  all_goals try (
    repeat (first | (with_reducible exact Below.refl _ _) | (with_reducible assumption) | (with_reducible refine below_to_plus ?_ ?_ _) | (with_reducible refine below_holds ?_ ?_ _ _) | (with_reducible refine Below.alloc ?_ ?_ _) | (with_reducible refine Below.drew ?_) | (with_reducible refine below_drewN ?_ _) | (with_reducible refine Below.setCell ?_ ?_ _))
    all_goals first | omega | (simp; done) | (simp [go_sem]; done) | (simp [go_sem]; omega))

set_option maxHeartbeats 400000 in
theorem before_calls (a1 a2 a3 a4 b1 b2 b3 b4 : Int) (w : World)  : Calls Try.prog 32 #[.agg #[.int .i64 a1, .int .i64 a2, .int .i64 a3, .int .i64 a4], .agg #[.int .i64 b1, .int .i64 b2, .int .i64 b3, .int .i64 b4]] w fun e w' => e = .returned (.bool (beforeB ⟨a1, a2, a3, a4⟩ ⟨b1, b2, b3, b4⟩)) ∧ Below w.heap.size w w' := by
  go_enter Try.func32, Try.ntmps32
  go_wp2
  all_goals go_ret
  all_goals refine ⟨ret_bool (by first | (simp [beforeB, *]; done) | (rw [Bool.eq_iff_iff]; simp [beforeB, *]; done) | (rw [Bool.eq_iff_iff]; simp [beforeB]; omega) | (rw [Bool.eq_iff_iff]; simp [beforeB, *]; omega)), ?_⟩
  all_goals try (
    repeat (first | (with_reducible exact Below.refl _ _) | (with_reducible assumption) | (with_reducible refine below_to_plus ?_ ?_ _) | (with_reducible refine below_holds ?_ ?_ _ _) | (with_reducible refine Below.alloc ?_ ?_ _) | (with_reducible refine Below.drew ?_) | (with_reducible refine below_drewN ?_ _) | (with_reducible refine Below.setCell ?_ ?_ _))
    all_goals first | omega | (simp; done) | (simp [go_sem]; done) | (simp [go_sem]; omega))

set_option maxHeartbeats 400000 in
theorem conflicts_calls (a1 a2 a3 a4 b1 b2 b3 b4 : Int) (w : World)  : Calls Try.prog 36 #[.agg #[.int .i64 a1, .int .i64 a2, .int .i64 a3, .int .i64 a4], .agg #[.int .i64 b1, .int .i64 b2, .int .i64 b3, .int .i64 b4]] w fun e w' => e = .returned (.bool (conflictB ⟨a1, a2, a3, a4⟩ ⟨b1, b2, b3, b4⟩)) ∧ Below w.heap.size w w' := by
  go_enter Try.func36, Try.ntmps36
  go_wp2
  all_goals go_ret
  all_goals refine ⟨ret_bool (by first | (simp [conflictB, *]; done) | (rw [Bool.eq_iff_iff]; simp [conflictB, *]; done) | (rw [Bool.eq_iff_iff]; simp [conflictB]; omega) | (rw [Bool.eq_iff_iff]; simp [conflictB, *]; omega)), ?_⟩
  all_goals try (
    repeat (first | (with_reducible exact Below.refl _ _) | (with_reducible assumption) | (with_reducible refine below_to_plus ?_ ?_ _) | (with_reducible refine below_holds ?_ ?_ _ _) | (with_reducible refine Below.alloc ?_ ?_ _) | (with_reducible refine Below.drew ?_) | (with_reducible refine below_drewN ?_ _) | (with_reducible refine Below.setCell ?_ ?_ _))
    all_goals first | omega | (simp; done) | (simp [go_sem]; done) | (simp [go_sem]; omega))

set_option maxHeartbeats 400000 in
theorem isNaN_calls (n : Int) (w : World)  : Calls Try.prog 51 #[.int .i64 n] w fun e w' => e = .returned (.bool false) ∧ Below w.heap.size w w' := by
  go_enter Try.func51, Try.ntmps51
  go_wp2
  all_goals go_ret
  all_goals refine ⟨ret_bool (by simp), ?_⟩
  all_goals try (
    repeat (first | (with_reducible exact Below.refl _ _) | (with_reducible assumption) | (with_reducible refine below_to_plus ?_ ?_ _) | (with_reducible refine below_holds ?_ ?_ _ _) | (with_reducible refine Below.alloc ?_ ?_ _) | (with_reducible refine Below.drew ?_) | (with_reducible refine below_drewN ?_ _) | (with_reducible refine Below.setCell ?_ ?_ _))
    all_goals first | omega | (simp; done) | (simp [go_sem]; done) | (simp [go_sem]; omega))

theorem compare_calls (a b : Int) (w : World) : Calls Try.prog 46 #[.int .i64 a, .int .i64 b] w fun e w' => e = .returned (.int .i64 (cmpI a b)) ∧ Below w.heap.size w w' := by
  go_enter Try.func46, Try.ntmps46
  go_wp2_with (first | (go_at_call 51; (with_reducible refine (isNaN_calls _ _).mono ?_); (rintro e w1 ⟨rfl, hb⟩; obtain ⟨x, hx⟩ := plus_of_below hb; subst hx); clear hb))
  all_goals go_ret
  all_goals refine ⟨ret_int (by simp [cmpI, *] <;> omega), ?_⟩
  all_goals try (
    repeat (first | (with_reducible exact Below.refl _ _) | (with_reducible assumption) | (with_reducible refine below_to_plus ?_ ?_ _) | (with_reducible refine below_holds ?_ ?_ _ _) | (with_reducible refine Below.alloc ?_ ?_ _) | (with_reducible refine Below.drew ?_) | (with_reducible refine below_drewN ?_ _) | (with_reducible refine Below.setCell ?_ ?_ _))
    all_goals first | omega | (simp; done) | (simp [go_sem]; done) | (simp [go_sem]; omega))

end Go.Proofs.Ytodmgdihkhakpaa
