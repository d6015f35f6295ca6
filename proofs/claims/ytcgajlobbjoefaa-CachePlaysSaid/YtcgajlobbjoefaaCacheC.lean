/- This text proves the walks of the small functions of package cache and of its reference: whether two pieces clash, the end of a piece, the range of a hold's numbers. Conditions: those that each theorem names. -/
import Derived.Test.YtcgajlobbjoefaaCacheB
namespace Go.Proofs.Ytcgajlobbjoefaa
open Go.ChangeShapes Go.WideShapes Go.ChangeAt Go.RowKit
set_option linter.unusedVariables false
set_option linter.unusedSimpArgs false

theorem emp_iff (y : ByteArray) : y.toList = [] ↔ y.size = 0 := by
  rw [Lib.toList_data, ← List.length_eq_zero_iff, Array.length_toList]; rfl
def cmpI (a b : Int) : Int := if a < b then -1 else if b < a then 1 else 0
/-- The offset behind a piece. -/
def endP (a : Pc) : Int := a.pos + (a.data.size : Int)
/-- Two pieces of one file cannot be in a cache together. -/
def ovB (a b : Pc) : Bool :=
  if a.data.size = 0 then decide (b.data.size = 0) || decide (a.pos < endP b)
  else if b.data.size = 0 then decide (b.pos < endP a) else decide (a.pos < endP b) && decide (b.pos < endP a)
def clashB (a b : Pc) : Bool := decide (a.pid = b.pid) && ovB a b
/-- The numbers of a hold are in range. -/
def rangedB (h : Hd) : Bool := decide (1 ≤ h.hid ∧ h.hid ≤ 1099511627776 ∧ 0 ≤ h.vers ∧ h.vers ≤ 2147483647 ∧ 0 ≤ h.til ∧ h.til ≤ 1099512676352)
/-- The numbers of a piece are in range. -/
def OkP (p : Pc) : Prop := (0 ≤ p.pos ∧ p.pos ≤ 9007199254740991) ∧ p.data.size ≤ 1000000

theorem isNaN_calls (n : Int) (w : World) : Calls Try.prog 63 #[.int .i64 n] w fun e w' => e = .returned (.bool false) ∧ Below w.heap.size w w' := by
  go_enter Try.func63, Try.ntmps63
  go_wp2
  all_goals go_ret
  all_goals refine ⟨ret_bool (by simp), ?_⟩
  all_goals try (
    repeat (first | (with_reducible exact Below.refl _ _) | (with_reducible assumption) | (with_reducible refine below_to_plus ?_ ?_ _) | (with_reducible refine below_holds ?_ ?_ _ _) | (with_reducible refine Below.alloc ?_ ?_ _) | (with_reducible refine Below.drew ?_) | (with_reducible refine below_drewN ?_ _) | (with_reducible refine Below.setCell ?_ ?_ _))
    all_goals first | omega | (simp; done) | (simp [go_sem]; done) | (simp [go_sem]; omega))
theorem compare_calls (a b : Int) (w : World) : Calls Try.prog 52 #[.int .i64 a, .int .i64 b] w fun e w' => e = .returned (.int .i64 (cmpI a b)) ∧ Below w.heap.size w w' := by
  go_enter Try.func52, Try.ntmps52
  go_wp2_with (first | (go_at_call 63; (with_reducible refine (isNaN_calls _ _).mono ?_); (rintro e w1 ⟨rfl, hb⟩; obtain ⟨x, hx⟩ := plus_of_below hb; subst hx); clear hb))
  all_goals go_ret
  all_goals refine ⟨ret_int (by simp [cmpI, *] <;> omega), ?_⟩
  all_goals try (
    repeat (first | (with_reducible exact Below.refl _ _) | (with_reducible assumption) | (with_reducible refine below_to_plus ?_ ?_ _) | (with_reducible refine below_holds ?_ ?_ _ _) | (with_reducible refine Below.alloc ?_ ?_ _) | (with_reducible refine Below.drew ?_) | (with_reducible refine below_drewN ?_ _) | (with_reducible refine Below.setCell ?_ ?_ _))
    all_goals first | omega | (simp; done) | (simp [go_sem]; done) | (simp [go_sem]; omega))
theorem cmp_hold (id : Int) (W : World) (y : Hd) : Calls Try.prog 51 (#[Hd.val y, .int .i64 id] ++ #[]) W fun e w' => e = .returned (.int .i64 (cmpI y.hid id)) ∧ Below W.heap.size W w' := by
  obtain ⟨y1, y2, y3⟩ := y
  have co := fun W => compare_calls y1 id W
  show Calls Try.prog 51 #[.agg #[.int .i64 y1, .int .i64 y2, .int .i64 y3], .int .i64 id] W fun e w' => e = .returned (.int .i64 (cmpI y1 id)) ∧ Below W.heap.size W w'
  generalize cmpI y1 id = r at co ⊢
  go_enter Try.func51, Try.ntmps51
  go_wp2_with (go_at_call 52; (with_reducible refine (co _).mono ?_); (rintro e w1 ⟨rfl, hb⟩; obtain ⟨x, hx⟩ := plus_of_below hb; subst hx); clear hb)
  go_ret
  refine ⟨rfl, ?_⟩
  repeat (first | (with_reducible exact Below.refl _ _) | (with_reducible assumption) | (with_reducible refine below_to_plus ?_ ?_ _) | (with_reducible refine below_holds ?_ ?_ _ _) | (with_reducible refine Below.alloc ?_ ?_ _) | (with_reducible refine Below.drew ?_) | (with_reducible refine below_drewN ?_ _) | (with_reducible refine Below.setCell ?_ ?_ _))
  all_goals first | omega | (simp; done) | (simp [go_sem]; done) | (simp [go_sem]; omega)

set_option maxHeartbeats 4000000 in
theorem ends_calls (a1 : Int) (a2 : Int) (a3 : Int) (a4 : ByteArray) (w : World) (h : OkP ⟨a1, a2, a3, a4⟩) : Calls Try.prog 53 #[.agg #[.int .i64 a1, .int .i64 a2, .int .i64 a3, .string a4]] w fun e w' => e = .returned (.int .i64 (a3 + (a4.size : Int))) ∧ Below w.heap.size w w' := by
  obtain ⟨⟨h1, h2⟩, h3⟩ := h
  simp only [] at h1 h2 h3
  go_enter Try.func53, Try.ntmps53
  go_wp2
  go_ret
  refine ⟨rfl, ?_⟩
  repeat (first | (with_reducible exact Below.refl _ _) | (with_reducible assumption) | (with_reducible refine below_to_plus ?_ ?_ _) | (with_reducible refine below_holds ?_ ?_ _ _) | (with_reducible refine Below.alloc ?_ ?_ _) | (with_reducible refine Below.drew ?_) | (with_reducible refine below_drewN ?_ _) | (with_reducible refine Below.setCell ?_ ?_ _))
  all_goals first | omega | (simp; done) | (simp [go_sem]; done) | (simp [go_sem]; omega)

set_option maxHeartbeats 8000000 in
theorem clash_calls (a1 : Int) (a2 : Int) (a3 : Int) (a4 : ByteArray) (b1 : Int) (b2 : Int) (b3 : Int) (b4 : ByteArray) (w : World) (h : OkP ⟨a1, a2, a3, a4⟩) (h' : OkP ⟨b1, b2, b3, b4⟩) : Calls Try.prog 27 #[.agg #[.int .i64 a1, .int .i64 a2, .int .i64 a3, .string a4], .agg #[.int .i64 b1, .int .i64 b2, .int .i64 b3, .string b4]] w fun e w' => e = .returned (.bool (clashB ⟨a1, a2, a3, a4⟩ ⟨b1, b2, b3, b4⟩)) ∧ Below w.heap.size w w' := by
  obtain ⟨⟨h1, h2⟩, h3⟩ := h
  obtain ⟨⟨h4, h5⟩, h6⟩ := h'
  simp only [] at h1 h2 h3 h4 h5 h6
  have HR : Aside (clashB ⟨a1, a2, a3, a4⟩ ⟨b1, b2, b3, b4⟩ = (decide (a1 = b1) && (if a4.size = 0 then decide (b4.size = 0) || decide (a3 < b3 + (b4.size : Int)) else if b4.size = 0 then decide (b3 < a3 + (a4.size : Int)) else decide (a3 < b3 + (b4.size : Int)) && decide (b3 < a3 + (a4.size : Int))))) := rfl
  generalize clashB ⟨a1, a2, a3, a4⟩ ⟨b1, b2, b3, b4⟩ = r at HR ⊢
  by_cases hid : a1 = b1
  · have hid1 : (a1 != b1) = false := by simp [hid]
    by_cases ea : a4.size = 0
    · have ea1 : a4.toList = [] := (emp_iff a4).2 ea
      by_cases eb : b4.size = 0
      · have eb1 : b4.toList = [] := (emp_iff b4).2 eb
        have er : r = true := by rw [HR.out]; simp [hid, ea, eb]
        subst er
        clear HR hid
        go_enter Try.func27, Try.ntmps27
        go_wp2
        all_goals go_ret
        all_goals refine ⟨ret_bool (by first | rfl | (simp [*]; done) | (rw [Bool.eq_iff_iff]; simp [*]; done) | (rw [Bool.eq_iff_iff]; simp [*]; omega) | (simp [*]; omega)), ?_⟩
        all_goals try (
          repeat (first | (with_reducible exact Below.refl _ _) | (with_reducible assumption) | (with_reducible refine below_to_plus ?_ ?_ _) | (with_reducible refine below_holds ?_ ?_ _ _) | (with_reducible refine Below.alloc ?_ ?_ _) | (with_reducible refine Below.drew ?_) | (with_reducible refine below_drewN ?_ _) | (with_reducible refine Below.setCell ?_ ?_ _))
          all_goals first | omega | (simp; done) | (simp [go_sem]; done) | (simp [go_sem]; omega))
      · have eb1 : ¬ b4.toList = [] := fun e => eb ((emp_iff b4).1 e)
        have eb2 : (b4.toList == []) = false := by simpa using eb1
        have eb3 : decide (b4.toList = []) = false := decide_eq_false eb1
        have er : r = decide (a3 < b3 + (b4.size : Int)) := by rw [HR.out]; simp [hid, ea, eb]
        subst er
        clear HR hid
        go_enter Try.func27, Try.ntmps27
        go_wp2
        all_goals go_ret
        all_goals refine ⟨ret_bool (by first | rfl | (simp [*]; done) | (rw [Bool.eq_iff_iff]; simp [*]; done) | (rw [Bool.eq_iff_iff]; simp [*]; omega) | (simp [*]; omega)), ?_⟩
        all_goals try (
          repeat (first | (with_reducible exact Below.refl _ _) | (with_reducible assumption) | (with_reducible refine below_to_plus ?_ ?_ _) | (with_reducible refine below_holds ?_ ?_ _ _) | (with_reducible refine Below.alloc ?_ ?_ _) | (with_reducible refine Below.drew ?_) | (with_reducible refine below_drewN ?_ _) | (with_reducible refine Below.setCell ?_ ?_ _))
          all_goals first | omega | (simp; done) | (simp [go_sem]; done) | (simp [go_sem]; omega))
    · have ea1 : ¬ a4.toList = [] := fun e => ea ((emp_iff a4).1 e)
      have ea2 : (a4.toList == []) = false := by simpa using ea1
      have ea3 : decide (a4.toList = []) = false := decide_eq_false ea1
      by_cases eb : b4.size = 0
      · have eb1 : b4.toList = [] := (emp_iff b4).2 eb
        have er : r = decide (b3 < a3 + (a4.size : Int)) := by rw [HR.out]; simp [hid, ea, eb]
        subst er
        clear HR hid
        go_enter Try.func27, Try.ntmps27
        go_wp2
        all_goals go_ret
        all_goals refine ⟨ret_bool (by first | rfl | (simp [*]; done) | (rw [Bool.eq_iff_iff]; simp [*]; done) | (rw [Bool.eq_iff_iff]; simp [*]; omega) | (simp [*]; omega)), ?_⟩
        all_goals try (
          repeat (first | (with_reducible exact Below.refl _ _) | (with_reducible assumption) | (with_reducible refine below_to_plus ?_ ?_ _) | (with_reducible refine below_holds ?_ ?_ _ _) | (with_reducible refine Below.alloc ?_ ?_ _) | (with_reducible refine Below.drew ?_) | (with_reducible refine below_drewN ?_ _) | (with_reducible refine Below.setCell ?_ ?_ _))
          all_goals first | omega | (simp; done) | (simp [go_sem]; done) | (simp [go_sem]; omega))
      · have eb1 : ¬ b4.toList = [] := fun e => eb ((emp_iff b4).1 e)
        have eb2 : (b4.toList == []) = false := by simpa using eb1
        have eb3 : decide (b4.toList = []) = false := decide_eq_false eb1
        by_cases c1 : a3 < b3 + (b4.size : Int)
        · have c2 : decide (a3 < b3 + (b4.size : Int)) = true := decide_eq_true c1
          have er : r = decide (b3 < a3 + (a4.size : Int)) := by rw [HR.out]; simp [hid, ea, eb, c1]
          subst er
          clear HR hid
          go_enter Try.func27, Try.ntmps27
          go_wp2
          all_goals go_ret
          all_goals refine ⟨ret_bool (by first | rfl | (simp [*]; done) | (rw [Bool.eq_iff_iff]; simp [*]; done) | (rw [Bool.eq_iff_iff]; simp [*]; omega) | (simp [*]; omega)), ?_⟩
          all_goals try (
            repeat (first | (with_reducible exact Below.refl _ _) | (with_reducible assumption) | (with_reducible refine below_to_plus ?_ ?_ _) | (with_reducible refine below_holds ?_ ?_ _ _) | (with_reducible refine Below.alloc ?_ ?_ _) | (with_reducible refine Below.drew ?_) | (with_reducible refine below_drewN ?_ _) | (with_reducible refine Below.setCell ?_ ?_ _))
            all_goals first | omega | (simp; done) | (simp [go_sem]; done) | (simp [go_sem]; omega))
        · have c2 : decide (a3 < b3 + (b4.size : Int)) = false := decide_eq_false c1
          have er : r = false := by rw [HR.out]; simp [hid, ea, eb, c1]
          subst er
          clear HR hid
          go_enter Try.func27, Try.ntmps27
          go_wp2
          all_goals go_ret
          all_goals refine ⟨ret_bool (by first | rfl | (simp [*]; done) | (rw [Bool.eq_iff_iff]; simp [*]; done) | (rw [Bool.eq_iff_iff]; simp [*]; omega) | (simp [*]; omega)), ?_⟩
          all_goals try (
            repeat (first | (with_reducible exact Below.refl _ _) | (with_reducible assumption) | (with_reducible refine below_to_plus ?_ ?_ _) | (with_reducible refine below_holds ?_ ?_ _ _) | (with_reducible refine Below.alloc ?_ ?_ _) | (with_reducible refine Below.drew ?_) | (with_reducible refine below_drewN ?_ _) | (with_reducible refine Below.setCell ?_ ?_ _))
            all_goals first | omega | (simp; done) | (simp [go_sem]; done) | (simp [go_sem]; omega))
  · have hid1 : (a1 != b1) = true := by simp [hid]
    have er : r = false := by rw [HR.out]; simp [hid]
    subst er
    clear HR hid
    go_enter Try.func27, Try.ntmps27
    go_wp2
    all_goals go_ret
    all_goals refine ⟨ret_bool (by first | rfl | (simp [*]; done) | (rw [Bool.eq_iff_iff]; simp [*]; done) | (rw [Bool.eq_iff_iff]; simp [*]; omega) | (simp [*]; omega)), ?_⟩
    all_goals try (
      repeat (first | (with_reducible exact Below.refl _ _) | (with_reducible assumption) | (with_reducible refine below_to_plus ?_ ?_ _) | (with_reducible refine below_holds ?_ ?_ _ _) | (with_reducible refine Below.alloc ?_ ?_ _) | (with_reducible refine Below.drew ?_) | (with_reducible refine below_drewN ?_ _) | (with_reducible refine Below.setCell ?_ ?_ _))
      all_goals first | omega | (simp; done) | (simp [go_sem]; done) | (simp [go_sem]; omega))

set_option maxHeartbeats 8000000 in
theorem rclash_calls (a1 : Int) (a2 : Int) (a3 : Int) (a4 : ByteArray) (b1 : Int) (b2 : Int) (b3 : Int) (b4 : ByteArray) (w : World) (h : OkP ⟨a1, a2, a3, a4⟩) (h' : OkP ⟨b1, b2, b3, b4⟩) : Calls Try.prog 30 #[.agg #[.int .i64 a1, .int .i64 a2, .int .i64 a3, .string a4], .agg #[.int .i64 b1, .int .i64 b2, .int .i64 b3, .string b4]] w fun e w' => e = .returned (.bool (clashB ⟨a1, a2, a3, a4⟩ ⟨b1, b2, b3, b4⟩)) ∧ Below w.heap.size w w' := by
  have ce1 := fun U => ends_calls a1 a2 a3 a4 U h
  have ce2 := fun U => ends_calls b1 b2 b3 b4 U h'
  obtain ⟨⟨h1, h2⟩, h3⟩ := h
  obtain ⟨⟨h4, h5⟩, h6⟩ := h'
  simp only [] at h1 h2 h3 h4 h5 h6
  have HR : Aside (clashB ⟨a1, a2, a3, a4⟩ ⟨b1, b2, b3, b4⟩ = (decide (a1 = b1) && (if a4.size = 0 then decide (b4.size = 0) || decide (a3 < b3 + (b4.size : Int)) else if b4.size = 0 then decide (b3 < a3 + (a4.size : Int)) else decide (a3 < b3 + (b4.size : Int)) && decide (b3 < a3 + (a4.size : Int))))) := rfl
  generalize clashB ⟨a1, a2, a3, a4⟩ ⟨b1, b2, b3, b4⟩ = r at HR ⊢
  by_cases hid : a1 = b1
  · have hid1 : (a1 != b1) = false := by simp [hid]
    by_cases ea : a4.size = 0
    · have ea1 : a4.toList = [] := (emp_iff a4).2 ea
      by_cases eb : b4.size = 0
      · have eb1 : b4.toList = [] := (emp_iff b4).2 eb
        have er : r = true := by rw [HR.out]; simp [hid, ea, eb]
        subst er
        clear HR hid
        go_enter Try.func30, Try.ntmps30
        go_wp2
        all_goals (try (
          refine wp_region_plus (by kernel_rfl) (by kernel_rfl) ?_
          repeat (go_big_quiet_step (first | (go_at_call 53; exact calls_plus (ce1 _)) | (go_at_call 53; exact calls_plus (ce2 _))))
          refine wpQuiet_nil ?_
          rintro _ ⟨x1, rfl⟩
          go_wp2))
        all_goals go_ret
        all_goals refine ⟨ret_bool (by first | rfl | (simp [*]; done) | (rw [Bool.eq_iff_iff]; simp [*]; done) | (rw [Bool.eq_iff_iff]; simp [*]; omega) | (simp [*]; omega)), ?_⟩
        all_goals try (
          repeat (first | (with_reducible exact Below.refl _ _) | (with_reducible assumption) | (with_reducible refine below_to_plus ?_ ?_ _) | (with_reducible refine below_holds ?_ ?_ _ _) | (with_reducible refine Below.alloc ?_ ?_ _) | (with_reducible refine Below.drew ?_) | (with_reducible refine below_drewN ?_ _) | (with_reducible refine Below.setCell ?_ ?_ _))
          all_goals first | omega | (simp; done) | (simp [go_sem]; done) | (simp [go_sem]; omega))
      · have eb1 : ¬ b4.toList = [] := fun e => eb ((emp_iff b4).1 e)
        have eb2 : (b4.toList == []) = false := by simpa using eb1
        have eb3 : decide (b4.toList = []) = false := decide_eq_false eb1
        have er : r = decide (a3 < b3 + (b4.size : Int)) := by rw [HR.out]; simp [hid, ea, eb]
        subst er
        clear HR hid
        go_enter Try.func30, Try.ntmps30
        go_wp2
        all_goals (try (
          refine wp_region_plus (by kernel_rfl) (by kernel_rfl) ?_
          repeat (go_big_quiet_step (first | (go_at_call 53; exact calls_plus (ce1 _)) | (go_at_call 53; exact calls_plus (ce2 _))))
          refine wpQuiet_nil ?_
          rintro _ ⟨x1, rfl⟩
          go_wp2))
        all_goals go_ret
        all_goals refine ⟨ret_bool (by first | rfl | (simp [*]; done) | (rw [Bool.eq_iff_iff]; simp [*]; done) | (rw [Bool.eq_iff_iff]; simp [*]; omega) | (simp [*]; omega)), ?_⟩
        all_goals try (
          repeat (first | (with_reducible exact Below.refl _ _) | (with_reducible assumption) | (with_reducible refine below_to_plus ?_ ?_ _) | (with_reducible refine below_holds ?_ ?_ _ _) | (with_reducible refine Below.alloc ?_ ?_ _) | (with_reducible refine Below.drew ?_) | (with_reducible refine below_drewN ?_ _) | (with_reducible refine Below.setCell ?_ ?_ _))
          all_goals first | omega | (simp; done) | (simp [go_sem]; done) | (simp [go_sem]; omega))
    · have ea1 : ¬ a4.toList = [] := fun e => ea ((emp_iff a4).1 e)
      have ea2 : (a4.toList == []) = false := by simpa using ea1
      have ea3 : decide (a4.toList = []) = false := decide_eq_false ea1
      by_cases eb : b4.size = 0
      · have eb1 : b4.toList = [] := (emp_iff b4).2 eb
        have er : r = decide (b3 < a3 + (a4.size : Int)) := by rw [HR.out]; simp [hid, ea, eb]
        subst er
        clear HR hid
        go_enter Try.func30, Try.ntmps30
        go_wp2
        all_goals (try (
          refine wp_region_plus (by kernel_rfl) (by kernel_rfl) ?_
          repeat (go_big_quiet_step (first | (go_at_call 53; exact calls_plus (ce1 _)) | (go_at_call 53; exact calls_plus (ce2 _))))
          refine wpQuiet_nil ?_
          rintro _ ⟨x1, rfl⟩
          go_wp2))
        all_goals go_ret
        all_goals refine ⟨ret_bool (by first | rfl | (simp [*]; done) | (rw [Bool.eq_iff_iff]; simp [*]; done) | (rw [Bool.eq_iff_iff]; simp [*]; omega) | (simp [*]; omega)), ?_⟩
        all_goals try (
          repeat (first | (with_reducible exact Below.refl _ _) | (with_reducible assumption) | (with_reducible refine below_to_plus ?_ ?_ _) | (with_reducible refine below_holds ?_ ?_ _ _) | (with_reducible refine Below.alloc ?_ ?_ _) | (with_reducible refine Below.drew ?_) | (with_reducible refine below_drewN ?_ _) | (with_reducible refine Below.setCell ?_ ?_ _))
          all_goals first | omega | (simp; done) | (simp [go_sem]; done) | (simp [go_sem]; omega))
      · have eb1 : ¬ b4.toList = [] := fun e => eb ((emp_iff b4).1 e)
        have eb2 : (b4.toList == []) = false := by simpa using eb1
        have eb3 : decide (b4.toList = []) = false := decide_eq_false eb1
        by_cases c1 : a3 < b3 + (b4.size : Int)
        · have c2 : decide (a3 < b3 + (b4.size : Int)) = true := decide_eq_true c1
          have er : r = decide (b3 < a3 + (a4.size : Int)) := by rw [HR.out]; simp [hid, ea, eb, c1]
          subst er
          clear HR hid
          go_enter Try.func30, Try.ntmps30
          go_wp2
          all_goals (try (
            refine wp_region_plus (by kernel_rfl) (by kernel_rfl) ?_
            repeat (go_big_quiet_step (first | (go_at_call 53; exact calls_plus (ce1 _)) | (go_at_call 53; exact calls_plus (ce2 _))))
            refine wpQuiet_nil ?_
            rintro _ ⟨x1, rfl⟩
            go_wp2))
          all_goals go_ret
          all_goals refine ⟨ret_bool (by first | rfl | (simp [*]; done) | (rw [Bool.eq_iff_iff]; simp [*]; done) | (rw [Bool.eq_iff_iff]; simp [*]; omega) | (simp [*]; omega)), ?_⟩
          all_goals try (
            repeat (first | (with_reducible exact Below.refl _ _) | (with_reducible assumption) | (with_reducible refine below_to_plus ?_ ?_ _) | (with_reducible refine below_holds ?_ ?_ _ _) | (with_reducible refine Below.alloc ?_ ?_ _) | (with_reducible refine Below.drew ?_) | (with_reducible refine below_drewN ?_ _) | (with_reducible refine Below.setCell ?_ ?_ _))
            all_goals first | omega | (simp; done) | (simp [go_sem]; done) | (simp [go_sem]; omega))
        · have c2 : decide (a3 < b3 + (b4.size : Int)) = false := decide_eq_false c1
          have er : r = false := by rw [HR.out]; simp [hid, ea, eb, c1]
          subst er
          clear HR hid
          go_enter Try.func30, Try.ntmps30
          go_wp2
          all_goals (try (
            refine wp_region_plus (by kernel_rfl) (by kernel_rfl) ?_
            repeat (go_big_quiet_step (first | (go_at_call 53; exact calls_plus (ce1 _)) | (go_at_call 53; exact calls_plus (ce2 _))))
            refine wpQuiet_nil ?_
            rintro _ ⟨x1, rfl⟩
            go_wp2))
          all_goals go_ret
          all_goals refine ⟨ret_bool (by first | rfl | (simp [*]; done) | (rw [Bool.eq_iff_iff]; simp [*]; done) | (rw [Bool.eq_iff_iff]; simp [*]; omega) | (simp [*]; omega)), ?_⟩
          all_goals try (
            repeat (first | (with_reducible exact Below.refl _ _) | (with_reducible assumption) | (with_reducible refine below_to_plus ?_ ?_ _) | (with_reducible refine below_holds ?_ ?_ _ _) | (with_reducible refine Below.alloc ?_ ?_ _) | (with_reducible refine Below.drew ?_) | (with_reducible refine below_drewN ?_ _) | (with_reducible refine Below.setCell ?_ ?_ _))
            all_goals first | omega | (simp; done) | (simp [go_sem]; done) | (simp [go_sem]; omega))
  · have hid1 : (a1 != b1) = true := by simp [hid]
    have er : r = false := by rw [HR.out]; simp [hid]
    subst er
    clear HR hid
    go_enter Try.func30, Try.ntmps30
    go_wp2
    all_goals (try (
      refine wp_region_plus (by kernel_rfl) (by kernel_rfl) ?_
      repeat (go_big_quiet_step (first | (go_at_call 53; exact calls_plus (ce1 _)) | (go_at_call 53; exact calls_plus (ce2 _))))
      refine wpQuiet_nil ?_
      rintro _ ⟨x1, rfl⟩
      go_wp2))
    all_goals go_ret
    all_goals refine ⟨ret_bool (by first | rfl | (simp [*]; done) | (rw [Bool.eq_iff_iff]; simp [*]; done) | (rw [Bool.eq_iff_iff]; simp [*]; omega) | (simp [*]; omega)), ?_⟩
    all_goals try (
      repeat (first | (with_reducible exact Below.refl _ _) | (with_reducible assumption) | (with_reducible refine below_to_plus ?_ ?_ _) | (with_reducible refine below_holds ?_ ?_ _ _) | (with_reducible refine Below.alloc ?_ ?_ _) | (with_reducible refine Below.drew ?_) | (with_reducible refine below_drewN ?_ _) | (with_reducible refine Below.setCell ?_ ?_ _))
      all_goals first | omega | (simp; done) | (simp [go_sem]; done) | (simp [go_sem]; omega))

set_option maxHeartbeats 4000000 in
theorem ranged_calls (a1 : Int) (a2 : Int) (a3 : Int) (w : World) : Calls Try.prog 28 #[.agg #[.int .i64 a1, .int .i64 a2, .int .i64 a3]] w fun e w' => e = .returned (.bool (rangedB ⟨a1, a2, a3⟩)) ∧ Below w.heap.size w w' := by
  have HR : Aside (rangedB ⟨a1, a2, a3⟩ = decide (1 ≤ a1 ∧ a1 ≤ 1099511627776 ∧ 0 ≤ a2 ∧ a2 ≤ 2147483647 ∧ 0 ≤ a3 ∧ a3 ≤ 1099512676352)) := rfl
  generalize rangedB ⟨a1, a2, a3⟩ = r at HR ⊢
  by_cases c1 : 1 ≤ a1
  · by_cases c2 : a1 ≤ 1099511627776
    · by_cases c3 : 0 ≤ a2
      · by_cases c4 : a2 ≤ 2147483647
        · by_cases c5 : 0 ≤ a3
          · by_cases c6 : a3 ≤ 1099512676352
            · have er : r = true := by rw [HR.out]; simp [*]
              subst er
              clear HR
              go_enter Try.func28, Try.ntmps28
              go_wp2
              all_goals go_ret
              all_goals refine ⟨ret_bool (by first | rfl | (simp [*]; done) | (rw [Bool.eq_iff_iff]; simp [*]; done) | (rw [Bool.eq_iff_iff]; simp [*]; omega) | (simp [*]; omega)), ?_⟩
              all_goals try (
                repeat (first | (with_reducible exact Below.refl _ _) | (with_reducible assumption) | (with_reducible refine below_to_plus ?_ ?_ _) | (with_reducible refine below_holds ?_ ?_ _ _) | (with_reducible refine Below.alloc ?_ ?_ _) | (with_reducible refine Below.drew ?_) | (with_reducible refine below_drewN ?_ _) | (with_reducible refine Below.setCell ?_ ?_ _))
                all_goals first | omega | (simp; done) | (simp [go_sem]; done) | (simp [go_sem]; omega))
            · have er : r = false := by rw [HR.out]; exact decide_eq_false (fun h => c6 (by obtain ⟨g1, g2, g3, g4, g5, g6⟩ := h; assumption))
              subst er
              clear HR
              go_enter Try.func28, Try.ntmps28
              go_wp2
              all_goals go_ret
              all_goals refine ⟨ret_bool (by first | rfl | (simp [*]; done) | (rw [Bool.eq_iff_iff]; simp [*]; done) | (rw [Bool.eq_iff_iff]; simp [*]; omega) | (simp [*]; omega)), ?_⟩
              all_goals try (
                repeat (first | (with_reducible exact Below.refl _ _) | (with_reducible assumption) | (with_reducible refine below_to_plus ?_ ?_ _) | (with_reducible refine below_holds ?_ ?_ _ _) | (with_reducible refine Below.alloc ?_ ?_ _) | (with_reducible refine Below.drew ?_) | (with_reducible refine below_drewN ?_ _) | (with_reducible refine Below.setCell ?_ ?_ _))
                all_goals first | omega | (simp; done) | (simp [go_sem]; done) | (simp [go_sem]; omega))
          · have er : r = false := by rw [HR.out]; exact decide_eq_false (fun h => c5 (by obtain ⟨g1, g2, g3, g4, g5, g6⟩ := h; assumption))
            subst er
            clear HR
            go_enter Try.func28, Try.ntmps28
            go_wp2
            all_goals go_ret
            all_goals refine ⟨ret_bool (by first | rfl | (simp [*]; done) | (rw [Bool.eq_iff_iff]; simp [*]; done) | (rw [Bool.eq_iff_iff]; simp [*]; omega) | (simp [*]; omega)), ?_⟩
            all_goals try (
              repeat (first | (with_reducible exact Below.refl _ _) | (with_reducible assumption) | (with_reducible refine below_to_plus ?_ ?_ _) | (with_reducible refine below_holds ?_ ?_ _ _) | (with_reducible refine Below.alloc ?_ ?_ _) | (with_reducible refine Below.drew ?_) | (with_reducible refine below_drewN ?_ _) | (with_reducible refine Below.setCell ?_ ?_ _))
              all_goals first | omega | (simp; done) | (simp [go_sem]; done) | (simp [go_sem]; omega))
        · have er : r = false := by rw [HR.out]; exact decide_eq_false (fun h => c4 (by obtain ⟨g1, g2, g3, g4, g5, g6⟩ := h; assumption))
          subst er
          clear HR
          go_enter Try.func28, Try.ntmps28
          go_wp2
          all_goals go_ret
          all_goals refine ⟨ret_bool (by first | rfl | (simp [*]; done) | (rw [Bool.eq_iff_iff]; simp [*]; done) | (rw [Bool.eq_iff_iff]; simp [*]; omega) | (simp [*]; omega)), ?_⟩
          all_goals try (
            repeat (first | (with_reducible exact Below.refl _ _) | (with_reducible assumption) | (with_reducible refine below_to_plus ?_ ?_ _) | (with_reducible refine below_holds ?_ ?_ _ _) | (with_reducible refine Below.alloc ?_ ?_ _) | (with_reducible refine Below.drew ?_) | (with_reducible refine below_drewN ?_ _) | (with_reducible refine Below.setCell ?_ ?_ _))
            all_goals first | omega | (simp; done) | (simp [go_sem]; done) | (simp [go_sem]; omega))
      · have er : r = false := by rw [HR.out]; exact decide_eq_false (fun h => c3 (by obtain ⟨g1, g2, g3, g4, g5, g6⟩ := h; assumption))
        subst er
        clear HR
        go_enter Try.func28, Try.ntmps28
        go_wp2
        all_goals go_ret
        all_goals refine ⟨ret_bool (by first | rfl | (simp [*]; done) | (rw [Bool.eq_iff_iff]; simp [*]; done) | (rw [Bool.eq_iff_iff]; simp [*]; omega) | (simp [*]; omega)), ?_⟩
        all_goals try (
          repeat (first | (with_reducible exact Below.refl _ _) | (with_reducible assumption) | (with_reducible refine below_to_plus ?_ ?_ _) | (with_reducible refine below_holds ?_ ?_ _ _) | (with_reducible refine Below.alloc ?_ ?_ _) | (with_reducible refine Below.drew ?_) | (with_reducible refine below_drewN ?_ _) | (with_reducible refine Below.setCell ?_ ?_ _))
          all_goals first | omega | (simp; done) | (simp [go_sem]; done) | (simp [go_sem]; omega))
    · have er : r = false := by rw [HR.out]; exact decide_eq_false (fun h => c2 (by obtain ⟨g1, g2, g3, g4, g5, g6⟩ := h; assumption))
      subst er
      clear HR
      go_enter Try.func28, Try.ntmps28
      go_wp2
      all_goals go_ret
      all_goals refine ⟨ret_bool (by first | rfl | (simp [*]; done) | (rw [Bool.eq_iff_iff]; simp [*]; done) | (rw [Bool.eq_iff_iff]; simp [*]; omega) | (simp [*]; omega)), ?_⟩
      all_goals try (
        repeat (first | (with_reducible exact Below.refl _ _) | (with_reducible assumption) | (with_reducible refine below_to_plus ?_ ?_ _) | (with_reducible refine below_holds ?_ ?_ _ _) | (with_reducible refine Below.alloc ?_ ?_ _) | (with_reducible refine Below.drew ?_) | (with_reducible refine below_drewN ?_ _) | (with_reducible refine Below.setCell ?_ ?_ _))
        all_goals first | omega | (simp; done) | (simp [go_sem]; done) | (simp [go_sem]; omega))
  · have er : r = false := by rw [HR.out]; exact decide_eq_false (fun h => c1 (by obtain ⟨g1, g2, g3, g4, g5, g6⟩ := h; assumption))
    subst er
    clear HR
    go_enter Try.func28, Try.ntmps28
    go_wp2
    all_goals go_ret
    all_goals refine ⟨ret_bool (by first | rfl | (simp [*]; done) | (rw [Bool.eq_iff_iff]; simp [*]; done) | (rw [Bool.eq_iff_iff]; simp [*]; omega) | (simp [*]; omega)), ?_⟩
    all_goals try (
      repeat (first | (with_reducible exact Below.refl _ _) | (with_reducible assumption) | (with_reducible refine below_to_plus ?_ ?_ _) | (with_reducible refine below_holds ?_ ?_ _ _) | (with_reducible refine Below.alloc ?_ ?_ _) | (with_reducible refine Below.drew ?_) | (with_reducible refine below_drewN ?_ _) | (with_reducible refine Below.setCell ?_ ?_ _))
      all_goals first | omega | (simp; done) | (simp [go_sem]; done) | (simp [go_sem]; omega))

end Go.Proofs.Ytcgajlobbjoefaa
