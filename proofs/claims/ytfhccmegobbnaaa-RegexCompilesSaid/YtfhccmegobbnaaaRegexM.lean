/- This text proves the walk of only. Conditions: those that each theorem names. -/
import Derived.Test.YtfhccmegobbnaaaRegexL
namespace Go.Proofs.Ytfhccmegobbnaaa
open Go.ChangeShapes Go.WideShapes Go.ChangeAt Go.RowKit
set_option linter.unusedVariables false
set_option linter.unusedSimpArgs false

/-- An instruction with only the fields that its operation uses. -/
def onlyF (i : In) : In :=
  if i.op = 1 then ⟨i.op, i.c, ⟨#[]⟩, false, 0, 0⟩
  else if i.op = 3 then ⟨i.op, 0, i.set, i.nt, 0, 0⟩
  else if i.op = 6 then ⟨i.op, 0, ⟨#[]⟩, false, i.x, i.y⟩
  else if i.op = 7 ∨ i.op = 8 then ⟨i.op, 0, ⟨#[]⟩, false, i.x, 0⟩
  else ⟨i.op, 0, ⟨#[]⟩, false, 0, 0⟩

set_option maxHeartbeats 8000000 in
theorem only_calls (y1 y2 : Int) (y3 : ByteArray) (y4 : Bool) (y5 y6 : Int) (w : World) :
    Calls Try.prog 53 #[.agg #[.int .i64 y1, .int .u8 y2, .string y3, .bool y4, .int .i64 y5, .int .i64 y6]] w fun e w' => e = .returned (.agg #[.int .i64 (onlyF ⟨y1, y2, y3, y4, y5, y6⟩).op, .int .u8 (onlyF ⟨y1, y2, y3, y4, y5, y6⟩).c, .string (onlyF ⟨y1, y2, y3, y4, y5, y6⟩).set, .bool (onlyF ⟨y1, y2, y3, y4, y5, y6⟩).nt, .int .i64 (onlyF ⟨y1, y2, y3, y4, y5, y6⟩).x, .int .i64 (onlyF ⟨y1, y2, y3, y4, y5, y6⟩).y]) ∧ Below w.heap.size w w' := by
  by_cases n1 : y1 = 1
  · have e1 : (y1 == 1) = true := by rw [n1]; rfl
    have m1 : decide (y1 = 1) = true := decide_eq_true n1
    have ER : onlyF ⟨y1, y2, y3, y4, y5, y6⟩ = (⟨y1, y2, ⟨#[]⟩, false, 0, 0⟩ : In) := by unfold onlyF; simp only []; rw [if_pos n1]
    rw [ER]
    clear ER
    go_enter Try.func53, Try.ntmps53
    go_wp2
    refine bodyPost_ret (v := .agg #[.int .i64 y1, .int .u8 y2, .string ⟨#[]⟩, .bool false, .int .i64 0, .int .i64 0]) (by simp [results, Try.results53, go_sem, ↓IntWalk.iteOmega, *]) rfl ⟨rfl, ?_⟩
    all_goals
      repeat (first | (with_reducible exact Below.refl _ _) | (with_reducible assumption) | (with_reducible refine below_to_plus ?_ ?_ _) | (with_reducible refine below_holds ?_ ?_ _ _) | (with_reducible refine Below.alloc ?_ ?_ _) | (with_reducible refine Below.drew ?_) | (with_reducible refine below_drewN ?_ _) | (with_reducible refine Below.setCell ?_ ?_ _))
      all_goals first | omega | (simp; done) | (simp [go_sem]; done) | (simp [go_sem]; omega)
  have e1 : (y1 == 1) = false := by simpa using n1
  have m1 : decide (y1 = 1) = false := decide_eq_false n1
  by_cases n3 : y1 = 3
  · have e3 : (y1 == 3) = true := by rw [n3]; rfl
    have m3 : decide (y1 = 3) = true := decide_eq_true n3
    have ER : onlyF ⟨y1, y2, y3, y4, y5, y6⟩ = (⟨y1, 0, y3, y4, 0, 0⟩ : In) := by unfold onlyF; simp only []; rw [if_neg n1]; rw [if_pos n3]
    rw [ER]
    clear ER
    go_enter Try.func53, Try.ntmps53
    go_wp2
    go_region
    all_goals go_wp2
    all_goals refine bodyPost_ret (v := .agg #[.int .i64 y1, .int .u8 0, .string y3, .bool y4, .int .i64 0, .int .i64 0]) (by simp [results, Try.results53, go_sem, ↓IntWalk.iteOmega, *]) rfl ⟨rfl, ?_⟩
    all_goals
      repeat (first | (with_reducible exact Below.refl _ _) | (with_reducible assumption) | (with_reducible refine below_to_plus ?_ ?_ _) | (with_reducible refine below_holds ?_ ?_ _ _) | (with_reducible refine Below.alloc ?_ ?_ _) | (with_reducible refine Below.drew ?_) | (with_reducible refine below_drewN ?_ _) | (with_reducible refine Below.setCell ?_ ?_ _))
      all_goals first | omega | (simp; done) | (simp [go_sem]; done) | (simp [go_sem]; omega)
  have e3 : (y1 == 3) = false := by simpa using n3
  have m3 : decide (y1 = 3) = false := decide_eq_false n3
  by_cases n6 : y1 = 6
  · have e6 : (y1 == 6) = true := by rw [n6]; rfl
    have m6 : decide (y1 = 6) = true := decide_eq_true n6
    have ER : onlyF ⟨y1, y2, y3, y4, y5, y6⟩ = (⟨y1, 0, ⟨#[]⟩, false, y5, y6⟩ : In) := by unfold onlyF; simp only []; rw [if_neg n1]; rw [if_neg n3]; rw [if_pos n6]
    rw [ER]
    clear ER
    go_enter Try.func53, Try.ntmps53
    go_wp2
    go_region
    all_goals go_wp2
    all_goals refine bodyPost_ret (v := .agg #[.int .i64 y1, .int .u8 0, .string ⟨#[]⟩, .bool false, .int .i64 y5, .int .i64 y6]) (by simp [results, Try.results53, go_sem, ↓IntWalk.iteOmega, *]) rfl ⟨rfl, ?_⟩
    all_goals
      repeat (first | (with_reducible exact Below.refl _ _) | (with_reducible assumption) | (with_reducible refine below_to_plus ?_ ?_ _) | (with_reducible refine below_holds ?_ ?_ _ _) | (with_reducible refine Below.alloc ?_ ?_ _) | (with_reducible refine Below.drew ?_) | (with_reducible refine below_drewN ?_ _) | (with_reducible refine Below.setCell ?_ ?_ _))
      all_goals first | omega | (simp; done) | (simp [go_sem]; done) | (simp [go_sem]; omega)
  have e6 : (y1 == 6) = false := by simpa using n6
  have m6 : decide (y1 = 6) = false := decide_eq_false n6
  by_cases n7 : y1 = 7
  · have e7 : (y1 == 7) = true := by rw [n7]; rfl
    have m7 : decide (y1 = 7) = true := decide_eq_true n7
    have ER : onlyF ⟨y1, y2, y3, y4, y5, y6⟩ = (⟨y1, 0, ⟨#[]⟩, false, y5, 0⟩ : In) := by unfold onlyF; simp only []; rw [if_neg n1]; rw [if_neg n3]; rw [if_neg n6]; rw [if_pos (by omega)]
    rw [ER]
    clear ER
    go_enter Try.func53, Try.ntmps53
    go_wp2
    refine bodyPost_ret (v := .agg #[.int .i64 y1, .int .u8 0, .string ⟨#[]⟩, .bool false, .int .i64 y5, .int .i64 0]) (by simp [results, Try.results53, go_sem, ↓IntWalk.iteOmega, *]) rfl ⟨rfl, ?_⟩
    all_goals
      repeat (first | (with_reducible exact Below.refl _ _) | (with_reducible assumption) | (with_reducible refine below_to_plus ?_ ?_ _) | (with_reducible refine below_holds ?_ ?_ _ _) | (with_reducible refine Below.alloc ?_ ?_ _) | (with_reducible refine Below.drew ?_) | (with_reducible refine below_drewN ?_ _) | (with_reducible refine Below.setCell ?_ ?_ _))
      all_goals first | omega | (simp; done) | (simp [go_sem]; done) | (simp [go_sem]; omega)
  have e7 : (y1 == 7) = false := by simpa using n7
  have m7 : decide (y1 = 7) = false := decide_eq_false n7
  by_cases n8 : y1 = 8
  · have e8 : (y1 == 8) = true := by rw [n8]; rfl
    have m8 : decide (y1 = 8) = true := decide_eq_true n8
    have ER : onlyF ⟨y1, y2, y3, y4, y5, y6⟩ = (⟨y1, 0, ⟨#[]⟩, false, y5, 0⟩ : In) := by unfold onlyF; simp only []; rw [if_neg n1]; rw [if_neg n3]; rw [if_neg n6]; rw [if_pos (by omega)]
    rw [ER]
    clear ER
    go_enter Try.func53, Try.ntmps53
    go_wp2
    refine bodyPost_ret (v := .agg #[.int .i64 y1, .int .u8 0, .string ⟨#[]⟩, .bool false, .int .i64 y5, .int .i64 0]) (by simp [results, Try.results53, go_sem, ↓IntWalk.iteOmega, *]) rfl ⟨rfl, ?_⟩
    all_goals
      repeat (first | (with_reducible exact Below.refl _ _) | (with_reducible assumption) | (with_reducible refine below_to_plus ?_ ?_ _) | (with_reducible refine below_holds ?_ ?_ _ _) | (with_reducible refine Below.alloc ?_ ?_ _) | (with_reducible refine Below.drew ?_) | (with_reducible refine below_drewN ?_ _) | (with_reducible refine Below.setCell ?_ ?_ _))
      all_goals first | omega | (simp; done) | (simp [go_sem]; done) | (simp [go_sem]; omega)
  have e8 : (y1 == 8) = false := by simpa using n8
  have m8 : decide (y1 = 8) = false := decide_eq_false n8
  have ER : onlyF ⟨y1, y2, y3, y4, y5, y6⟩ = (⟨y1, 0, ⟨#[]⟩, false, 0, 0⟩ : In) := by unfold onlyF; simp only []; rw [if_neg n1]; rw [if_neg n3]; rw [if_neg n6]; rw [if_neg (by omega)]
  rw [ER]
  clear ER
  go_enter Try.func53, Try.ntmps53
  go_wp2
  refine bodyPost_ret (v := .agg #[.int .i64 y1, .int .u8 0, .string ⟨#[]⟩, .bool false, .int .i64 0, .int .i64 0]) (by simp [results, Try.results53, go_sem, ↓IntWalk.iteOmega, *]) rfl ⟨rfl, ?_⟩
  all_goals
    repeat (first | (with_reducible exact Below.refl _ _) | (with_reducible assumption) | (with_reducible refine below_to_plus ?_ ?_ _) | (with_reducible refine below_holds ?_ ?_ _ _) | (with_reducible refine Below.alloc ?_ ?_ _) | (with_reducible refine Below.drew ?_) | (with_reducible refine below_drewN ?_ _) | (with_reducible refine Below.setCell ?_ ?_ _))
    all_goals first | omega | (simp; done) | (simp [go_sem]; done) | (simp [go_sem]; omega)

end Go.Proofs.Ytfhccmegobbnaaa
