/- This text proves what the comparison of two instructions answers. Conditions: those that each theorem names. -/
import Derived.Test.YtfhccmegobbnaaaRegexN
namespace Go.Proofs.Ytfhccmegobbnaaa
open Go.ChangeShapes Go.WideShapes Go.ChangeAt Go.RowKit
set_option linter.unusedVariables false
set_option linter.unusedSimpArgs false

theorem str_inj (a b : ByteArray) : a.toList = b.toList ↔ a = b := ⟨fun h => bytes_inj (by rw [ByteArray.toList_eq, ByteArray.toList_eq] at h; exact h), fun h => by rw [h]⟩
set_option maxRecDepth 20000 in
set_option maxHeartbeats 4000000 in
theorem neq_in (y1 : Int) (y2 : Int) (y3 : ByteArray) (y4 : Bool) (y5 : Int) (y6 : Int) (z1 : Int) (z2 : Int) (z3 : ByteArray) (z4 : Bool) (z5 : Int) (z6 : Int) (w : World) : (binOp .neq 34 (.agg #[.int .i64 y1, .int .u8 y2, .string y3, .bool y4, .int .i64 y5, .int .i64 y6]) (.agg #[.int .i64 z1, .int .u8 z2, .string z3, .bool z4, .int .i64 z5, .int .i64 z6])).run Try.prog w = .ok (.bool (!(decide (y1 = z1 ∧ y2 = z2 ∧ y3 = z3 ∧ y4 = z4 ∧ y5 = z5 ∧ y6 = z6)))) w := by
  rw [run_neq_struct]
  by_cases h0 : y1 = z1 <;> by_cases h1 : y2 = z2 <;> by_cases h2 : y3 = z3 <;> by_cases h3 : y4 = z4 <;> by_cases h4 : y5 = z5 <;> by_cases h5 : y6 = z6 <;> simp [go_sem, str_inj, h0, h1, h2, h3, h4, h5]

end Go.Proofs.Ytfhccmegobbnaaa
