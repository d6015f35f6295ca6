/- This text proves the walks of Same and Ints of the reference, at equal lists. Conditions: those that each theorem names. -/
import Derived.Test.YtfhccmegobbnaaaRegexZE
namespace Go.Proofs.Ytfhccmegobbnaaa
open Go.ChangeShapes Go.WideShapes Go.ChangeAt Go.RowKit
set_option linter.unusedVariables false
set_option linter.unusedSimpArgs false

set_option maxRecDepth 20000 in
set_option maxHeartbeats 64000000 in
theorem ints_calls (va vb : Value) (cs : List Int) (w : World) (ha : Offs va cs w) (hb : Offs vb cs w) (hl : cs.length ≤ 1000000) :
    Calls Try.prog 14 #[va, vb] w fun e W => e = .returned (.bool true) ∧ Below w.heap.size w W := by
  obtain ⟨aa, ac, rfl, ca⟩ := ha.form
  obtain ⟨ba, bc, rfl, cb⟩ := hb.form
  obtain ⟨m, hm⟩ : ∃ m, cs.length = m := ⟨_, rfl⟩
  have CA : Aside (∀ j, j < m → ∃ cb, aa = some ⟨cb, 0, none⟩ ∧ cb < w.heap.size ∧ ∀ i, i < m → w.cell? ⟨cb, i, none⟩ = some (.int .i64 (cs.getD i 0))) := by rw [← hm]; exact ca
  have CB : Aside (∀ j, j < m → ∃ cb, ba = some ⟨cb, 0, none⟩ ∧ cb < w.heap.size ∧ ∀ i, i < m → w.cell? ⟨cb, i, none⟩ = some (.int .i64 (cs.getD i 0))) := by rw [← hm]; exact cb
  rw [hm] at hl ⊢
  clear ha hb ca cb hm
  go_enter Try.func14, Try.ntmps14
  go_wp2
  go_loopg [5] (m + 1) (fun gk s5 wr => ∃ j : Nat, s5 = .int .i64 (j : Int) ∧ j + gk = m + 1 ∧ j ≤ m ∧ Aside (Below w.heap.size w wr))
  case atStart => exact ⟨0, rfl, by omega, by omega, Below.refl _ _⟩
  case round =>
    obtain ⟨j, rfl, hg, hj, HB⟩ := hrel
    by_cases hjm : j < m
    rotate_left
    · go_wp2
      all_goals refine bodyPost_ret (v := .bool (true)) (by simp [results, Try.results14, go_sem, ↓IntWalk.iteOmega, *]) rfl ⟨rfl, HB.out⟩
    obtain ⟨xb, rfl, hxb, hxc⟩ := CA.out j hjm
    obtain ⟨yb, rfl, hyb, hyc⟩ := CB.out j hjm
    have x0 : wr.cell? ⟨xb, j, none⟩ = some (.int .i64 (cs.getD j 0)) := (HB.out.cell (p := ⟨xb, j, none⟩) hxb).trans (hxc j hjm)
    have y0 : wr.cell? ⟨yb, j, none⟩ = some (.int .i64 (cs.getD j 0)) := (HB.out.cell (p := ⟨yb, j, none⟩) hyb).trans (hyc j hjm)
    generalize cs.getD j 0 = x at x0 y0
    have hjz : (j : Int) < (m : Int) := by omega
    have wj : IntKind.i64.wrap ((j : Int) + 1) = ((j + 1 : Nat) : Int) := by rw [IntKind.wrap_i64]; omega
    clear hxc hyc
    go_wp2_with fail
    go_quiet (fail)
    go_wp2_with fail
    go_roundg (m - j)
    case measure => omega
    case rel => exact ⟨j + 1, rfl, by omega, by omega, below_drewN HB.out _⟩

set_option maxRecDepth 20000 in
set_option maxHeartbeats 64000000 in
theorem same_calls (L : List In) (aa ba : Option Addr) (ac bc : Nat) (g : Int) (w : World) (ha : CellsIn w aa L) (hb : CellsIn w ba L) (hl : L.length ≤ 1000000) :
    Calls Try.prog 17 #[.agg #[.slice aa L.length ac, .int .i64 g], .agg #[.slice ba L.length bc, .int .i64 g]] w fun e W => e = .returned (.bool true) ∧ Below w.heap.size w W := by
  obtain ⟨m, hm⟩ : ∃ m, L.length = m := ⟨_, rfl⟩
  have CA : Aside (CellsIn w aa L) := ha
  have CB : Aside (CellsIn w ba L) := hb
  have HM : Aside (L.length = m) := hm
  rw [hm] at hl ⊢
  clear ha hb hm
  go_enter Try.func17, Try.ntmps17
  go_wp2
  go_loopg [5] (m + 1) (fun gk s5 wr => ∃ j : Nat, s5 = .int .i64 (j : Int) ∧ j + gk = m + 1 ∧ j ≤ m ∧ Aside (wr.heap[w.heap.size]? = some (.cells #[.slice aa m ac, .int .i64 g] 24 (0, 0)) ∧ wr.heap[w.heap.size + 1]? = some (.cells #[.slice ba m bc, .int .i64 g] 24 (0, 0)) ∧ Below w.heap.size w wr))
  case atStart => exact ⟨0, rfl, by omega, by omega, hp_old (hp_new rfl), hp_new (by simp), Below.alloc (Below.alloc (Below.refl _ _) (Nat.le_refl _) _) (by simp) _⟩
  case round =>
    obtain ⟨j, rfl, hg, hj, HB⟩ := hrel
    have c0 := cell_heap HB.out.1 0 _ rfl
    have c1 := cell_heap HB.out.2.1 0 _ rfl
    have lt0 : w.heap.size < wr.heap.size := (Array.getElem?_eq_some_iff.1 HB.out.1).1
    have lt1 : w.heap.size + 1 < wr.heap.size := (Array.getElem?_eq_some_iff.1 HB.out.2.1).1
    by_cases hjm : j < m
    rotate_left
    · go_wp2
      all_goals refine bodyPost_ret (v := .bool (true)) (by simp [results, Try.results17, go_sem, ↓IntWalk.iteOmega, *]) rfl ⟨rfl, HB.out.2.2⟩
    obtain ⟨xb, xo, rfl, hxb, x0, x1, x2, x3, x4, x5⟩ := (CA.out.later HB.out.2.2) j (by rw [HM.out]; exact hjm)
    obtain ⟨yb, yo, rfl, hyb, y0, y1, y2, y3, y4, y5⟩ := (CB.out.later HB.out.2.2) j (by rw [HM.out]; exact hjm)
    generalize L[j]! = t at x0 x1 x2 x3 x4 x5 y0 y1 y2 y3 y4 y5
    obtain ⟨z1, z2, z3, z4, z5, z6⟩ := t
    simp only [] at x0 x1 x2 x3 x4 x5 y0 y1 y2 y3 y4 y5
    have nq : ∀ W : World, (binOp .neq 34 (.agg #[.int .i64 z1, .int .u8 z2, .string z3, .bool z4, .int .i64 z5, .int .i64 z6]) (.agg #[.int .i64 z1, .int .u8 z2, .string z3, .bool z4, .int .i64 z5, .int .i64 z6])).run Try.prog W = .ok (.bool false) W := fun W => by rw [neq_in]; simp
    have hjz : (j : Int) < (m : Int) := by omega
    have wj : IntKind.i64.wrap ((j : Int) + 1) = ((j + 1 : Nat) : Int) := by rw [IntKind.wrap_i64]; omega
    go_wp2_with fail
    go_quiet (fail)
    go_wp2_with fail
    go_roundg (m - j)
    case measure => omega
    case rel => exact ⟨j + 1, rfl, by omega, by omega, heap_later HB.out.1 (below_drewN (Below.refl _ _) _), heap_later HB.out.2.1 (below_drewN (Below.refl _ _) _), below_drewN HB.out.2.2 _⟩

end Go.Proofs.Ytfhccmegobbnaaa
