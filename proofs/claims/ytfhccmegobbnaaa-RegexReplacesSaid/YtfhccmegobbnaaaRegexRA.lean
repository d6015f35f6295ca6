/- This text proves the walk of accepts of the reference. Conditions: those that each theorem names. -/
import Derived.Test.YtfhccmegobbnaaaRegexZL
namespace Go.Proofs.Ytfhccmegobbnaaa
open Go.ChangeShapes Go.WideShapes Go.ChangeAt Go.RowKit
set_option linter.unusedVariables false
set_option linter.unusedSimpArgs false

set_option maxRecDepth 20000 in
set_option maxHeartbeats 32000000 in
theorem raccepts_calls (y1 y2 : Int) (y3 : ByteArray) (y4 : Bool) (y5 y6 c : Int) (h3 : y3.size ≤ 1000000) (w : World) :
    Calls Try.prog 56 #[.agg #[.int .i64 y1, .int .u8 y2, .string y3, .bool y4, .int .i64 y5, .int .i64 y6], .int .u8 c] w fun e w' => e = .returned (.bool (accF ⟨y1, y2, y3, y4, y5, y6⟩ c)) ∧ Below w.heap.size w w' := by
  by_cases o1 : y1 = 1
  · subst o1
    have ER : accF ⟨1, y2, y3, y4, y5, y6⟩ c = (y2 == c) := by unfold accF; simp
    rw [ER]
    clear ER
    go_enter Try.func56, Try.ntmps56
    go_wp2
    all_goals refine bodyPost_ret (v := .bool (y2 == c)) (by simp [results, Try.results56, go_sem, ↓IntWalk.iteOmega, *]) rfl ⟨rfl, ?_⟩
    all_goals
      repeat (first | (with_reducible exact Below.refl _ _) | (with_reducible assumption) | (with_reducible refine below_to_plus ?_ ?_ _) | (with_reducible refine below_holds ?_ ?_ _ _) | (with_reducible refine Below.alloc ?_ ?_ _) | (with_reducible refine Below.drew ?_) | (with_reducible refine below_drewN ?_ _) | (with_reducible refine Below.setCell ?_ ?_ _))
      all_goals first | omega | (simp; done) | (simp [go_sem]; done) | (simp [go_sem]; omega)
  by_cases o2 : y1 = 2
  · subst o2
    have ER : accF ⟨2, y2, y3, y4, y5, y6⟩ c = (c != 10) := by unfold accF; simp
    rw [ER]
    clear ER o1
    go_enter Try.func56, Try.ntmps56
    go_wp2
    all_goals refine bodyPost_ret (v := .bool (c != 10)) (by simp [results, Try.results56, go_sem, ↓IntWalk.iteOmega, *]) rfl ⟨rfl, ?_⟩
    all_goals
      repeat (first | (with_reducible exact Below.refl _ _) | (with_reducible assumption) | (with_reducible refine below_to_plus ?_ ?_ _) | (with_reducible refine below_holds ?_ ?_ _ _) | (with_reducible refine Below.alloc ?_ ?_ _) | (with_reducible refine Below.drew ?_) | (with_reducible refine below_drewN ?_ _) | (with_reducible refine Below.setCell ?_ ?_ _))
      all_goals first | omega | (simp; done) | (simp [go_sem]; done) | (simp [go_sem]; omega)
  by_cases o3 : y1 = 3
  · subst o3
    have ER : accF ⟨3, y2, y3, y4, y5, y6⟩ c = (inSetF y3 c (y3.size / 2) != y4) := by unfold accF; simp
    rw [ER]
    clear ER o1 o2
    have EQ0 : Aside (inSetF y3 c 0 = false) := rfl
    have EN : Aside (2 * (y3.size / 2) ≤ y3.size ∧ y3.size < 2 * (y3.size / 2) + 2) := ⟨by omega, by omega⟩
    obtain ⟨m, hm⟩ : ∃ m, y3.size / 2 = m := ⟨_, rfl⟩
    rw [hm] at EN ⊢
    clear hm
    go_enter Try.func56, Try.ntmps56
    go_wp2
    go_loopg [5, 6] (m + 1) (fun gk s5 s6 wr => ∃ j k : Nat, s5 = .bool (inSetF y3 c j) ∧ s6 = .int .i64 (k : Int) ∧ Aside (k = 2 * j) ∧ j ≤ m ∧ gk + j = m + 1 ∧ wr = (w.alloc (.cells #[.int .i64 3, .int .u8 y2, .string y3, .bool y4, .int .i64 y5, .int .i64 y6] 34)))
    case atStart => exact ⟨0, 0, rfl, rfl, rfl, by omega, by omega, rfl⟩
    case round =>
      obtain ⟨j, k, rfl, rfl, HK, hj, hg, rfl⟩ := hrel
      have en := EN.out
      have hk := HK.out
      have w1 : IntKind.i64.wrap ((k : Int) + 1) = ((k + 1 : Nat) : Int) := by rw [IntKind.wrap_i64]; omega
      have w2 : IntKind.i64.wrap ((k : Int) + 2) = ((k + 2 : Nat) : Int) := by rw [IntKind.wrap_i64]; omega
      by_cases hkn : k + 1 < y3.size
      rotate_left
      · have hkz : decide (((k + 1 : Nat) : Int) < (y3.size : Int)) = false := decide_eq_false (by omega)
        have hkz2 : ¬ (((k + 1 : Nat) : Int) < (y3.size : Int)) := by omega
        have ej : j = m := by omega
        subst ej
        clear hk en
        go_wp2
        all_goals refine bodyPost_ret (v := .bool (inSetF y3 c j != y4)) (by simp [results, Try.results56, go_sem, ↓IntWalk.iteOmega, *]; cases inSetF y3 c j <;> cases y4 <;> rfl) rfl ⟨rfl, ?_⟩
        all_goals
          repeat (first | (with_reducible exact Below.refl _ _) | (with_reducible assumption) | (with_reducible refine below_to_plus ?_ ?_ _) | (with_reducible refine below_holds ?_ ?_ _ _) | (with_reducible refine Below.alloc ?_ ?_ _) | (with_reducible refine Below.drew ?_) | (with_reducible refine below_drewN ?_ _) | (with_reducible refine Below.setCell ?_ ?_ _))
          all_goals first | omega | (simp; done) | (simp [go_sem]; done) | (simp [go_sem]; omega)
      have hkz : decide (((k + 1 : Nat) : Int) < (y3.size : Int)) = true := decide_eq_true (by omega)
      have hkz2 : (((k + 1 : Nat) : Int) < (y3.size : Int)) := by omega
      have hkz3 : ((k : Int) < (y3.size : Int)) := by omega
      have hkn0 : k < y3.size := by omega
      have ST : Aside (inSetF y3 c (j + 1) = (inSetF y3 c j || (decide ((y3[k].toNat : Int) ≤ c) && decide (c ≤ (y3[k + 1].toNat : Int))))) := by
        show _ = _
        rw [← getElem!_pos y3 k hkn0, ← getElem!_pos y3 (k + 1) hkn, hk]
        rfl
      clear hk en
      cases hb : inSetF y3 c j with
      | true =>
        rw [hb] at ST
        have ST : Aside (inSetF y3 c (j + 1) = true) := ST.out
        go_wp2
        go_roundg (m - j)
        case measure => (have := HK.out; have := EN.out; omega)
        case rel => exact ⟨j + 1, k + 2, by rw [ST.out], rfl, by have := HK.out; show _ = _; omega, by have := HK.out; have := EN.out; omega, by omega, rfl⟩
      | false =>
        rw [hb] at ST
        have ST : Aside (inSetF y3 c (j + 1) = (decide ((y3[k].toNat : Int) ≤ c) && decide (c ≤ (y3[k + 1].toNat : Int)))) := ST.out
        by_cases hlo : (y3[k].toNat : Int) ≤ c
        · have dlo : decide ((y3[k].toNat : Int) ≤ c) = true := decide_eq_true hlo
          rw [dlo] at ST
          have ST : Aside (inSetF y3 c (j + 1) = decide (c ≤ (y3[k + 1].toNat : Int))) := ST.out
          go_wp2
          go_roundg (m - j)
          case measure => (have := HK.out; have := EN.out; omega)
          case rel => exact ⟨j + 1, k + 2, by rw [ST.out], rfl, by have := HK.out; show _ = _; omega, by have := HK.out; have := EN.out; omega, by omega, rfl⟩
        · have dlo : decide ((y3[k].toNat : Int) ≤ c) = false := decide_eq_false hlo
          rw [dlo] at ST
          have ST : Aside (inSetF y3 c (j + 1) = false) := ST.out
          go_wp2
          go_roundg (m - j)
          case measure => (have := HK.out; have := EN.out; omega)
          case rel => exact ⟨j + 1, k + 2, by rw [ST.out], rfl, by have := HK.out; show _ = _; omega, by have := HK.out; have := EN.out; omega, by omega, rfl⟩
  have e1 : (y1 == 1) = false := by simpa using o1
  have f1 : decide (y1 = 1) = false := decide_eq_false o1
  have e2 : (y1 == 2) = false := by simpa using o2
  have f2 : decide (y1 = 2) = false := decide_eq_false o2
  have e3 : (y1 == 3) = false := by simpa using o3
  have f3 : decide (y1 = 3) = false := decide_eq_false o3
  have ER : accF ⟨y1, y2, y3, y4, y5, y6⟩ c = false := by unfold accF; rw [if_neg o1, if_neg o2, if_neg o3]
  rw [ER]
  clear ER o1 o2 o3
  go_enter Try.func56, Try.ntmps56
  go_wp2
  all_goals refine bodyPost_ret (v := .bool (false)) (by simp [results, Try.results56, go_sem, ↓IntWalk.iteOmega, *]) rfl ⟨rfl, ?_⟩
  all_goals
    repeat (first | (with_reducible exact Below.refl _ _) | (with_reducible assumption) | (with_reducible refine below_to_plus ?_ ?_ _) | (with_reducible refine below_holds ?_ ?_ _ _) | (with_reducible refine Below.alloc ?_ ?_ _) | (with_reducible refine Below.drew ?_) | (with_reducible refine below_drewN ?_ _) | (with_reducible refine Below.setCell ?_ ?_ _))
    all_goals first | omega | (simp; done) | (simp [go_sem]; done) | (simp [go_sem]; omega)

end Go.Proofs.Ytfhccmegobbnaaa
