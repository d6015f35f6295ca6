/- This text gives the plain reading of the reference's rest and Right, and compares it with the package's. It has no program in sight. Conditions: those that each theorem names. This text proves the walk of rest of the reference. Conditions: those that each theorem names. -/
import Derived.Test.YtfhccmegobbnaaaRegexRA
namespace Go.Proofs.Ytfhccmegobbnaaa
open Go.ChangeShapes Go.WideShapes Go.ChangeAt Go.RowKit
set_option linter.unusedVariables false
set_option linter.unusedSimpArgs false

/-- The fields that an instruction does not use are zero. -/
def restF (i : In) : Bool :=
  if i.op ≠ 1 ∧ i.c ≠ 0 then false else if i.op ≠ 3 ∧ (i.set ≠ ⟨#[]⟩ ∨ i.nt = true) then false else if i.op ≠ 6 ∧ i.y ≠ 0 then false
  else decide (i.op = 6 ∨ i.op = 7 ∨ i.op = 8 ∨ i.x = 0)
theorem rest_only (i : In) : restF i = inSame i (onlyF i) := by
  obtain ⟨o, c, s, nt, x, y⟩ := i
  rw [Bool.eq_iff_iff, inSame_iff]
  unfold restF onlyF
  by_cases h1 : o = 1
  · subst h1
    simp <;> (try (constructor <;> intro h <;> simp_all)) 
  by_cases h3 : o = 3
  · subst h3
    simp
    first | done | (intro _; exact And.comm) | (constructor <;> intro h <;> simp_all)
  by_cases h6 : o = 6
  · subst h6
    simp <;> (try (constructor <;> intro h <;> simp_all))
  by_cases h7 : o = 7 ∨ o = 8
  · have hx : (o = 7 ∨ o = 8 ∨ x = 0) := by omega
    simp [h1, h3, h6, h7, hx]
    first | done | (intro _; exact and_assoc) | (intro _; constructor <;> intro h <;> simp_all)
  · have h78 : ¬ o = 7 ∧ ¬ o = 8 := by omega
    simp [h1, h3, h6, h7, h78.1, h78.2]
    intro _
    constructor
    · rintro ⟨⟨a, b⟩, c, d⟩; exact ⟨a, b, d, c⟩
    · rintro ⟨a, b, d, c⟩; exact ⟨⟨a, b⟩, c, d⟩


set_option maxRecDepth 20000 in
set_option maxHeartbeats 32000000 in
theorem rest_calls (y1 y2 : Int) (y3 : ByteArray) (y4 : Bool) (y5 y6 : Int) (w : World) :
    Calls Try.prog 33 #[.agg #[.int .i64 y1, .int .u8 y2, .string y3, .bool y4, .int .i64 y5, .int .i64 y6]] w fun e w' => e = .returned (.bool (restF ⟨y1, y2, y3, y4, y5, y6⟩)) ∧ Below w.heap.size w w' := by
  by_cases o1 : y1 = 1
  · subst o1
    by_cases hs : y3 = ⟨#[]⟩
    rotate_left
    · have s1 : ¬ y3.toList = [] := fun h => hs (bytes_inj (by rw [ByteArray.toList_eq] at h; exact h))
      have s2 : (y3.toList == []) = false := by simpa using s1
      have ER : restF (⟨1, y2, y3, y4, y5, y6⟩ : In) = (false) := by unfold restF; simp [hs]
      rw [ER]
      clear ER
      go_enter Try.func33, Try.ntmps33
      go_wp2
      all_goals refine bodyPost_ret (v := .bool (false)) (by simp [results, Try.results33, go_sem, ↓IntWalk.iteOmega, *]) rfl ⟨rfl, ?_⟩
      all_goals
        repeat (first | (with_reducible exact Below.refl _ _) | (with_reducible assumption) | (with_reducible refine below_to_plus ?_ ?_ _) | (with_reducible refine below_holds ?_ ?_ _ _) | (with_reducible refine Below.alloc ?_ ?_ _) | (with_reducible refine Below.drew ?_) | (with_reducible refine below_drewN ?_ _) | (with_reducible refine Below.setCell ?_ ?_ _))
        all_goals first | omega | (simp; done) | (simp [go_sem]; done) | (simp [go_sem]; omega)
    subst hs
    cases y4 with
    | true =>
      have ER : restF (⟨1, y2, ⟨#[]⟩, true, y5, y6⟩ : In) = (false) := by unfold restF; simp []
      rw [ER]
      clear ER
      go_enter Try.func33, Try.ntmps33
      go_wp2
      all_goals refine bodyPost_ret (v := .bool (false)) (by simp [results, Try.results33, go_sem, ↓IntWalk.iteOmega, *]) rfl ⟨rfl, ?_⟩
      all_goals
        repeat (first | (with_reducible exact Below.refl _ _) | (with_reducible assumption) | (with_reducible refine below_to_plus ?_ ?_ _) | (with_reducible refine below_holds ?_ ?_ _ _) | (with_reducible refine Below.alloc ?_ ?_ _) | (with_reducible refine Below.drew ?_) | (with_reducible refine below_drewN ?_ _) | (with_reducible refine Below.setCell ?_ ?_ _))
        all_goals first | omega | (simp; done) | (simp [go_sem]; done) | (simp [go_sem]; omega)
    | false =>
      by_cases hy : y6 = 0
      rotate_left
      · have z1 : (y6 != 0) = true := by simpa using hy
        have z2 : (y6 == 0) = false := by simpa using hy
        have ER : restF (⟨1, y2, ⟨#[]⟩, false, y5, y6⟩ : In) = (false) := by unfold restF; simp [hy]
        rw [ER]
        clear ER
        go_enter Try.func33, Try.ntmps33
        go_wp2
        all_goals refine bodyPost_ret (v := .bool (false)) (by simp [results, Try.results33, go_sem, ↓IntWalk.iteOmega, *]) rfl ⟨rfl, ?_⟩
        all_goals
          repeat (first | (with_reducible exact Below.refl _ _) | (with_reducible assumption) | (with_reducible refine below_to_plus ?_ ?_ _) | (with_reducible refine below_holds ?_ ?_ _ _) | (with_reducible refine Below.alloc ?_ ?_ _) | (with_reducible refine Below.drew ?_) | (with_reducible refine below_drewN ?_ _) | (with_reducible refine Below.setCell ?_ ?_ _))
          all_goals first | omega | (simp; done) | (simp [go_sem]; done) | (simp [go_sem]; omega)
      have z1 : (y6 != 0) = false := by simpa using hy
      have z2 : (y6 == 0) = true := by simpa using hy
      by_cases hx : y5 = 0
      · have x1 : (y5 == 0) = true := by simpa using hx
        have ER : restF (⟨1, y2, ⟨#[]⟩, false, y5, y6⟩ : In) = (true) := by unfold restF; simp [hy, hx]
        rw [ER]
        clear ER
        go_enter Try.func33, Try.ntmps33
        go_wp2
        all_goals refine bodyPost_ret (v := .bool (true)) (by simp [results, Try.results33, go_sem, ↓IntWalk.iteOmega, *]) rfl ⟨rfl, ?_⟩
        all_goals
          repeat (first | (with_reducible exact Below.refl _ _) | (with_reducible assumption) | (with_reducible refine below_to_plus ?_ ?_ _) | (with_reducible refine below_holds ?_ ?_ _ _) | (with_reducible refine Below.alloc ?_ ?_ _) | (with_reducible refine Below.drew ?_) | (with_reducible refine below_drewN ?_ _) | (with_reducible refine Below.setCell ?_ ?_ _))
          all_goals first | omega | (simp; done) | (simp [go_sem]; done) | (simp [go_sem]; omega)
      · have x1 : (y5 == 0) = false := by simpa using hx
        have ER : restF (⟨1, y2, ⟨#[]⟩, false, y5, y6⟩ : In) = (false) := by unfold restF; simp [hy, hx]
        rw [ER]
        clear ER
        go_enter Try.func33, Try.ntmps33
        go_wp2
        all_goals refine bodyPost_ret (v := .bool (false)) (by simp [results, Try.results33, go_sem, ↓IntWalk.iteOmega, *]) rfl ⟨rfl, ?_⟩
        all_goals
          repeat (first | (with_reducible exact Below.refl _ _) | (with_reducible assumption) | (with_reducible refine below_to_plus ?_ ?_ _) | (with_reducible refine below_holds ?_ ?_ _ _) | (with_reducible refine Below.alloc ?_ ?_ _) | (with_reducible refine Below.drew ?_) | (with_reducible refine below_drewN ?_ _) | (with_reducible refine Below.setCell ?_ ?_ _))
          all_goals first | omega | (simp; done) | (simp [go_sem]; done) | (simp [go_sem]; omega)
  have e1 : (y1 == 1) = false := by simpa using o1
  have n1 : (y1 != 1) = true := by simpa using o1
  have d1 : decide (y1 = 1) = false := decide_eq_false o1
  by_cases o3 : y1 = 3
  · subst o3
    by_cases hc : y2 = 0
    rotate_left
    · have c1 : (y2 != 0) = true := by simpa using hc
      have c2 : (y2 == 0) = false := by simpa using hc
      have ER : restF (⟨3, y2, y3, y4, y5, y6⟩ : In) = (false) := by unfold restF; simp [hc]
      rw [ER]
      clear ER
      go_enter Try.func33, Try.ntmps33
      go_wp2
      all_goals refine bodyPost_ret (v := .bool (false)) (by simp [results, Try.results33, go_sem, ↓IntWalk.iteOmega, *]) rfl ⟨rfl, ?_⟩
      all_goals
        repeat (first | (with_reducible exact Below.refl _ _) | (with_reducible assumption) | (with_reducible refine below_to_plus ?_ ?_ _) | (with_reducible refine below_holds ?_ ?_ _ _) | (with_reducible refine Below.alloc ?_ ?_ _) | (with_reducible refine Below.drew ?_) | (with_reducible refine below_drewN ?_ _) | (with_reducible refine Below.setCell ?_ ?_ _))
        all_goals first | omega | (simp; done) | (simp [go_sem]; done) | (simp [go_sem]; omega)
    have c1 : (y2 != 0) = false := by simpa using hc
    have c2 : (y2 == 0) = true := by simpa using hc
    by_cases hy : y6 = 0
    rotate_left
    · have z1 : (y6 != 0) = true := by simpa using hy
      have z2 : (y6 == 0) = false := by simpa using hy
      have ER : restF (⟨3, y2, y3, y4, y5, y6⟩ : In) = (false) := by unfold restF; simp [hc, hy]
      rw [ER]
      clear ER
      go_enter Try.func33, Try.ntmps33
      go_wp2
      all_goals refine bodyPost_ret (v := .bool (false)) (by simp [results, Try.results33, go_sem, ↓IntWalk.iteOmega, *]) rfl ⟨rfl, ?_⟩
      all_goals
        repeat (first | (with_reducible exact Below.refl _ _) | (with_reducible assumption) | (with_reducible refine below_to_plus ?_ ?_ _) | (with_reducible refine below_holds ?_ ?_ _ _) | (with_reducible refine Below.alloc ?_ ?_ _) | (with_reducible refine Below.drew ?_) | (with_reducible refine below_drewN ?_ _) | (with_reducible refine Below.setCell ?_ ?_ _))
        all_goals first | omega | (simp; done) | (simp [go_sem]; done) | (simp [go_sem]; omega)
    have z1 : (y6 != 0) = false := by simpa using hy
    have z2 : (y6 == 0) = true := by simpa using hy
    by_cases hx : y5 = 0
    · have x1 : (y5 == 0) = true := by simpa using hx
      have ER : restF (⟨3, y2, y3, y4, y5, y6⟩ : In) = (true) := by unfold restF; simp [hc, hy, hx]
      rw [ER]
      clear ER
      go_enter Try.func33, Try.ntmps33
      go_wp2
      all_goals refine bodyPost_ret (v := .bool (true)) (by simp [results, Try.results33, go_sem, ↓IntWalk.iteOmega, *]) rfl ⟨rfl, ?_⟩
      all_goals
        repeat (first | (with_reducible exact Below.refl _ _) | (with_reducible assumption) | (with_reducible refine below_to_plus ?_ ?_ _) | (with_reducible refine below_holds ?_ ?_ _ _) | (with_reducible refine Below.alloc ?_ ?_ _) | (with_reducible refine Below.drew ?_) | (with_reducible refine below_drewN ?_ _) | (with_reducible refine Below.setCell ?_ ?_ _))
        all_goals first | omega | (simp; done) | (simp [go_sem]; done) | (simp [go_sem]; omega)
    · have x1 : (y5 == 0) = false := by simpa using hx
      have ER : restF (⟨3, y2, y3, y4, y5, y6⟩ : In) = (false) := by unfold restF; simp [hc, hy, hx]
      rw [ER]
      clear ER
      go_enter Try.func33, Try.ntmps33
      go_wp2
      all_goals refine bodyPost_ret (v := .bool (false)) (by simp [results, Try.results33, go_sem, ↓IntWalk.iteOmega, *]) rfl ⟨rfl, ?_⟩
      all_goals
        repeat (first | (with_reducible exact Below.refl _ _) | (with_reducible assumption) | (with_reducible refine below_to_plus ?_ ?_ _) | (with_reducible refine below_holds ?_ ?_ _ _) | (with_reducible refine Below.alloc ?_ ?_ _) | (with_reducible refine Below.drew ?_) | (with_reducible refine below_drewN ?_ _) | (with_reducible refine Below.setCell ?_ ?_ _))
        all_goals first | omega | (simp; done) | (simp [go_sem]; done) | (simp [go_sem]; omega)
  have e3 : (y1 == 3) = false := by simpa using o3
  have n3 : (y1 != 3) = true := by simpa using o3
  have d3 : decide (y1 = 3) = false := decide_eq_false o3
  by_cases o6 : y1 = 6
  · subst o6
    by_cases hc : y2 = 0
    rotate_left
    · have c1 : (y2 != 0) = true := by simpa using hc
      have c2 : (y2 == 0) = false := by simpa using hc
      have ER : restF (⟨6, y2, y3, y4, y5, y6⟩ : In) = (false) := by unfold restF; simp [hc]
      rw [ER]
      clear ER
      go_enter Try.func33, Try.ntmps33
      go_wp2
      all_goals refine bodyPost_ret (v := .bool (false)) (by simp [results, Try.results33, go_sem, ↓IntWalk.iteOmega, *]) rfl ⟨rfl, ?_⟩
      all_goals
        repeat (first | (with_reducible exact Below.refl _ _) | (with_reducible assumption) | (with_reducible refine below_to_plus ?_ ?_ _) | (with_reducible refine below_holds ?_ ?_ _ _) | (with_reducible refine Below.alloc ?_ ?_ _) | (with_reducible refine Below.drew ?_) | (with_reducible refine below_drewN ?_ _) | (with_reducible refine Below.setCell ?_ ?_ _))
        all_goals first | omega | (simp; done) | (simp [go_sem]; done) | (simp [go_sem]; omega)
    have c1 : (y2 != 0) = false := by simpa using hc
    have c2 : (y2 == 0) = true := by simpa using hc
    by_cases hs : y3 = ⟨#[]⟩
    rotate_left
    · have s1 : ¬ y3.toList = [] := fun h => hs (bytes_inj (by rw [ByteArray.toList_eq] at h; exact h))
      have s2 : (y3.toList == []) = false := by simpa using s1
      have ER : restF (⟨6, y2, y3, y4, y5, y6⟩ : In) = (false) := by unfold restF; simp [hc, hs]
      rw [ER]
      clear ER
      go_enter Try.func33, Try.ntmps33
      go_wp2
      all_goals refine bodyPost_ret (v := .bool (false)) (by simp [results, Try.results33, go_sem, ↓IntWalk.iteOmega, *]) rfl ⟨rfl, ?_⟩
      all_goals
        repeat (first | (with_reducible exact Below.refl _ _) | (with_reducible assumption) | (with_reducible refine below_to_plus ?_ ?_ _) | (with_reducible refine below_holds ?_ ?_ _ _) | (with_reducible refine Below.alloc ?_ ?_ _) | (with_reducible refine Below.drew ?_) | (with_reducible refine below_drewN ?_ _) | (with_reducible refine Below.setCell ?_ ?_ _))
        all_goals first | omega | (simp; done) | (simp [go_sem]; done) | (simp [go_sem]; omega)
    subst hs
    cases y4 with
    | true =>
      have ER : restF (⟨6, y2, ⟨#[]⟩, true, y5, y6⟩ : In) = (false) := by unfold restF; simp [hc]
      rw [ER]
      clear ER
      go_enter Try.func33, Try.ntmps33
      go_wp2
      all_goals refine bodyPost_ret (v := .bool (false)) (by simp [results, Try.results33, go_sem, ↓IntWalk.iteOmega, *]) rfl ⟨rfl, ?_⟩
      all_goals
        repeat (first | (with_reducible exact Below.refl _ _) | (with_reducible assumption) | (with_reducible refine below_to_plus ?_ ?_ _) | (with_reducible refine below_holds ?_ ?_ _ _) | (with_reducible refine Below.alloc ?_ ?_ _) | (with_reducible refine Below.drew ?_) | (with_reducible refine below_drewN ?_ _) | (with_reducible refine Below.setCell ?_ ?_ _))
        all_goals first | omega | (simp; done) | (simp [go_sem]; done) | (simp [go_sem]; omega)
    | false =>
      have ER : restF (⟨6, y2, ⟨#[]⟩, false, y5, y6⟩ : In) = (true) := by unfold restF; simp [hc]
      rw [ER]
      clear ER
      go_enter Try.func33, Try.ntmps33
      go_wp2
      all_goals refine bodyPost_ret (v := .bool (true)) (by simp [results, Try.results33, go_sem, ↓IntWalk.iteOmega, *]) rfl ⟨rfl, ?_⟩
      all_goals
        repeat (first | (with_reducible exact Below.refl _ _) | (with_reducible assumption) | (with_reducible refine below_to_plus ?_ ?_ _) | (with_reducible refine below_holds ?_ ?_ _ _) | (with_reducible refine Below.alloc ?_ ?_ _) | (with_reducible refine Below.drew ?_) | (with_reducible refine below_drewN ?_ _) | (with_reducible refine Below.setCell ?_ ?_ _))
        all_goals first | omega | (simp; done) | (simp [go_sem]; done) | (simp [go_sem]; omega)
  have e6 : (y1 == 6) = false := by simpa using o6
  have n6 : (y1 != 6) = true := by simpa using o6
  have d6 : decide (y1 = 6) = false := decide_eq_false o6
  by_cases o7 : y1 = 7
  · subst o7
    by_cases hc : y2 = 0
    rotate_left
    · have c1 : (y2 != 0) = true := by simpa using hc
      have c2 : (y2 == 0) = false := by simpa using hc
      have ER : restF (⟨7, y2, y3, y4, y5, y6⟩ : In) = (false) := by unfold restF; simp [hc]
      rw [ER]
      clear ER
      go_enter Try.func33, Try.ntmps33
      go_wp2
      all_goals refine bodyPost_ret (v := .bool (false)) (by simp [results, Try.results33, go_sem, ↓IntWalk.iteOmega, *]) rfl ⟨rfl, ?_⟩
      all_goals
        repeat (first | (with_reducible exact Below.refl _ _) | (with_reducible assumption) | (with_reducible refine below_to_plus ?_ ?_ _) | (with_reducible refine below_holds ?_ ?_ _ _) | (with_reducible refine Below.alloc ?_ ?_ _) | (with_reducible refine Below.drew ?_) | (with_reducible refine below_drewN ?_ _) | (with_reducible refine Below.setCell ?_ ?_ _))
        all_goals first | omega | (simp; done) | (simp [go_sem]; done) | (simp [go_sem]; omega)
    have c1 : (y2 != 0) = false := by simpa using hc
    have c2 : (y2 == 0) = true := by simpa using hc
    by_cases hs : y3 = ⟨#[]⟩
    rotate_left
    · have s1 : ¬ y3.toList = [] := fun h => hs (bytes_inj (by rw [ByteArray.toList_eq] at h; exact h))
      have s2 : (y3.toList == []) = false := by simpa using s1
      have ER : restF (⟨7, y2, y3, y4, y5, y6⟩ : In) = (false) := by unfold restF; simp [hc, hs]
      rw [ER]
      clear ER
      go_enter Try.func33, Try.ntmps33
      go_wp2
      all_goals refine bodyPost_ret (v := .bool (false)) (by simp [results, Try.results33, go_sem, ↓IntWalk.iteOmega, *]) rfl ⟨rfl, ?_⟩
      all_goals
        repeat (first | (with_reducible exact Below.refl _ _) | (with_reducible assumption) | (with_reducible refine below_to_plus ?_ ?_ _) | (with_reducible refine below_holds ?_ ?_ _ _) | (with_reducible refine Below.alloc ?_ ?_ _) | (with_reducible refine Below.drew ?_) | (with_reducible refine below_drewN ?_ _) | (with_reducible refine Below.setCell ?_ ?_ _))
        all_goals first | omega | (simp; done) | (simp [go_sem]; done) | (simp [go_sem]; omega)
    subst hs
    cases y4 with
    | true =>
      have ER : restF (⟨7, y2, ⟨#[]⟩, true, y5, y6⟩ : In) = (false) := by unfold restF; simp [hc]
      rw [ER]
      clear ER
      go_enter Try.func33, Try.ntmps33
      go_wp2
      all_goals refine bodyPost_ret (v := .bool (false)) (by simp [results, Try.results33, go_sem, ↓IntWalk.iteOmega, *]) rfl ⟨rfl, ?_⟩
      all_goals
        repeat (first | (with_reducible exact Below.refl _ _) | (with_reducible assumption) | (with_reducible refine below_to_plus ?_ ?_ _) | (with_reducible refine below_holds ?_ ?_ _ _) | (with_reducible refine Below.alloc ?_ ?_ _) | (with_reducible refine Below.drew ?_) | (with_reducible refine below_drewN ?_ _) | (with_reducible refine Below.setCell ?_ ?_ _))
        all_goals first | omega | (simp; done) | (simp [go_sem]; done) | (simp [go_sem]; omega)
    | false =>
      by_cases hy : y6 = 0
      rotate_left
      · have z1 : (y6 != 0) = true := by simpa using hy
        have z2 : (y6 == 0) = false := by simpa using hy
        have ER : restF (⟨7, y2, ⟨#[]⟩, false, y5, y6⟩ : In) = (false) := by unfold restF; simp [hc, hy]
        rw [ER]
        clear ER
        go_enter Try.func33, Try.ntmps33
        go_wp2
        all_goals refine bodyPost_ret (v := .bool (false)) (by simp [results, Try.results33, go_sem, ↓IntWalk.iteOmega, *]) rfl ⟨rfl, ?_⟩
        all_goals
          repeat (first | (with_reducible exact Below.refl _ _) | (with_reducible assumption) | (with_reducible refine below_to_plus ?_ ?_ _) | (with_reducible refine below_holds ?_ ?_ _ _) | (with_reducible refine Below.alloc ?_ ?_ _) | (with_reducible refine Below.drew ?_) | (with_reducible refine below_drewN ?_ _) | (with_reducible refine Below.setCell ?_ ?_ _))
          all_goals first | omega | (simp; done) | (simp [go_sem]; done) | (simp [go_sem]; omega)
      have z1 : (y6 != 0) = false := by simpa using hy
      have z2 : (y6 == 0) = true := by simpa using hy
      have ER : restF (⟨7, y2, ⟨#[]⟩, false, y5, y6⟩ : In) = (true) := by unfold restF; simp [hc, hy]
      rw [ER]
      clear ER
      go_enter Try.func33, Try.ntmps33
      go_wp2
      all_goals refine bodyPost_ret (v := .bool (true)) (by simp [results, Try.results33, go_sem, ↓IntWalk.iteOmega, *]) rfl ⟨rfl, ?_⟩
      all_goals
        repeat (first | (with_reducible exact Below.refl _ _) | (with_reducible assumption) | (with_reducible refine below_to_plus ?_ ?_ _) | (with_reducible refine below_holds ?_ ?_ _ _) | (with_reducible refine Below.alloc ?_ ?_ _) | (with_reducible refine Below.drew ?_) | (with_reducible refine below_drewN ?_ _) | (with_reducible refine Below.setCell ?_ ?_ _))
        all_goals first | omega | (simp; done) | (simp [go_sem]; done) | (simp [go_sem]; omega)
  have e7 : (y1 == 7) = false := by simpa using o7
  have n7 : (y1 != 7) = true := by simpa using o7
  have d7 : decide (y1 = 7) = false := decide_eq_false o7
  by_cases o8 : y1 = 8
  · subst o8
    by_cases hc : y2 = 0
    rotate_left
    · have c1 : (y2 != 0) = true := by simpa using hc
      have c2 : (y2 == 0) = false := by simpa using hc
      have ER : restF (⟨8, y2, y3, y4, y5, y6⟩ : In) = (false) := by unfold restF; simp [hc]
      rw [ER]
      clear ER
      go_enter Try.func33, Try.ntmps33
      go_wp2
      all_goals refine bodyPost_ret (v := .bool (false)) (by simp [results, Try.results33, go_sem, ↓IntWalk.iteOmega, *]) rfl ⟨rfl, ?_⟩
      all_goals
        repeat (first | (with_reducible exact Below.refl _ _) | (with_reducible assumption) | (with_reducible refine below_to_plus ?_ ?_ _) | (with_reducible refine below_holds ?_ ?_ _ _) | (with_reducible refine Below.alloc ?_ ?_ _) | (with_reducible refine Below.drew ?_) | (with_reducible refine below_drewN ?_ _) | (with_reducible refine Below.setCell ?_ ?_ _))
        all_goals first | omega | (simp; done) | (simp [go_sem]; done) | (simp [go_sem]; omega)
    have c1 : (y2 != 0) = false := by simpa using hc
    have c2 : (y2 == 0) = true := by simpa using hc
    by_cases hs : y3 = ⟨#[]⟩
    rotate_left
    · have s1 : ¬ y3.toList = [] := fun h => hs (bytes_inj (by rw [ByteArray.toList_eq] at h; exact h))
      have s2 : (y3.toList == []) = false := by simpa using s1
      have ER : restF (⟨8, y2, y3, y4, y5, y6⟩ : In) = (false) := by unfold restF; simp [hc, hs]
      rw [ER]
      clear ER
      go_enter Try.func33, Try.ntmps33
      go_wp2
      all_goals refine bodyPost_ret (v := .bool (false)) (by simp [results, Try.results33, go_sem, ↓IntWalk.iteOmega, *]) rfl ⟨rfl, ?_⟩
      all_goals
        repeat (first | (with_reducible exact Below.refl _ _) | (with_reducible assumption) | (with_reducible refine below_to_plus ?_ ?_ _) | (with_reducible refine below_holds ?_ ?_ _ _) | (with_reducible refine Below.alloc ?_ ?_ _) | (with_reducible refine Below.drew ?_) | (with_reducible refine below_drewN ?_ _) | (with_reducible refine Below.setCell ?_ ?_ _))
        all_goals first | omega | (simp; done) | (simp [go_sem]; done) | (simp [go_sem]; omega)
    subst hs
    cases y4 with
    | true =>
      have ER : restF (⟨8, y2, ⟨#[]⟩, true, y5, y6⟩ : In) = (false) := by unfold restF; simp [hc]
      rw [ER]
      clear ER
      go_enter Try.func33, Try.ntmps33
      go_wp2
      all_goals refine bodyPost_ret (v := .bool (false)) (by simp [results, Try.results33, go_sem, ↓IntWalk.iteOmega, *]) rfl ⟨rfl, ?_⟩
      all_goals
        repeat (first | (with_reducible exact Below.refl _ _) | (with_reducible assumption) | (with_reducible refine below_to_plus ?_ ?_ _) | (with_reducible refine below_holds ?_ ?_ _ _) | (with_reducible refine Below.alloc ?_ ?_ _) | (with_reducible refine Below.drew ?_) | (with_reducible refine below_drewN ?_ _) | (with_reducible refine Below.setCell ?_ ?_ _))
        all_goals first | omega | (simp; done) | (simp [go_sem]; done) | (simp [go_sem]; omega)
    | false =>
      by_cases hy : y6 = 0
      rotate_left
      · have z1 : (y6 != 0) = true := by simpa using hy
        have z2 : (y6 == 0) = false := by simpa using hy
        have ER : restF (⟨8, y2, ⟨#[]⟩, false, y5, y6⟩ : In) = (false) := by unfold restF; simp [hc, hy]
        rw [ER]
        clear ER
        go_enter Try.func33, Try.ntmps33
        go_wp2
        all_goals refine bodyPost_ret (v := .bool (false)) (by simp [results, Try.results33, go_sem, ↓IntWalk.iteOmega, *]) rfl ⟨rfl, ?_⟩
        all_goals
          repeat (first | (with_reducible exact Below.refl _ _) | (with_reducible assumption) | (with_reducible refine below_to_plus ?_ ?_ _) | (with_reducible refine below_holds ?_ ?_ _ _) | (with_reducible refine Below.alloc ?_ ?_ _) | (with_reducible refine Below.drew ?_) | (with_reducible refine below_drewN ?_ _) | (with_reducible refine Below.setCell ?_ ?_ _))
          all_goals first | omega | (simp; done) | (simp [go_sem]; done) | (simp [go_sem]; omega)
      have z1 : (y6 != 0) = false := by simpa using hy
      have z2 : (y6 == 0) = true := by simpa using hy
      have ER : restF (⟨8, y2, ⟨#[]⟩, false, y5, y6⟩ : In) = (true) := by unfold restF; simp [hc, hy]
      rw [ER]
      clear ER
      go_enter Try.func33, Try.ntmps33
      go_wp2
      all_goals refine bodyPost_ret (v := .bool (true)) (by simp [results, Try.results33, go_sem, ↓IntWalk.iteOmega, *]) rfl ⟨rfl, ?_⟩
      all_goals
        repeat (first | (with_reducible exact Below.refl _ _) | (with_reducible assumption) | (with_reducible refine below_to_plus ?_ ?_ _) | (with_reducible refine below_holds ?_ ?_ _ _) | (with_reducible refine Below.alloc ?_ ?_ _) | (with_reducible refine Below.drew ?_) | (with_reducible refine below_drewN ?_ _) | (with_reducible refine Below.setCell ?_ ?_ _))
        all_goals first | omega | (simp; done) | (simp [go_sem]; done) | (simp [go_sem]; omega)
  have e8 : (y1 == 8) = false := by simpa using o8
  have n8 : (y1 != 8) = true := by simpa using o8
  have d8 : decide (y1 = 8) = false := decide_eq_false o8
  by_cases hc : y2 = 0
  rotate_left
  · have c1 : (y2 != 0) = true := by simpa using hc
    have c2 : (y2 == 0) = false := by simpa using hc
    have ER : restF (⟨y1, y2, y3, y4, y5, y6⟩ : In) = (false) := by unfold restF; simp [o1, o3, o6, o7, o8, hc]
    rw [ER]
    clear ER
    go_enter Try.func33, Try.ntmps33
    go_wp2
    all_goals refine bodyPost_ret (v := .bool (false)) (by simp [results, Try.results33, go_sem, ↓IntWalk.iteOmega, *]) rfl ⟨rfl, ?_⟩
    all_goals
      repeat (first | (with_reducible exact Below.refl _ _) | (with_reducible assumption) | (with_reducible refine below_to_plus ?_ ?_ _) | (with_reducible refine below_holds ?_ ?_ _ _) | (with_reducible refine Below.alloc ?_ ?_ _) | (with_reducible refine Below.drew ?_) | (with_reducible refine below_drewN ?_ _) | (with_reducible refine Below.setCell ?_ ?_ _))
      all_goals first | omega | (simp; done) | (simp [go_sem]; done) | (simp [go_sem]; omega)
  have c1 : (y2 != 0) = false := by simpa using hc
  have c2 : (y2 == 0) = true := by simpa using hc
  by_cases hs : y3 = ⟨#[]⟩
  rotate_left
  · have s1 : ¬ y3.toList = [] := fun h => hs (bytes_inj (by rw [ByteArray.toList_eq] at h; exact h))
    have s2 : (y3.toList == []) = false := by simpa using s1
    have ER : restF (⟨y1, y2, y3, y4, y5, y6⟩ : In) = (false) := by unfold restF; simp [o1, o3, o6, o7, o8, hc, hs]
    rw [ER]
    clear ER
    go_enter Try.func33, Try.ntmps33
    go_wp2
    all_goals refine bodyPost_ret (v := .bool (false)) (by simp [results, Try.results33, go_sem, ↓IntWalk.iteOmega, *]) rfl ⟨rfl, ?_⟩
    all_goals
      repeat (first | (with_reducible exact Below.refl _ _) | (with_reducible assumption) | (with_reducible refine below_to_plus ?_ ?_ _) | (with_reducible refine below_holds ?_ ?_ _ _) | (with_reducible refine Below.alloc ?_ ?_ _) | (with_reducible refine Below.drew ?_) | (with_reducible refine below_drewN ?_ _) | (with_reducible refine Below.setCell ?_ ?_ _))
      all_goals first | omega | (simp; done) | (simp [go_sem]; done) | (simp [go_sem]; omega)
  subst hs
  cases y4 with
  | true =>
    have ER : restF (⟨y1, y2, ⟨#[]⟩, true, y5, y6⟩ : In) = (false) := by unfold restF; simp [o1, o3, o6, o7, o8, hc]
    rw [ER]
    clear ER
    go_enter Try.func33, Try.ntmps33
    go_wp2
    all_goals refine bodyPost_ret (v := .bool (false)) (by simp [results, Try.results33, go_sem, ↓IntWalk.iteOmega, *]) rfl ⟨rfl, ?_⟩
    all_goals
      repeat (first | (with_reducible exact Below.refl _ _) | (with_reducible assumption) | (with_reducible refine below_to_plus ?_ ?_ _) | (with_reducible refine below_holds ?_ ?_ _ _) | (with_reducible refine Below.alloc ?_ ?_ _) | (with_reducible refine Below.drew ?_) | (with_reducible refine below_drewN ?_ _) | (with_reducible refine Below.setCell ?_ ?_ _))
      all_goals first | omega | (simp; done) | (simp [go_sem]; done) | (simp [go_sem]; omega)
  | false =>
    by_cases hy : y6 = 0
    rotate_left
    · have z1 : (y6 != 0) = true := by simpa using hy
      have z2 : (y6 == 0) = false := by simpa using hy
      have ER : restF (⟨y1, y2, ⟨#[]⟩, false, y5, y6⟩ : In) = (false) := by unfold restF; simp [o1, o3, o6, o7, o8, hc, hy]
      rw [ER]
      clear ER
      go_enter Try.func33, Try.ntmps33
      go_wp2
      all_goals refine bodyPost_ret (v := .bool (false)) (by simp [results, Try.results33, go_sem, ↓IntWalk.iteOmega, *]) rfl ⟨rfl, ?_⟩
      all_goals
        repeat (first | (with_reducible exact Below.refl _ _) | (with_reducible assumption) | (with_reducible refine below_to_plus ?_ ?_ _) | (with_reducible refine below_holds ?_ ?_ _ _) | (with_reducible refine Below.alloc ?_ ?_ _) | (with_reducible refine Below.drew ?_) | (with_reducible refine below_drewN ?_ _) | (with_reducible refine Below.setCell ?_ ?_ _))
        all_goals first | omega | (simp; done) | (simp [go_sem]; done) | (simp [go_sem]; omega)
    have z1 : (y6 != 0) = false := by simpa using hy
    have z2 : (y6 == 0) = true := by simpa using hy
    by_cases hx : y5 = 0
    · have x1 : (y5 == 0) = true := by simpa using hx
      have ER : restF (⟨y1, y2, ⟨#[]⟩, false, y5, y6⟩ : In) = (true) := by unfold restF; simp [o1, o3, o6, o7, o8, hc, hy, hx]
      rw [ER]
      clear ER
      go_enter Try.func33, Try.ntmps33
      go_wp2
      all_goals refine bodyPost_ret (v := .bool (true)) (by simp [results, Try.results33, go_sem, ↓IntWalk.iteOmega, *]) rfl ⟨rfl, ?_⟩
      all_goals
        repeat (first | (with_reducible exact Below.refl _ _) | (with_reducible assumption) | (with_reducible refine below_to_plus ?_ ?_ _) | (with_reducible refine below_holds ?_ ?_ _ _) | (with_reducible refine Below.alloc ?_ ?_ _) | (with_reducible refine Below.drew ?_) | (with_reducible refine below_drewN ?_ _) | (with_reducible refine Below.setCell ?_ ?_ _))
        all_goals first | omega | (simp; done) | (simp [go_sem]; done) | (simp [go_sem]; omega)
    · have x1 : (y5 == 0) = false := by simpa using hx
      have ER : restF (⟨y1, y2, ⟨#[]⟩, false, y5, y6⟩ : In) = (false) := by unfold restF; simp [o1, o3, o6, o7, o8, hc, hy, hx]
      rw [ER]
      clear ER
      go_enter Try.func33, Try.ntmps33
      go_wp2
      all_goals refine bodyPost_ret (v := .bool (false)) (by simp [results, Try.results33, go_sem, ↓IntWalk.iteOmega, *]) rfl ⟨rfl, ?_⟩
      all_goals
        repeat (first | (with_reducible exact Below.refl _ _) | (with_reducible assumption) | (with_reducible refine below_to_plus ?_ ?_ _) | (with_reducible refine below_holds ?_ ?_ _ _) | (with_reducible refine Below.alloc ?_ ?_ _) | (with_reducible refine Below.drew ?_) | (with_reducible refine below_drewN ?_ _) | (with_reducible refine Below.setCell ?_ ?_ _))
        all_goals first | omega | (simp; done) | (simp [go_sem]; done) | (simp [go_sem]; omega)

end Go.Proofs.Ytfhccmegobbnaaa
