/- This text proves the walk of sound. Conditions: those that each theorem names. -/
import Derived.Test.YtfhccmegobbnaaaRegexO
import Derived.Deep.QuietTactic
import Derived.BigQuiet
import Derived.Deep.RegionHeld3
namespace Go.Proofs.Ytfhccmegobbnaaa
open Go.ChangeShapes Go.WideShapes Go.ChangeAt Go.RowKit
set_option linter.unusedVariables false
set_option linter.unusedSimpArgs false

/-- Two instructions are equal, field by field. -/
def inSame (a b : In) : Bool := decide (a.op = b.op ∧ a.c = b.c ∧ a.set = b.set ∧ a.nt = b.nt ∧ a.x = b.x ∧ a.y = b.y)
theorem inSame_iff (a b : In) : inSame a b = true ↔ a = b := by
  obtain ⟨a1, a2, a3, a4, a5, a6⟩ := a; obtain ⟨b1, b2, b3, b4, b5, b6⟩ := b
  unfold inSame; simp only [decide_eq_true_eq, In.mk.injEq]
def setOk (s : ByteArray) : Bool := decide (s.size % 2 = 0) && decide (2 ≤ s.size) && decide (s.size ≤ 512)
/-- An instruction is valid in a program of n instructions and g groups. -/
def soundF (n : Nat) (g : Int) (i : In) : Bool :=
  if i.op < 1 then false else if 9 < i.op then false else if inSame i (onlyF i) = false then false
  else if i.op = 7 then inF i.x n else if i.op = 6 then inF i.x n && inF i.y n
  else if i.op = 8 then decide (0 ≤ i.x) && decide (i.x < 2 * g)
  else if i.op = 3 then setOk i.set else true

set_option maxHeartbeats 32000000 in
theorem sound_calls (y1 y2 : Int) (y3 : ByteArray) (y4 : Bool) (y5 y6 : Int) (ao : Option Addr) (n cap : Nat) (g : Int) (w : World) (h3 : y3.size ≤ maxLen) (hg : 0 ≤ g ∧ g ≤ 10) :
    Calls Try.prog 32 #[.agg #[.slice ao n cap, .int .i64 g], .agg #[.int .i64 y1, .int .u8 y2, .string y3, .bool y4, .int .i64 y5, .int .i64 y6]] w fun e w' => e = .returned (.bool (soundF n g ⟨y1, y2, y3, y4, y5, y6⟩)) ∧ Below w.heap.size w w' := by
  by_cases n1 : y1 < 1
  · have d1 : decide (y1 < 1) = true := decide_eq_true n1
    have ER : soundF n g ⟨y1, y2, y3, y4, y5, y6⟩ = false := by unfold soundF; simp only []; rw [if_pos n1]
    rw [ER]
    clear ER
    go_enter Try.func32, Try.ntmps32
    go_wp2
    go_quiet (fail)
    go_wp2
    all_goals refine bodyPost_ret (v := .bool (false)) (by simp [results, Try.results32, go_sem, ↓IntWalk.iteOmega, *]) rfl ⟨rfl, ?_⟩
    all_goals
      repeat (first | (with_reducible exact Below.refl _ _) | (with_reducible assumption) | (with_reducible refine below_to_plus ?_ ?_ _) | (with_reducible refine below_holds ?_ ?_ _ _) | (with_reducible refine Below.alloc ?_ ?_ _) | (with_reducible refine Below.drew ?_) | (with_reducible refine below_drewN ?_ _) | (with_reducible refine Below.setCell ?_ ?_ _))
      all_goals first | omega | (simp; done) | (simp [go_sem]; done) | (simp [go_sem]; omega)
  have d1 : decide (y1 < 1) = false := decide_eq_false n1
  by_cases n9 : 9 < y1
  · have d9 : decide (9 < y1) = true := decide_eq_true n9
    have ER : soundF n g ⟨y1, y2, y3, y4, y5, y6⟩ = false := by unfold soundF; simp only []; rw [if_neg n1, if_pos n9]
    rw [ER]
    clear ER
    go_enter Try.func32, Try.ntmps32
    go_wp2
    go_quiet (fail)
    go_wp2
    all_goals refine bodyPost_ret (v := .bool (false)) (by simp [results, Try.results32, go_sem, ↓IntWalk.iteOmega, *]) rfl ⟨rfl, ?_⟩
    all_goals
      repeat (first | (with_reducible exact Below.refl _ _) | (with_reducible assumption) | (with_reducible refine below_to_plus ?_ ?_ _) | (with_reducible refine below_holds ?_ ?_ _ _) | (with_reducible refine Below.alloc ?_ ?_ _) | (with_reducible refine Below.drew ?_) | (with_reducible refine below_drewN ?_ _) | (with_reducible refine Below.setCell ?_ ?_ _))
      all_goals first | omega | (simp; done) | (simp [go_sem]; done) | (simp [go_sem]; omega)
  have d9 : decide (9 < y1) = false := decide_eq_false n9
  have co0 := fun W => only_calls y1 y2 y3 y4 y5 y6 W
  obtain ⟨o, ho⟩ : ∃ o, onlyF ⟨y1, y2, y3, y4, y5, y6⟩ = o := ⟨_, rfl⟩
  rw [ho] at co0
  obtain ⟨z1, z2, z3, z4, z5, z6⟩ := o
  have co := co0
  clear co0
  obtain ⟨bq, hbq⟩ : ∃ b, inSame ⟨y1, y2, y3, y4, y5, y6⟩ ⟨z1, z2, z3, z4, z5, z6⟩ = b := ⟨_, rfl⟩
  have nq : ∀ W : World, (binOp .neq 34 (.agg #[.int .i64 y1, .int .u8 y2, .string y3, .bool y4, .int .i64 y5, .int .i64 y6]) (.agg #[.int .i64 z1, .int .u8 z2, .string z3, .bool z4, .int .i64 z5, .int .i64 z6])).run Try.prog W = .ok (.bool (!bq)) W := fun W => by rw [neq_in, ← hbq]; rfl
  have HBQ : Aside (inSame ⟨y1, y2, y3, y4, y5, y6⟩ (onlyF ⟨y1, y2, y3, y4, y5, y6⟩) = bq) := by show _ = _; rw [ho]; exact hbq
  clear ho hbq
  cases bq with
  | false =>
    replace nq : ∀ W : World, (binOp .neq 34 (.agg #[.int .i64 y1, .int .u8 y2, .string y3, .bool y4, .int .i64 y5, .int .i64 y6]) (.agg #[.int .i64 z1, .int .u8 z2, .string z3, .bool z4, .int .i64 z5, .int .i64 z6])).run Try.prog W = .ok (.bool true) W := nq
    have ER : soundF n g ⟨y1, y2, y3, y4, y5, y6⟩ = false := by unfold soundF; simp only []; rw [if_neg n1, if_neg n9, if_pos HBQ.out]
    rw [ER]
    clear ER
    go_enter Try.func32, Try.ntmps32
    go_wp2
    go_region_held3 (fun w' => w'.cell? ⟨w.heap.size + 1, 0, none⟩ = some (.int .i64 y1) ∧ w'.cell? ⟨w.heap.size + 1, 1, none⟩ = some (.int .u8 y2) ∧ w'.cell? ⟨w.heap.size + 1, 2, none⟩ = some (.string y3) ∧ w'.cell? ⟨w.heap.size + 1, 3, none⟩ = some (.bool y4) ∧ w'.cell? ⟨w.heap.size + 1, 4, none⟩ = some (.int .i64 y5) ∧ w'.cell? ⟨w.heap.size + 1, 5, none⟩ = some (.int .i64 y6) ∧ w'.cell? ⟨w.heap.size, 0, none⟩ = some (.slice ao n cap) ∧ w'.cell? ⟨w.heap.size, 1, none⟩ = some (.int .i64 g)) (first | (simp [go_sem, ↓IntWalk.iteOmega, *]; done)) ((first | (go_at_call 53; refine (co _).mono ?_; rintro e w2 ⟨rfl, hb⟩; obtain ⟨x3, hx⟩ := plus_of_below hb; subst hx; clear hb)))
    all_goals go_wp2
    all_goals refine bodyPost_ret (v := .bool (false)) (by simp [results, Try.results32, go_sem, ↓IntWalk.iteOmega, *]) rfl ⟨rfl, ?_⟩
    all_goals
      repeat (first | (with_reducible exact Below.refl _ _) | (with_reducible assumption) | (with_reducible refine below_to_plus ?_ ?_ _) | (with_reducible refine below_holds ?_ ?_ _ _) | (with_reducible refine Below.alloc ?_ ?_ _) | (with_reducible refine Below.drew ?_) | (with_reducible refine below_drewN ?_ _) | (with_reducible refine Below.setCell ?_ ?_ _))
      all_goals first | omega | (simp; done) | (simp [go_sem]; done) | (simp [go_sem]; omega)
  | true =>
    replace nq : ∀ W : World, (binOp .neq 34 (.agg #[.int .i64 y1, .int .u8 y2, .string y3, .bool y4, .int .i64 y5, .int .i64 y6]) (.agg #[.int .i64 z1, .int .u8 z2, .string z3, .bool z4, .int .i64 z5, .int .i64 z6])).run Try.prog W = .ok (.bool false) W := nq
    have NHB : Aside (¬ inSame ⟨y1, y2, y3, y4, y5, y6⟩ (onlyF ⟨y1, y2, y3, y4, y5, y6⟩) = false) := by show ¬ _; rw [HBQ.out]; simp
    clear HBQ
    by_cases m7 : y1 = 7
    · subst m7
      clear d1 d9
      by_cases ah : 0 ≤ y5
      · have a : decide (0 ≤ y5) = true := decide_eq_true ah
        have ER : soundF n g ⟨7, y2, y3, y4, y5, y6⟩ = decide (y5 < (n : Int)) := by unfold soundF; simp only []; rw [if_neg n1, if_neg n9, if_neg NHB.out]; simp [inF, setOk, a]
        rw [ER]
        clear ER NHB n1 n9
        go_enter Try.func32, Try.ntmps32
        go_wp2
        go_region_held3 (fun w' => w'.cell? ⟨w.heap.size + 1, 0, none⟩ = some (.int .i64 7) ∧ w'.cell? ⟨w.heap.size + 1, 1, none⟩ = some (.int .u8 y2) ∧ w'.cell? ⟨w.heap.size + 1, 2, none⟩ = some (.string y3) ∧ w'.cell? ⟨w.heap.size + 1, 3, none⟩ = some (.bool y4) ∧ w'.cell? ⟨w.heap.size + 1, 4, none⟩ = some (.int .i64 y5) ∧ w'.cell? ⟨w.heap.size + 1, 5, none⟩ = some (.int .i64 y6) ∧ w'.cell? ⟨w.heap.size, 0, none⟩ = some (.slice ao n cap) ∧ w'.cell? ⟨w.heap.size, 1, none⟩ = some (.int .i64 g)) (first | (simp [go_sem, ↓IntWalk.iteOmega, *]; done)) ((first | (go_at_call 53; refine (co _).mono ?_; rintro e w2 ⟨rfl, hb⟩; obtain ⟨x3, hx⟩ := plus_of_below hb; subst hx; clear hb)))
        all_goals go_wp2
        all_goals refine bodyPost_ret (v := .bool (decide (y5 < (n : Int)))) (by simp [results, Try.results32, go_sem, ↓IntWalk.iteOmega, *]) rfl ⟨rfl, ?_⟩
        all_goals
          repeat (first | (with_reducible exact Below.refl _ _) | (with_reducible assumption) | (with_reducible refine below_to_plus ?_ ?_ _) | (with_reducible refine below_holds ?_ ?_ _ _) | (with_reducible refine Below.alloc ?_ ?_ _) | (with_reducible refine Below.drew ?_) | (with_reducible refine below_drewN ?_ _) | (with_reducible refine Below.setCell ?_ ?_ _))
          all_goals first | omega | (simp; done) | (simp [go_sem]; done) | (simp [go_sem]; omega)
      · have a : decide (0 ≤ y5) = false := decide_eq_false ah
        have ER : soundF n g ⟨7, y2, y3, y4, y5, y6⟩ = false := by unfold soundF; simp only []; rw [if_neg n1, if_neg n9, if_neg NHB.out]; simp [inF, setOk, a]
        rw [ER]
        clear ER NHB n1 n9
        go_enter Try.func32, Try.ntmps32
        go_wp2
        go_region_held3 (fun w' => w'.cell? ⟨w.heap.size + 1, 0, none⟩ = some (.int .i64 7) ∧ w'.cell? ⟨w.heap.size + 1, 1, none⟩ = some (.int .u8 y2) ∧ w'.cell? ⟨w.heap.size + 1, 2, none⟩ = some (.string y3) ∧ w'.cell? ⟨w.heap.size + 1, 3, none⟩ = some (.bool y4) ∧ w'.cell? ⟨w.heap.size + 1, 4, none⟩ = some (.int .i64 y5) ∧ w'.cell? ⟨w.heap.size + 1, 5, none⟩ = some (.int .i64 y6) ∧ w'.cell? ⟨w.heap.size, 0, none⟩ = some (.slice ao n cap) ∧ w'.cell? ⟨w.heap.size, 1, none⟩ = some (.int .i64 g)) (first | (simp [go_sem, ↓IntWalk.iteOmega, *]; done)) ((first | (go_at_call 53; refine (co _).mono ?_; rintro e w2 ⟨rfl, hb⟩; obtain ⟨x3, hx⟩ := plus_of_below hb; subst hx; clear hb)))
        all_goals go_wp2
        all_goals refine bodyPost_ret (v := .bool (false)) (by simp [results, Try.results32, go_sem, ↓IntWalk.iteOmega, *]) rfl ⟨rfl, ?_⟩
        all_goals
          repeat (first | (with_reducible exact Below.refl _ _) | (with_reducible assumption) | (with_reducible refine below_to_plus ?_ ?_ _) | (with_reducible refine below_holds ?_ ?_ _ _) | (with_reducible refine Below.alloc ?_ ?_ _) | (with_reducible refine Below.drew ?_) | (with_reducible refine below_drewN ?_ _) | (with_reducible refine Below.setCell ?_ ?_ _))
          all_goals first | omega | (simp; done) | (simp [go_sem]; done) | (simp [go_sem]; omega)
    have e7 : (y1 == 7) = false := by simpa using m7
    have f7 : decide (y1 = 7) = false := decide_eq_false m7
    by_cases m6 : y1 = 6
    · subst m6
      clear d1 d9
      by_cases ah : 0 ≤ y5
      · have a : decide (0 ≤ y5) = true := decide_eq_true ah
        by_cases bh : y5 < (n : Int)
        · have b : decide (y5 < (n : Int)) = true := decide_eq_true bh
          by_cases ch : 0 ≤ y6
          · have c : decide (0 ≤ y6) = true := decide_eq_true ch
            have ER : soundF n g ⟨6, y2, y3, y4, y5, y6⟩ = decide (y6 < (n : Int)) := by unfold soundF; simp only []; rw [if_neg n1, if_neg n9, if_neg NHB.out]; simp [inF, setOk, a, b, c]
            rw [ER]
            clear ER NHB n1 n9
            go_enter Try.func32, Try.ntmps32
            go_wp2
            go_region_held3 (fun w' => w'.cell? ⟨w.heap.size + 1, 0, none⟩ = some (.int .i64 6) ∧ w'.cell? ⟨w.heap.size + 1, 1, none⟩ = some (.int .u8 y2) ∧ w'.cell? ⟨w.heap.size + 1, 2, none⟩ = some (.string y3) ∧ w'.cell? ⟨w.heap.size + 1, 3, none⟩ = some (.bool y4) ∧ w'.cell? ⟨w.heap.size + 1, 4, none⟩ = some (.int .i64 y5) ∧ w'.cell? ⟨w.heap.size + 1, 5, none⟩ = some (.int .i64 y6) ∧ w'.cell? ⟨w.heap.size, 0, none⟩ = some (.slice ao n cap) ∧ w'.cell? ⟨w.heap.size, 1, none⟩ = some (.int .i64 g)) (first | (simp [go_sem, ↓IntWalk.iteOmega, *]; done)) ((first | (go_at_call 53; refine (co _).mono ?_; rintro e w2 ⟨rfl, hb⟩; obtain ⟨x3, hx⟩ := plus_of_below hb; subst hx; clear hb)))
            all_goals go_wp2
            all_goals refine bodyPost_ret (v := .bool (decide (y6 < (n : Int)))) (by simp [results, Try.results32, go_sem, ↓IntWalk.iteOmega, *]) rfl ⟨rfl, ?_⟩
            all_goals
              repeat (first | (with_reducible exact Below.refl _ _) | (with_reducible assumption) | (with_reducible refine below_to_plus ?_ ?_ _) | (with_reducible refine below_holds ?_ ?_ _ _) | (with_reducible refine Below.alloc ?_ ?_ _) | (with_reducible refine Below.drew ?_) | (with_reducible refine below_drewN ?_ _) | (with_reducible refine Below.setCell ?_ ?_ _))
              all_goals first | omega | (simp; done) | (simp [go_sem]; done) | (simp [go_sem]; omega)
          · have c : decide (0 ≤ y6) = false := decide_eq_false ch
            have ER : soundF n g ⟨6, y2, y3, y4, y5, y6⟩ = false := by unfold soundF; simp only []; rw [if_neg n1, if_neg n9, if_neg NHB.out]; simp [inF, setOk, a, b, c]
            rw [ER]
            clear ER NHB n1 n9
            go_enter Try.func32, Try.ntmps32
            go_wp2
            go_region_held3 (fun w' => w'.cell? ⟨w.heap.size + 1, 0, none⟩ = some (.int .i64 6) ∧ w'.cell? ⟨w.heap.size + 1, 1, none⟩ = some (.int .u8 y2) ∧ w'.cell? ⟨w.heap.size + 1, 2, none⟩ = some (.string y3) ∧ w'.cell? ⟨w.heap.size + 1, 3, none⟩ = some (.bool y4) ∧ w'.cell? ⟨w.heap.size + 1, 4, none⟩ = some (.int .i64 y5) ∧ w'.cell? ⟨w.heap.size + 1, 5, none⟩ = some (.int .i64 y6) ∧ w'.cell? ⟨w.heap.size, 0, none⟩ = some (.slice ao n cap) ∧ w'.cell? ⟨w.heap.size, 1, none⟩ = some (.int .i64 g)) (first | (simp [go_sem, ↓IntWalk.iteOmega, *]; done)) ((first | (go_at_call 53; refine (co _).mono ?_; rintro e w2 ⟨rfl, hb⟩; obtain ⟨x3, hx⟩ := plus_of_below hb; subst hx; clear hb)))
            all_goals go_wp2
            all_goals refine bodyPost_ret (v := .bool (false)) (by simp [results, Try.results32, go_sem, ↓IntWalk.iteOmega, *]) rfl ⟨rfl, ?_⟩
            all_goals
              repeat (first | (with_reducible exact Below.refl _ _) | (with_reducible assumption) | (with_reducible refine below_to_plus ?_ ?_ _) | (with_reducible refine below_holds ?_ ?_ _ _) | (with_reducible refine Below.alloc ?_ ?_ _) | (with_reducible refine Below.drew ?_) | (with_reducible refine below_drewN ?_ _) | (with_reducible refine Below.setCell ?_ ?_ _))
              all_goals first | omega | (simp; done) | (simp [go_sem]; done) | (simp [go_sem]; omega)
        · have b : decide (y5 < (n : Int)) = false := decide_eq_false bh
          have ER : soundF n g ⟨6, y2, y3, y4, y5, y6⟩ = false := by unfold soundF; simp only []; rw [if_neg n1, if_neg n9, if_neg NHB.out]; simp [inF, setOk, a, b]
          rw [ER]
          clear ER NHB n1 n9
          go_enter Try.func32, Try.ntmps32
          go_wp2
          go_region_held3 (fun w' => w'.cell? ⟨w.heap.size + 1, 0, none⟩ = some (.int .i64 6) ∧ w'.cell? ⟨w.heap.size + 1, 1, none⟩ = some (.int .u8 y2) ∧ w'.cell? ⟨w.heap.size + 1, 2, none⟩ = some (.string y3) ∧ w'.cell? ⟨w.heap.size + 1, 3, none⟩ = some (.bool y4) ∧ w'.cell? ⟨w.heap.size + 1, 4, none⟩ = some (.int .i64 y5) ∧ w'.cell? ⟨w.heap.size + 1, 5, none⟩ = some (.int .i64 y6) ∧ w'.cell? ⟨w.heap.size, 0, none⟩ = some (.slice ao n cap) ∧ w'.cell? ⟨w.heap.size, 1, none⟩ = some (.int .i64 g)) (first | (simp [go_sem, ↓IntWalk.iteOmega, *]; done)) ((first | (go_at_call 53; refine (co _).mono ?_; rintro e w2 ⟨rfl, hb⟩; obtain ⟨x3, hx⟩ := plus_of_below hb; subst hx; clear hb)))
          all_goals go_wp2
          all_goals refine bodyPost_ret (v := .bool (false)) (by simp [results, Try.results32, go_sem, ↓IntWalk.iteOmega, *]) rfl ⟨rfl, ?_⟩
          all_goals
            repeat (first | (with_reducible exact Below.refl _ _) | (with_reducible assumption) | (with_reducible refine below_to_plus ?_ ?_ _) | (with_reducible refine below_holds ?_ ?_ _ _) | (with_reducible refine Below.alloc ?_ ?_ _) | (with_reducible refine Below.drew ?_) | (with_reducible refine below_drewN ?_ _) | (with_reducible refine Below.setCell ?_ ?_ _))
            all_goals first | omega | (simp; done) | (simp [go_sem]; done) | (simp [go_sem]; omega)
      · have a : decide (0 ≤ y5) = false := decide_eq_false ah
        have ER : soundF n g ⟨6, y2, y3, y4, y5, y6⟩ = false := by unfold soundF; simp only []; rw [if_neg n1, if_neg n9, if_neg NHB.out]; simp [inF, setOk, a]
        rw [ER]
        clear ER NHB n1 n9
        go_enter Try.func32, Try.ntmps32
        go_wp2
        go_region_held3 (fun w' => w'.cell? ⟨w.heap.size + 1, 0, none⟩ = some (.int .i64 6) ∧ w'.cell? ⟨w.heap.size + 1, 1, none⟩ = some (.int .u8 y2) ∧ w'.cell? ⟨w.heap.size + 1, 2, none⟩ = some (.string y3) ∧ w'.cell? ⟨w.heap.size + 1, 3, none⟩ = some (.bool y4) ∧ w'.cell? ⟨w.heap.size + 1, 4, none⟩ = some (.int .i64 y5) ∧ w'.cell? ⟨w.heap.size + 1, 5, none⟩ = some (.int .i64 y6) ∧ w'.cell? ⟨w.heap.size, 0, none⟩ = some (.slice ao n cap) ∧ w'.cell? ⟨w.heap.size, 1, none⟩ = some (.int .i64 g)) (first | (simp [go_sem, ↓IntWalk.iteOmega, *]; done)) ((first | (go_at_call 53; refine (co _).mono ?_; rintro e w2 ⟨rfl, hb⟩; obtain ⟨x3, hx⟩ := plus_of_below hb; subst hx; clear hb)))
        all_goals go_wp2
        all_goals refine bodyPost_ret (v := .bool (false)) (by simp [results, Try.results32, go_sem, ↓IntWalk.iteOmega, *]) rfl ⟨rfl, ?_⟩
        all_goals
          repeat (first | (with_reducible exact Below.refl _ _) | (with_reducible assumption) | (with_reducible refine below_to_plus ?_ ?_ _) | (with_reducible refine below_holds ?_ ?_ _ _) | (with_reducible refine Below.alloc ?_ ?_ _) | (with_reducible refine Below.drew ?_) | (with_reducible refine below_drewN ?_ _) | (with_reducible refine Below.setCell ?_ ?_ _))
          all_goals first | omega | (simp; done) | (simp [go_sem]; done) | (simp [go_sem]; omega)
    have e6 : (y1 == 6) = false := by simpa using m6
    have f6 : decide (y1 = 6) = false := decide_eq_false m6
    by_cases m8 : y1 = 8
    · subst m8
      clear d1 d9
      have wg : IntKind.i64.wrap (2 * g) = 2 * g := by rw [IntKind.wrap_i64]; omega
      by_cases ah : 0 ≤ y5
      · have a : decide (0 ≤ y5) = true := decide_eq_true ah
        have ER : soundF n g ⟨8, y2, y3, y4, y5, y6⟩ = decide (y5 < 2 * g) := by unfold soundF; simp only []; rw [if_neg n1, if_neg n9, if_neg NHB.out]; simp [inF, setOk, a]
        rw [ER]
        clear ER NHB n1 n9
        go_enter Try.func32, Try.ntmps32
        go_wp2
        go_region_held3 (fun w' => w'.cell? ⟨w.heap.size + 1, 0, none⟩ = some (.int .i64 8) ∧ w'.cell? ⟨w.heap.size + 1, 1, none⟩ = some (.int .u8 y2) ∧ w'.cell? ⟨w.heap.size + 1, 2, none⟩ = some (.string y3) ∧ w'.cell? ⟨w.heap.size + 1, 3, none⟩ = some (.bool y4) ∧ w'.cell? ⟨w.heap.size + 1, 4, none⟩ = some (.int .i64 y5) ∧ w'.cell? ⟨w.heap.size + 1, 5, none⟩ = some (.int .i64 y6) ∧ w'.cell? ⟨w.heap.size, 0, none⟩ = some (.slice ao n cap) ∧ w'.cell? ⟨w.heap.size, 1, none⟩ = some (.int .i64 g)) (first | (simp [go_sem, ↓IntWalk.iteOmega, *]; done)) ((first | (go_at_call 53; refine (co _).mono ?_; rintro e w2 ⟨rfl, hb⟩; obtain ⟨x3, hx⟩ := plus_of_below hb; subst hx; clear hb)))
        all_goals go_wp2
        all_goals refine bodyPost_ret (v := .bool (decide (y5 < 2 * g))) (by simp [results, Try.results32, go_sem, ↓IntWalk.iteOmega, *]) rfl ⟨rfl, ?_⟩
        all_goals
          repeat (first | (with_reducible exact Below.refl _ _) | (with_reducible assumption) | (with_reducible refine below_to_plus ?_ ?_ _) | (with_reducible refine below_holds ?_ ?_ _ _) | (with_reducible refine Below.alloc ?_ ?_ _) | (with_reducible refine Below.drew ?_) | (with_reducible refine below_drewN ?_ _) | (with_reducible refine Below.setCell ?_ ?_ _))
          all_goals first | omega | (simp; done) | (simp [go_sem]; done) | (simp [go_sem]; omega)
      · have a : decide (0 ≤ y5) = false := decide_eq_false ah
        have ER : soundF n g ⟨8, y2, y3, y4, y5, y6⟩ = false := by unfold soundF; simp only []; rw [if_neg n1, if_neg n9, if_neg NHB.out]; simp [inF, setOk, a]
        rw [ER]
        clear ER NHB n1 n9
        go_enter Try.func32, Try.ntmps32
        go_wp2
        go_region_held3 (fun w' => w'.cell? ⟨w.heap.size + 1, 0, none⟩ = some (.int .i64 8) ∧ w'.cell? ⟨w.heap.size + 1, 1, none⟩ = some (.int .u8 y2) ∧ w'.cell? ⟨w.heap.size + 1, 2, none⟩ = some (.string y3) ∧ w'.cell? ⟨w.heap.size + 1, 3, none⟩ = some (.bool y4) ∧ w'.cell? ⟨w.heap.size + 1, 4, none⟩ = some (.int .i64 y5) ∧ w'.cell? ⟨w.heap.size + 1, 5, none⟩ = some (.int .i64 y6) ∧ w'.cell? ⟨w.heap.size, 0, none⟩ = some (.slice ao n cap) ∧ w'.cell? ⟨w.heap.size, 1, none⟩ = some (.int .i64 g)) (first | (simp [go_sem, ↓IntWalk.iteOmega, *]; done)) ((first | (go_at_call 53; refine (co _).mono ?_; rintro e w2 ⟨rfl, hb⟩; obtain ⟨x3, hx⟩ := plus_of_below hb; subst hx; clear hb)))
        all_goals go_wp2
        all_goals refine bodyPost_ret (v := .bool (false)) (by simp [results, Try.results32, go_sem, ↓IntWalk.iteOmega, *]) rfl ⟨rfl, ?_⟩
        all_goals
          repeat (first | (with_reducible exact Below.refl _ _) | (with_reducible assumption) | (with_reducible refine below_to_plus ?_ ?_ _) | (with_reducible refine below_holds ?_ ?_ _ _) | (with_reducible refine Below.alloc ?_ ?_ _) | (with_reducible refine Below.drew ?_) | (with_reducible refine below_drewN ?_ _) | (with_reducible refine Below.setCell ?_ ?_ _))
          all_goals first | omega | (simp; done) | (simp [go_sem]; done) | (simp [go_sem]; omega)
    have e8 : (y1 == 8) = false := by simpa using m8
    have f8 : decide (y1 = 8) = false := decide_eq_false m8
    by_cases m3 : y1 = 3
    · subst m3
      clear d1 d9
      have wt : ((y3.size : Int).tmod 2) = ((y3.size % 2 : Nat) : Int) := by rw [Int.tmod_eq_emod_of_nonneg (by omega)]; omega
      by_cases ah : y3.size % 2 = 0
      · have a : decide (y3.size % 2 = 0) = true := decide_eq_true ah
        by_cases bh : 2 ≤ y3.size
        · have b : decide (2 ≤ y3.size) = true := decide_eq_true bh
          have ER : soundF n g ⟨3, y2, y3, y4, y5, y6⟩ = decide ((y3.size : Int) ≤ 512) := by unfold soundF; simp only []; rw [if_neg n1, if_neg n9, if_neg NHB.out]; simp [inF, setOk, a, b]; omega
          rw [ER]
          clear ER NHB n1 n9
          go_enter Try.func32, Try.ntmps32
          go_wp2
          go_region_held3 (fun w' => w'.cell? ⟨w.heap.size + 1, 0, none⟩ = some (.int .i64 3) ∧ w'.cell? ⟨w.heap.size + 1, 1, none⟩ = some (.int .u8 y2) ∧ w'.cell? ⟨w.heap.size + 1, 2, none⟩ = some (.string y3) ∧ w'.cell? ⟨w.heap.size + 1, 3, none⟩ = some (.bool y4) ∧ w'.cell? ⟨w.heap.size + 1, 4, none⟩ = some (.int .i64 y5) ∧ w'.cell? ⟨w.heap.size + 1, 5, none⟩ = some (.int .i64 y6) ∧ w'.cell? ⟨w.heap.size, 0, none⟩ = some (.slice ao n cap) ∧ w'.cell? ⟨w.heap.size, 1, none⟩ = some (.int .i64 g)) (first | (simp [go_sem, ↓IntWalk.iteOmega, *]; done)) ((first | (go_at_call 53; refine (co _).mono ?_; rintro e w2 ⟨rfl, hb⟩; obtain ⟨x3, hx⟩ := plus_of_below hb; subst hx; clear hb)))
          all_goals go_wp2
          all_goals refine bodyPost_ret (v := .bool (decide ((y3.size : Int) ≤ 512))) (by simp [results, Try.results32, go_sem, ↓IntWalk.iteOmega, *]) rfl ⟨rfl, ?_⟩
          all_goals
            repeat (first | (with_reducible exact Below.refl _ _) | (with_reducible assumption) | (with_reducible refine below_to_plus ?_ ?_ _) | (with_reducible refine below_holds ?_ ?_ _ _) | (with_reducible refine Below.alloc ?_ ?_ _) | (with_reducible refine Below.drew ?_) | (with_reducible refine below_drewN ?_ _) | (with_reducible refine Below.setCell ?_ ?_ _))
            all_goals first | omega | (simp; done) | (simp [go_sem]; done) | (simp [go_sem]; omega)
        · have b : decide (2 ≤ y3.size) = false := decide_eq_false bh
          have ER : soundF n g ⟨3, y2, y3, y4, y5, y6⟩ = false := by unfold soundF; simp only []; rw [if_neg n1, if_neg n9, if_neg NHB.out]; simp [inF, setOk, a, b]
          rw [ER]
          clear ER NHB n1 n9
          go_enter Try.func32, Try.ntmps32
          go_wp2
          go_region_held3 (fun w' => w'.cell? ⟨w.heap.size + 1, 0, none⟩ = some (.int .i64 3) ∧ w'.cell? ⟨w.heap.size + 1, 1, none⟩ = some (.int .u8 y2) ∧ w'.cell? ⟨w.heap.size + 1, 2, none⟩ = some (.string y3) ∧ w'.cell? ⟨w.heap.size + 1, 3, none⟩ = some (.bool y4) ∧ w'.cell? ⟨w.heap.size + 1, 4, none⟩ = some (.int .i64 y5) ∧ w'.cell? ⟨w.heap.size + 1, 5, none⟩ = some (.int .i64 y6) ∧ w'.cell? ⟨w.heap.size, 0, none⟩ = some (.slice ao n cap) ∧ w'.cell? ⟨w.heap.size, 1, none⟩ = some (.int .i64 g)) (first | (simp [go_sem, ↓IntWalk.iteOmega, *]; done)) ((first | (go_at_call 53; refine (co _).mono ?_; rintro e w2 ⟨rfl, hb⟩; obtain ⟨x3, hx⟩ := plus_of_below hb; subst hx; clear hb)))
          all_goals go_wp2
          all_goals refine bodyPost_ret (v := .bool (false)) (by simp [results, Try.results32, go_sem, ↓IntWalk.iteOmega, *]) rfl ⟨rfl, ?_⟩
          all_goals
            repeat (first | (with_reducible exact Below.refl _ _) | (with_reducible assumption) | (with_reducible refine below_to_plus ?_ ?_ _) | (with_reducible refine below_holds ?_ ?_ _ _) | (with_reducible refine Below.alloc ?_ ?_ _) | (with_reducible refine Below.drew ?_) | (with_reducible refine below_drewN ?_ _) | (with_reducible refine Below.setCell ?_ ?_ _))
            all_goals first | omega | (simp; done) | (simp [go_sem]; done) | (simp [go_sem]; omega)
      · have a : decide (y3.size % 2 = 0) = false := decide_eq_false ah
        have ER : soundF n g ⟨3, y2, y3, y4, y5, y6⟩ = false := by unfold soundF; simp only []; rw [if_neg n1, if_neg n9, if_neg NHB.out]; simp [inF, setOk, a]
        rw [ER]
        clear ER NHB n1 n9
        go_enter Try.func32, Try.ntmps32
        go_wp2
        go_region_held3 (fun w' => w'.cell? ⟨w.heap.size + 1, 0, none⟩ = some (.int .i64 3) ∧ w'.cell? ⟨w.heap.size + 1, 1, none⟩ = some (.int .u8 y2) ∧ w'.cell? ⟨w.heap.size + 1, 2, none⟩ = some (.string y3) ∧ w'.cell? ⟨w.heap.size + 1, 3, none⟩ = some (.bool y4) ∧ w'.cell? ⟨w.heap.size + 1, 4, none⟩ = some (.int .i64 y5) ∧ w'.cell? ⟨w.heap.size + 1, 5, none⟩ = some (.int .i64 y6) ∧ w'.cell? ⟨w.heap.size, 0, none⟩ = some (.slice ao n cap) ∧ w'.cell? ⟨w.heap.size, 1, none⟩ = some (.int .i64 g)) (first | (simp [go_sem, ↓IntWalk.iteOmega, *]; done)) ((first | (go_at_call 53; refine (co _).mono ?_; rintro e w2 ⟨rfl, hb⟩; obtain ⟨x3, hx⟩ := plus_of_below hb; subst hx; clear hb)))
        all_goals go_wp2
        all_goals refine bodyPost_ret (v := .bool (false)) (by simp [results, Try.results32, go_sem, ↓IntWalk.iteOmega, *]) rfl ⟨rfl, ?_⟩
        all_goals
          repeat (first | (with_reducible exact Below.refl _ _) | (with_reducible assumption) | (with_reducible refine below_to_plus ?_ ?_ _) | (with_reducible refine below_holds ?_ ?_ _ _) | (with_reducible refine Below.alloc ?_ ?_ _) | (with_reducible refine Below.drew ?_) | (with_reducible refine below_drewN ?_ _) | (with_reducible refine Below.setCell ?_ ?_ _))
          all_goals first | omega | (simp; done) | (simp [go_sem]; done) | (simp [go_sem]; omega)
    have e3 : (y1 == 3) = false := by simpa using m3
    have f3 : decide (y1 = 3) = false := decide_eq_false m3
    have ER : soundF n g ⟨y1, y2, y3, y4, y5, y6⟩ = true := by unfold soundF; simp only []; rw [if_neg n1, if_neg n9, if_neg NHB.out, if_neg m7, if_neg m6, if_neg m8, if_neg m3]
    rw [ER]
    clear ER NHB n1 n9
    go_enter Try.func32, Try.ntmps32
    go_wp2
    go_region_held3 (fun w' => w'.cell? ⟨w.heap.size + 1, 0, none⟩ = some (.int .i64 y1) ∧ w'.cell? ⟨w.heap.size + 1, 1, none⟩ = some (.int .u8 y2) ∧ w'.cell? ⟨w.heap.size + 1, 2, none⟩ = some (.string y3) ∧ w'.cell? ⟨w.heap.size + 1, 3, none⟩ = some (.bool y4) ∧ w'.cell? ⟨w.heap.size + 1, 4, none⟩ = some (.int .i64 y5) ∧ w'.cell? ⟨w.heap.size + 1, 5, none⟩ = some (.int .i64 y6) ∧ w'.cell? ⟨w.heap.size, 0, none⟩ = some (.slice ao n cap) ∧ w'.cell? ⟨w.heap.size, 1, none⟩ = some (.int .i64 g)) (first | (simp [go_sem, ↓IntWalk.iteOmega, *]; done)) ((first | (go_at_call 53; refine (co _).mono ?_; rintro e w2 ⟨rfl, hb⟩; obtain ⟨x3, hx⟩ := plus_of_below hb; subst hx; clear hb)))
    all_goals go_wp2
    all_goals refine bodyPost_ret (v := .bool (true)) (by simp [results, Try.results32, go_sem, ↓IntWalk.iteOmega, *]) rfl ⟨rfl, ?_⟩
    all_goals
      repeat (first | (with_reducible exact Below.refl _ _) | (with_reducible assumption) | (with_reducible refine below_to_plus ?_ ?_ _) | (with_reducible refine below_holds ?_ ?_ _ _) | (with_reducible refine Below.alloc ?_ ?_ _) | (with_reducible refine Below.drew ?_) | (with_reducible refine below_drewN ?_ _) | (with_reducible refine Below.setCell ?_ ?_ _))
      all_goals first | omega | (simp; done) | (simp [go_sem]; done) | (simp [go_sem]; omega)

end Go.Proofs.Ytfhccmegobbnaaa
