/- This text proves the walks of copies and Same of the reference, and how descriptors are compared. Conditions: those that each theorem names. -/
import Derived.Test.YtbifanenoejjgaaFdsM
namespace Go.Proofs.Ytbifanenoejjgaa
open Go.ChangeShapes Go.WideShapes Go.ChangeAt Go.RowKit
set_option linter.unusedVariables false
set_option linter.unusedSimpArgs false

theorem str_inj (a b : ByteArray) : a.toList = b.toList ↔ a = b := ⟨fun h => bytes_inj (by rw [ByteArray.toList_eq, ByteArray.toList_eq] at h; exact h), fun h => by rw [h]⟩
def eqC (y2 y3 y4 : Int) (y5 y6 : ByteArray) (z2 z3 z4 : Int) (z5 z6 : ByteArray) : Bool := y2 == z2 && (y3 == z3 && (y4 == z4 && (decide (y5.toList = z5.toList) && decide (y6.toList = z6.toList))))
theorem eqC_iff (y2 y3 y4 : Int) (y5 y6 : ByteArray) (z2 z3 z4 : Int) (z5 z6 : ByteArray) : eqC y2 y3 y4 y5 y6 z2 z3 z4 z5 z6 = true ↔ y2 = z2 ∧ y3 = z3 ∧ y4 = z4 ∧ y5 = z5 ∧ y6 = z6 := by
  simp [eqC, str_inj]
theorem neq_chan (y2 y3 y4 : Int) (y5 y6 : ByteArray) (z2 z3 z4 : Int) (z5 z6 : ByteArray) (w : World) : (binOp .neq 28 (.agg #[.int .i64 y2, .int .i64 y3, .int .i64 y4, .string y5, .string y6]) (.agg #[.int .i64 z2, .int .i64 z3, .int .i64 z4, .string z5, .string z6])).run Try.prog w = .ok (.bool (!(eqC y2 y3 y4 y5 y6 z2 z3 z4 z5 z6))) w := by
  rw [run_neq_struct]
  simp [go_sem]
  repeat' split
  all_goals simp_all [eqC]
def eqF (y z : Fd) : Bool := y.num == z.num && (eqC y.dev y.id y.fid y.path y.name z.dev z.id z.fid z.path z.name && (y.mode == z.mode && (y.offset == z.offset && y.copy == z.copy)))
theorem eqF_iff (a b : Fd) : eqF a b = true ↔ a = b := by
  obtain ⟨a1, a2, a3, a4, a5, a6, a7, a8, a9⟩ := a
  obtain ⟨b1, b2, b3, b4, b5, b6, b7, b8, b9⟩ := b
  simp only [eqF, Bool.and_eq_true, eqC_iff, beq_iff_eq, Fd.mk.injEq]
  exact ⟨fun ⟨a, ⟨b, c, d, e, f⟩, g, h, i⟩ => ⟨a, b, c, d, e, f, g, h, i⟩, fun ⟨a, b, c, d, e, f, g, h, i⟩ => ⟨a, ⟨b, c, d, e, f⟩, g, h, i⟩⟩
theorem neq_fd (y1 : Int) (y2 : Int) (y3 : Int) (y4 : Int) (y5 : ByteArray) (y6 : ByteArray) (y7 : Int) (y8 : Int) (y9 : Int) (z1 : Int) (z2 : Int) (z3 : Int) (z4 : Int) (z5 : ByteArray) (z6 : ByteArray) (z7 : Int) (z8 : Int) (z9 : Int) (w : World) : (binOp .neq 30 (.agg #[.int .i64 y1, .int .i64 y2, .int .i64 y3, .int .i64 y4, .string y5, .string y6, .int .i64 y7, .int .i64 y8, .int .i64 y9]) (.agg #[.int .i64 z1, .int .i64 z2, .int .i64 z3, .int .i64 z4, .string z5, .string z6, .int .i64 z7, .int .i64 z8, .int .i64 z9])).run Try.prog w = .ok (.bool (!(eqF ⟨y1, y2, y3, y4, y5, y6, y7, y8, y9⟩ ⟨z1, z2, z3, z4, z5, z6, z7, z8, z9⟩))) w := by
  rw [run_neq_struct]
  simp [go_sem]
  repeat' split
  all_goals simp_all [eqF, eqC]
theorem eq_fd (y1 : Int) (y2 : Int) (y3 : Int) (y4 : Int) (y5 : ByteArray) (y6 : ByteArray) (y7 : Int) (y8 : Int) (y9 : Int) (z1 : Int) (z2 : Int) (z3 : Int) (z4 : Int) (z5 : ByteArray) (z6 : ByteArray) (z7 : Int) (z8 : Int) (z9 : Int) (w : World) : (binOp .eql 30 (.agg #[.int .i64 y1, .int .i64 y2, .int .i64 y3, .int .i64 y4, .string y5, .string y6, .int .i64 y7, .int .i64 y8, .int .i64 y9]) (.agg #[.int .i64 z1, .int .i64 z2, .int .i64 z3, .int .i64 z4, .string z5, .string z6, .int .i64 z7, .int .i64 z8, .int .i64 z9])).run Try.prog w = .ok (.bool (eqF ⟨y1, y2, y3, y4, y5, y6, y7, y8, y9⟩ ⟨z1, z2, z3, z4, z5, z6, z7, z8, z9⟩)) w := by
  rw [run_eql_struct]
  simp [go_sem]
  repeat' split
  all_goals simp_all [eqF, eqC]
theorem agree_of {y1 y2 y3 y4 : Int} {y5 y6 : ByteArray} {y7 y8 y9 z1 z2 z3 z4 : Int} {z5 z6 : ByteArray} {z7 z8 z9 : Int} (h1 : eqC y2 y3 y4 y5 y6 z2 z3 z4 z5 z6 = true) (h2 : y7 = z7) (h3 : y8 = z8) : agreeB ⟨y1, y2, y3, y4, y5, y6, y7, y8, y9⟩ ⟨z1, z2, z3, z4, z5, z6, z7, z8, z9⟩ = true := by
  rw [eqC_iff] at h1
  obtain ⟨a, b, c, d, e⟩ := h1
  rw [agreeB_iff]
  exact ⟨a, b, c, d, e, h2, h3⟩
theorem agree_not {y1 y2 y3 y4 : Int} {y5 y6 : ByteArray} {y7 y8 y9 z1 z2 z3 z4 : Int} {z5 z6 : ByteArray} {z7 z8 z9 : Int} (h : eqC y2 y3 y4 y5 y6 z2 z3 z4 z5 z6 = false ∨ ¬ y7 = z7 ∨ ¬ y8 = z8) : agreeB ⟨y1, y2, y3, y4, y5, y6, y7, y8, y9⟩ ⟨z1, z2, z3, z4, z5, z6, z7, z8, z9⟩ = false := by
  cases e : agreeB ⟨y1, y2, y3, y4, y5, y6, y7, y8, y9⟩ ⟨z1, z2, z3, z4, z5, z6, z7, z8, z9⟩ with
  | false => rfl
  | true =>
    rw [agreeB_iff] at e
    obtain ⟨a, b, c, d, e, f, g⟩ := e
    rcases h with h | h | h
    · rw [(eqC_iff _ _ _ _ _ _ _ _ _ _).2 ⟨a, b, c, d, e⟩] at h; cases h
    · exact absurd f h
    · exact absurd g h
/-- A descriptor agrees with its copies. -/
def agreesB (xs : List Fd) (d : Fd) : Bool := xs.all fun y => !(decide (y.copy = d.copy)) || agreeB y d
theorem agrees_no (xs : List Fd) (d : Fd) (j : Nat) (hj : j < xs.length) (h1 : xs[j]!.copy = d.copy) (h2 : agreeB xs[j]! d = false) : agreesB xs d = false := by
  cases h : agreesB xs d with
  | false => rfl
  | true =>
    have := List.all_eq_true.1 h _ (mem_of_get hj)
    rw [h2, decide_eq_true h1] at this
    cases this
theorem agrees_yes (xs : List Fd) (d : Fd) (h : ∀ j, j < xs.length → xs[j]!.copy = d.copy → agreeB xs[j]! d = true) : agreesB xs d = true := by
  unfold agreesB
  rw [List.all_eq_true]
  intro x hx
  obtain ⟨i, hi, rfl⟩ := get_of_mem hx
  by_cases e : xs[i]!.copy = d.copy
  · rw [h i hi e, Bool.or_true]
  · rw [decide_eq_false e]; rfl

set_option maxHeartbeats 4000000 in
theorem copies_calls (ao : Option Addr) (n cap : Nat) (xs : List Fd) (d1 : Int) (d2 : Int) (d3 : Int) (d4 : Int) (d5 : ByteArray) (d6 : ByteArray) (d7 : Int) (d8 : Int) (d9 : Int) (w : World) (h : Sl w 9 ao n cap (xs.map Fd.enc)) :
    Calls Try.prog 26 #[.slice ao n cap, .agg #[.int .i64 d1, .int .i64 d2, .int .i64 d3, .int .i64 d4, .string d5, .string d6, .int .i64 d7, .int .i64 d8, .int .i64 d9]] w fun e w' => e = .returned (.bool (agreesB xs ⟨d1, d2, d3, d4, d5, d6, d7, d8, d9⟩)) ∧ Below w.heap.size w w' := by
  have hbig : n ≤ 9223372036854775807 := Nat.le_trans h.hcap h.hmax
  have HL : Aside (xs.length = n) := Sl.lenE h
  have HC : Aside (CellsFd w ao xs) := cellsFd h
  have HA : Aside (∀ j, j < xs.length → xs[j]!.copy = d9 → agreeB xs[j]! ⟨d1, d2, d3, d4, d5, d6, d7, d8, d9⟩ = false → agreesB xs ⟨d1, d2, d3, d4, d5, d6, d7, d8, d9⟩ = false) := agrees_no xs ⟨d1, d2, d3, d4, d5, d6, d7, d8, d9⟩
  have HF : Aside ((∀ j, j < xs.length → xs[j]!.copy = d9 → agreeB xs[j]! ⟨d1, d2, d3, d4, d5, d6, d7, d8, d9⟩ = true) → agreesB xs ⟨d1, d2, d3, d4, d5, d6, d7, d8, d9⟩ = true) := agrees_yes xs ⟨d1, d2, d3, d4, d5, d6, d7, d8, d9⟩
  generalize agreesB xs ⟨d1, d2, d3, d4, d5, d6, d7, d8, d9⟩ = r at HA HF ⊢
  clear h
  go_enter Try.func26, Try.ntmps26
  go_wp2
  go_loopg [8] n (fun k s8 wr => ∃ (idx : Nat) (x : World), s8 = .int .i64 (idx : Int) ∧ wr = plus (w.alloc (.cells #[.int .i64 d1, .int .i64 d2, .int .i64 d3, .int .i64 d4, .string d5, .string d6, .int .i64 d7, .int .i64 d8, .int .i64 d9] 30)) x ∧ k + idx = n ∧ Aside (∀ j, j < idx → xs[j]!.copy = d9 → agreeB xs[j]! ⟨d1, d2, d3, d4, d5, d6, d7, d8, d9⟩ = true))
  case atStart => exact ⟨0, _, rfl, plus_self _, by omega, fun j hj => absurd hj (Nat.not_lt_zero _)⟩
  case round =>
    obtain ⟨idx, x, rfl, rfl, hk, A⟩ := hrel
    by_cases hi : idx < n
    · have hiz : (idx : Int) < (n : Int) := by omega
      obtain ⟨b, off, rfl, hbw, l0, l1, l2, l3, l4, l5, l6, l7, l8⟩ := HC.out idx (by have := HL.out; omega)
      have AS : Aside ((xs[idx]!.copy = d9 → agreeB xs[idx]! ⟨d1, d2, d3, d4, d5, d6, d7, d8, d9⟩ = true) → ∀ j, j < idx + 1 → xs[j]!.copy = d9 → agreeB xs[j]! ⟨d1, d2, d3, d4, d5, d6, d7, d8, d9⟩ = true) := fun hh j hj => by
        rcases (by omega : j < idx ∨ j = idx) with h' | h'
        · exact A.out j h'
        · rw [h']; exact hh
      have AB : Aside (xs[idx]!.copy = d9 → agreeB xs[idx]! ⟨d1, d2, d3, d4, d5, d6, d7, d8, d9⟩ = false → r = false) := HA.out idx (by have := HL.out; omega)
      generalize xs[idx]! = y at l0 l1 l2 l3 l4 l5 l6 l7 l8 AS AB
      obtain ⟨y1, y2, y3, y4, y5, y6, y7, y8, y9⟩ := y
      simp only [] at l0 l1 l2 l3 l4 l5 l6 l7 l8
      have nq := fun w => neq_chan y2 y3 y4 y5 y6 d2 d3 d4 d5 d6 w
      have nqq := trivial
      by_cases k0 : y9 = d9
      · have f0 : (y9 == d9) = true := by simp [k0]
        by_cases k1 : eqC y2 y3 y4 y5 y6 d2 d3 d4 d5 d6 = true
        · rw [k1] at nq
          by_cases k2 : y7 = d7
          · have f2 : (y7 != d7) = false := by simp [k2]
            by_cases k3 : y8 = d8
            · have f3 : (y8 != d8) = false := by simp [k3]
              have A2 : Aside (∀ j, j < idx + 1 → xs[j]!.copy = d9 → agreeB xs[j]! ⟨d1, d2, d3, d4, d5, d6, d7, d8, d9⟩ = true) := AS.out (fun _ => (agree_of k1 k2 k3))
              clear AS HA HF HC k0 nqq
              try clear k1
              try clear k2
              try clear k3
              go_wp2
              refine wp_region_plus (by kernel_rfl) (by kernel_rfl) ?_
              repeat (go_big_quiet_step (fail))
              refine wpQuiet_nil ?_
              rintro _ ⟨x1, rfl⟩
              go_wp2
              go_roundg (gk - 1)
              case measure => omega
              case rel =>
                obtain ⟨z5, hz5⟩ := plus_plus (w.alloc (.cells #[.int .i64 d1, .int .i64 d2, .int .i64 d3, .int .i64 d4, .string d5, .string d6, .int .i64 d7, .int .i64 d8, .int .i64 d9] 30)) _ x1
                exact ⟨idx + 1, z5, by simp, hz5, by omega, A2⟩
            · have f3 : (y8 != d8) = true := by simp [k3]
              have e1 := AB.out k0 (agree_not (.inr (.inr k3)))
              subst e1
              clear AS AB HA HF HC k0 nqq
              try clear k1
              try clear k2
              try clear k3
              go_wp2
              refine wp_region_plus (by kernel_rfl) (by kernel_rfl) ?_
              repeat (go_big_quiet_step (fail))
              refine wpQuiet_nil ?_
              rintro _ ⟨x1, rfl⟩
              go_wp2
              go_ret
              refine ⟨rfl, ?_⟩
              repeat (first | (with_reducible exact Below.refl _ _) | (with_reducible assumption) | (with_reducible refine below_to_plus ?_ ?_ _) | (with_reducible refine below_holds ?_ ?_ _ _) | (with_reducible refine Below.alloc ?_ ?_ _) | (with_reducible refine Below.drew ?_) | (with_reducible refine below_drewN ?_ _) | (with_reducible refine Below.setCell ?_ ?_ _))
              all_goals first | omega | (simp; done) | (simp [go_sem]; done) | (simp [go_sem]; omega)
          · have f2 : (y7 != d7) = true := by simp [k2]
            have e1 := AB.out k0 (agree_not (.inr (.inl k2)))
            subst e1
            clear AS AB HA HF HC k0 nqq
            try clear k1
            try clear k2
            try clear k3
            go_wp2
            refine wp_region_plus (by kernel_rfl) (by kernel_rfl) ?_
            repeat (go_big_quiet_step (fail))
            refine wpQuiet_nil ?_
            rintro _ ⟨x1, rfl⟩
            go_wp2
            go_ret
            refine ⟨rfl, ?_⟩
            repeat (first | (with_reducible exact Below.refl _ _) | (with_reducible assumption) | (with_reducible refine below_to_plus ?_ ?_ _) | (with_reducible refine below_holds ?_ ?_ _ _) | (with_reducible refine Below.alloc ?_ ?_ _) | (with_reducible refine Below.drew ?_) | (with_reducible refine below_drewN ?_ _) | (with_reducible refine Below.setCell ?_ ?_ _))
            all_goals first | omega | (simp; done) | (simp [go_sem]; done) | (simp [go_sem]; omega)
        · have k1 := eq_false_of_ne_true k1
          rw [k1] at nq
          have e1 := AB.out k0 (agree_not (.inl k1))
          subst e1
          clear AS AB HA HF HC k0 nqq
          try clear k1
          try clear k2
          try clear k3
          go_wp2
          refine wp_region_plus (by kernel_rfl) (by kernel_rfl) ?_
          repeat (go_big_quiet_step (fail))
          refine wpQuiet_nil ?_
          rintro _ ⟨x1, rfl⟩
          go_wp2
          go_ret
          refine ⟨rfl, ?_⟩
          repeat (first | (with_reducible exact Below.refl _ _) | (with_reducible assumption) | (with_reducible refine below_to_plus ?_ ?_ _) | (with_reducible refine below_holds ?_ ?_ _ _) | (with_reducible refine Below.alloc ?_ ?_ _) | (with_reducible refine Below.drew ?_) | (with_reducible refine below_drewN ?_ _) | (with_reducible refine Below.setCell ?_ ?_ _))
          all_goals first | omega | (simp; done) | (simp [go_sem]; done) | (simp [go_sem]; omega)
      · have f0 : (y9 == d9) = false := by simp [k0]
        have A2 : Aside (∀ j, j < idx + 1 → xs[j]!.copy = d9 → agreeB xs[j]! ⟨d1, d2, d3, d4, d5, d6, d7, d8, d9⟩ = true) := AS.out (fun h => absurd h k0)
        clear AS HA HF HC k0 nqq
        try clear k1
        try clear k2
        try clear k3
        go_wp2
        refine wp_region_plus (by kernel_rfl) (by kernel_rfl) ?_
        repeat (go_big_quiet_step (fail))
        refine wpQuiet_nil ?_
        rintro _ ⟨x1, rfl⟩
        go_wp2
        go_roundg (gk - 1)
        case measure => omega
        case rel =>
          obtain ⟨z5, hz5⟩ := plus_plus (w.alloc (.cells #[.int .i64 d1, .int .i64 d2, .int .i64 d3, .int .i64 d4, .string d5, .string d6, .int .i64 d7, .int .i64 d8, .int .i64 d9] 30)) _ x1
          exact ⟨idx + 1, z5, by simp, hz5, by omega, A2⟩
    · have hiz : ¬ (idx : Int) < (n : Int) := by omega
      have e1 := HF.out (fun j hj => A.out j (by have := HL.out; omega))
      subst e1
      clear HC A HA HF
      go_wp2
      go_ret
      refine ⟨rfl, ?_⟩
      repeat (first | (with_reducible exact Below.refl _ _) | (with_reducible assumption) | (with_reducible refine below_to_plus ?_ ?_ _) | (with_reducible refine below_holds ?_ ?_ _ _) | (with_reducible refine Below.alloc ?_ ?_ _) | (with_reducible refine Below.drew ?_) | (with_reducible refine below_drewN ?_ _) | (with_reducible refine Below.setCell ?_ ?_ _))
      all_goals first | omega | (simp; done) | (simp [go_sem]; done) | (simp [go_sem]; omega)

theorem rCopy_calls (id i2 : Int) (ao : Option Addr) (n cap : Nat) (w : World) :
    Calls Try.prog 16 #[.agg #[.int .i64 id, .slice ao n cap], .int .i64 i2] w fun e w' => e = .returned (.agg #[.int .i64 i2, .slice ao n cap]) ∧ Below w.heap.size w w' := by
  go_enter Try.func16, Try.ntmps16
  go_wp2
  refine bodyPost_ret (v := .agg #[.int .i64 i2, .slice ao n cap]) (by simp [results, Try.results16, go_sem, ↓IntWalk.iteOmega]) rfl ⟨rfl, ?_⟩
  repeat (first | (with_reducible exact Below.refl _ _) | (with_reducible assumption) | (with_reducible refine below_to_plus ?_ ?_ _) | (with_reducible refine below_holds ?_ ?_ _ _) | (with_reducible refine Below.alloc ?_ ?_ _) | (with_reducible refine Below.drew ?_) | (with_reducible refine below_drewN ?_ _) | (with_reducible refine Below.setCell ?_ ?_ _))
  all_goals first | omega | (simp; done) | (simp [go_sem]; done) | (simp [go_sem]; omega)

/-- Two groups are the same. -/
def sameB (id : Int) (xs : List Fd) (i2 : Int) (ys : List Fd) : Bool := decide (id = i2) && (decide (xs.length = ys.length) && (List.range xs.length).all fun j => eqF xs[j]! ys[j]!)
theorem same_iff (id : Int) (xs : List Fd) (i2 : Int) (ys : List Fd) : sameB id xs i2 ys = true ↔ id = i2 ∧ xs = ys := by
  simp only [sameB, Bool.and_eq_true, decide_eq_true_eq, List.all_eq_true, List.mem_range, eqF_iff]
  constructor
  · rintro ⟨h1, h2, h3⟩
    refine ⟨h1, List.ext_getElem h2 (fun i hi hj => ?_)⟩
    have := h3 i hi
    rwa [getElem!_pos xs i hi, getElem!_pos ys i hj] at this
  · rintro ⟨rfl, rfl⟩
    exact ⟨rfl, rfl, fun _ _ => rfl⟩

set_option maxHeartbeats 4000000 in
theorem same_calls (id i2 : Int) (ao bo : Option Addr) (n cap m cap2 : Nat) (xs ys : List Fd) (w : World) (ha : Sl w 9 ao n cap (xs.map Fd.enc)) (hb : Sl w 9 bo m cap2 (ys.map Fd.enc)) :
    Calls Try.prog 14 #[.agg #[.int .i64 id, .slice ao n cap], .agg #[.int .i64 i2, .slice bo m cap2]] w fun e w' => e = .returned (.bool (sameB id xs i2 ys)) ∧ Below w.heap.size w w' := by
  have hbig : n ≤ 9223372036854775807 := Nat.le_trans ha.hcap ha.hmax
  have hbig2 : m ≤ 9223372036854775807 := Nat.le_trans hb.hcap hb.hmax
  have HL : Aside (xs.length = n) := Sl.lenE ha
  have HM : Aside (ys.length = m) := Sl.lenE hb
  have HA : Aside (CellsFd w ao xs) := cellsFd ha
  have HB : Aside (CellsFd w bo ys) := cellsFd hb
  have HS : Aside (sameB id xs i2 ys = true ↔ id = i2 ∧ xs = ys) := same_iff id xs i2 ys
  generalize sameB id xs i2 ys = r at HS ⊢
  clear ha hb
  by_cases h1 : id = i2
  · by_cases h2 : n = m
    · subst h1
      subst h2
      go_enter Try.func14, Try.ntmps14
      go_wp2
      go_loopg [23] n (fun k s5 wr => ∃ (idx : Nat) (x : World), s5 = .int .i64 (idx : Int) ∧ wr = plus ((w.alloc (.cells #[.int .i64 id, .slice ao n cap] 24)).alloc (.cells #[.int .i64 id, .slice bo n cap2] 24)) x ∧ k + idx = n ∧ Aside (∀ j, j < idx → xs[j]! = ys[j]!))
      case atStart => exact ⟨0, _, rfl, plus_self _, by omega, fun j hj => absurd hj (Nat.not_lt_zero _)⟩
      case round =>
        obtain ⟨idx, x, rfl, rfl, hk, A⟩ := hrel
        by_cases hi : idx < n
        · have hiz : (idx : Int) < (n : Int) := by omega
          obtain ⟨b, off, rfl, hbw, l0, l1, l2, l3, l4, l5, l6, l7, l8⟩ := HA.out idx (by have := HL.out; omega)
          obtain ⟨b2, off2, rfl, hbw2, m0, m1, m2, m3, m4, m5, m6, m7, m8⟩ := HB.out idx (by have := HM.out; omega)
          have AS : Aside (xs[idx]! = ys[idx]! → ∀ j, j < idx + 1 → xs[j]! = ys[j]!) := fun hh j hj => by
            rcases (by omega : j < idx ∨ j = idx) with h' | h'
            · exact A.out j h'
            · rw [h']; exact hh
          have AN : Aside (eqF xs[idx]! ys[idx]! = false → r = false) := fun e => by
            cases r with
            | false => rfl
            | true =>
              have := (HS.out.1 rfl).2
              subst this
              rw [(eqF_iff _ _).2 rfl] at e; cases e
          generalize xs[idx]! = y at l0 l1 l2 l3 l4 l5 l6 l7 l8 AS AN
          generalize ys[idx]! = z at m0 m1 m2 m3 m4 m5 m6 m7 m8 AS AN
          obtain ⟨y1, y2, y3, y4, y5, y6, y7, y8, y9⟩ := y
          obtain ⟨z1, z2, z3, z4, z5, z6, z7, z8, z9⟩ := z
          simp only [] at l0 l1 l2 l3 l4 l5 l6 l7 l8 m0 m1 m2 m3 m4 m5 m6 m7 m8
          have nq := fun w => neq_fd y1 y2 y3 y4 y5 y6 y7 y8 y9 z1 z2 z3 z4 z5 z6 z7 z8 z9 w
          cases hq : eqF ⟨y1, y2, y3, y4, y5, y6, y7, y8, y9⟩ ⟨z1, z2, z3, z4, z5, z6, z7, z8, z9⟩ with
          | true =>
            have A2 := AS.out ((eqF_iff _ _).1 hq)
            have A3 : Aside (∀ j, j < idx + 1 → xs[j]! = ys[j]!) := A2
            rw [hq] at nq
            clear hq A2 AS AN A HA HB HS
            go_wp2
            refine wp_region_plus (by kernel_rfl) (by kernel_rfl) ?_
            repeat (go_big_quiet_step (fail))
            refine wpQuiet_nil ?_
            rintro _ ⟨x1, rfl⟩
            go_wp2
            go_roundg (gk - 1)
            case measure => omega
            case rel =>
              obtain ⟨z5, hz5⟩ := plus_plus ((w.alloc (.cells #[.int .i64 id, .slice (some ⟨b, off, none⟩) n cap] 24)).alloc (.cells #[.int .i64 id, .slice (some ⟨b2, off2, none⟩) n cap2] 24)) _ x1
              exact ⟨idx + 1, z5, by simp, hz5, by omega, A3⟩
          | false =>
            have e1 := AN.out hq
            subst e1
            rw [hq] at nq
            clear hq AS AN A HA HB HS
            go_wp2
            refine wp_region_plus (by kernel_rfl) (by kernel_rfl) ?_
            repeat (go_big_quiet_step (fail))
            refine wpQuiet_nil ?_
            rintro _ ⟨x1, rfl⟩
            go_wp2
            go_ret
            refine ⟨rfl, ?_⟩
            repeat (first | (with_reducible exact Below.refl _ _) | (with_reducible assumption) | (with_reducible refine below_to_plus ?_ ?_ _) | (with_reducible refine below_holds ?_ ?_ _ _) | (with_reducible refine Below.alloc ?_ ?_ _) | (with_reducible refine Below.drew ?_) | (with_reducible refine below_drewN ?_ _) | (with_reducible refine Below.setCell ?_ ?_ _))
            all_goals first | omega | (simp; done) | (simp [go_sem]; done) | (simp [go_sem]; omega)
        · have hiz : ¬ (idx : Int) < (n : Int) := by omega
          have exy : xs = ys := List.ext_getElem (by rw [HL.out, HM.out]) (fun j h1 h2 => by
            have := A.out j (by have := HL.out; omega)
            rwa [getElem!_pos xs j h1, getElem!_pos ys j h2] at this)
          have e1 : r = true := by first | exact HS.out.2 ⟨rfl, exy⟩ | exact HS.out.2 ⟨trivial, exy⟩
          subst e1
          clear HA HB HS A
          go_wp2
          go_ret
          refine ⟨rfl, ?_⟩
          repeat (first | (with_reducible exact Below.refl _ _) | (with_reducible assumption) | (with_reducible refine below_to_plus ?_ ?_ _) | (with_reducible refine below_holds ?_ ?_ _ _) | (with_reducible refine Below.alloc ?_ ?_ _) | (with_reducible refine Below.drew ?_) | (with_reducible refine below_drewN ?_ _) | (with_reducible refine Below.setCell ?_ ?_ _))
          all_goals first | omega | (simp; done) | (simp [go_sem]; done) | (simp [go_sem]; omega)
    · have e1 : r = false := by
        cases r with
        | false => rfl
        | true =>
          have := (HS.out.1 rfl).2
          subst this
          have := HL.out
          have := HM.out
          omega
      subst e1
      subst h1
      have hne : ((n : Int) != (m : Int)) = true := by simp; omega
      clear HA HB HS
      go_enter Try.func14, Try.ntmps14
      go_wp2
      go_ret
      refine ⟨rfl, ?_⟩
      repeat (first | (with_reducible exact Below.refl _ _) | (with_reducible assumption) | (with_reducible refine below_to_plus ?_ ?_ _) | (with_reducible refine below_holds ?_ ?_ _ _) | (with_reducible refine Below.alloc ?_ ?_ _) | (with_reducible refine Below.drew ?_) | (with_reducible refine below_drewN ?_ _) | (with_reducible refine Below.setCell ?_ ?_ _))
      all_goals first | omega | (simp; done) | (simp [go_sem]; done) | (simp [go_sem]; omega)
  · have e1 : r = false := by
      cases r with
      | false => rfl
      | true => exact absurd (HS.out.1 rfl).1 h1
    subst e1
    have hne : (id != i2) = true := by simp [h1]
    clear HA HB HS
    go_enter Try.func14, Try.ntmps14
    go_wp2
    go_ret
    refine ⟨rfl, ?_⟩
    repeat (first | (with_reducible exact Below.refl _ _) | (with_reducible assumption) | (with_reducible refine below_to_plus ?_ ?_ _) | (with_reducible refine below_holds ?_ ?_ _ _) | (with_reducible refine Below.alloc ?_ ?_ _) | (with_reducible refine Below.drew ?_) | (with_reducible refine below_drewN ?_ _) | (with_reducible refine Below.setCell ?_ ?_ _))
    all_goals first | omega | (simp; done) | (simp [go_sem]; done) | (simp [go_sem]; omega)

end Go.Proofs.Ytbifanenoejjgaa
