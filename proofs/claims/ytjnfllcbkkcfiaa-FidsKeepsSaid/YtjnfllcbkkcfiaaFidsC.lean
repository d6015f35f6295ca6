/- This text says what a valid table is, and proves the walk of Right of package fids. Conditions: those that each theorem names. -/
import Derived.Test.YtjnfllcbkkcfiaaFidsB
namespace Go.Proofs.Ytjnfllcbkkcfiaa
open Go.ChangeShapes Go.WideShapes Go.ChangeAt Go.RowKit
set_option linter.unusedVariables false
set_option linter.unusedSimpArgs false

def ascB : List Fi → Bool
  | [] => true
  | x :: xs => xs.all (fun y => decide (x.num < y.num)) && ascB xs
/-- A valid table. -/
def rightB (xs : List Fi) : Bool := decide (xs.length ≤ 256) && (xs.all vB && ascB xs)
structure RightP (xs : List Fi) : Prop where
  len : xs.length ≤ 256
  ok : ∀ x ∈ xs, vB x = true
  asc : xs.Pairwise (fun x y => x.num < y.num)
theorem ascB_iff : ∀ xs : List Fi, ascB xs = true ↔ xs.Pairwise (fun x y => x.num < y.num)
  | [] => by simp [ascB]
  | x :: xs => by simp [ascB, ascB_iff xs]
theorem rightB_iff (xs : List Fi) : rightB xs = true ↔ RightP xs := by
  simp only [rightB, Bool.and_eq_true, decide_eq_true_eq, List.all_eq_true, ascB_iff]
  exact ⟨fun ⟨a, b, c⟩ => ⟨a, b, c⟩, fun ⟨a, b, c⟩ => ⟨a, b, c⟩⟩
theorem mem_of_get {xs : List Fi} {i : Nat} (h : i < xs.length) : xs[i]! ∈ xs := by rw [getElem!_pos xs i h]; exact List.getElem_mem _
theorem get_of_mem {xs : List Fi} {x : Fi} (h : x ∈ xs) : ∃ i, i < xs.length ∧ xs[i]! = x := by
  obtain ⟨i, hi, e⟩ := List.getElem_of_mem h
  exact ⟨i, hi, by rw [getElem!_pos xs i hi]; exact e⟩
theorem asc_get {xs : List Fi} (h : xs.Pairwise (fun x y => x.num < y.num)) {i j : Nat} (hij : i < j) (hj : j < xs.length) : xs[i]!.num < xs[j]!.num := by
  rw [getElem!_pos xs i (by omega), getElem!_pos xs j hj]
  exact List.pairwise_iff_getElem.1 h i j (by omega) hj hij
theorem right_good (xs : List Fi) (hl : xs.length ≤ 256) (h : ∀ i, i < xs.length → vB xs[i]! = true ∧ (0 < i → xs[i - 1]!.num < xs[i]!.num)) : rightB xs = true := by
  rw [rightB_iff]
  have hasc : ∀ d i, i + d + 1 < xs.length → xs[i]!.num < xs[i + d + 1]!.num := by
    intro d
    induction d with
    | zero => intro i hi; exact (h (i + 1) hi).2 (by omega)
    | succ d ih =>
      intro i hi
      have h1 := ih i (by omega)
      have h2 := (h (i + (d + 1) + 1) hi).2 (by omega)
      rw [show i + (d + 1) + 1 - 1 = i + d + 1 by omega] at h2
      omega
  refine ⟨hl, fun x hx => ?_, ?_⟩
  · obtain ⟨i, hi, rfl⟩ := get_of_mem hx
    exact (h i hi).1
  · rw [List.pairwise_iff_getElem]
    intro i j hi hj hij
    have := hasc (j - i - 1) i (by omega)
    rw [show i + (j - i - 1) + 1 = j by omega, getElem!_pos xs i hi, getElem!_pos xs j hj] at this
    exact this
theorem right_bad (xs : List Fi) (h : ¬ xs.length ≤ 256 ∨ ∃ i, i < xs.length ∧ (vB xs[i]! = false ∨ (0 < i ∧ xs[i]!.num ≤ xs[i - 1]!.num))) : rightB xs = false := by
  cases hr : rightB xs with
  | false => rfl
  | true =>
    rw [rightB_iff] at hr
    exfalso
    rcases h with h | ⟨i, hi, h | ⟨h0, h⟩⟩
    · exact h hr.len
    · rw [hr.ok _ (mem_of_get hi)] at h; cases h
    · have := asc_get hr.asc (show i - 1 < i by omega) hi; omega

set_option maxHeartbeats 8000000 in
theorem right_calls (ao : Option Addr) (n cap : Nat) (xs : List Fi) (w : World) (h : Sl w 7 ao n cap (xs.map Fi.enc)) :
    Calls Try.prog 9 #[.slice ao n cap] w fun e w' => e = .returned (.bool (rightB xs)) ∧ Below w.heap.size w w' := by
  have hbig : n ≤ 9223372036854775807 := Nat.le_trans h.hcap h.hmax
  have HL : Aside (xs.length = n) := Sl.lenE h
  have HC : Aside (CellsFi w ao xs) := cellsFi h
  have H1 : Aside (∀ i, i < xs.length → (vB xs[i]! = false ∨ (0 < i ∧ xs[i]!.num ≤ xs[i - 1]!.num)) → rightB xs = false) := fun i hi hh => right_bad xs (.inr ⟨i, hi, hh⟩)
  have H2 : Aside (xs.length ≤ 256 → (∀ i, i < xs.length → vB xs[i]! = true ∧ (0 < i → xs[i - 1]!.num < xs[i]!.num)) → rightB xs = true) := right_good xs
  have H0 : Aside (¬ xs.length ≤ 256 → rightB xs = false) := fun h => right_bad xs (.inl h)
  generalize rightB xs = r at H0 H1 H2 ⊢
  clear h
  by_cases i1 : 256 < n
  · have hnz : (256 : Int) < (n : Int) := by omega
    have e1 := H0.out (by have := HL.out; omega)
    subst e1
    clear H0 H1 H2 HC
    go_enter Try.func9, Try.ntmps9
    go_wp2
    go_ret
    exact ⟨rfl, Below.refl _ _⟩
  have hnz : ¬ (256 : Int) < (n : Int) := by omega
  clear H0
  go_enter Try.func9, Try.ntmps9
  go_wp2
  go_loopg [10] n (fun k s10 wr => ∃ (idx : Nat) (x : World), s10 = .int .i64 (idx : Int) ∧ wr = plus w x ∧ k + idx = n ∧ Aside (∀ j, j < idx → vB xs[j]! = true ∧ (0 < j → xs[j - 1]!.num < xs[j]!.num)))
  case atStart => exact ⟨0, _, rfl, plus_self _, by omega, fun j hj => absurd hj (Nat.not_lt_zero _)⟩
  case round =>
    obtain ⟨idx, x, rfl, rfl, hk, A⟩ := hrel
    by_cases hi : idx < n
    · have hiz : (idx : Int) < (n : Int) := by omega
      have HS : Aside (CellsFi w ao xs) := HC.out
      obtain ⟨b, off, rfl, hbw, l0, l1, l2, l3, l4, l5, l6⟩ := HC.out idx (by have := HL.out; omega)
      have PL : Aside (0 < idx → w.cell? ⟨b, off + (idx - 1) * 7, none⟩ = some (.int .i64 xs[idx - 1]!.num)) := fun h0 => by
        obtain ⟨b2, off2, eb2, _, m0, _⟩ := HS.out (idx - 1) (by have := HL.out; omega)
        cases eb2
        exact m0
      have SG : Aside ((vB xs[idx]! = true ∧ (0 < idx → xs[idx - 1]!.num < xs[idx]!.num)) → ∀ j, j < idx + 1 → vB xs[j]! = true ∧ (0 < j → xs[j - 1]!.num < xs[j]!.num)) := fun hh j hj => by
        rcases (by omega : j < idx ∨ j = idx) with h' | h'
        · exact A.out j h'
        · rw [h']; exact hh
      have SB : Aside ((vB xs[idx]! = false ∨ (0 < idx ∧ xs[idx]!.num ≤ xs[idx - 1]!.num)) → r = false) := H1.out idx (by have := HL.out; omega)
      generalize xs[idx - 1]!.num = pv at PL SG SB
      clear H1 H2 A HS
      generalize xs[idx]! = y at l0 l1 l2 l3 l4 l5 l6 SG SB
      obtain ⟨y1, y2, y3, y4, y5, y6, y7⟩ := y
      simp only [] at l0 l1 l2 l3 l4 l5 l6
      have cv := fun U => valid_calls y1 y2 y3 y4 y5 y6 y7 U
      cases hv : vB ⟨y1, y2, y3, y4, y5, y6, y7⟩ with
      | false =>
        rw [hv] at cv
        have e1 := SB.out (.inl hv)
        subst e1
        clear SB SG HC PL
        go_wp2
        refine wp_region_plus (by kernel_rfl) (by kernel_rfl) ?_
        repeat (go_big_quiet_step ((first | (go_at_call 26; exact calls_plus (cv _)))))
        refine wpQuiet_nil ?_
        rintro _ ⟨x1, rfl⟩
        go_wp2
        go_ret
        refine ⟨rfl, ?_⟩
        repeat (first | (with_reducible exact Below.refl _ _) | (with_reducible assumption) | (with_reducible refine below_to_plus ?_ ?_ _) | (with_reducible refine below_holds ?_ ?_ _ _) | (with_reducible refine Below.alloc ?_ ?_ _) | (with_reducible refine Below.drew ?_) | (with_reducible refine below_drewN ?_ _) | (with_reducible refine Below.setCell ?_ ?_ _))
        all_goals first | omega | (simp; done) | (simp [go_sem]; done) | (simp [go_sem]; omega)
      | true =>
        rw [hv] at cv
        by_cases z0 : idx = 0
        · have fz : decide ((0 : Int) < (idx : Int)) = false := decide_eq_false (by omega)
          have fn : decide (0 < idx) = false := decide_eq_false (by omega)
          have PZ : Aside (0 < idx → pv < y1) := fun h => absurd h (by omega)
          clear z0
          have A2 := SG.out ⟨hv, PZ.out⟩
          have A3 : Aside (∀ j, j < idx + 1 → vB xs[j]! = true ∧ (0 < j → xs[j - 1]!.num < xs[j]!.num)) := A2
          clear SB SG HC PL A2
          go_wp2
          refine wp_region_plus (by kernel_rfl) (by kernel_rfl) ?_
          repeat (go_big_quiet_step ((first | (go_at_call 26; exact calls_plus (cv _)))))
          refine wpQuiet_nil ?_
          rintro _ ⟨x1, rfl⟩
          go_wp2
          go_roundg (gk - 1)
          case measure => omega
          case rel =>
            obtain ⟨z5, hz5⟩ := plus_of_below (show Below w.heap.size w (plus ((plus w x).alloc (.cells #[.int .i64 y1, .int .i64 y2, .string y3, .bool y4, .bool y5, .int .i64 y6, .int .i64 y7] 24)) x1) from by
              repeat (first | (with_reducible exact Below.refl _ _) | (with_reducible assumption) | (with_reducible refine below_to_plus ?_ ?_ _) | (with_reducible refine below_holds ?_ ?_ _ _) | (with_reducible refine Below.alloc ?_ ?_ _) | (with_reducible refine Below.drew ?_) | (with_reducible refine below_drewN ?_ _) | (with_reducible refine Below.setCell ?_ ?_ _))
              all_goals first | omega | (simp; done) | (simp [go_sem]; done) | (simp [go_sem]; omega))
            exact ⟨idx + 1, z5, by simp, hz5, by omega, A3⟩
        · have zp : (0 : Int) < (idx : Int) := by omega
          have zr : (idx : Int) - 1 < (n : Int) := by omega
          have fz : decide ((0 : Int) < (idx : Int)) = true := decide_eq_true zp
          have fn : decide (0 < idx) = true := decide_eq_true (by omega)
          have pl := PL.out (by omega)
          by_cases t2 : y1 ≤ pv
          · have f2 : decide (y1 ≤ pv) = true := decide_eq_true t2
            have e1 := SB.out (.inr ⟨by omega, t2⟩)
            subst e1
            clear SB SG HC PL
            go_wp2
            refine wp_region_plus (by kernel_rfl) (by kernel_rfl) ?_
            repeat (go_big_quiet_step ((first | (go_at_call 26; exact calls_plus (cv _)))))
            refine wpQuiet_nil ?_
            rintro _ ⟨x1, rfl⟩
            go_wp2
            go_ret
            refine ⟨rfl, ?_⟩
            repeat (first | (with_reducible exact Below.refl _ _) | (with_reducible assumption) | (with_reducible refine below_to_plus ?_ ?_ _) | (with_reducible refine below_holds ?_ ?_ _ _) | (with_reducible refine Below.alloc ?_ ?_ _) | (with_reducible refine Below.drew ?_) | (with_reducible refine below_drewN ?_ _) | (with_reducible refine Below.setCell ?_ ?_ _))
            all_goals first | omega | (simp; done) | (simp [go_sem]; done) | (simp [go_sem]; omega)
          · have f2 : decide (y1 ≤ pv) = false := decide_eq_false t2
            have PZ : Aside (0 < idx → pv < y1) := fun _ => by omega
            have A2 := SG.out ⟨hv, PZ.out⟩
            have A3 : Aside (∀ j, j < idx + 1 → vB xs[j]! = true ∧ (0 < j → xs[j - 1]!.num < xs[j]!.num)) := A2
            clear SB SG HC PL A2
            go_wp2
            refine wp_region_plus (by kernel_rfl) (by kernel_rfl) ?_
            repeat (go_big_quiet_step ((first | (go_at_call 26; exact calls_plus (cv _)))))
            refine wpQuiet_nil ?_
            rintro _ ⟨x1, rfl⟩
            go_wp2
            go_roundg (gk - 1)
            case measure => omega
            case rel =>
              obtain ⟨z5, hz5⟩ := plus_of_below (show Below w.heap.size w (plus ((plus w x).alloc (.cells #[.int .i64 y1, .int .i64 y2, .string y3, .bool y4, .bool y5, .int .i64 y6, .int .i64 y7] 24)) x1) from by
                repeat (first | (with_reducible exact Below.refl _ _) | (with_reducible assumption) | (with_reducible refine below_to_plus ?_ ?_ _) | (with_reducible refine below_holds ?_ ?_ _ _) | (with_reducible refine Below.alloc ?_ ?_ _) | (with_reducible refine Below.drew ?_) | (with_reducible refine below_drewN ?_ _) | (with_reducible refine Below.setCell ?_ ?_ _))
                all_goals first | omega | (simp; done) | (simp [go_sem]; done) | (simp [go_sem]; omega))
              exact ⟨idx + 1, z5, by simp, hz5, by omega, A3⟩
    · have hiz : ¬ (idx : Int) < (n : Int) := by omega
      have e1 := H2.out (by have := HL.out; omega) (fun j hj => A.out j (by have := HL.out; omega))
      subst e1
      clear HC A H1 H2
      go_wp2
      go_ret
      exact ⟨rfl, below_plus _ _⟩

end Go.Proofs.Ytjnfllcbkkcfiaa
