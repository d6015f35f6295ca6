/- This text proves the walks of small and awake of the statements on descriptors. Conditions: those that each theorem names. -/
import Derived.Test.YtbifanenoejjgaaFdsR
namespace Go.Proofs.Ytbifanenoejjgaa
open Go.ChangeShapes Go.WideShapes Go.ChangeAt Go.RowKit
set_option linter.unusedVariables false
set_option linter.unusedSimpArgs false

/-- The bound of the statements. -/
def smallB (xs : List Fd) : Bool := decide (xs.length ≤ 70) && xs.all fun y => briefB y.dev y.id y.fid y.path y.name
theorem small_no (xs : List Fd) (i : Nat) (hi : i < xs.length) (h : briefB xs[i]!.dev xs[i]!.id xs[i]!.fid xs[i]!.path xs[i]!.name = false) : smallB xs = false := by
  cases hs : smallB xs with
  | false => rfl
  | true =>
    unfold smallB at hs
    rw [Bool.and_eq_true, List.all_eq_true] at hs
    rw [hs.2 _ (mem_of_get hi)] at h
    cases h
theorem small_yes (xs : List Fd) (h0 : xs.length ≤ 70) (h : ∀ i, i < xs.length → briefB xs[i]!.dev xs[i]!.id xs[i]!.fid xs[i]!.path xs[i]!.name = true) : smallB xs = true := by
  unfold smallB
  rw [decide_eq_true h0, Bool.true_and, List.all_eq_true]
  intro x hx
  obtain ⟨i, hi, rfl⟩ := get_of_mem hx
  exact h i hi

set_option maxHeartbeats 4000000 in
theorem small_calls (id : Int) (ao : Option Addr) (n cap : Nat) (xs : List Fd) (w : World) (h : Sl w 9 ao n cap (xs.map Fd.enc)) (hft : ∀ y ∈ xs, y.fit) :
    Calls Try.prog 8 #[.agg #[.int .i64 id, .slice ao n cap]] w fun e w' => e = .returned (.bool (smallB xs)) ∧ Below w.heap.size w w' := by
  have hbig : n ≤ 9223372036854775807 := Nat.le_trans h.hcap h.hmax
  have HL : Aside (xs.length = n) := Sl.lenE h
  have HC : Aside (CellsFd w ao xs) := cellsFd h
  have HT : Aside (∀ y ∈ xs, y.fit) := hft
  have H1 : Aside (∀ i, i < xs.length → briefB xs[i]!.dev xs[i]!.id xs[i]!.fid xs[i]!.path xs[i]!.name = false → smallB xs = false) := small_no xs
  have H2 : Aside (xs.length ≤ 70 → (∀ i, i < xs.length → briefB xs[i]!.dev xs[i]!.id xs[i]!.fid xs[i]!.path xs[i]!.name = true) → smallB xs = true) := small_yes xs
  have H0 : Aside (¬ xs.length ≤ 70 → smallB xs = false) := fun h => by unfold smallB; rw [decide_eq_false h]; rfl
  generalize smallB xs = r at H0 H1 H2 ⊢
  clear h hft
  by_cases i1 : 70 < n
  · have e1 := H0.out (by have := HL.out; omega)
    subst e1
    clear H0 H1 H2 HC
    go_enter Try.func8, Try.ntmps8
    go_wp2
    go_ret
    refine ⟨rfl, ?_⟩
    repeat (first | (with_reducible exact Below.refl _ _) | (with_reducible assumption) | (with_reducible refine below_to_plus ?_ ?_ _) | (with_reducible refine below_holds ?_ ?_ _ _) | (with_reducible refine Below.alloc ?_ ?_ _) | (with_reducible refine Below.drew ?_) | (with_reducible refine below_drewN ?_ _) | (with_reducible refine Below.setCell ?_ ?_ _))
    all_goals first | omega | (simp; done) | (simp [go_sem]; done) | (simp [go_sem]; omega)
  clear H0
  go_enter Try.func8, Try.ntmps8
  go_wp2
  go_loopg [11] n (fun k s11 wr => ∃ (idx : Nat) (x : World), s11 = .int .i64 (idx : Int) ∧ wr = plus (w.alloc (.cells #[.int .i64 id, .slice ao n cap] 24)) x ∧ k + idx = n ∧ Aside (∀ j, j < idx → briefB xs[j]!.dev xs[j]!.id xs[j]!.fid xs[j]!.path xs[j]!.name = true))
  case atStart => exact ⟨0, _, rfl, plus_self _, by omega, fun j hj => absurd hj (Nat.not_lt_zero _)⟩
  case round =>
    obtain ⟨idx, x, rfl, rfl, hk, A⟩ := hrel
    by_cases hi : idx < n
    · have hiz : (idx : Int) < (n : Int) := by omega
      obtain ⟨b, off, rfl, hbw, l0, l1, l2, l3, l4, l5, l6, l7, l8⟩ := HC.out idx (by have := HL.out; omega)
      have AS : Aside (briefB xs[idx]!.dev xs[idx]!.id xs[idx]!.fid xs[idx]!.path xs[idx]!.name = true → ∀ j, j < idx + 1 → briefB xs[j]!.dev xs[j]!.id xs[j]!.fid xs[j]!.path xs[j]!.name = true) := fun hh j hj => by
        rcases (by omega : j < idx ∨ j = idx) with h' | h'
        · exact A.out j h'
        · rw [h']; exact hh
      have AB : Aside (briefB xs[idx]!.dev xs[idx]!.id xs[idx]!.fid xs[idx]!.path xs[idx]!.name = false → r = false) := H1.out idx (by have := HL.out; omega)
      have HY : Aside (Fd.fit xs[idx]!) := HT.out _ (mem_of_get (by have := HL.out; omega))
      clear H1 H2 A HC
      generalize xs[idx]! = y at l0 l1 l2 l3 l4 l5 l6 l7 l8 AS AB HY
      obtain ⟨y1, y2, y3, y4, y5, y6, y7, y8, y9⟩ := y
      simp only [] at l0 l1 l2 l3 l4 l5 l6 l7 l8 AS AB
      have cb := fun U => brief_calls y2 y3 y4 y5 y6 U HY.out.1 HY.out.2.1
      generalize briefB y2 y3 y4 y5 y6 = q at cb AS AB
      cases q with
      | false =>
        have e1 := AB.out rfl
        subst e1
        clear AS AB HY
        go_wp2_with fail
        refine (cb _).mono ?_
        rintro e w2 ⟨rfl, hb⟩
        obtain ⟨x2, rfl⟩ := plus_next hb
        clear hb cb
        go_wp2
        go_ret
        refine ⟨rfl, ?_⟩
        repeat (first | (with_reducible exact Below.refl _ _) | (with_reducible assumption) | (with_reducible refine below_to_plus ?_ ?_ _) | (with_reducible refine below_holds ?_ ?_ _ _) | (with_reducible refine Below.alloc ?_ ?_ _) | (with_reducible refine Below.drew ?_) | (with_reducible refine below_drewN ?_ _) | (with_reducible refine Below.setCell ?_ ?_ _))
        all_goals first | omega | (simp; done) | (simp [go_sem]; done) | (simp [go_sem]; omega)
      | true =>
        have A2 := AS.out rfl
        have A3 : Aside (∀ j, j < idx + 1 → briefB xs[j]!.dev xs[j]!.id xs[j]!.fid xs[j]!.path xs[j]!.name = true) := A2
        clear AS AB HY A2
        go_wp2_with fail
        refine (cb _).mono ?_
        rintro e w2 ⟨rfl, hb⟩
        obtain ⟨x2, rfl⟩ := plus_next hb
        clear hb cb
        go_wp2
        go_roundg (gk - 1)
        case measure => omega
        case rel => exact ⟨idx + 1, x2, by simp, rfl, by omega, A3⟩
    · have hiz : ¬ (idx : Int) < (n : Int) := by omega
      have e1 := H2.out (by have := HL.out; omega) (fun j hj => A.out j (by have := HL.out; omega))
      subst e1
      clear HC A H1 H2
      go_wp2
      go_ret
      refine ⟨rfl, ?_⟩
      repeat (first | (with_reducible exact Below.refl _ _) | (with_reducible assumption) | (with_reducible refine below_to_plus ?_ ?_ _) | (with_reducible refine below_holds ?_ ?_ _ _) | (with_reducible refine Below.alloc ?_ ?_ _) | (with_reducible refine Below.drew ?_) | (with_reducible refine below_drewN ?_ _) | (with_reducible refine Below.setCell ?_ ?_ _))
      all_goals first | omega | (simp; done) | (simp [go_sem]; done) | (simp [go_sem]; omega)

/-- A row of the call's own that reads as a group. -/
def Row (w : World) (B : Nat) (ao : Option Addr) (cap : Nat) (xs : List Fd) : Prop := w.ownsRow B 30 9 (.slice ao xs.length cap) xs.length (flatE Fd.enc xs)
theorem Row.sl {w : World} {B : Nat} {ao : Option Addr} {cap : Nat} {xs : List Fd} (h : Row w B ao cap xs) : Sl w 9 ao xs.length cap (xs.map Fd.enc) := by
  obtain ⟨a9, c9, hv9, hsl9⟩ := ownE_sl fd_len (by omega) h
  cases hv9
  exact hsl9
theorem Row.alloc {w : World} {B : Nat} {ao : Option Addr} {cap : Nat} {xs : List Fd} {o : Obj} (h : Row w B ao cap xs) : Row (w.alloc o) B ao cap xs := own_alloc h
theorem Row.later {w w' : World} {B : Nat} {ao : Option Addr} {cap : Nat} {xs : List Fd} (h : Row w B ao cap xs) (hb : Below w.heap.size w w') : Row w' B ao cap xs := by
  obtain ⟨x, rfl⟩ := plus_of_below hb
  exact own_plus h
theorem Row.holds {w : World} {B b : Nat} {ao : Option Addr} {cap : Nat} {xs : List Fd} {c : Array Value} {T : TypeId} (h : Row w B ao cap xs) (hb : b < B) : Row (holds w b c T) B ao cap xs := by
  refine own_holds h (fun e => ?_)
  have := h.lt
  exact absurd (this b e).1 (by omega)
/-- A block behind blocks that stay. -/
theorem heap_later {w w' : World} {b : Nat} {o : Obj} (h : w.heap[b]? = some o) (hb : Below w.heap.size w w') : w'.heap[b]? = some o := (hb.block b (Array.getElem?_eq_some_iff.1 h).1).trans h

theorem aw_add1 (ao : Option Addr) (cap : Nat) (w : World) (h : Sl w 9 ao 0 cap (([] : List Fd).map Fd.enc)) :
    Calls Try.prog 24 #[.agg #[.int .i64 1, .slice ao 0 cap], .agg #[.int .i64 0, .int .i64 5, .int .i64 0, .string ⟨#[]⟩, .string ⟨#[47, 97]⟩], .int .i64 0] w fun e w' => ∃ ao' cap', e = .returned (.tuple #[.agg #[.int .i64 1, .slice ao' 1 cap'], .int .i64 0, .int .i64 0]) ∧ Row w' w.heap.size ao' cap' ([⟨0, 0, 5, 0, ⟨#[]⟩, ⟨#[47, 97]⟩, 0, 0, 0⟩] : List Fd) ∧ Below w.heap.size w w' := by
  have e := (show addF [] 0 5 0 ⟨#[]⟩ ⟨#[47, 97]⟩ 0 = (([⟨0, 0, 5, 0, ⟨#[]⟩, ⟨#[47, 97]⟩, 0, 0, 0⟩] : List Fd), 0, 0) from rfl)
  refine (add_calls 1 0 5 0 ⟨#[]⟩ ⟨#[47, 97]⟩ 0 ao 0 cap [] w h (by omega) (by unfold maxLen; decide) (by unfold maxLen; decide) (asc_mono (show ([] : List Fd).Pairwise (fun x y => x.num < y.num) by simp) _)).mono ?_
  rintro en w' ⟨ao', cap', he, ho, hb⟩
  rw [e] at he ho
  exact ⟨ao', cap', he, ho, hb⟩

theorem aw_add2 (ao : Option Addr) (cap : Nat) (w : World) (h : Sl w 9 ao 1 cap (([⟨0, 0, 5, 0, ⟨#[]⟩, ⟨#[47, 97]⟩, 0, 0, 0⟩] : List Fd).map Fd.enc)) :
    Calls Try.prog 24 #[.agg #[.int .i64 1, .slice ao 1 cap], .agg #[.int .i64 0, .int .i64 6, .int .i64 0, .string ⟨#[]⟩, .string ⟨#[47, 98]⟩], .int .i64 1] w fun e w' => ∃ ao' cap', e = .returned (.tuple #[.agg #[.int .i64 1, .slice ao' 2 cap'], .int .i64 1, .int .i64 0]) ∧ Row w' w.heap.size ao' cap' ([⟨0, 0, 5, 0, ⟨#[]⟩, ⟨#[47, 97]⟩, 0, 0, 0⟩, ⟨1, 0, 6, 0, ⟨#[]⟩, ⟨#[47, 98]⟩, 1, 0, 1⟩] : List Fd) ∧ Below w.heap.size w w' := by
  have e := (show addF ([⟨0, 0, 5, 0, ⟨#[]⟩, ⟨#[47, 97]⟩, 0, 0, 0⟩] : List Fd) 0 6 0 ⟨#[]⟩ ⟨#[47, 98]⟩ 1 = (([⟨0, 0, 5, 0, ⟨#[]⟩, ⟨#[47, 97]⟩, 0, 0, 0⟩, ⟨1, 0, 6, 0, ⟨#[]⟩, ⟨#[47, 98]⟩, 1, 0, 1⟩] : List Fd), 1, 0) from rfl)
  refine (add_calls 1 0 6 0 ⟨#[]⟩ ⟨#[47, 98]⟩ 1 ao 1 cap ([⟨0, 0, 5, 0, ⟨#[]⟩, ⟨#[47, 97]⟩, 0, 0, 0⟩] : List Fd) w h (by omega) (by unfold maxLen; decide) (by unfold maxLen; decide) (asc_mono (show ([⟨0, 0, 5, 0, ⟨#[]⟩, ⟨#[47, 97]⟩, 0, 0, 0⟩] : List Fd).Pairwise (fun x y => x.num < y.num) by simp) _)).mono ?_
  rintro en w' ⟨ao', cap', he, ho, hb⟩
  rw [e] at he ho
  exact ⟨ao', cap', he, ho, hb⟩

theorem aw_dup (ao : Option Addr) (cap : Nat) (w : World) (h : Sl w 9 ao 2 cap (([⟨0, 0, 5, 0, ⟨#[]⟩, ⟨#[47, 97]⟩, 0, 0, 0⟩, ⟨1, 0, 6, 0, ⟨#[]⟩, ⟨#[47, 98]⟩, 1, 0, 1⟩] : List Fd).map Fd.enc)) :
    Calls Try.prog 20 #[.agg #[.int .i64 1, .slice ao 2 cap], .int .i64 0, .int .i64 (-1)] w fun e w' => ∃ ao' cap', e = .returned (.tuple #[.agg #[.int .i64 1, .slice ao' 3 cap'], .int .i64 2, .int .i64 0]) ∧ Row w' w.heap.size ao' cap' ([⟨0, 0, 5, 0, ⟨#[]⟩, ⟨#[47, 97]⟩, 0, 0, 0⟩, ⟨1, 0, 6, 0, ⟨#[]⟩, ⟨#[47, 98]⟩, 1, 0, 1⟩, ⟨2, 0, 5, 0, ⟨#[]⟩, ⟨#[47, 97]⟩, 0, 0, 0⟩] : List Fd) ∧ Below w.heap.size w w' := by
  have e := (show dupF ([⟨0, 0, 5, 0, ⟨#[]⟩, ⟨#[47, 97]⟩, 0, 0, 0⟩, ⟨1, 0, 6, 0, ⟨#[]⟩, ⟨#[47, 98]⟩, 1, 0, 1⟩] : List Fd) 0 (-1) = (([⟨0, 0, 5, 0, ⟨#[]⟩, ⟨#[47, 97]⟩, 0, 0, 0⟩, ⟨1, 0, 6, 0, ⟨#[]⟩, ⟨#[47, 98]⟩, 1, 0, 1⟩, ⟨2, 0, 5, 0, ⟨#[]⟩, ⟨#[47, 97]⟩, 0, 0, 0⟩] : List Fd), 2, 0) from rfl)
  refine (dup_calls 1 0 (-1) ao 2 cap ([⟨0, 0, 5, 0, ⟨#[]⟩, ⟨#[47, 97]⟩, 0, 0, 0⟩, ⟨1, 0, 6, 0, ⟨#[]⟩, ⟨#[47, 98]⟩, 1, 0, 1⟩] : List Fd) w h (by omega) (asc_mono (show ([⟨0, 0, 5, 0, ⟨#[]⟩, ⟨#[47, 97]⟩, 0, 0, 0⟩, ⟨1, 0, 6, 0, ⟨#[]⟩, ⟨#[47, 98]⟩, 1, 0, 1⟩] : List Fd).Pairwise (fun x y => x.num < y.num) by simp) _) (asc_mono (show ([⟨0, 0, 5, 0, ⟨#[]⟩, ⟨#[47, 97]⟩, 0, 0, 0⟩, ⟨1, 0, 6, 0, ⟨#[]⟩, ⟨#[47, 98]⟩, 1, 0, 1⟩] : List Fd).Pairwise (fun x y => x.num < y.num) by simp) _)).mono ?_
  rintro en w' ⟨ao', cap', he, ho, hb⟩
  rw [e] at he ho
  exact ⟨ao', cap', he, ho, hb⟩

theorem aw_seek (ao : Option Addr) (cap : Nat) (w : World) (h : Sl w 9 ao 3 cap (([⟨0, 0, 5, 0, ⟨#[]⟩, ⟨#[47, 97]⟩, 0, 0, 0⟩, ⟨1, 0, 6, 0, ⟨#[]⟩, ⟨#[47, 98]⟩, 1, 0, 1⟩, ⟨2, 0, 5, 0, ⟨#[]⟩, ⟨#[47, 97]⟩, 0, 0, 0⟩] : List Fd).map Fd.enc)) :
    Calls Try.prog 22 #[.agg #[.int .i64 1, .slice ao 3 cap], .int .i64 2, .int .i64 (-1), .int .i64 2, .int .i64 5] w fun e w' => ∃ ao' cap', e = .returned (.tuple #[.agg #[.int .i64 1, .slice ao' 3 cap'], .int .i64 4, .int .i64 0]) ∧ Row w' w.heap.size ao' cap' ([⟨0, 0, 5, 0, ⟨#[]⟩, ⟨#[47, 97]⟩, 0, 4, 0⟩, ⟨1, 0, 6, 0, ⟨#[]⟩, ⟨#[47, 98]⟩, 1, 0, 1⟩, ⟨2, 0, 5, 0, ⟨#[]⟩, ⟨#[47, 97]⟩, 0, 4, 0⟩] : List Fd) ∧ Below w.heap.size w w' := by
  have e := (show seekF ([⟨0, 0, 5, 0, ⟨#[]⟩, ⟨#[47, 97]⟩, 0, 0, 0⟩, ⟨1, 0, 6, 0, ⟨#[]⟩, ⟨#[47, 98]⟩, 1, 0, 1⟩, ⟨2, 0, 5, 0, ⟨#[]⟩, ⟨#[47, 97]⟩, 0, 0, 0⟩] : List Fd) 2 (-1) 2 5 = (([⟨0, 0, 5, 0, ⟨#[]⟩, ⟨#[47, 97]⟩, 0, 4, 0⟩, ⟨1, 0, 6, 0, ⟨#[]⟩, ⟨#[47, 98]⟩, 1, 0, 1⟩, ⟨2, 0, 5, 0, ⟨#[]⟩, ⟨#[47, 97]⟩, 0, 4, 0⟩] : List Fd), 4, 0) from rfl)
  refine (seek_calls 1 2 (-1) 2 5 ao 3 cap ([⟨0, 0, 5, 0, ⟨#[]⟩, ⟨#[47, 97]⟩, 0, 0, 0⟩, ⟨1, 0, 6, 0, ⟨#[]⟩, ⟨#[47, 98]⟩, 1, 0, 1⟩, ⟨2, 0, 5, 0, ⟨#[]⟩, ⟨#[47, 97]⟩, 0, 0, 0⟩] : List Fd) w h (by omega) (by simp) (by omega) (by omega)).mono ?_
  rintro en w' ⟨ao', cap', he, ho, hb⟩
  rw [e] at he ho
  exact ⟨ao', cap', he, ho, hb⟩

theorem aw_moved (ao : Option Addr) (cap : Nat) (w : World) (h : Sl w 9 ao 3 cap (([⟨0, 0, 5, 0, ⟨#[]⟩, ⟨#[47, 97]⟩, 0, 4, 0⟩, ⟨1, 0, 6, 0, ⟨#[]⟩, ⟨#[47, 98]⟩, 1, 0, 1⟩, ⟨2, 0, 5, 0, ⟨#[]⟩, ⟨#[47, 97]⟩, 0, 4, 0⟩] : List Fd).map Fd.enc)) :
    Calls Try.prog 21 #[.agg #[.int .i64 1, .slice ao 3 cap], .int .i64 0, .int .i64 3] w fun e w' => ∃ ao' cap', e = .returned (.tuple #[.agg #[.int .i64 1, .slice ao' 3 cap'], .int .i64 0]) ∧ Row w' w.heap.size ao' cap' ([⟨0, 0, 5, 0, ⟨#[]⟩, ⟨#[47, 97]⟩, 0, 7, 0⟩, ⟨1, 0, 6, 0, ⟨#[]⟩, ⟨#[47, 98]⟩, 1, 0, 1⟩, ⟨2, 0, 5, 0, ⟨#[]⟩, ⟨#[47, 97]⟩, 0, 7, 0⟩] : List Fd) ∧ Below w.heap.size w w' := by
  have e := (show movedF ([⟨0, 0, 5, 0, ⟨#[]⟩, ⟨#[47, 97]⟩, 0, 4, 0⟩, ⟨1, 0, 6, 0, ⟨#[]⟩, ⟨#[47, 98]⟩, 1, 0, 1⟩, ⟨2, 0, 5, 0, ⟨#[]⟩, ⟨#[47, 97]⟩, 0, 4, 0⟩] : List Fd) 0 3 = (([⟨0, 0, 5, 0, ⟨#[]⟩, ⟨#[47, 97]⟩, 0, 7, 0⟩, ⟨1, 0, 6, 0, ⟨#[]⟩, ⟨#[47, 98]⟩, 1, 0, 1⟩, ⟨2, 0, 5, 0, ⟨#[]⟩, ⟨#[47, 97]⟩, 0, 7, 0⟩] : List Fd), 0) from rfl)
  refine (moved_calls 1 0 3 ao 3 cap ([⟨0, 0, 5, 0, ⟨#[]⟩, ⟨#[47, 97]⟩, 0, 4, 0⟩, ⟨1, 0, 6, 0, ⟨#[]⟩, ⟨#[47, 98]⟩, 1, 0, 1⟩, ⟨2, 0, 5, 0, ⟨#[]⟩, ⟨#[47, 97]⟩, 0, 4, 0⟩] : List Fd) w h (by omega) (by simp) (by omega)).mono ?_
  rintro en w' ⟨ao', cap', he, ho, hb⟩
  rw [e] at he ho
  exact ⟨ao', cap', he, ho, hb⟩

theorem aw_find1 (ao : Option Addr) (cap : Nat) (w : World) (h : Sl w 9 ao 3 cap (([⟨0, 0, 5, 0, ⟨#[]⟩, ⟨#[47, 97]⟩, 0, 7, 0⟩, ⟨1, 0, 6, 0, ⟨#[]⟩, ⟨#[47, 98]⟩, 1, 0, 1⟩, ⟨2, 0, 5, 0, ⟨#[]⟩, ⟨#[47, 97]⟩, 0, 7, 0⟩] : List Fd).map Fd.enc)) :
    Calls Try.prog 12 #[.agg #[.int .i64 1, .slice ao 3 cap], .int .i64 2] w fun e w' => e = .returned (.tuple #[.agg #[.int .i64 2, .int .i64 0, .int .i64 5, .int .i64 0, .string ⟨#[]⟩, .string ⟨#[47, 97]⟩, .int .i64 0, .int .i64 7, .int .i64 0], .int .i64 0]) ∧ Below w.heap.size w w' :=
  Find_calls 1 2 ao 3 cap ([⟨0, 0, 5, 0, ⟨#[]⟩, ⟨#[47, 97]⟩, 0, 7, 0⟩, ⟨1, 0, 6, 0, ⟨#[]⟩, ⟨#[47, 98]⟩, 1, 0, 1⟩, ⟨2, 0, 5, 0, ⟨#[]⟩, ⟨#[47, 97]⟩, 0, 7, 0⟩] : List Fd) w h

theorem aw_find2 (ao : Option Addr) (cap : Nat) (w : World) (h : Sl w 9 ao 3 cap (([⟨0, 0, 5, 0, ⟨#[]⟩, ⟨#[47, 97]⟩, 0, 7, 0⟩, ⟨1, 0, 6, 0, ⟨#[]⟩, ⟨#[47, 98]⟩, 1, 0, 1⟩, ⟨2, 0, 5, 0, ⟨#[]⟩, ⟨#[47, 97]⟩, 0, 7, 0⟩] : List Fd).map Fd.enc)) :
    Calls Try.prog 12 #[.agg #[.int .i64 1, .slice ao 3 cap], .int .i64 1] w fun e w' => e = .returned (.tuple #[.agg #[.int .i64 1, .int .i64 0, .int .i64 6, .int .i64 0, .string ⟨#[]⟩, .string ⟨#[47, 98]⟩, .int .i64 1, .int .i64 0, .int .i64 1], .int .i64 0]) ∧ Below w.heap.size w w' :=
  Find_calls 1 1 ao 3 cap ([⟨0, 0, 5, 0, ⟨#[]⟩, ⟨#[47, 97]⟩, 0, 7, 0⟩, ⟨1, 0, 6, 0, ⟨#[]⟩, ⟨#[47, 98]⟩, 1, 0, 1⟩, ⟨2, 0, 5, 0, ⟨#[]⟩, ⟨#[47, 97]⟩, 0, 7, 0⟩] : List Fd) w h

theorem aw_find3 (ao : Option Addr) (cap : Nat) (w : World) (h : Sl w 9 ao 2 cap (([⟨1, 0, 6, 0, ⟨#[]⟩, ⟨#[47, 98]⟩, 1, 0, 1⟩, ⟨2, 0, 5, 0, ⟨#[]⟩, ⟨#[47, 97]⟩, 0, 7, 0⟩] : List Fd).map Fd.enc)) :
    Calls Try.prog 12 #[.agg #[.int .i64 1, .slice ao 2 cap], .int .i64 0] w fun e w' => e = .returned (.tuple #[.agg #[.int .i64 0, .int .i64 0, .int .i64 0, .int .i64 0, .string ⟨#[]⟩, .string ⟨#[]⟩, .int .i64 0, .int .i64 0, .int .i64 0], .int .i64 44]) ∧ Below w.heap.size w w' :=
  Find_calls 1 0 ao 2 cap ([⟨1, 0, 6, 0, ⟨#[]⟩, ⟨#[47, 98]⟩, 1, 0, 1⟩, ⟨2, 0, 5, 0, ⟨#[]⟩, ⟨#[47, 97]⟩, 0, 7, 0⟩] : List Fd) w h

theorem aw_close1 (ao : Option Addr) (cap : Nat) (w : World) (h : Sl w 9 ao 3 cap (([⟨0, 0, 5, 0, ⟨#[]⟩, ⟨#[47, 97]⟩, 0, 7, 0⟩, ⟨1, 0, 6, 0, ⟨#[]⟩, ⟨#[47, 98]⟩, 1, 0, 1⟩, ⟨2, 0, 5, 0, ⟨#[]⟩, ⟨#[47, 97]⟩, 0, 7, 0⟩] : List Fd).map Fd.enc)) :
    Calls Try.prog 23 #[.agg #[.int .i64 1, .slice ao 3 cap], .int .i64 0] w fun e w' => ∃ ao' cap', e = .returned (.tuple #[.agg #[.int .i64 1, .slice ao' 2 cap'], .agg #[.int .i64 0, .int .i64 0, .int .i64 5, .int .i64 0, .string ⟨#[]⟩, .string ⟨#[47, 97]⟩, .int .i64 0, .int .i64 7, .int .i64 0], .bool false, .int .i64 0]) ∧ Row w' w.heap.size ao' cap' ([⟨1, 0, 6, 0, ⟨#[]⟩, ⟨#[47, 98]⟩, 1, 0, 1⟩, ⟨2, 0, 5, 0, ⟨#[]⟩, ⟨#[47, 97]⟩, 0, 7, 0⟩] : List Fd) ∧ Below w.heap.size w w' := by
  have e := (show closeF 0 ([⟨0, 0, 5, 0, ⟨#[]⟩, ⟨#[47, 97]⟩, 0, 7, 0⟩, ⟨1, 0, 6, 0, ⟨#[]⟩, ⟨#[47, 98]⟩, 1, 0, 1⟩, ⟨2, 0, 5, 0, ⟨#[]⟩, ⟨#[47, 97]⟩, 0, 7, 0⟩] : List Fd) = (([⟨1, 0, 6, 0, ⟨#[]⟩, ⟨#[47, 98]⟩, 1, 0, 1⟩, ⟨2, 0, 5, 0, ⟨#[]⟩, ⟨#[47, 97]⟩, 0, 7, 0⟩] : List Fd), ⟨0, 0, 5, 0, ⟨#[]⟩, ⟨#[47, 97]⟩, 0, 7, 0⟩, false, 0) from rfl)
  refine (close_calls 1 0 ao 3 cap ([⟨0, 0, 5, 0, ⟨#[]⟩, ⟨#[47, 97]⟩, 0, 7, 0⟩, ⟨1, 0, 6, 0, ⟨#[]⟩, ⟨#[47, 98]⟩, 1, 0, 1⟩, ⟨2, 0, 5, 0, ⟨#[]⟩, ⟨#[47, 97]⟩, 0, 7, 0⟩] : List Fd) w h (by omega)).mono ?_
  rintro en w' ⟨ao', cap', he, ho, hb⟩
  rw [e] at he ho
  exact ⟨ao', cap', he, ho, hb⟩

theorem aw_close2 (ao : Option Addr) (cap : Nat) (w : World) (h : Sl w 9 ao 2 cap (([⟨1, 0, 6, 0, ⟨#[]⟩, ⟨#[47, 98]⟩, 1, 0, 1⟩, ⟨2, 0, 5, 0, ⟨#[]⟩, ⟨#[47, 97]⟩, 0, 7, 0⟩] : List Fd).map Fd.enc)) :
    Calls Try.prog 23 #[.agg #[.int .i64 1, .slice ao 2 cap], .int .i64 2] w fun e w' => ∃ ao' cap', e = .returned (.tuple #[.agg #[.int .i64 1, .slice ao' 1 cap'], .agg #[.int .i64 2, .int .i64 0, .int .i64 5, .int .i64 0, .string ⟨#[]⟩, .string ⟨#[47, 97]⟩, .int .i64 0, .int .i64 7, .int .i64 0], .bool true, .int .i64 0]) ∧ Row w' w.heap.size ao' cap' ([⟨1, 0, 6, 0, ⟨#[]⟩, ⟨#[47, 98]⟩, 1, 0, 1⟩] : List Fd) ∧ Below w.heap.size w w' := by
  have e := (show closeF 2 ([⟨1, 0, 6, 0, ⟨#[]⟩, ⟨#[47, 98]⟩, 1, 0, 1⟩, ⟨2, 0, 5, 0, ⟨#[]⟩, ⟨#[47, 97]⟩, 0, 7, 0⟩] : List Fd) = (([⟨1, 0, 6, 0, ⟨#[]⟩, ⟨#[47, 98]⟩, 1, 0, 1⟩] : List Fd), ⟨2, 0, 5, 0, ⟨#[]⟩, ⟨#[47, 97]⟩, 0, 7, 0⟩, true, 0) from rfl)
  refine (close_calls 1 2 ao 2 cap ([⟨1, 0, 6, 0, ⟨#[]⟩, ⟨#[47, 98]⟩, 1, 0, 1⟩, ⟨2, 0, 5, 0, ⟨#[]⟩, ⟨#[47, 97]⟩, 0, 7, 0⟩] : List Fd) w h (by omega)).mono ?_
  rintro en w' ⟨ao', cap', he, ho, hb⟩
  rw [e] at he ho
  exact ⟨ao', cap', he, ho, hb⟩

theorem aw_right (ao : Option Addr) (cap : Nat) (w : World) (h : Sl w 9 ao 3 cap (([⟨0, 0, 5, 0, ⟨#[]⟩, ⟨#[47, 97]⟩, 0, 7, 0⟩, ⟨1, 0, 6, 0, ⟨#[]⟩, ⟨#[47, 98]⟩, 1, 0, 1⟩, ⟨2, 0, 5, 0, ⟨#[]⟩, ⟨#[47, 97]⟩, 0, 7, 0⟩] : List Fd).map Fd.enc)) :
    Calls Try.prog 11 #[.agg #[.int .i64 1, .slice ao 3 cap]] w fun e w' => e = .returned (.bool true) ∧ Below w.heap.size w w' := by
  have e := (show rightB 1 ([⟨0, 0, 5, 0, ⟨#[]⟩, ⟨#[47, 97]⟩, 0, 7, 0⟩, ⟨1, 0, 6, 0, ⟨#[]⟩, ⟨#[47, 98]⟩, 1, 0, 1⟩, ⟨2, 0, 5, 0, ⟨#[]⟩, ⟨#[47, 97]⟩, 0, 7, 0⟩] : List Fd) = true from rfl)
  have := right_calls 1 ao 3 cap ([⟨0, 0, 5, 0, ⟨#[]⟩, ⟨#[47, 97]⟩, 0, 7, 0⟩, ⟨1, 0, 6, 0, ⟨#[]⟩, ⟨#[47, 98]⟩, 1, 0, 1⟩, ⟨2, 0, 5, 0, ⟨#[]⟩, ⟨#[47, 97]⟩, 0, 7, 0⟩] : List Fd) w h (by
    intro y hy
    simp only [List.mem_cons, List.not_mem_nil, or_false] at hy
    rcases hy with rfl | rfl | rfl <;> (unfold Fd.fit maxLen; decide))
  rw [e] at this
  exact this

theorem cell_heap {w : World} {b : Nat} {c : Array Value} {T : TypeId} (h : w.heap[b]? = some (.cells c T (0, 0))) (i : Nat) (v : Value) (hv : c[i]? = some v) : w.cell? ⟨b, i, none⟩ = some v := by
  simp [World.cell?, h, hv]

set_option maxHeartbeats 16000000 in
set_option maxRecDepth 100000 in
theorem awake_calls (w : World) : Calls Try.prog 9 #[] w fun e w' => e = .returned (.bool true) ∧ Below w.heap.size w w' := by
  have hs0 : Sl w 9 none 0 0 (([] : List Fd).map Fd.enc) := ⟨rfl, Nat.le_refl _, by omega, by simp, fun h => absurd h (Nat.lt_irrefl _), fun _ => rfl⟩
  go_enter Try.func9, Try.ntmps9
  go_wp2_with fail
  refine (aw_add1 none 0 w hs0).mono ?_
  rintro e w1 ⟨a1, c1, rfl, ho, hb⟩
  have hfb : (w1.alloc (.cells #[.int .i64 1, .slice a1 1 c1] 24)).heap[w1.heap.size]? = some (.cells #[.int .i64 1, .slice a1 1 c1] 24 (0, 0)) := hp_new rfl
  have HFB : Aside (_ = _) := hfb
  have HS : Aside (Sl (w1.alloc (.cells #[.int .i64 1, .slice a1 1 c1] 24)) 9 a1 1 c1 (([⟨0, 0, 5, 0, ⟨#[]⟩, ⟨#[47, 97]⟩, 0, 0, 0⟩] : List Fd).map Fd.enc)) := (Row.alloc ho).sl
  have HBE : Aside (Below w.heap.size w (w1.alloc (.cells #[.int .i64 1, .slice a1 1 c1] 24))) := hb.alloc hb.size _
  have HWB : Aside (w.heap.size ≤ w1.heap.size) := hb.size
  clear ho hb hs0 hfb
  go_wp2_with fail
  generalize w1.alloc (.cells #[.int .i64 1, .slice a1 1 c1] 24) = V at HFB HS HBE ⊢
  generalize w1.heap.size = b at HFB HWB ⊢
  have hfb := HFB.out
  clear HFB
  go_wp2_with fail
  refine (aw_add2 a1 c1 V HS.out).mono ?_
  rintro e w2 ⟨a2, c2, rfl, ho, hb⟩
  have hbx := heap_later hfb hb
  have hlt : b < w2.heap.size := (Array.getElem?_eq_some_iff.1 hbx).1
  have hro := ho.holds (c := #[.int .i64 1, .slice a2 2 c2]) (T := 24) ((Array.getElem?_eq_some_iff.1 hfb).1)
  have hbe2 := below_holds (HBE.out.trans (hb.mono HBE.out.size)) HWB.out #[.int .i64 1, .slice a2 2 c2] 24
  have HBE2 : Aside (Below w.heap.size w (holds w2 b #[.int .i64 1, .slice a2 2 c2] 24)) := hbe2
  have hfb2 : (holds w2 b #[.int .i64 1, .slice a2 2 c2] 24).heap[b]? = some (.cells #[.int .i64 1, .slice a2 2 c2] 24 (0, 0)) := by rw [heap_holds, if_pos ⟨rfl, hlt⟩]
  have HFB2 : Aside (_ = _) := hfb2
  have HS2 : Aside (Sl (holds w2 b #[.int .i64 1, .slice a2 2 c2] 24) 9 a2 2 c2 (([⟨0, 0, 5, 0, ⟨#[]⟩, ⟨#[47, 97]⟩, 0, 0, 0⟩, ⟨1, 0, 6, 0, ⟨#[]⟩, ⟨#[47, 98]⟩, 1, 0, 1⟩] : List Fd).map Fd.enc)) := hro.sl
  rw [holds_self hbx]
  clear ho hb hbx hfb HS HBE hro hbe2 hfb2
  go_wp2_with fail
  generalize holds w2 b #[.int .i64 1, .slice a2 2 c2] 24 = V at HFB2 HS2 HBE2 ⊢
  have hfb := HFB2.out
  have HS := HS2
  have HBE := HBE2
  clear HFB2 HS2 HBE2 hlt
  go_wp2_with fail
  refine (aw_dup a2 c2 V HS.out).mono ?_
  rintro e w3 ⟨a3, c3, rfl, ho, hb⟩
  have hbx := heap_later hfb hb
  have hlt : b < w3.heap.size := (Array.getElem?_eq_some_iff.1 hbx).1
  have hro := ho.holds (c := #[.int .i64 1, .slice a3 3 c3]) (T := 24) ((Array.getElem?_eq_some_iff.1 hfb).1)
  have hbe2 := below_holds (HBE.out.trans (hb.mono HBE.out.size)) HWB.out #[.int .i64 1, .slice a3 3 c3] 24
  have HBE2 : Aside (Below w.heap.size w (holds w3 b #[.int .i64 1, .slice a3 3 c3] 24)) := hbe2
  have hfb2 : (holds w3 b #[.int .i64 1, .slice a3 3 c3] 24).heap[b]? = some (.cells #[.int .i64 1, .slice a3 3 c3] 24 (0, 0)) := by rw [heap_holds, if_pos ⟨rfl, hlt⟩]
  have HFB2 : Aside (_ = _) := hfb2
  have HS2 : Aside (Sl (holds w3 b #[.int .i64 1, .slice a3 3 c3] 24) 9 a3 3 c3 (([⟨0, 0, 5, 0, ⟨#[]⟩, ⟨#[47, 97]⟩, 0, 0, 0⟩, ⟨1, 0, 6, 0, ⟨#[]⟩, ⟨#[47, 98]⟩, 1, 0, 1⟩, ⟨2, 0, 5, 0, ⟨#[]⟩, ⟨#[47, 97]⟩, 0, 0, 0⟩] : List Fd).map Fd.enc)) := hro.sl
  rw [holds_self hbx]
  clear ho hb hbx hfb HS HBE hro hbe2 hfb2
  go_wp2_with fail
  generalize holds w3 b #[.int .i64 1, .slice a3 3 c3] 24 = V at HFB2 HS2 HBE2 ⊢
  have hfb := HFB2.out
  have HS := HS2
  have HBE := HBE2
  clear HFB2 HS2 HBE2 hlt
  go_wp2_with fail
  refine (aw_seek a3 c3 V HS.out).mono ?_
  rintro e w4 ⟨a4, c4, rfl, ho, hb⟩
  have hbx := heap_later hfb hb
  have hlt : b < w4.heap.size := (Array.getElem?_eq_some_iff.1 hbx).1
  have hro := ho.holds (c := #[.int .i64 1, .slice a4 3 c4]) (T := 24) ((Array.getElem?_eq_some_iff.1 hfb).1)
  have hbe2 := below_holds (HBE.out.trans (hb.mono HBE.out.size)) HWB.out #[.int .i64 1, .slice a4 3 c4] 24
  have HBE2 : Aside (Below w.heap.size w (holds w4 b #[.int .i64 1, .slice a4 3 c4] 24)) := hbe2
  have hfb2 : (holds w4 b #[.int .i64 1, .slice a4 3 c4] 24).heap[b]? = some (.cells #[.int .i64 1, .slice a4 3 c4] 24 (0, 0)) := by rw [heap_holds, if_pos ⟨rfl, hlt⟩]
  have HFB2 : Aside (_ = _) := hfb2
  have HS2 : Aside (Sl (holds w4 b #[.int .i64 1, .slice a4 3 c4] 24) 9 a4 3 c4 (([⟨0, 0, 5, 0, ⟨#[]⟩, ⟨#[47, 97]⟩, 0, 4, 0⟩, ⟨1, 0, 6, 0, ⟨#[]⟩, ⟨#[47, 98]⟩, 1, 0, 1⟩, ⟨2, 0, 5, 0, ⟨#[]⟩, ⟨#[47, 97]⟩, 0, 4, 0⟩] : List Fd).map Fd.enc)) := hro.sl
  rw [holds_self hbx]
  clear ho hb hbx hfb HS HBE hro hbe2 hfb2
  go_wp2_with fail
  generalize holds w4 b #[.int .i64 1, .slice a4 3 c4] 24 = V at HFB2 HS2 HBE2 ⊢
  have hfb := HFB2.out
  have HS := HS2
  have HBE := HBE2
  clear HFB2 HS2 HBE2 hlt
  go_wp2_with fail
  refine (aw_moved a4 c4 V HS.out).mono ?_
  rintro e w5 ⟨a5, c5, rfl, ho, hb⟩
  have hbx := heap_later hfb hb
  have hlt : b < w5.heap.size := (Array.getElem?_eq_some_iff.1 hbx).1
  have hro := ho.holds (c := #[.int .i64 1, .slice a5 3 c5]) (T := 24) ((Array.getElem?_eq_some_iff.1 hfb).1)
  have hbe2 := below_holds (HBE.out.trans (hb.mono HBE.out.size)) HWB.out #[.int .i64 1, .slice a5 3 c5] 24
  have HBE2 : Aside (Below w.heap.size w (holds w5 b #[.int .i64 1, .slice a5 3 c5] 24)) := hbe2
  have hfb2 : (holds w5 b #[.int .i64 1, .slice a5 3 c5] 24).heap[b]? = some (.cells #[.int .i64 1, .slice a5 3 c5] 24 (0, 0)) := by rw [heap_holds, if_pos ⟨rfl, hlt⟩]
  have HFB2 : Aside (_ = _) := hfb2
  have HS2 : Aside (Sl (holds w5 b #[.int .i64 1, .slice a5 3 c5] 24) 9 a5 3 c5 (([⟨0, 0, 5, 0, ⟨#[]⟩, ⟨#[47, 97]⟩, 0, 7, 0⟩, ⟨1, 0, 6, 0, ⟨#[]⟩, ⟨#[47, 98]⟩, 1, 0, 1⟩, ⟨2, 0, 5, 0, ⟨#[]⟩, ⟨#[47, 97]⟩, 0, 7, 0⟩] : List Fd).map Fd.enc)) := hro.sl
  rw [holds_self hbx]
  clear ho hb hbx hfb HS HBE hro hbe2 hfb2
  go_wp2_with fail
  generalize holds w5 b #[.int .i64 1, .slice a5 3 c5] 24 = V at HFB2 HS2 HBE2 ⊢
  have hfb := HFB2.out
  have HS := HS2
  have HBE := HBE2
  clear HFB2 HS2 HBE2 hlt
  refine (aw_find1 a5 c5 V HS.out).mono ?_
  rintro e w6 ⟨rfl, hb⟩
  have hf6 : (w6.alloc (.cells #[.int .i64 2, .int .i64 0, .int .i64 5, .int .i64 0, .string ⟨#[]⟩, .string ⟨#[47, 97]⟩, .int .i64 0, .int .i64 7, .int .i64 0] 30)).heap[b]? = some (.cells #[.int .i64 1, .slice a5 3 c5] 24 (0, 0)) := hp_old (heap_later hfb hb)
  have HF6 : Aside (_ = _) := hf6
  have HX6 : Aside ((w6.alloc (.cells #[.int .i64 2, .int .i64 0, .int .i64 5, .int .i64 0, .string ⟨#[]⟩, .string ⟨#[47, 97]⟩, .int .i64 0, .int .i64 7, .int .i64 0] 30)).heap[w6.heap.size]? = some (.cells #[.int .i64 2, .int .i64 0, .int .i64 5, .int .i64 0, .string ⟨#[]⟩, .string ⟨#[47, 97]⟩, .int .i64 0, .int .i64 7, .int .i64 0] 30 (0, 0))) := hp_new rfl
  have HS6 : Aside (Sl (w6.alloc (.cells #[.int .i64 2, .int .i64 0, .int .i64 5, .int .i64 0, .string ⟨#[]⟩, .string ⟨#[47, 97]⟩, .int .i64 0, .int .i64 7, .int .i64 0] 30)) 9 a5 3 c5 (([⟨0, 0, 5, 0, ⟨#[]⟩, ⟨#[47, 97]⟩, 0, 7, 0⟩, ⟨1, 0, 6, 0, ⟨#[]⟩, ⟨#[47, 98]⟩, 1, 0, 1⟩, ⟨2, 0, 5, 0, ⟨#[]⟩, ⟨#[47, 97]⟩, 0, 7, 0⟩] : List Fd).map Fd.enc)) := (HS.out.stays hb).stays ((Below.refl _ _).alloc (Nat.le_refl _) _)
  have HB6 : Aside (Below w.heap.size w (w6.alloc (.cells #[.int .i64 2, .int .i64 0, .int .i64 5, .int .i64 0, .string ⟨#[]⟩, .string ⟨#[47, 97]⟩, .int .i64 0, .int .i64 7, .int .i64 0] 30))) := (HBE.out.trans (hb.mono HBE.out.size)).alloc (Nat.le_trans HBE.out.size hb.size) _
  have lf0 := cell_heap hfb 0 _ rfl
  have lf1 := cell_heap hfb 1 _ rfl
  have lg0 := (hb.cell (p := ⟨b, 0, none⟩) (Array.getElem?_eq_some_iff.1 hfb).1).trans lf0
  have lg1 := (hb.cell (p := ⟨b, 1, none⟩) (Array.getElem?_eq_some_iff.1 hfb).1).trans lf1
  have hbl : b < w6.heap.size := Nat.lt_of_lt_of_le (Array.getElem?_eq_some_iff.1 hfb).1 hb.size
  clear hb hfb hf6 HS HBE lf0 lf1
  go_wp2_with fail
  generalize w6.alloc (.cells #[.int .i64 2, .int .i64 0, .int .i64 5, .int .i64 0, .string ⟨#[]⟩, .string ⟨#[47, 97]⟩, .int .i64 0, .int .i64 7, .int .i64 0] 30) = V6 at HF6 HX6 HS6 HB6 ⊢
  generalize w6.heap.size = bx at HX6 ⊢
  clear hbl lg0 lg1
  refine (aw_find2 a5 c5 V6 HS6.out).mono ?_
  rintro e w7 ⟨rfl, hb⟩
  have HF7 : Aside ((w7.alloc (.cells #[.int .i64 1, .int .i64 0, .int .i64 6, .int .i64 0, .string ⟨#[]⟩, .string ⟨#[47, 98]⟩, .int .i64 1, .int .i64 0, .int .i64 1] 30)).heap[b]? = some (.cells #[.int .i64 1, .slice a5 3 c5] 24 (0, 0))) := hp_old (heap_later HF6.out hb)
  have HX7 : Aside ((w7.alloc (.cells #[.int .i64 1, .int .i64 0, .int .i64 6, .int .i64 0, .string ⟨#[]⟩, .string ⟨#[47, 98]⟩, .int .i64 1, .int .i64 0, .int .i64 1] 30)).heap[bx]? = some (.cells #[.int .i64 2, .int .i64 0, .int .i64 5, .int .i64 0, .string ⟨#[]⟩, .string ⟨#[47, 97]⟩, .int .i64 0, .int .i64 7, .int .i64 0] 30 (0, 0))) := hp_old (heap_later HX6.out hb)
  have HY7 : Aside ((w7.alloc (.cells #[.int .i64 1, .int .i64 0, .int .i64 6, .int .i64 0, .string ⟨#[]⟩, .string ⟨#[47, 98]⟩, .int .i64 1, .int .i64 0, .int .i64 1] 30)).heap[w7.heap.size]? = some (.cells #[.int .i64 1, .int .i64 0, .int .i64 6, .int .i64 0, .string ⟨#[]⟩, .string ⟨#[47, 98]⟩, .int .i64 1, .int .i64 0, .int .i64 1] 30 (0, 0))) := hp_new rfl
  have HS7 : Aside (Sl (w7.alloc (.cells #[.int .i64 1, .int .i64 0, .int .i64 6, .int .i64 0, .string ⟨#[]⟩, .string ⟨#[47, 98]⟩, .int .i64 1, .int .i64 0, .int .i64 1] 30)) 9 a5 3 c5 (([⟨0, 0, 5, 0, ⟨#[]⟩, ⟨#[47, 97]⟩, 0, 7, 0⟩, ⟨1, 0, 6, 0, ⟨#[]⟩, ⟨#[47, 98]⟩, 1, 0, 1⟩, ⟨2, 0, 5, 0, ⟨#[]⟩, ⟨#[47, 97]⟩, 0, 7, 0⟩] : List Fd).map Fd.enc)) := (HS6.out.stays hb).stays ((Below.refl _ _).alloc (Nat.le_refl _) _)
  have HB7 : Aside (Below w.heap.size w (w7.alloc (.cells #[.int .i64 1, .int .i64 0, .int .i64 6, .int .i64 0, .string ⟨#[]⟩, .string ⟨#[47, 98]⟩, .int .i64 1, .int .i64 0, .int .i64 1] 30))) := (HB6.out.trans (hb.mono HB6.out.size)).alloc (Nat.le_trans HB6.out.size hb.size) _
  have lf0 := cell_heap HF7.out 0 _ rfl
  have lf1 := cell_heap HF7.out 1 _ rfl
  have lx7 := cell_heap HX7.out 7 _ rfl
  have lx2 := cell_heap HX7.out 2 _ rfl
  have ly7 := cell_heap HY7.out 7 _ rfl
  have hbl : b < w7.heap.size := Nat.lt_of_lt_of_le (Array.getElem?_eq_some_iff.1 HF6.out).1 hb.size
  have hbm : bx < w7.heap.size := Nat.lt_of_lt_of_le (Array.getElem?_eq_some_iff.1 HX6.out).1 hb.size
  rw [World.cell?_alloc_old _ _ _ (Nat.ne_of_lt hbl)] at lf0 lf1
  rw [World.cell?_alloc_old _ _ _ (Nat.ne_of_lt hbm)] at lx7 lx2
  clear hb HF6 HX6 HS6 HB6
  go_wp2_with fail
  generalize w7.alloc (.cells #[.int .i64 1, .int .i64 0, .int .i64 6, .int .i64 0, .string ⟨#[]⟩, .string ⟨#[47, 98]⟩, .int .i64 1, .int .i64 0, .int .i64 1] 30) = V7 at HF7 HX7 HY7 HS7 HB7 ly7 ⊢
  clear hbl hbm lx7 lx2 ly7 lf0 lf1
  refine (aw_right a5 c5 V7 HS7.out).mono ?_
  rintro e w8 ⟨rfl, hb⟩
  have HF8 : Aside (w8.heap[b]? = _) := heap_later HF7.out hb
  have HS8 : Aside (Sl w8 9 a5 3 c5 (([⟨0, 0, 5, 0, ⟨#[]⟩, ⟨#[47, 97]⟩, 0, 7, 0⟩, ⟨1, 0, 6, 0, ⟨#[]⟩, ⟨#[47, 98]⟩, 1, 0, 1⟩, ⟨2, 0, 5, 0, ⟨#[]⟩, ⟨#[47, 97]⟩, 0, 7, 0⟩] : List Fd).map Fd.enc)) := HS7.out.stays hb
  have HB8 : Aside (Below w.heap.size w w8) := HB7.out.trans (hb.mono HB7.out.size)
  have lf0 := cell_heap HF8.out 0 _ rfl
  have lf1 := cell_heap HF8.out 1 _ rfl
  clear hb HF7 HX7 HY7 HS7 HB7
  go_wp2_with fail
  refine (aw_close1 a5 c5 w8 HS8.out).mono ?_
  rintro e w9 ⟨a9, c9, rfl, ho, hb⟩
  have HF9 : Aside (w9.heap[b]? = _) := heap_later HF8.out hb
  have HP9 : Aside (((w9.alloc (.cells #[.int .i64 1, .slice a9 2 c9] 24)).alloc (.cells #[.int .i64 0, .int .i64 0, .int .i64 5, .int .i64 0, .string ⟨#[]⟩, .string ⟨#[47, 97]⟩, .int .i64 0, .int .i64 7, .int .i64 0] 30)).heap[w9.heap.size]? = some (.cells #[.int .i64 1, .slice a9 2 c9] 24 (0, 0))) := hp_old (hp_new rfl)
  have HS9 : Aside (Sl ((w9.alloc (.cells #[.int .i64 1, .slice a9 2 c9] 24)).alloc (.cells #[.int .i64 0, .int .i64 0, .int .i64 5, .int .i64 0, .string ⟨#[]⟩, .string ⟨#[47, 97]⟩, .int .i64 0, .int .i64 7, .int .i64 0] 30)) 9 a9 2 c9 (([⟨1, 0, 6, 0, ⟨#[]⟩, ⟨#[47, 98]⟩, 1, 0, 1⟩, ⟨2, 0, 5, 0, ⟨#[]⟩, ⟨#[47, 97]⟩, 0, 7, 0⟩] : List Fd).map Fd.enc)) := (ho.alloc.alloc).sl
  have HB9 : Aside (Below w.heap.size w ((w9.alloc (.cells #[.int .i64 1, .slice a9 2 c9] 24)).alloc (.cells #[.int .i64 0, .int .i64 0, .int .i64 5, .int .i64 0, .string ⟨#[]⟩, .string ⟨#[47, 97]⟩, .int .i64 0, .int .i64 7, .int .i64 0] 30))) := by
    have h1 := HB8.out.trans (hb.mono HB8.out.size)
    have h2 := Nat.le_trans HB8.out.size hb.size
    exact (h1.alloc h2 _).alloc (by simp; omega) _
  clear ho hb HF8 HS8 HB8 lf0 lf1
  go_wp2_with fail
  generalize (w9.alloc (.cells #[.int .i64 1, .slice a9 2 c9] 24)).alloc (.cells #[.int .i64 0, .int .i64 0, .int .i64 5, .int .i64 0, .string ⟨#[]⟩, .string ⟨#[47, 97]⟩, .int .i64 0, .int .i64 7, .int .i64 0] 30) = V9 at HP9 HS9 HB9 ⊢
  generalize w9.heap.size = bp at HP9 ⊢
  refine (aw_close2 a9 c9 V9 HS9.out).mono ?_
  rintro e w10 ⟨a10, c10, rfl, ho, hb⟩
  have HP10 : Aside (w10.heap[bp]? = _) := heap_later HP9.out hb
  have lp0 := cell_heap HP10.out 0 _ rfl
  have lp1 := cell_heap HP10.out 1 _ rfl
  have hbl : bp < w10.heap.size := (Array.getElem?_eq_some_iff.1 HP10.out).1
  have HS10 : Aside (Sl ((w10.alloc (.cells #[.int .i64 1, .slice a10 1 c10] 24)).alloc (.cells #[.int .i64 2, .int .i64 0, .int .i64 5, .int .i64 0, .string ⟨#[]⟩, .string ⟨#[47, 97]⟩, .int .i64 0, .int .i64 7, .int .i64 0] 30)) 9 a9 2 c9 (([⟨1, 0, 6, 0, ⟨#[]⟩, ⟨#[47, 98]⟩, 1, 0, 1⟩, ⟨2, 0, 5, 0, ⟨#[]⟩, ⟨#[47, 97]⟩, 0, 7, 0⟩] : List Fd).map Fd.enc)) := ((HS9.out.stays hb).stays ((Below.refl _ _).alloc (Nat.le_refl _) _)).stays ((Below.refl _ _).alloc (Nat.le_refl _) _)
  have HB10 : Aside (Below w.heap.size w ((w10.alloc (.cells #[.int .i64 1, .slice a10 1 c10] 24)).alloc (.cells #[.int .i64 2, .int .i64 0, .int .i64 5, .int .i64 0, .string ⟨#[]⟩, .string ⟨#[47, 97]⟩, .int .i64 0, .int .i64 7, .int .i64 0] 30))) := by
    have h1 := HB9.out.trans (hb.mono HB9.out.size)
    have h2 := Nat.le_trans HB9.out.size hb.size
    exact (h1.alloc h2 _).alloc (by simp; omega) _
  have lz0 : ((w10.alloc (.cells #[.int .i64 1, .slice a10 1 c10] 24)).alloc (.cells #[.int .i64 2, .int .i64 0, .int .i64 5, .int .i64 0, .string ⟨#[]⟩, .string ⟨#[47, 97]⟩, .int .i64 0, .int .i64 7, .int .i64 0] 30)).cell? ⟨w10.heap.size + 1, 0, none⟩ = some (.int .i64 2) := by simp [go_sem]
  have LZ : Aside (_ = _) := lz0
  clear ho hb HP9 HS9 HB9 HP10 lz0
  go_wp2_with fail
  generalize (w10.alloc (.cells #[.int .i64 1, .slice a10 1 c10] 24)).alloc (.cells #[.int .i64 2, .int .i64 0, .int .i64 5, .int .i64 0, .string ⟨#[]⟩, .string ⟨#[47, 97]⟩, .int .i64 0, .int .i64 7, .int .i64 0] 30) = V10 at HS10 HB10 LZ ⊢
  generalize w10.heap.size + 1 = bz at LZ ⊢
  clear lp0 lp1 hbl
  refine (aw_find3 a9 c9 V10 HS10.out).mono ?_
  rintro e w11 ⟨rfl, hb⟩
  have hzl : bz < V10.heap.size := World.block_lt_of_cell? V10 ⟨bz, 0, none⟩ LZ.out
  have lz1 := (hb.cell (p := ⟨bz, 0, none⟩) hzl).trans LZ.out
  have hzl2 : bz < w11.heap.size := Nat.lt_of_lt_of_le hzl hb.size
  have HB11 : Aside (Below w.heap.size w w11) := HB10.out.trans (hb.mono HB10.out.size)
  clear hb LZ HS10 HB10 hzl
  go_wp2
  go_ret
  exact ⟨rfl, HB11.out.alloc HB11.out.size _⟩

end Go.Proofs.Ytbifanenoejjgaa
