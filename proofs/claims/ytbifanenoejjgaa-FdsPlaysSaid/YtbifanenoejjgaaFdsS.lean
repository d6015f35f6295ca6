/- This text proves the walks of fresh and with of the reference. Conditions: those that each theorem names. -/
import Derived.Test.YtbifanenoejjgaaFdsN
namespace Go.Proofs.Ytbifanenoejjgaa
open Go.ChangeShapes Go.WideShapes Go.ChangeAt Go.RowKit
set_option linter.unusedVariables false
set_option linter.unusedSimpArgs false

theorem app_stateB {α : Type} {enc : α → List Value} {k : Nat} {E : TypeId} {U1 W0 w' : World} {B : Nat} (hB0 : U1.heap.size = B) (hk : ∀ x, (enc x).length = k) (hk0 : 0 < k) {v v' : Value} {m : Nat} {o : List α} {y : α} (hB : Below U1.heap.size U1 W0) (ho : W0.ownsRow B E k v m (flatE enc o)) (ho' : w'.ownsRow B E k v' (m + 1) (flatE enc o ++ enc y)) (hg : W0.grownBy w' v.ownBlock) :
    ∃ ao2 cap2, v' = .slice ao2 (m + 1) cap2 ∧ Below U1.heap.size U1 w' ∧ w'.ownsRow B E k (.slice ao2 (m + 1) cap2) (m + 1) (flatE enc (o ++ [y])) := by
  subst hB0
  exact app_stateE hk hk0 hB ho ho' hg
/-- One round of with: the list so far, and whether d stands in it. -/
def wStep (d : Fd) (s : List Fd × Bool) (y : Fd) : List Fd × Bool := if s.2 = false ∧ d.num < y.num then (s.1 ++ [d] ++ [y], true) else (s.1 ++ [y], s.2)
def rwithL (d : Fd) (xs : List Fd) : List Fd := if (xs.foldl (wStep d) ([], false)).2 then (xs.foldl (wStep d) ([], false)).1 else (xs.foldl (wStep d) ([], false)).1 ++ [d]
theorem wStep_len (d : Fd) : ∀ (xs : List Fd) (s : List Fd × Bool), s.1.length ≤ (xs.foldl (wStep d) s).1.length ∧ (s.2 = true → (xs.foldl (wStep d) s).1.length = s.1.length + xs.length) ∧ (xs.foldl (wStep d) s).1.length ≤ s.1.length + xs.length + (if (xs.foldl (wStep d) s).2 then 1 else 0)
  | [], s => by simp
  | y :: xs, s => by
    rw [List.foldl_cons]
    have ih := wStep_len d xs (wStep d s y)
    by_cases h : s.2 = false ∧ d.num < y.num
    · have e : wStep d s y = (s.1 ++ [d] ++ [y], true) := by unfold wStep; rw [if_pos h]
      rw [e] at ih ⊢
      obtain ⟨h1, h2, h3⟩ := ih
      have h2 := h2 rfl
      have ht : (xs.foldl (wStep d) (s.1 ++ [d] ++ [y], true)).2 = true := by
        have : ∀ (zs : List Fd) (l : List Fd), (zs.foldl (wStep d) (l, true)).2 = true := by
          intro zs
          induction zs with
          | nil => intro l; rfl
          | cons z zs ih => intro l; rw [List.foldl_cons]; have : wStep d (l, true) z = (l ++ [z], true) := by simp [wStep]
                            rw [this]; exact ih _
        exact this _ _
      have e2 : (s.1 ++ [d] ++ [y]).length = s.1.length + 2 := by simp
      rw [ht] at h3
      rw [e2] at h1 h2 h3
      simp only [if_true] at h3
      refine ⟨by omega, fun hs => (by rw [h.1] at hs; cases hs), by simp only [List.length_cons, ht, if_true]; omega⟩
    · have e : wStep d s y = (s.1 ++ [y], s.2) := by unfold wStep; rw [if_neg h]
      rw [e] at ih ⊢
      obtain ⟨h1, h2, h3⟩ := ih
      simp only [List.length_append, List.length_cons, List.length_nil] at *
      refine ⟨by omega, fun hs => by have := h2 hs; omega, by omega⟩
theorem rwithL_eq (d : Fd) : ∀ xs : List Fd, (∀ x ∈ xs, x.num ≠ d.num) → rwithL d xs = insL d xs := by
  have key : ∀ (xs l : List Fd), (∀ x ∈ xs, x.num ≠ d.num) → (if (xs.foldl (wStep d) (l, false)).2 then (xs.foldl (wStep d) (l, false)).1 else (xs.foldl (wStep d) (l, false)).1 ++ [d]) = l ++ insL d xs := by
    intro xs
    induction xs with
    | nil => intro l _; simp [insL]
    | cons y xs ih =>
      intro l h
      have hy := h y (by simp)
      rw [List.foldl_cons]
      by_cases hlt : d.num < y.num
      · have e : wStep d (l, false) y = (l ++ [d] ++ [y], true) := by simp [wStep, hlt]
        have ht : ∀ (zs : List Fd) (l : List Fd), zs.foldl (wStep d) (l, true) = (l ++ zs, true) := by
          intro zs
          induction zs with
          | nil => intro l; simp
          | cons z zs ih => intro l; rw [List.foldl_cons]; have : wStep d (l, true) z = (l ++ [z], true) := by simp [wStep]
                            rw [this, ih]; simp
        rw [e, ht]
        simp [insL, show ¬ y.num < d.num by omega]
      · have e : wStep d (l, false) y = (l ++ [y], false) := by simp [wStep, hlt]
        rw [e, ih _ (fun x hx => h x (by simp [hx]))]
        simp [insL, show y.num < d.num by omega]
  intro xs h
  have := key xs [] h
  simpa [rwithL] using this

set_option maxHeartbeats 8000000 in
theorem rwith_calls (id : Int) (ao : Option Addr) (n cap : Nat) (xs : List Fd) (d1 : Int) (d2 : Int) (d3 : Int) (d4 : Int) (d5 : ByteArray) (d6 : ByteArray) (d7 : Int) (d8 : Int) (d9 : Int) (w : World) (h : Sl w 9 ao n cap (xs.map Fd.enc)) (hn : n ≤ 1000) :
    Calls Try.prog 48 #[.agg #[.int .i64 id, .slice ao n cap], .agg #[.int .i64 d1, .int .i64 d2, .int .i64 d3, .int .i64 d4, .string d5, .string d6, .int .i64 d7, .int .i64 d8, .int .i64 d9]] w fun e w' => CopyPost w id (rwithL ⟨d1, d2, d3, d4, d5, d6, d7, d8, d9⟩ xs) e w' := by
  have HL : Aside (xs.length = n) := Sl.lenE h
  obtain ⟨i0, hi0, hz0, hs0, hb0⟩ := fdInfo
  have hbw3 : Below w.heap.size w (((w.alloc (.cells #[.int .i64 id, .slice ao n cap] 24)).alloc (.cells #[.int .i64 d1, .int .i64 d2, .int .i64 d3, .int .i64 d4, .string d5, .string d6, .int .i64 d7, .int .i64 d8, .int .i64 d9] 30)).alloc (.cells #[.int .i64 0, .slice none 0 0] 24)) := by
    repeat (first | (with_reducible exact Below.refl _ _) | (with_reducible assumption) | (with_reducible refine below_to_plus ?_ ?_ _) | (with_reducible refine below_holds ?_ ?_ _ _) | (with_reducible refine Below.alloc ?_ ?_ _) | (with_reducible refine Below.drew ?_) | (with_reducible refine below_drewN ?_ _) | (with_reducible refine Below.setCell ?_ ?_ _))
    all_goals first | omega | (simp; done) | (simp [go_sem]; done) | (simp [go_sem]; omega)
  have HC : Aside (CellsFd (((w.alloc (.cells #[.int .i64 id, .slice ao n cap] 24)).alloc (.cells #[.int .i64 d1, .int .i64 d2, .int .i64 d3, .int .i64 d4, .string d5, .string d6, .int .i64 d7, .int .i64 d8, .int .i64 d9] 30)).alloc (.cells #[.int .i64 0, .slice none 0 0] 24)) ao xs) := cellsFd (h.stays hbw3)
  have BX : Aside ((((w.alloc (.cells #[.int .i64 id, .slice ao n cap] 24)).alloc (.cells #[.int .i64 d1, .int .i64 d2, .int .i64 d3, .int .i64 d4, .string d5, .string d6, .int .i64 d7, .int .i64 d8, .int .i64 d9] 30)).alloc (.cells #[.int .i64 0, .slice none 0 0] 24)).cell? ⟨w.heap.size, 0, none⟩ = some (.int .i64 id) ∧ (((w.alloc (.cells #[.int .i64 id, .slice ao n cap] 24)).alloc (.cells #[.int .i64 d1, .int .i64 d2, .int .i64 d3, .int .i64 d4, .string d5, .string d6, .int .i64 d7, .int .i64 d8, .int .i64 d9] 30)).alloc (.cells #[.int .i64 0, .slice none 0 0] 24)).cell? ⟨w.heap.size, 1, none⟩ = some (.slice ao n cap) ∧ True) := ⟨by simp [go_sem], by simp [go_sem], trivial⟩
  have BD : Aside ((((w.alloc (.cells #[.int .i64 id, .slice ao n cap] 24)).alloc (.cells #[.int .i64 d1, .int .i64 d2, .int .i64 d3, .int .i64 d4, .string d5, .string d6, .int .i64 d7, .int .i64 d8, .int .i64 d9] 30)).alloc (.cells #[.int .i64 0, .slice none 0 0] 24)).cell? ⟨w.heap.size + 1, 0, none⟩ = some (.int .i64 d1) ∧ (((w.alloc (.cells #[.int .i64 id, .slice ao n cap] 24)).alloc (.cells #[.int .i64 d1, .int .i64 d2, .int .i64 d3, .int .i64 d4, .string d5, .string d6, .int .i64 d7, .int .i64 d8, .int .i64 d9] 30)).alloc (.cells #[.int .i64 0, .slice none 0 0] 24)).cell? ⟨w.heap.size + 1, 1, none⟩ = some (.int .i64 d2) ∧ (((w.alloc (.cells #[.int .i64 id, .slice ao n cap] 24)).alloc (.cells #[.int .i64 d1, .int .i64 d2, .int .i64 d3, .int .i64 d4, .string d5, .string d6, .int .i64 d7, .int .i64 d8, .int .i64 d9] 30)).alloc (.cells #[.int .i64 0, .slice none 0 0] 24)).cell? ⟨w.heap.size + 1, 2, none⟩ = some (.int .i64 d3) ∧ (((w.alloc (.cells #[.int .i64 id, .slice ao n cap] 24)).alloc (.cells #[.int .i64 d1, .int .i64 d2, .int .i64 d3, .int .i64 d4, .string d5, .string d6, .int .i64 d7, .int .i64 d8, .int .i64 d9] 30)).alloc (.cells #[.int .i64 0, .slice none 0 0] 24)).cell? ⟨w.heap.size + 1, 3, none⟩ = some (.int .i64 d4) ∧ (((w.alloc (.cells #[.int .i64 id, .slice ao n cap] 24)).alloc (.cells #[.int .i64 d1, .int .i64 d2, .int .i64 d3, .int .i64 d4, .string d5, .string d6, .int .i64 d7, .int .i64 d8, .int .i64 d9] 30)).alloc (.cells #[.int .i64 0, .slice none 0 0] 24)).cell? ⟨w.heap.size + 1, 4, none⟩ = some (.string d5) ∧ (((w.alloc (.cells #[.int .i64 id, .slice ao n cap] 24)).alloc (.cells #[.int .i64 d1, .int .i64 d2, .int .i64 d3, .int .i64 d4, .string d5, .string d6, .int .i64 d7, .int .i64 d8, .int .i64 d9] 30)).alloc (.cells #[.int .i64 0, .slice none 0 0] 24)).cell? ⟨w.heap.size + 1, 5, none⟩ = some (.string d6) ∧ (((w.alloc (.cells #[.int .i64 id, .slice ao n cap] 24)).alloc (.cells #[.int .i64 d1, .int .i64 d2, .int .i64 d3, .int .i64 d4, .string d5, .string d6, .int .i64 d7, .int .i64 d8, .int .i64 d9] 30)).alloc (.cells #[.int .i64 0, .slice none 0 0] 24)).cell? ⟨w.heap.size + 1, 6, none⟩ = some (.int .i64 d7) ∧ (((w.alloc (.cells #[.int .i64 id, .slice ao n cap] 24)).alloc (.cells #[.int .i64 d1, .int .i64 d2, .int .i64 d3, .int .i64 d4, .string d5, .string d6, .int .i64 d7, .int .i64 d8, .int .i64 d9] 30)).alloc (.cells #[.int .i64 0, .slice none 0 0] 24)).cell? ⟨w.heap.size + 1, 7, none⟩ = some (.int .i64 d8) ∧ (((w.alloc (.cells #[.int .i64 id, .slice ao n cap] 24)).alloc (.cells #[.int .i64 d1, .int .i64 d2, .int .i64 d3, .int .i64 d4, .string d5, .string d6, .int .i64 d7, .int .i64 d8, .int .i64 d9] 30)).alloc (.cells #[.int .i64 0, .slice none 0 0] 24)).cell? ⟨w.heap.size + 1, 8, none⟩ = some (.int .i64 d9)) := ⟨by simp [go_sem], by simp [go_sem], by simp [go_sem], by simp [go_sem], by simp [go_sem], by simp [go_sem], by simp [go_sem], by simp [go_sem], by simp [go_sem]⟩
  clear h
  go_enter Try.func48, Try.ntmps48
  go_wp2
  go_loopg [5, 6, 11] n (fun k s5 s6 s11 wr => ∃ (idx : Nat) (ao' : Option Addr) (cap' : Nat) (l : List Fd) (dn : Bool), s11 = .int .i64 (idx : Int) ∧ s5 = .slice ao' l.length cap' ∧ s6 = .bool dn ∧ k + idx = n ∧ Aside ((xs.take idx).foldl (wStep ⟨d1, d2, d3, d4, d5, d6, d7, d8, d9⟩) ([], false) = (l, dn)) ∧ Aside (Below (((w.alloc (.cells #[.int .i64 id, .slice ao n cap] 24)).alloc (.cells #[.int .i64 d1, .int .i64 d2, .int .i64 d3, .int .i64 d4, .string d5, .string d6, .int .i64 d7, .int .i64 d8, .int .i64 d9] 30)).alloc (.cells #[.int .i64 0, .slice none 0 0] 24)).heap.size (((w.alloc (.cells #[.int .i64 id, .slice ao n cap] 24)).alloc (.cells #[.int .i64 d1, .int .i64 d2, .int .i64 d3, .int .i64 d4, .string d5, .string d6, .int .i64 d7, .int .i64 d8, .int .i64 d9] 30)).alloc (.cells #[.int .i64 0, .slice none 0 0] 24)) wr ∧ wr.ownsRow (w.heap.size + 1 + 1 + 1) 30 9 (.slice ao' l.length cap') l.length (flatE Fd.enc l)))
  case atStart => exact ⟨0, none, 0, [], false, rfl, rfl, rfl, by omega, (show (xs.take 0).foldl (wStep ⟨d1, d2, d3, d4, d5, d6, d7, d8, d9⟩) ([], false) = ([], false) from rfl), ⟨Below.refl _ _, World.ownsRow_nil _ _ _ _⟩⟩
  case round =>
    obtain ⟨idx, ao', cap', l, dn, rfl, rfl, rfl, hk, A, ST⟩ := hrel
    have hll : l.length ≤ idx + 1 := by
      have := (wStep_len ⟨d1, d2, d3, d4, d5, d6, d7, d8, d9⟩ (xs.take idx) ([], false)).2.2
      rw [A.out] at this
      simp only [List.length_take, List.length_nil] at this
      split at this <;> omega
    by_cases hi : idx < n
    · have hiz : (idx : Int) < (n : Int) := by omega
      have AS : Aside ((xs.take (idx + 1)).foldl (wStep ⟨d1, d2, d3, d4, d5, d6, d7, d8, d9⟩) ([], false) = wStep ⟨d1, d2, d3, d4, d5, d6, d7, d8, d9⟩ (l, dn) xs[idx]!) := by
        show _ = _
        rw [take_foldE _ _ _ _ (by have := HL.out; omega), A.out]
      obtain ⟨b, off, rfl, hbw, l0, l1, l2, l3, l4, l5, l6, l7, l8⟩ := HC.out idx (by have := HL.out; omega)
      generalize xs[idx]! = y at l0 l1 l2 l3 l4 l5 l6 l7 l8 AS
      obtain ⟨y1, y2, y3, y4, y5, y6, y7, y8, y9⟩ := y
      simp only [] at l0 l1 l2 l3 l4 l5 l6 l7 l8
      have YC : Aside (_ ∧ _ ∧ _ ∧ _ ∧ _ ∧ _ ∧ _ ∧ _ ∧ _) := ⟨l0, l1, l2, l3, l4, l5, l6, l7, l8⟩
      clear l0 l1 l2 l3 l4 l5 l6 l7 l8 A HC
      have hsw := ST.out.1.size
      have hbr : b < wr.heap.size := Nat.lt_of_lt_of_le hbw hsw
      simp at hsw
      have hl2 : l.length ≤ n := by omega
      have bf0 := (ST.out.1.cell (p := ⟨w.heap.size, 0, none⟩) (by first | (simp; done) | (simp; omega))).trans BX.out.1
      have bf1 := (ST.out.1.cell (p := ⟨w.heap.size, 1, none⟩) (by first | (simp; done) | (simp; omega))).trans BX.out.2.1
      have bd0 := (ST.out.1.cell (p := ⟨w.heap.size + 1, 0, none⟩) (by first | (simp; done) | (simp; omega))).trans BD.out.1
      have bd1 := (ST.out.1.cell (p := ⟨w.heap.size + 1, 1, none⟩) (by first | (simp; done) | (simp; omega))).trans BD.out.2.1
      have bd2 := (ST.out.1.cell (p := ⟨w.heap.size + 1, 2, none⟩) (by first | (simp; done) | (simp; omega))).trans BD.out.2.2.1
      have bd3 := (ST.out.1.cell (p := ⟨w.heap.size + 1, 3, none⟩) (by first | (simp; done) | (simp; omega))).trans BD.out.2.2.2.1
      have bd4 := (ST.out.1.cell (p := ⟨w.heap.size + 1, 4, none⟩) (by first | (simp; done) | (simp; omega))).trans BD.out.2.2.2.2.1
      have bd5 := (ST.out.1.cell (p := ⟨w.heap.size + 1, 5, none⟩) (by first | (simp; done) | (simp; omega))).trans BD.out.2.2.2.2.2.1
      have bd6 := (ST.out.1.cell (p := ⟨w.heap.size + 1, 6, none⟩) (by first | (simp; done) | (simp; omega))).trans BD.out.2.2.2.2.2.2.1
      have bd7 := (ST.out.1.cell (p := ⟨w.heap.size + 1, 7, none⟩) (by first | (simp; done) | (simp; omega))).trans BD.out.2.2.2.2.2.2.2.1
      have bd8 := (ST.out.1.cell (p := ⟨w.heap.size + 1, 8, none⟩) (by first | (simp; done) | (simp; omega))).trans BD.out.2.2.2.2.2.2.2.2
      have l0 := (ST.out.1.cell (p := ⟨b, off + idx * 9, none⟩) hbw).trans YC.out.1
      have l1 := (ST.out.1.cell (p := ⟨b, off + idx * 9 + 1, none⟩) hbw).trans YC.out.2.1
      have l2 := (ST.out.1.cell (p := ⟨b, off + idx * 9 + 2, none⟩) hbw).trans YC.out.2.2.1
      have l3 := (ST.out.1.cell (p := ⟨b, off + idx * 9 + 3, none⟩) hbw).trans YC.out.2.2.2.1
      have l4 := (ST.out.1.cell (p := ⟨b, off + idx * 9 + 4, none⟩) hbw).trans YC.out.2.2.2.2.1
      have l5 := (ST.out.1.cell (p := ⟨b, off + idx * 9 + 5, none⟩) hbw).trans YC.out.2.2.2.2.2.1
      have l6 := (ST.out.1.cell (p := ⟨b, off + idx * 9 + 6, none⟩) hbw).trans YC.out.2.2.2.2.2.2.1
      have l7 := (ST.out.1.cell (p := ⟨b, off + idx * 9 + 7, none⟩) hbw).trans YC.out.2.2.2.2.2.2.2.1
      have l8 := (ST.out.1.cell (p := ⟨b, off + idx * 9 + 8, none⟩) hbw).trans YC.out.2.2.2.2.2.2.2.2
      cases dn with
      | true =>
        have AN : Aside ((xs.take (idx + 1)).foldl (wStep ⟨d1, d2, d3, d4, d5, d6, d7, d8, d9⟩) ([], false) = (l ++ [⟨y1, y2, y3, y4, y5, y6, y7, y8, y9⟩], true)) := by
          show _ = _
          rw [AS.out]
          simp [wStep]
        clear AS
        go_wp2
        refine wp_region_plus (by kernel_rfl) (by kernel_rfl) ?_
        repeat (go_big_quiet_step (fail))
        refine wpQuiet_nil ?_
        rintro _ ⟨x1, rfl⟩
        have ST5 : Aside (Below (((w.alloc (.cells #[.int .i64 id, .slice (some ⟨b, off, none⟩) n cap] 24)).alloc (.cells #[.int .i64 d1, .int .i64 d2, .int .i64 d3, .int .i64 d4, .string d5, .string d6, .int .i64 d7, .int .i64 d8, .int .i64 d9] 30)).alloc (.cells #[.int .i64 0, .slice none 0 0] 24)).heap.size (((w.alloc (.cells #[.int .i64 id, .slice (some ⟨b, off, none⟩) n cap] 24)).alloc (.cells #[.int .i64 d1, .int .i64 d2, .int .i64 d3, .int .i64 d4, .string d5, .string d6, .int .i64 d7, .int .i64 d8, .int .i64 d9] 30)).alloc (.cells #[.int .i64 0, .slice none 0 0] 24)) (plus wr x1) ∧ (plus wr x1).ownsRow (w.heap.size + 1 + 1 + 1) 30 9 (.slice ao' l.length cap') l.length (flatE Fd.enc l)) := ⟨ST.out.1.trans ((below_plus wr x1).mono ST.out.1.size), own_plus ST.out.2⟩
        clear bf0 bf1 bd0 bd1 bd2 bd3 bd4 bd5 bd6 bd7 bd8 l0 l1 l2 l3 l4 l5 l6 l7 l8
        clear ST hsw hbr
        generalize plus wr x1 = w5 at ST5 ⊢
        have hsw := ST5.out.1.size
        have hbr : b < w5.heap.size := Nat.lt_of_lt_of_le hbw hsw
        simp at hsw
        have hown := ST5.out.2
        have bf0 := (ST5.out.1.cell (p := ⟨w.heap.size, 0, none⟩) (by first | (simp; done) | (simp; omega))).trans BX.out.1
        have bf1 := (ST5.out.1.cell (p := ⟨w.heap.size, 1, none⟩) (by first | (simp; done) | (simp; omega))).trans BX.out.2.1
        have l0 := (ST5.out.1.cell (p := ⟨b, off + idx * 9, none⟩) hbw).trans YC.out.1
        have l1 := (ST5.out.1.cell (p := ⟨b, off + idx * 9 + 1, none⟩) hbw).trans YC.out.2.1
        have l2 := (ST5.out.1.cell (p := ⟨b, off + idx * 9 + 2, none⟩) hbw).trans YC.out.2.2.1
        have l3 := (ST5.out.1.cell (p := ⟨b, off + idx * 9 + 3, none⟩) hbw).trans YC.out.2.2.2.1
        have l4 := (ST5.out.1.cell (p := ⟨b, off + idx * 9 + 4, none⟩) hbw).trans YC.out.2.2.2.2.1
        have l5 := (ST5.out.1.cell (p := ⟨b, off + idx * 9 + 5, none⟩) hbw).trans YC.out.2.2.2.2.2.1
        have l6 := (ST5.out.1.cell (p := ⟨b, off + idx * 9 + 6, none⟩) hbw).trans YC.out.2.2.2.2.2.2.1
        have l7 := (ST5.out.1.cell (p := ⟨b, off + idx * 9 + 7, none⟩) hbw).trans YC.out.2.2.2.2.2.2.2.1
        have l8 := (ST5.out.1.cell (p := ⟨b, off + idx * 9 + 8, none⟩) hbw).trans YC.out.2.2.2.2.2.2.2.2
        go_wp2_with (at_builtin; refine wpList_append_own _ rfl _ _ 22 rfl ((w.heap.size + 1 + 1 + 1)) 30 i0 _ 9 88 Try.underlying22 hi0 hz0 hs0 hb0 rfl (by omega) _ _ _ rfl (hown.alloc _) ⟨w5.heap.size, 0, none⟩ 1 1 [.int .i64 y1, .int .i64 y2, .int .i64 y3, .int .i64 y4, .string y5, .string y6, .int .i64 y7, .int .i64 y8, .int .i64 y9] rfl rfl (cells_new _ _ _ _ rfl) (fd_one ⟨y1, y2, y3, y4, y5, y6, y7, y8, y9⟩) (by unfold maxLen; omega) (by omega) (by simp; omega) ?_)
        intro v' w7 hown' hgrow _
        obtain ⟨ao7, cap7, rfl, hb7, ho7⟩ := app_stateB (U1 := (((w.alloc (.cells #[.int .i64 id, .slice (some ⟨b, off, none⟩) n cap] 24)).alloc (.cells #[.int .i64 d1, .int .i64 d2, .int .i64 d3, .int .i64 d4, .string d5, .string d6, .int .i64 d7, .int .i64 d8, .int .i64 d9] 30)).alloc (.cells #[.int .i64 0, .slice none 0 0] 24))) (by simp) fd_len (by omega) (y := ⟨y1, y2, y3, y4, y5, y6, y7, y8, y9⟩) (ST5.out.1.alloc ST5.out.1.size _) (hown.alloc _) hown' hgrow
        have ST7 : Aside (Below (((w.alloc (.cells #[.int .i64 id, .slice (some ⟨b, off, none⟩) n cap] 24)).alloc (.cells #[.int .i64 d1, .int .i64 d2, .int .i64 d3, .int .i64 d4, .string d5, .string d6, .int .i64 d7, .int .i64 d8, .int .i64 d9] 30)).alloc (.cells #[.int .i64 0, .slice none 0 0] 24)).heap.size (((w.alloc (.cells #[.int .i64 id, .slice (some ⟨b, off, none⟩) n cap] 24)).alloc (.cells #[.int .i64 d1, .int .i64 d2, .int .i64 d3, .int .i64 d4, .string d5, .string d6, .int .i64 d7, .int .i64 d8, .int .i64 d9] 30)).alloc (.cells #[.int .i64 0, .slice none 0 0] 24)) w7 ∧ w7.ownsRow (w.heap.size + 1 + 1 + 1) 30 9 (.slice ao7 (l.length + 1) cap7) (l.length + 1) (flatE Fd.enc (l ++ [⟨y1, y2, y3, y4, y5, y6, y7, y8, y9⟩]))) := ⟨hb7, ho7⟩
        clear hown' hgrow hb7 ho7 hown
        clear bf0 bf1  l0 l1 l2 l3 l4 l5 l6 l7 l8
        clear hsw
        go_wp2
        go_roundg (gk - 1)
        case measure => omega
        case rel => exact ⟨idx + 1, ao7, cap7, l ++ [⟨y1, y2, y3, y4, y5, y6, y7, y8, y9⟩], true, by simp, by first | rfl | simp, rfl, by omega, AN, by first | exact ST7 | simpa using ST7⟩
      | false =>
        by_cases hq : d1 < y1
        · have AN : Aside ((xs.take (idx + 1)).foldl (wStep ⟨d1, d2, d3, d4, d5, d6, d7, d8, d9⟩) ([], false) = (l ++ [⟨d1, d2, d3, d4, d5, d6, d7, d8, d9⟩] ++ [⟨y1, y2, y3, y4, y5, y6, y7, y8, y9⟩], true)) := by
            show _ = _
            rw [AS.out]
            simp [wStep, hq]
          have f1 : decide (d1 < y1) = true := decide_eq_true hq
          clear AS hq
          go_wp2
          refine wp_region_plus (by kernel_rfl) (by kernel_rfl) ?_
          repeat (go_big_quiet_step (fail))
          refine wpQuiet_nil ?_
          rintro _ ⟨x1, rfl⟩
          have ST5 : Aside (Below (((w.alloc (.cells #[.int .i64 id, .slice (some ⟨b, off, none⟩) n cap] 24)).alloc (.cells #[.int .i64 d1, .int .i64 d2, .int .i64 d3, .int .i64 d4, .string d5, .string d6, .int .i64 d7, .int .i64 d8, .int .i64 d9] 30)).alloc (.cells #[.int .i64 0, .slice none 0 0] 24)).heap.size (((w.alloc (.cells #[.int .i64 id, .slice (some ⟨b, off, none⟩) n cap] 24)).alloc (.cells #[.int .i64 d1, .int .i64 d2, .int .i64 d3, .int .i64 d4, .string d5, .string d6, .int .i64 d7, .int .i64 d8, .int .i64 d9] 30)).alloc (.cells #[.int .i64 0, .slice none 0 0] 24)) (plus wr x1) ∧ (plus wr x1).ownsRow (w.heap.size + 1 + 1 + 1) 30 9 (.slice ao' l.length cap') l.length (flatE Fd.enc l)) := ⟨ST.out.1.trans ((below_plus wr x1).mono ST.out.1.size), own_plus ST.out.2⟩
          clear bf0 bf1 bd0 bd1 bd2 bd3 bd4 bd5 bd6 bd7 bd8 l0 l1 l2 l3 l4 l5 l6 l7 l8
          clear ST hsw hbr
          generalize plus wr x1 = w5 at ST5 ⊢
          have hsw := ST5.out.1.size
          have hbr : b < w5.heap.size := Nat.lt_of_lt_of_le hbw hsw
          simp at hsw
          have hown := ST5.out.2
          have bd0 := (ST5.out.1.cell (p := ⟨w.heap.size + 1, 0, none⟩) (by first | (simp; done) | (simp; omega))).trans BD.out.1
          have bd1 := (ST5.out.1.cell (p := ⟨w.heap.size + 1, 1, none⟩) (by first | (simp; done) | (simp; omega))).trans BD.out.2.1
          have bd2 := (ST5.out.1.cell (p := ⟨w.heap.size + 1, 2, none⟩) (by first | (simp; done) | (simp; omega))).trans BD.out.2.2.1
          have bd3 := (ST5.out.1.cell (p := ⟨w.heap.size + 1, 3, none⟩) (by first | (simp; done) | (simp; omega))).trans BD.out.2.2.2.1
          have bd4 := (ST5.out.1.cell (p := ⟨w.heap.size + 1, 4, none⟩) (by first | (simp; done) | (simp; omega))).trans BD.out.2.2.2.2.1
          have bd5 := (ST5.out.1.cell (p := ⟨w.heap.size + 1, 5, none⟩) (by first | (simp; done) | (simp; omega))).trans BD.out.2.2.2.2.2.1
          have bd6 := (ST5.out.1.cell (p := ⟨w.heap.size + 1, 6, none⟩) (by first | (simp; done) | (simp; omega))).trans BD.out.2.2.2.2.2.2.1
          have bd7 := (ST5.out.1.cell (p := ⟨w.heap.size + 1, 7, none⟩) (by first | (simp; done) | (simp; omega))).trans BD.out.2.2.2.2.2.2.2.1
          have bd8 := (ST5.out.1.cell (p := ⟨w.heap.size + 1, 8, none⟩) (by first | (simp; done) | (simp; omega))).trans BD.out.2.2.2.2.2.2.2.2
          go_wp2_with (at_builtin; refine wpList_append_own _ rfl _ _ 22 rfl ((w.heap.size + 1 + 1 + 1)) 30 i0 _ 9 88 Try.underlying22 hi0 hz0 hs0 hb0 rfl (by omega) _ _ _ rfl (hown.alloc _) ⟨w5.heap.size, 0, none⟩ 1 1 [.int .i64 d1, .int .i64 d2, .int .i64 d3, .int .i64 d4, .string d5, .string d6, .int .i64 d7, .int .i64 d8, .int .i64 d9] rfl rfl (cells_new _ _ _ _ rfl) (fd_one ⟨d1, d2, d3, d4, d5, d6, d7, d8, d9⟩) (by unfold maxLen; omega) (by omega) (by simp; omega) ?_)
          intro v' w6 hown' hgrow _
          obtain ⟨ao6, cap6, rfl, hb6, ho6⟩ := app_stateB (U1 := (((w.alloc (.cells #[.int .i64 id, .slice (some ⟨b, off, none⟩) n cap] 24)).alloc (.cells #[.int .i64 d1, .int .i64 d2, .int .i64 d3, .int .i64 d4, .string d5, .string d6, .int .i64 d7, .int .i64 d8, .int .i64 d9] 30)).alloc (.cells #[.int .i64 0, .slice none 0 0] 24))) (by simp) fd_len (by omega) (y := ⟨d1, d2, d3, d4, d5, d6, d7, d8, d9⟩) (ST5.out.1.alloc ST5.out.1.size _) (hown.alloc _) hown' hgrow
          have ST6 : Aside (Below (((w.alloc (.cells #[.int .i64 id, .slice (some ⟨b, off, none⟩) n cap] 24)).alloc (.cells #[.int .i64 d1, .int .i64 d2, .int .i64 d3, .int .i64 d4, .string d5, .string d6, .int .i64 d7, .int .i64 d8, .int .i64 d9] 30)).alloc (.cells #[.int .i64 0, .slice none 0 0] 24)).heap.size (((w.alloc (.cells #[.int .i64 id, .slice (some ⟨b, off, none⟩) n cap] 24)).alloc (.cells #[.int .i64 d1, .int .i64 d2, .int .i64 d3, .int .i64 d4, .string d5, .string d6, .int .i64 d7, .int .i64 d8, .int .i64 d9] 30)).alloc (.cells #[.int .i64 0, .slice none 0 0] 24)) w6 ∧ w6.ownsRow (w.heap.size + 1 + 1 + 1) 30 9 (.slice ao6 (l.length + 1) cap6) (l.length + 1) (flatE Fd.enc (l ++ [⟨d1, d2, d3, d4, d5, d6, d7, d8, d9⟩]))) := ⟨hb6, ho6⟩
          clear hown' hgrow hb6 ho6 hown
          clear  bd0 bd1 bd2 bd3 bd4 bd5 bd6 bd7 bd8 
          clear hsw hbr ST5
          have hsw := ST6.out.1.size
          have hbr : b < w6.heap.size := Nat.lt_of_lt_of_le hbw hsw
          simp at hsw
          have ST6' : Aside (Below (((w.alloc (.cells #[.int .i64 id, .slice (some ⟨b, off, none⟩) n cap] 24)).alloc (.cells #[.int .i64 d1, .int .i64 d2, .int .i64 d3, .int .i64 d4, .string d5, .string d6, .int .i64 d7, .int .i64 d8, .int .i64 d9] 30)).alloc (.cells #[.int .i64 0, .slice none 0 0] 24)).heap.size (((w.alloc (.cells #[.int .i64 id, .slice (some ⟨b, off, none⟩) n cap] 24)).alloc (.cells #[.int .i64 d1, .int .i64 d2, .int .i64 d3, .int .i64 d4, .string d5, .string d6, .int .i64 d7, .int .i64 d8, .int .i64 d9] 30)).alloc (.cells #[.int .i64 0, .slice none 0 0] 24)) w6 ∧ w6.ownsRow (w.heap.size + 1 + 1 + 1) 30 9 (.slice ao6 (l.length + 1) cap6) (l ++ [(⟨d1, d2, d3, d4, d5, d6, d7, d8, d9⟩ : Fd)]).length (flatE Fd.enc (l ++ [(⟨d1, d2, d3, d4, d5, d6, d7, d8, d9⟩ : Fd)]))) := by
            have := ST6
            simpa using this
          have hll : (l ++ [(⟨d1, d2, d3, d4, d5, d6, d7, d8, d9⟩ : Fd)]).length = l.length + 1 := by simp
          generalize l ++ [(⟨d1, d2, d3, d4, d5, d6, d7, d8, d9⟩ : Fd)] = lz at ST6' AN hll
          rw [← hll] at ST6'
          rw [← hll]
          have hlz : lz.length ≤ n + 1 := by omega
          clear hll ST6
          have hown := ST6'.out.2
          have bf0 := (ST6'.out.1.cell (p := ⟨w.heap.size, 0, none⟩) (by first | (simp; done) | (simp; omega))).trans BX.out.1
          have bf1 := (ST6'.out.1.cell (p := ⟨w.heap.size, 1, none⟩) (by first | (simp; done) | (simp; omega))).trans BX.out.2.1
          have l0 := (ST6'.out.1.cell (p := ⟨b, off + idx * 9, none⟩) hbw).trans YC.out.1
          have l1 := (ST6'.out.1.cell (p := ⟨b, off + idx * 9 + 1, none⟩) hbw).trans YC.out.2.1
          have l2 := (ST6'.out.1.cell (p := ⟨b, off + idx * 9 + 2, none⟩) hbw).trans YC.out.2.2.1
          have l3 := (ST6'.out.1.cell (p := ⟨b, off + idx * 9 + 3, none⟩) hbw).trans YC.out.2.2.2.1
          have l4 := (ST6'.out.1.cell (p := ⟨b, off + idx * 9 + 4, none⟩) hbw).trans YC.out.2.2.2.2.1
          have l5 := (ST6'.out.1.cell (p := ⟨b, off + idx * 9 + 5, none⟩) hbw).trans YC.out.2.2.2.2.2.1
          have l6 := (ST6'.out.1.cell (p := ⟨b, off + idx * 9 + 6, none⟩) hbw).trans YC.out.2.2.2.2.2.2.1
          have l7 := (ST6'.out.1.cell (p := ⟨b, off + idx * 9 + 7, none⟩) hbw).trans YC.out.2.2.2.2.2.2.2.1
          have l8 := (ST6'.out.1.cell (p := ⟨b, off + idx * 9 + 8, none⟩) hbw).trans YC.out.2.2.2.2.2.2.2.2
          go_wp2_with (at_builtin; refine wpList_append_own _ rfl _ _ 22 rfl ((w.heap.size + 1 + 1 + 1)) 30 i0 _ 9 88 Try.underlying22 hi0 hz0 hs0 hb0 rfl (by omega) _ _ _ rfl (hown.alloc _) ⟨w6.heap.size, 0, none⟩ 1 1 [.int .i64 y1, .int .i64 y2, .int .i64 y3, .int .i64 y4, .string y5, .string y6, .int .i64 y7, .int .i64 y8, .int .i64 y9] rfl rfl (cells_new _ _ _ _ rfl) (fd_one ⟨y1, y2, y3, y4, y5, y6, y7, y8, y9⟩) (by unfold maxLen; omega) (by omega) (by simp; omega) ?_)
          intro v' w7 hown' hgrow _
          obtain ⟨ao7, cap7, rfl, hb7, ho7⟩ := app_stateB (U1 := (((w.alloc (.cells #[.int .i64 id, .slice (some ⟨b, off, none⟩) n cap] 24)).alloc (.cells #[.int .i64 d1, .int .i64 d2, .int .i64 d3, .int .i64 d4, .string d5, .string d6, .int .i64 d7, .int .i64 d8, .int .i64 d9] 30)).alloc (.cells #[.int .i64 0, .slice none 0 0] 24))) (by simp) fd_len (by omega) (y := ⟨y1, y2, y3, y4, y5, y6, y7, y8, y9⟩) (ST6'.out.1.alloc ST6'.out.1.size _) (hown.alloc _) hown' hgrow
          have ST7 : Aside (Below (((w.alloc (.cells #[.int .i64 id, .slice (some ⟨b, off, none⟩) n cap] 24)).alloc (.cells #[.int .i64 d1, .int .i64 d2, .int .i64 d3, .int .i64 d4, .string d5, .string d6, .int .i64 d7, .int .i64 d8, .int .i64 d9] 30)).alloc (.cells #[.int .i64 0, .slice none 0 0] 24)).heap.size (((w.alloc (.cells #[.int .i64 id, .slice (some ⟨b, off, none⟩) n cap] 24)).alloc (.cells #[.int .i64 d1, .int .i64 d2, .int .i64 d3, .int .i64 d4, .string d5, .string d6, .int .i64 d7, .int .i64 d8, .int .i64 d9] 30)).alloc (.cells #[.int .i64 0, .slice none 0 0] 24)) w7 ∧ w7.ownsRow (w.heap.size + 1 + 1 + 1) 30 9 (.slice ao7 (lz.length + 1) cap7) (lz.length + 1) (flatE Fd.enc (lz ++ [⟨y1, y2, y3, y4, y5, y6, y7, y8, y9⟩]))) := ⟨hb7, ho7⟩
          clear hown' hgrow hb7 ho7 hown
          clear bf0 bf1  l0 l1 l2 l3 l4 l5 l6 l7 l8
          clear hsw
          go_wp2
          go_roundg (gk - 1)
          case measure => omega
          case rel => exact ⟨idx + 1, ao7, cap7, lz ++ [⟨y1, y2, y3, y4, y5, y6, y7, y8, y9⟩], true, by simp, by first | rfl | simp, rfl, by omega, AN, by first | exact ST7 | simpa using ST7⟩
        · have AN : Aside ((xs.take (idx + 1)).foldl (wStep ⟨d1, d2, d3, d4, d5, d6, d7, d8, d9⟩) ([], false) = (l ++ [⟨y1, y2, y3, y4, y5, y6, y7, y8, y9⟩], false)) := by
            show _ = _
            rw [AS.out]
            simp [wStep, hq]
          have f1 : decide (d1 < y1) = false := decide_eq_false hq
          clear AS hq
          go_wp2
          refine wp_region_plus (by kernel_rfl) (by kernel_rfl) ?_
          repeat (go_big_quiet_step (fail))
          refine wpQuiet_nil ?_
          rintro _ ⟨x1, rfl⟩
          have ST5 : Aside (Below (((w.alloc (.cells #[.int .i64 id, .slice (some ⟨b, off, none⟩) n cap] 24)).alloc (.cells #[.int .i64 d1, .int .i64 d2, .int .i64 d3, .int .i64 d4, .string d5, .string d6, .int .i64 d7, .int .i64 d8, .int .i64 d9] 30)).alloc (.cells #[.int .i64 0, .slice none 0 0] 24)).heap.size (((w.alloc (.cells #[.int .i64 id, .slice (some ⟨b, off, none⟩) n cap] 24)).alloc (.cells #[.int .i64 d1, .int .i64 d2, .int .i64 d3, .int .i64 d4, .string d5, .string d6, .int .i64 d7, .int .i64 d8, .int .i64 d9] 30)).alloc (.cells #[.int .i64 0, .slice none 0 0] 24)) (plus wr x1) ∧ (plus wr x1).ownsRow (w.heap.size + 1 + 1 + 1) 30 9 (.slice ao' l.length cap') l.length (flatE Fd.enc l)) := ⟨ST.out.1.trans ((below_plus wr x1).mono ST.out.1.size), own_plus ST.out.2⟩
          clear bf0 bf1 bd0 bd1 bd2 bd3 bd4 bd5 bd6 bd7 bd8 l0 l1 l2 l3 l4 l5 l6 l7 l8
          clear ST hsw hbr
          generalize plus wr x1 = w5 at ST5 ⊢
          have hsw := ST5.out.1.size
          have hbr : b < w5.heap.size := Nat.lt_of_lt_of_le hbw hsw
          simp at hsw
          have hown := ST5.out.2
          have bf0 := (ST5.out.1.cell (p := ⟨w.heap.size, 0, none⟩) (by first | (simp; done) | (simp; omega))).trans BX.out.1
          have bf1 := (ST5.out.1.cell (p := ⟨w.heap.size, 1, none⟩) (by first | (simp; done) | (simp; omega))).trans BX.out.2.1
          have l0 := (ST5.out.1.cell (p := ⟨b, off + idx * 9, none⟩) hbw).trans YC.out.1
          have l1 := (ST5.out.1.cell (p := ⟨b, off + idx * 9 + 1, none⟩) hbw).trans YC.out.2.1
          have l2 := (ST5.out.1.cell (p := ⟨b, off + idx * 9 + 2, none⟩) hbw).trans YC.out.2.2.1
          have l3 := (ST5.out.1.cell (p := ⟨b, off + idx * 9 + 3, none⟩) hbw).trans YC.out.2.2.2.1
          have l4 := (ST5.out.1.cell (p := ⟨b, off + idx * 9 + 4, none⟩) hbw).trans YC.out.2.2.2.2.1
          have l5 := (ST5.out.1.cell (p := ⟨b, off + idx * 9 + 5, none⟩) hbw).trans YC.out.2.2.2.2.2.1
          have l6 := (ST5.out.1.cell (p := ⟨b, off + idx * 9 + 6, none⟩) hbw).trans YC.out.2.2.2.2.2.2.1
          have l7 := (ST5.out.1.cell (p := ⟨b, off + idx * 9 + 7, none⟩) hbw).trans YC.out.2.2.2.2.2.2.2.1
          have l8 := (ST5.out.1.cell (p := ⟨b, off + idx * 9 + 8, none⟩) hbw).trans YC.out.2.2.2.2.2.2.2.2
          go_wp2_with (at_builtin; refine wpList_append_own _ rfl _ _ 22 rfl ((w.heap.size + 1 + 1 + 1)) 30 i0 _ 9 88 Try.underlying22 hi0 hz0 hs0 hb0 rfl (by omega) _ _ _ rfl (hown.alloc _) ⟨w5.heap.size, 0, none⟩ 1 1 [.int .i64 y1, .int .i64 y2, .int .i64 y3, .int .i64 y4, .string y5, .string y6, .int .i64 y7, .int .i64 y8, .int .i64 y9] rfl rfl (cells_new _ _ _ _ rfl) (fd_one ⟨y1, y2, y3, y4, y5, y6, y7, y8, y9⟩) (by unfold maxLen; omega) (by omega) (by simp; omega) ?_)
          intro v' w7 hown' hgrow _
          obtain ⟨ao7, cap7, rfl, hb7, ho7⟩ := app_stateB (U1 := (((w.alloc (.cells #[.int .i64 id, .slice (some ⟨b, off, none⟩) n cap] 24)).alloc (.cells #[.int .i64 d1, .int .i64 d2, .int .i64 d3, .int .i64 d4, .string d5, .string d6, .int .i64 d7, .int .i64 d8, .int .i64 d9] 30)).alloc (.cells #[.int .i64 0, .slice none 0 0] 24))) (by simp) fd_len (by omega) (y := ⟨y1, y2, y3, y4, y5, y6, y7, y8, y9⟩) (ST5.out.1.alloc ST5.out.1.size _) (hown.alloc _) hown' hgrow
          have ST7 : Aside (Below (((w.alloc (.cells #[.int .i64 id, .slice (some ⟨b, off, none⟩) n cap] 24)).alloc (.cells #[.int .i64 d1, .int .i64 d2, .int .i64 d3, .int .i64 d4, .string d5, .string d6, .int .i64 d7, .int .i64 d8, .int .i64 d9] 30)).alloc (.cells #[.int .i64 0, .slice none 0 0] 24)).heap.size (((w.alloc (.cells #[.int .i64 id, .slice (some ⟨b, off, none⟩) n cap] 24)).alloc (.cells #[.int .i64 d1, .int .i64 d2, .int .i64 d3, .int .i64 d4, .string d5, .string d6, .int .i64 d7, .int .i64 d8, .int .i64 d9] 30)).alloc (.cells #[.int .i64 0, .slice none 0 0] 24)) w7 ∧ w7.ownsRow (w.heap.size + 1 + 1 + 1) 30 9 (.slice ao7 (l.length + 1) cap7) (l.length + 1) (flatE Fd.enc (l ++ [⟨y1, y2, y3, y4, y5, y6, y7, y8, y9⟩]))) := ⟨hb7, ho7⟩
          clear hown' hgrow hb7 ho7 hown
          clear bf0 bf1  l0 l1 l2 l3 l4 l5 l6 l7 l8
          clear hsw
          go_wp2
          go_roundg (gk - 1)
          case measure => omega
          case rel => exact ⟨idx + 1, ao7, cap7, l ++ [⟨y1, y2, y3, y4, y5, y6, y7, y8, y9⟩], false, by simp, by first | rfl | simp, rfl, by omega, AN, by first | exact ST7 | simpa using ST7⟩
    · have hiz : ¬ (idx : Int) < (n : Int) := by omega
      have AF : Aside (xs.foldl (wStep ⟨d1, d2, d3, d4, d5, d6, d7, d8, d9⟩) ([], false) = (l, dn)) := by
        show _ = _
        rw [← A.out, List.take_of_length_le]
        have := HL.out; omega
      clear A HC
      have hl2 : l.length ≤ n + 1 := by omega
      cases dn with
      | true =>
        have ER : Aside (rwithL ⟨d1, d2, d3, d4, d5, d6, d7, d8, d9⟩ xs = l) := by show _ = _; unfold rwithL; rw [AF.out]; rfl
        obtain ⟨x, rfl⟩ := plus_of_below ST.out.1
        clear AF
        go_wp2
        refine bodyPost_ret (v := .agg #[.int .i64 id, .slice ao' l.length cap']) (by simp [results, Try.results48, go_sem, ↓IntWalk.iteOmega]) rfl ⟨ao', cap', by rw [ER.out], ?_, ?_⟩
        · rw [ER.out]
          exact own_lower (own_past (W := (((w.alloc (.cells #[.int .i64 id, .slice ao n cap] 24)).alloc (.cells #[.int .i64 d1, .int .i64 d2, .int .i64 d3, .int .i64 d4, .string d5, .string d6, .int .i64 d7, .int .i64 d8, .int .i64 d9] 30)).alloc (.cells #[.int .i64 0, .slice none 0 0] 24))) (W' := (((w.alloc (.cells #[.int .i64 id, .slice ao' l.length cap'] 24)).alloc (.cells #[.int .i64 d1, .int .i64 d2, .int .i64 d3, .int .i64 d4, .string d5, .string d6, .int .i64 d7, .int .i64 d8, .int .i64 d9] 30)).alloc (.cells #[.int .i64 id, .slice ao' l.length cap'] 24))) ST.out.2 (by simp) (by simp)) (by omega)
        · repeat (first | (with_reducible exact Below.refl _ _) | (with_reducible assumption) | (with_reducible refine below_to_plus ?_ ?_ _) | (with_reducible refine below_holds ?_ ?_ _ _) | (with_reducible refine Below.alloc ?_ ?_ _) | (with_reducible refine Below.drew ?_) | (with_reducible refine below_drewN ?_ _) | (with_reducible refine Below.setCell ?_ ?_ _))
          all_goals first | omega | (simp; done) | (simp [go_sem]; done) | (simp [go_sem]; omega)
      | false =>
        have ER : Aside (rwithL ⟨d1, d2, d3, d4, d5, d6, d7, d8, d9⟩ xs = l ++ [⟨d1, d2, d3, d4, d5, d6, d7, d8, d9⟩]) := by show _ = _; unfold rwithL; rw [AF.out]; rfl
        clear AF
        have hsw := ST.out.1.size
        simp at hsw
        have hown := ST.out.2
        have bd0 := (ST.out.1.cell (p := ⟨w.heap.size + 1, 0, none⟩) (by first | (simp; done) | (simp; omega))).trans BD.out.1
        have bd1 := (ST.out.1.cell (p := ⟨w.heap.size + 1, 1, none⟩) (by first | (simp; done) | (simp; omega))).trans BD.out.2.1
        have bd2 := (ST.out.1.cell (p := ⟨w.heap.size + 1, 2, none⟩) (by first | (simp; done) | (simp; omega))).trans BD.out.2.2.1
        have bd3 := (ST.out.1.cell (p := ⟨w.heap.size + 1, 3, none⟩) (by first | (simp; done) | (simp; omega))).trans BD.out.2.2.2.1
        have bd4 := (ST.out.1.cell (p := ⟨w.heap.size + 1, 4, none⟩) (by first | (simp; done) | (simp; omega))).trans BD.out.2.2.2.2.1
        have bd5 := (ST.out.1.cell (p := ⟨w.heap.size + 1, 5, none⟩) (by first | (simp; done) | (simp; omega))).trans BD.out.2.2.2.2.2.1
        have bd6 := (ST.out.1.cell (p := ⟨w.heap.size + 1, 6, none⟩) (by first | (simp; done) | (simp; omega))).trans BD.out.2.2.2.2.2.2.1
        have bd7 := (ST.out.1.cell (p := ⟨w.heap.size + 1, 7, none⟩) (by first | (simp; done) | (simp; omega))).trans BD.out.2.2.2.2.2.2.2.1
        have bd8 := (ST.out.1.cell (p := ⟨w.heap.size + 1, 8, none⟩) (by first | (simp; done) | (simp; omega))).trans BD.out.2.2.2.2.2.2.2.2
        go_wp2_with (at_builtin; refine wpList_append_own _ rfl _ _ 22 rfl ((w.heap.size + 1 + 1 + 1)) 30 i0 _ 9 88 Try.underlying22 hi0 hz0 hs0 hb0 rfl (by omega) _ _ _ rfl (hown.alloc _) ⟨wr.heap.size, 0, none⟩ 1 1 [.int .i64 d1, .int .i64 d2, .int .i64 d3, .int .i64 d4, .string d5, .string d6, .int .i64 d7, .int .i64 d8, .int .i64 d9] rfl rfl (cells_new _ _ _ _ rfl) (fd_one ⟨d1, d2, d3, d4, d5, d6, d7, d8, d9⟩) (by unfold maxLen; omega) (by omega) (by simp; omega) ?_)
        intro v' w6 hown' hgrow _
        obtain ⟨ao6, cap6, rfl, hb6, ho6⟩ := app_stateB (U1 := (((w.alloc (.cells #[.int .i64 id, .slice ao n cap] 24)).alloc (.cells #[.int .i64 d1, .int .i64 d2, .int .i64 d3, .int .i64 d4, .string d5, .string d6, .int .i64 d7, .int .i64 d8, .int .i64 d9] 30)).alloc (.cells #[.int .i64 0, .slice none 0 0] 24))) (by simp) fd_len (by omega) (y := ⟨d1, d2, d3, d4, d5, d6, d7, d8, d9⟩) (ST.out.1.alloc ST.out.1.size _) (hown.alloc _) hown' hgrow
        have ST6 : Aside (Below (((w.alloc (.cells #[.int .i64 id, .slice ao n cap] 24)).alloc (.cells #[.int .i64 d1, .int .i64 d2, .int .i64 d3, .int .i64 d4, .string d5, .string d6, .int .i64 d7, .int .i64 d8, .int .i64 d9] 30)).alloc (.cells #[.int .i64 0, .slice none 0 0] 24)).heap.size (((w.alloc (.cells #[.int .i64 id, .slice ao n cap] 24)).alloc (.cells #[.int .i64 d1, .int .i64 d2, .int .i64 d3, .int .i64 d4, .string d5, .string d6, .int .i64 d7, .int .i64 d8, .int .i64 d9] 30)).alloc (.cells #[.int .i64 0, .slice none 0 0] 24)) w6 ∧ w6.ownsRow (w.heap.size + 1 + 1 + 1) 30 9 (.slice ao6 (l.length + 1) cap6) (l.length + 1) (flatE Fd.enc (l ++ [⟨d1, d2, d3, d4, d5, d6, d7, d8, d9⟩]))) := ⟨hb6, ho6⟩
        clear hown' hgrow hb6 ho6 hown
        clear  bd0 bd1 bd2 bd3 bd4 bd5 bd6 bd7 bd8 
        clear hsw
        obtain ⟨x, rfl⟩ := plus_of_below ST6.out.1
        go_wp2
        refine bodyPost_ret (v := .agg #[.int .i64 id, .slice ao6 (l.length + 1) cap6]) (by simp [results, Try.results48, go_sem, ↓IntWalk.iteOmega]) rfl ⟨ao6, cap6, by rw [ER.out, List.length_append]; rfl, ?_, ?_⟩
        · rw [ER.out, List.length_append]
          exact own_lower (own_past (W := (((w.alloc (.cells #[.int .i64 id, .slice ao n cap] 24)).alloc (.cells #[.int .i64 d1, .int .i64 d2, .int .i64 d3, .int .i64 d4, .string d5, .string d6, .int .i64 d7, .int .i64 d8, .int .i64 d9] 30)).alloc (.cells #[.int .i64 0, .slice none 0 0] 24))) (W' := (((w.alloc (.cells #[.int .i64 id, .slice ao6 (l.length + 1) cap6] 24)).alloc (.cells #[.int .i64 d1, .int .i64 d2, .int .i64 d3, .int .i64 d4, .string d5, .string d6, .int .i64 d7, .int .i64 d8, .int .i64 d9] 30)).alloc (.cells #[.int .i64 id, .slice ao6 (l.length + 1) cap6] 24))) ST6.out.2 (by simp) (by simp)) (by omega)
        · repeat (first | (with_reducible exact Below.refl _ _) | (with_reducible assumption) | (with_reducible refine below_to_plus ?_ ?_ _) | (with_reducible refine below_holds ?_ ?_ _ _) | (with_reducible refine Below.alloc ?_ ?_ _) | (with_reducible refine Below.drew ?_) | (with_reducible refine below_drewN ?_ _) | (with_reducible refine Below.setCell ?_ ?_ _))
          all_goals first | omega | (simp; done) | (simp [go_sem]; done) | (simp [go_sem]; omega)

end Go.Proofs.Ytbifanenoejjgaa
