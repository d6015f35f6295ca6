/- This text proves the walks of with and Files of the reference and of Files of the package, and that both give the same list. Conditions: those that each theorem names. -/
import Derived.Test.YtjnfllcbkkcfiaaFidsI
import Derived.Test.YtjnfllcbkkcfiaaFidsS
namespace Go.Proofs.Ytjnfllcbkkcfiaa
open Go.ChangeShapes Go.WideShapes Go.ChangeAt Go.RowKit
set_option linter.unusedVariables false
set_option linter.unusedSimpArgs false

theorem iInfo : ∃ i0 : TypeInfo, Try.prog.info? 3 = some i0 ∧ i0.zero = some (.int .i64 0) ∧ i0.size = 1 ∧ i0.bytes = 8 := by
  have h : (Try.prog.info? 3).map (fun i => (i.zero, i.size, i.bytes)) = some (some (.int .i64 0), 1, 8) := by kernel_rfl
  cases hi : Try.prog.info? 3 with
  | none => rw [hi] at h; cases h
  | some i0 =>
    rw [hi] at h
    simp only [Option.map_some, Option.some.injEq, Prod.mk.injEq] at h
    exact ⟨i0, rfl, h.1, h.2.1, h.2.2⟩

/-- The place of a number in an ascending list, and the list with the number. -/
def plI (x : Int) (xs : List Int) : Nat := posE (fun y : Int => y - x) xs
def withI (x : Int) (xs : List Int) : List Int := if plI x xs < xs.length ∧ xs[plI x xs]! = x then xs else xs.take (plI x xs) ++ x :: xs.drop (plI x xs)
theorem plI_le (x : Int) (xs : List Int) : plI x xs ≤ xs.length := posE_le _ _
theorem plI_lt (x : Int) (xs : List Int) (j : Nat) (h : j < plI x xs) : xs[j]! < x := by have : xs[j]! - x < 0 := posE_lt (fun y : Int => y - x) xs j h; omega
theorem ascI_get {xs : List Int} (h : xs.Pairwise (· < ·)) {i j : Nat} (hij : i < j) (hj : j < xs.length) : xs[i]! < xs[j]! := by
  rw [getElem!_pos xs i (by omega), getElem!_pos xs j hj]
  exact List.pairwise_iff_getElem.1 h i j (by omega) hj hij
theorem plI_ge (x : Int) (xs : List Int) (hs : xs.Pairwise (· < ·)) (j : Nat) (h : plI x xs ≤ j) (hj : j < xs.length) : ¬ xs[j]! < x := by
  have h1 : ¬ xs[plI x xs]! - x < 0 := posE_not (fun y : Int => y - x) xs (show plI x xs < xs.length by omega)
  by_cases e : plI x xs = j
  · rw [e] at h1; omega
  · have := ascI_get hs (show plI x xs < j by omega) hj
    omega
theorem with_mem (x : Int) (xs : List Int) (z : Int) : z ∈ withI x xs ↔ z = x ∨ z ∈ xs := by
  unfold withI
  split
  · rename_i h
    constructor
    · exact fun hz => .inr hz
    · rintro (rfl | hz)
      · rw [← h.2, getElem!_pos xs _ h.1]; exact List.getElem_mem _
      · exact hz
  · have e : z ∈ xs ↔ z ∈ xs.take (plI x xs) ∨ z ∈ xs.drop (plI x xs) := by rw [← List.mem_append, List.take_append_drop]
    rw [e, List.mem_append, List.mem_cons]
    exact ⟨fun h => by rcases h with h | h | h <;> simp [h], fun h => by rcases h with h | h | h <;> simp [h]⟩
theorem with_asc (x : Int) (xs : List Int) (hs : xs.Pairwise (· < ·)) : (withI x xs).Pairwise (· < ·) := by
  unfold withI
  split
  · exact hs
  · rename_i hn
    have h1 : ∀ a ∈ xs.take (plI x xs), a < x := fun a ha => by
      obtain ⟨j, hj, rfl⟩ := List.getElem_of_mem ha
      simp only [List.length_take] at hj
      have := plI_lt x xs j (by omega)
      rw [getElem!_pos xs j (by omega)] at this
      rw [List.getElem_take]; exact this
    have h2 : ∀ a ∈ xs.drop (plI x xs), x < a := fun a ha => by
      obtain ⟨j, hj, rfl⟩ := List.getElem_of_mem ha
      simp only [List.length_drop] at hj
      have h3 := plI_ge x xs hs (plI x xs + j) (by omega) (by omega)
      have h4 : xs[plI x xs + j]! ≠ x := fun e => by
        by_cases hz : j = 0
        · subst hz; exact hn ⟨by omega, by simpa using e⟩
        · have := ascI_get hs (show plI x xs < plI x xs + j by omega) (by omega)
          have h5 := plI_ge x xs hs (plI x xs) (Nat.le_refl _) (by omega)
          omega
      rw [List.getElem_drop]
      rw [getElem!_pos xs _ (by omega)] at h3 h4
      omega
    rw [List.pairwise_append]
    refine ⟨hs.sublist (List.take_sublist _ _), ?_, fun a ha b hb => ?_⟩
    · rw [List.pairwise_cons]
      exact ⟨h2, hs.sublist (List.drop_sublist _ _)⟩
    · rcases List.mem_cons.1 hb with rfl | hb
      · exact h1 a ha
      · have := h1 a ha; have := h2 b hb; omega
theorem with_len (x : Int) (xs : List Int) : (withI x xs).length ≤ xs.length + 1 := by
  unfold withI
  split
  · omega
  · have := plI_le x xs
    simp; omega
/-- Two ascending lists with the same members are the same. -/
theorem asc_ext : ∀ (xs ys : List Int), xs.Pairwise (· < ·) → ys.Pairwise (· < ·) → (∀ z, z ∈ xs ↔ z ∈ ys) → xs = ys
  | [], [], _, _, _ => rfl
  | [], y :: ys, _, _, h => by have := (h y).2 (by simp); cases this
  | x :: xs, [], _, _, h => by have := (h x).1 (by simp); cases this
  | x :: xs, y :: ys, hx, hy, h => by
    rw [List.pairwise_cons] at hx hy
    have e : x = y := by
      rcases List.mem_cons.1 ((h x).1 (by simp)) with e | e
      · exact e
      · rcases List.mem_cons.1 ((h y).2 (by simp)) with e2 | e2
        · exact e2.symm
        · have := hy.1 _ e; have := hx.1 _ e2; omega
    subst e
    rw [asc_ext xs ys hx.2 hy.2 (fun z => by
      have := h z
      constructor
      · intro hz
        rcases List.mem_cons.1 (this.1 (by simp [hz])) with e | e
        · subst e; have := hx.1 _ hz; omega
        · exact e
      · intro hz
        rcases List.mem_cons.1 (this.2 (by simp [hz])) with e | e
        · subst e; have := hy.1 _ hz; omega
        · exact e)]

set_option maxRecDepth 100000 in
set_option maxHeartbeats 8000000 in
theorem with_calls (x : Int) (ao : Option Addr) (n cap : Nat) (xs : List Int) (w : World) (h : Sl w 1 ao n cap (xs.map iEnc)) (hn : n ≤ 1000) (hs : xs.Pairwise (· < ·)) :
    Calls Try.prog 34 #[.slice ao n cap, .int .i64 x] w fun e w' => ∃ ao2 cap2, e = .returned (.slice ao2 (withI x xs).length cap2) ∧ w'.ownsRow w.heap.size 3 1 (.slice ao2 (withI x xs).length cap2) (withI x xs).length (flatE iEnc (withI x xs)) ∧ Below w.heap.size w w' := by
  have HL : Aside (xs.length = n) := Sl.lenE h
  obtain ⟨i0, hi0, hz0, hs0, hb0⟩ := iInfo
  have HC : Aside (CellsI w ao xs) := cellsI h
  have HP1 : Aside (∀ j, j < plI x xs → xs[j]! < x) := plI_lt x xs
  have HP2 : Aside (∀ j, plI x xs ≤ j → j < xs.length → ¬ xs[j]! < x) := plI_ge x xs hs
  have HSO : Aside (xs.Pairwise (· < ·)) := hs
  have hple := plI_le x xs
  have ER : Aside (withI x xs = if plI x xs < xs.length ∧ xs[plI x xs]! = x then xs else xs.take (plI x xs) ++ x :: xs.drop (plI x xs)) := rfl
  generalize withI x xs = r at ER ⊢
  clear h hs
  by_cases hf : plI x xs < xs.length ∧ xs[plI x xs]! = x
  · have er : r = xs := by rw [ER.out, if_pos hf]
    subst er
    have HN : Aside (∀ j, j < r.length → (r[j]! = x ↔ j = plI x r) ∧ ¬ (x < r[j]! ∧ j ≤ plI x r)) := fun j hj => by
      have h1 : j < plI x r → r[j]! < x := HP1.out j
      have h2 : plI x r < j → x < r[j]! := fun h => by have := ascI_get HSO.out h hj; omega
      have h3 : j = plI x r → r[j]! = x := fun e => by rw [e]; exact hf.2
      omega
    have hfl := hf.1
    clear hf ER HP1 HP2 HSO
    generalize plI x r = p at *
    obtain ⟨xs, hxs⟩ : ∃ xs, xs = r := ⟨_, rfl⟩
    subst hxs
    go_enter Try.func34, Try.ntmps34
    go_wp2
    go_loopg [5, 6, 7] n (fun k s5 s6 s7 wr => ∃ (idx : Nat) (ao' : Option Addr) (cap' : Nat) (l : List Int) (dn : Bool), s7 = .int .i64 (idx : Int) ∧ s5 = .slice ao' l.length cap' ∧ s6 = .bool dn ∧ k + idx = n ∧ l.length ≤ idx ∧ Aside (xs.take idx = l ∧ dn = decide (p < idx)) ∧ Aside (Below w.heap.size w wr ∧ wr.ownsRow w.heap.size 3 1 (.slice ao' l.length cap') l.length (flatE iEnc l)))
    case atStart => exact ⟨0, none, 0, [], false, rfl, rfl, rfl, by omega, by simp, (show _ ∧ _ from ⟨by simp, by simp⟩), ⟨Below.refl _ _, World.ownsRow_nil _ _ _ _⟩⟩
    case round =>
      obtain ⟨idx, ao', cap', l, dn, rfl, rfl, rfl, hk, hll, A, ST⟩ := hrel
      by_cases hi : idx < n
      · have hiz : (idx : Int) < (n : Int) := by omega
        have ML : Aside (xs.take (idx + 1) = l ++ [xs[idx]!]) := by
          show _ = _
          have hlt : idx < xs.length := by have := HL.out; omega
          rw [← A.out.1, List.take_add_one, List.getElem?_eq_getElem hlt, getElem!_pos xs idx hlt]; rfl
        have N1 := HN.out idx (by have := HL.out; omega)
        have DN : Aside (dn = decide (p < idx)) := A.out.2
        obtain ⟨b, off, rfl, hby, l0⟩ := HC.out idx (by have := HL.out; omega)
        generalize xs[idx]! = y at l0 ML N1
        have YC : Aside (_ = _) := l0
        have N2 : Aside (_ ∧ _) := N1
        clear l0 HC A HN N1
        rcases Nat.lt_trichotomy idx p with hp | hp | hp
        · have hg : (y == x) = false := by have := N2.out.1; simp; omega
          have hh : ¬ x < y := by have := N2.out.2; omega
          have ed : dn = false := by rw [DN.out]; exact decide_eq_false (by omega)
          subst ed
          have A2 : Aside (xs.take (idx + 1) = l ++ [(y : Int)] ∧ false = decide (p < idx + 1)) := ⟨ML.out, (decide_eq_false (by omega)).symm⟩
          clear ML N2 DN
          have hsw := ST.out.1.size
          have hbry : b < wr.heap.size := Nat.lt_of_lt_of_le hby hsw
          try simp [size_plus] at hsw
          have l0 := (ST.out.1.cell (p := ⟨b, off + idx, none⟩) hby).trans YC.out
          have hown := ST.out.2
          go_wp2_with (at_builtin; refine wpList_append_own _ rfl _ _ 37 rfl w.heap.size 3 i0 _ 1 8 Try.underlying37 hi0 hz0 hs0 hb0 rfl (by omega) _ _ _ rfl (hown.alloc _) ⟨wr.heap.size, 0, none⟩ 1 1 [.int .i64 y] rfl rfl (cells_new _ _ _ _ rfl) (i_one y) (by unfold maxLen; omega) (by omega) (by first | (simp; omega) | (simp [size_plus]; omega)) ?_)
          intro v' w9 hown' hgrow _
          obtain ⟨ao9, cap9, rfl, hb9, ho9⟩ := app_stateB (U1 := w) rfl i_len (by omega) (y := y) (ST.out.1.alloc ST.out.1.size _) (hown.alloc _) hown' hgrow
          have ST9 : Aside (Below w.heap.size w w9 ∧ w9.ownsRow w.heap.size 3 1 (.slice ao9 (l.length + 1) cap9) (l.length + 1) (flatE iEnc (l ++ [(y : Int)]))) := ⟨hb9, ho9⟩
          clear hown' hgrow hb9 ho9 hown
          clear l0
          go_wp2
          go_roundg (gk - 1)
          case measure => omega
          case rel => exact ⟨idx + 1, ao9, cap9, l ++ [(y : Int)], false, by simp, by simp, rfl, by omega, by simp; omega, A2, by first | exact ST9 | simpa using ST9⟩
        · have hg : (y == x) = true := by have := N2.out.1; simp; omega
          have hh : ¬ x < y := by have := N2.out.2; omega
          have ed : dn = false := by rw [DN.out]; exact decide_eq_false (by omega)
          subst ed
          have A2 : Aside (xs.take (idx + 1) = l ++ [(y : Int)] ∧ true = decide (p < idx + 1)) := ⟨ML.out, (decide_eq_true (by omega)).symm⟩
          clear ML N2 DN hp
          have hsw := ST.out.1.size
          have hbry : b < wr.heap.size := Nat.lt_of_lt_of_le hby hsw
          try simp [size_plus] at hsw
          have l0 := (ST.out.1.cell (p := ⟨b, off + idx, none⟩) hby).trans YC.out
          have hown := ST.out.2
          go_wp2_with (at_builtin; refine wpList_append_own _ rfl _ _ 37 rfl w.heap.size 3 i0 _ 1 8 Try.underlying37 hi0 hz0 hs0 hb0 rfl (by omega) _ _ _ rfl (hown.alloc _) ⟨wr.heap.size, 0, none⟩ 1 1 [.int .i64 y] rfl rfl (cells_new _ _ _ _ rfl) (i_one y) (by unfold maxLen; omega) (by omega) (by first | (simp; omega) | (simp [size_plus]; omega)) ?_)
          intro v' w9 hown' hgrow _
          obtain ⟨ao9, cap9, rfl, hb9, ho9⟩ := app_stateB (U1 := w) rfl i_len (by omega) (y := y) (ST.out.1.alloc ST.out.1.size _) (hown.alloc _) hown' hgrow
          have ST9 : Aside (Below w.heap.size w w9 ∧ w9.ownsRow w.heap.size 3 1 (.slice ao9 (l.length + 1) cap9) (l.length + 1) (flatE iEnc (l ++ [(y : Int)]))) := ⟨hb9, ho9⟩
          clear hown' hgrow hb9 ho9 hown
          clear l0
          go_wp2
          go_roundg (gk - 1)
          case measure => omega
          case rel => exact ⟨idx + 1, ao9, cap9, l ++ [(y : Int)], true, by simp, by simp, rfl, by omega, by simp; omega, A2, by first | exact ST9 | simpa using ST9⟩
        · have hg : (y == x) = false := by have := N2.out.1; simp; omega
          have ed : dn = true := by rw [DN.out]; exact decide_eq_true (by omega)
          subst ed
          have A2 : Aside (xs.take (idx + 1) = l ++ [(y : Int)] ∧ true = decide (p < idx + 1)) := ⟨ML.out, (decide_eq_true (by omega)).symm⟩
          clear ML N2 DN
          by_cases hh : x < y
          · skip
            have hsw := ST.out.1.size
            have hbry : b < wr.heap.size := Nat.lt_of_lt_of_le hby hsw
            try simp [size_plus] at hsw
            have l0 := (ST.out.1.cell (p := ⟨b, off + idx, none⟩) hby).trans YC.out
            have hown := ST.out.2
            go_wp2_with (at_builtin; refine wpList_append_own _ rfl _ _ 37 rfl w.heap.size 3 i0 _ 1 8 Try.underlying37 hi0 hz0 hs0 hb0 rfl (by omega) _ _ _ rfl (hown.alloc _) ⟨wr.heap.size, 0, none⟩ 1 1 [.int .i64 y] rfl rfl (cells_new _ _ _ _ rfl) (i_one y) (by unfold maxLen; omega) (by omega) (by first | (simp; omega) | (simp [size_plus]; omega)) ?_)
            intro v' w9 hown' hgrow _
            obtain ⟨ao9, cap9, rfl, hb9, ho9⟩ := app_stateB (U1 := w) rfl i_len (by omega) (y := y) (ST.out.1.alloc ST.out.1.size _) (hown.alloc _) hown' hgrow
            have ST9 : Aside (Below w.heap.size w w9 ∧ w9.ownsRow w.heap.size 3 1 (.slice ao9 (l.length + 1) cap9) (l.length + 1) (flatE iEnc (l ++ [(y : Int)]))) := ⟨hb9, ho9⟩
            clear hown' hgrow hb9 ho9 hown
            clear l0
            go_wp2
            go_roundg (gk - 1)
            case measure => omega
            case rel => exact ⟨idx + 1, ao9, cap9, l ++ [(y : Int)], true, by simp, by simp, rfl, by omega, by simp; omega, A2, by first | exact ST9 | simpa using ST9⟩
          · skip
            have hsw := ST.out.1.size
            have hbry : b < wr.heap.size := Nat.lt_of_lt_of_le hby hsw
            try simp [size_plus] at hsw
            have l0 := (ST.out.1.cell (p := ⟨b, off + idx, none⟩) hby).trans YC.out
            have hown := ST.out.2
            go_wp2_with (at_builtin; refine wpList_append_own _ rfl _ _ 37 rfl w.heap.size 3 i0 _ 1 8 Try.underlying37 hi0 hz0 hs0 hb0 rfl (by omega) _ _ _ rfl (hown.alloc _) ⟨wr.heap.size, 0, none⟩ 1 1 [.int .i64 y] rfl rfl (cells_new _ _ _ _ rfl) (i_one y) (by unfold maxLen; omega) (by omega) (by first | (simp; omega) | (simp [size_plus]; omega)) ?_)
            intro v' w9 hown' hgrow _
            obtain ⟨ao9, cap9, rfl, hb9, ho9⟩ := app_stateB (U1 := w) rfl i_len (by omega) (y := y) (ST.out.1.alloc ST.out.1.size _) (hown.alloc _) hown' hgrow
            have ST9 : Aside (Below w.heap.size w w9 ∧ w9.ownsRow w.heap.size 3 1 (.slice ao9 (l.length + 1) cap9) (l.length + 1) (flatE iEnc (l ++ [(y : Int)]))) := ⟨hb9, ho9⟩
            clear hown' hgrow hb9 ho9 hown
            clear l0
            go_wp2
            go_roundg (gk - 1)
            case measure => omega
            case rel => exact ⟨idx + 1, ao9, cap9, l ++ [(y : Int)], true, by simp, by simp, rfl, by omega, by simp; omega, A2, by first | exact ST9 | simpa using ST9⟩
      · have hiz : ¬ (idx : Int) < (n : Int) := by omega
        have ed : dn = true := by rw [A.out.2]; exact decide_eq_true (by have := HL.out; omega)
        have el : l = xs := by rw [← A.out.1, List.take_of_length_le (by have := HL.out; omega)]
        subst ed
        subst el
        clear A HC HN
        go_wp2
        go_ret
        exact ⟨ao', cap', rfl, ST.out.2, ST.out.1⟩
  · have HN : Aside (∀ j, j < xs.length → (j < plI x xs → xs[j]! < x) ∧ (plI x xs ≤ j → x < xs[j]!)) := fun j hj => by
      refine ⟨HP1.out j, fun h => ?_⟩
      have h1 := HP2.out j h hj
      rcases Nat.lt_or_eq_of_le h with h2 | h2
      · have := ascI_get HSO.out h2 hj
        have := HP2.out _ (Nat.le_refl _) (by omega)
        omega
      · have h3 : ¬ xs[j]! = x := fun e => hf ⟨by omega, by rw [h2]; exact e⟩
        omega
    have er : r = xs.take (plI x xs) ++ x :: xs.drop (plI x xs) := by rw [ER.out, if_neg hf]
    have ER2 : Aside (r = xs.take (plI x xs) ++ x :: xs.drop (plI x xs)) := er
    clear hf ER er HP1 HP2 HSO
    generalize plI x xs = p at *
    go_enter Try.func34, Try.ntmps34
    go_wp2
    go_loopg [5, 6, 7] n (fun k s5 s6 s7 wr => ∃ (idx : Nat) (ao' : Option Addr) (cap' : Nat) (l : List Int) (dn : Bool), s7 = .int .i64 (idx : Int) ∧ s5 = .slice ao' l.length cap' ∧ s6 = .bool dn ∧ k + idx = n ∧ l.length ≤ idx + 1 ∧ Aside (dn = false → l.length ≤ idx) ∧ Aside (midL x xs p idx = l ∧ dn = decide (p < idx)) ∧ Aside (Below w.heap.size w wr ∧ wr.ownsRow w.heap.size 3 1 (.slice ao' l.length cap') l.length (flatE iEnc l)))
    case atStart => exact ⟨0, none, 0, [], false, rfl, rfl, rfl, by omega, by simp, (fun _ => by simp), (show _ ∧ _ from ⟨by simp [midL], by simp⟩), ⟨Below.refl _ _, World.ownsRow_nil _ _ _ _⟩⟩
    case round =>
      obtain ⟨idx, ao', cap', l, dn, rfl, rfl, rfl, hk, hll, HL0, A, ST⟩ := hrel
      by_cases hi : idx < n
      · have hiz : (idx : Int) < (n : Int) := by omega
        have ML : Aside (idx < p → midL x xs p (idx + 1) = l ++ [xs[idx]!]) := fun hh => by rw [← A.out.1]; exact mid_lt _ xs p idx hh (by have := HL.out; omega)
        have MG : Aside (p < idx → midL x xs p (idx + 1) = l ++ [xs[idx]!]) := fun hh => by rw [← A.out.1]; exact mid_gt _ xs p idx hh (by have := HL.out; omega)
        have ME : Aside (idx = p → midL x xs p (idx + 1) = l ++ [x] ++ [xs[idx]!]) := fun hh => by rw [← A.out.1]; subst hh; exact mid_eq _ xs idx (by have := HL.out; omega)
        have N1 := HN.out idx (by have := HL.out; omega)
        have DN : Aside (dn = decide (p < idx)) := A.out.2
        obtain ⟨b, off, rfl, hby, l0⟩ := HC.out idx (by have := HL.out; omega)
        generalize xs[idx]! = y at l0 ML MG ME N1
        have YC : Aside (_ = _) := l0
        have N2 : Aside (_ ∧ _) := N1
        clear l0 HC A HN N1
        rcases Nat.lt_trichotomy idx p with hp | hp | hp
        · have hy : y < x := N2.out.1 hp
          have hg : (y == x) = false := by simp; omega
          have hh : ¬ x < y := by omega
          have ed : dn = false := by rw [DN.out]; exact decide_eq_false (by omega)
          subst ed
          have A2 : Aside (midL x xs p (idx + 1) = l ++ [(y : Int)] ∧ false = decide (p < idx + 1)) := ⟨ML.out hp, (decide_eq_false (by omega)).symm⟩
          have hll2 : l.length ≤ idx := HL0.out rfl
          clear ML MG ME N2 DN HL0
          have hsw := ST.out.1.size
          have hbry : b < wr.heap.size := Nat.lt_of_lt_of_le hby hsw
          try simp [size_plus] at hsw
          have l0 := (ST.out.1.cell (p := ⟨b, off + idx, none⟩) hby).trans YC.out
          have hown := ST.out.2
          go_wp2_with (at_builtin; refine wpList_append_own _ rfl _ _ 37 rfl w.heap.size 3 i0 _ 1 8 Try.underlying37 hi0 hz0 hs0 hb0 rfl (by omega) _ _ _ rfl (hown.alloc _) ⟨wr.heap.size, 0, none⟩ 1 1 [.int .i64 y] rfl rfl (cells_new _ _ _ _ rfl) (i_one y) (by unfold maxLen; omega) (by omega) (by first | (simp; omega) | (simp [size_plus]; omega)) ?_)
          intro v' w9 hown' hgrow _
          obtain ⟨ao9, cap9, rfl, hb9, ho9⟩ := app_stateB (U1 := w) rfl i_len (by omega) (y := y) (ST.out.1.alloc ST.out.1.size _) (hown.alloc _) hown' hgrow
          have ST9 : Aside (Below w.heap.size w w9 ∧ w9.ownsRow w.heap.size 3 1 (.slice ao9 (l.length + 1) cap9) (l.length + 1) (flatE iEnc (l ++ [(y : Int)]))) := ⟨hb9, ho9⟩
          clear hown' hgrow hb9 ho9 hown
          clear l0
          go_wp2
          go_roundg (gk - 1)
          case measure => omega
          case rel => exact ⟨idx + 1, ao9, cap9, l ++ [(y : Int)], false, by simp, by simp, rfl, by omega, by simp; omega, (fun _ => by simp; omega), A2, by first | exact ST9 | simpa using ST9⟩
        · have hh : x < y := N2.out.2 (by omega)
          have hg : (y == x) = false := by simp; omega
          have ed : dn = false := by rw [DN.out]; exact decide_eq_false (by omega)
          subst ed
          have A2 : Aside (midL x xs p (idx + 1) = l ++ [(x : Int)] ++ [(y : Int)] ∧ true = decide (p < idx + 1)) := ⟨ME.out hp, (decide_eq_true (by omega)).symm⟩
          have hll2 : l.length ≤ idx := HL0.out rfl
          clear ML MG ME N2 DN hp HL0
          have hsw := ST.out.1.size
          have hbry : b < wr.heap.size := Nat.lt_of_lt_of_le hby hsw
          try simp [size_plus] at hsw
          have l0 := (ST.out.1.cell (p := ⟨b, off + idx, none⟩) hby).trans YC.out
          have hown := ST.out.2
          go_wp2_with (at_builtin; refine wpList_append_own _ rfl _ _ 37 rfl w.heap.size 3 i0 _ 1 8 Try.underlying37 hi0 hz0 hs0 hb0 rfl (by omega) _ _ _ rfl (hown.alloc _) ⟨wr.heap.size, 0, none⟩ 1 1 [.int .i64 x] rfl rfl (cells_new _ _ _ _ rfl) (i_one x) (by unfold maxLen; omega) (by omega) (by first | (simp; omega) | (simp [size_plus]; omega)) ?_)
          intro v' w9 hown' hgrow _
          obtain ⟨ao9, cap9, rfl, hb9, ho9⟩ := app_stateB (U1 := w) rfl i_len (by omega) (y := x) (ST.out.1.alloc ST.out.1.size _) (hown.alloc _) hown' hgrow
          have ST9 : Aside (Below w.heap.size w w9 ∧ w9.ownsRow w.heap.size 3 1 (.slice ao9 (l.length + 1) cap9) (l.length + 1) (flatE iEnc (l ++ [(x : Int)]))) := ⟨hb9, ho9⟩
          clear hown' hgrow hb9 ho9 hown
          clear l0
          clear hsw hbry
          have hsw := ST9.out.1.size
          have hbry : b < w9.heap.size := Nat.lt_of_lt_of_le hby hsw
          try simp [size_plus] at hsw
          have l0 := (ST9.out.1.cell (p := ⟨b, off + idx, none⟩) hby).trans YC.out
          have hown := ST9.out.2
          go_wp2_with (at_builtin; refine wpList_append_own _ rfl _ _ 37 rfl w.heap.size 3 i0 _ 1 8 Try.underlying37 hi0 hz0 hs0 hb0 rfl (by omega) _ _ _ rfl (hown.alloc _) ⟨w9.heap.size, 0, none⟩ 1 1 [.int .i64 y] rfl rfl (cells_new _ _ _ _ rfl) (i_one y) (by unfold maxLen; omega) (by omega) (by first | (simp; omega) | (simp [size_plus]; omega)) ?_)
          intro v' w10 hown' hgrow _
          obtain ⟨ao10, cap10, rfl, hb10, ho10⟩ := app_stateB (U1 := w) rfl i_len (by omega) (y := y) (ST9.out.1.alloc ST9.out.1.size _) (hown.alloc _) hown' hgrow
          have ST10 : Aside (Below w.heap.size w w10 ∧ w10.ownsRow w.heap.size 3 1 (.slice ao10 (l.length + 1 + 1) cap10) (l.length + 1 + 1) (flatE iEnc (l ++ [(x : Int)] ++ [(y : Int)]))) := ⟨hb10, ho10⟩
          clear hown' hgrow hb10 ho10 hown
          clear l0
          go_wp2
          go_roundg (gk - 1)
          case measure => omega
          case rel => exact ⟨idx + 1, ao10, cap10, l ++ [(x : Int)] ++ [(y : Int)], true, by simp, by simp, rfl, by omega, by simp; omega, (fun h => by cases h), A2, by first | exact ST10 | simpa using ST10⟩
        · have hh : x < y := N2.out.2 (by omega)
          have hg : (y == x) = false := by simp; omega
          have ed : dn = true := by rw [DN.out]; exact decide_eq_true (by omega)
          subst ed
          have A2 : Aside (midL x xs p (idx + 1) = l ++ [(y : Int)] ∧ true = decide (p < idx + 1)) := ⟨MG.out hp, (decide_eq_true (by omega)).symm⟩
          clear ML MG ME N2 DN HL0
          have hsw := ST.out.1.size
          have hbry : b < wr.heap.size := Nat.lt_of_lt_of_le hby hsw
          try simp [size_plus] at hsw
          have l0 := (ST.out.1.cell (p := ⟨b, off + idx, none⟩) hby).trans YC.out
          have hown := ST.out.2
          go_wp2_with (at_builtin; refine wpList_append_own _ rfl _ _ 37 rfl w.heap.size 3 i0 _ 1 8 Try.underlying37 hi0 hz0 hs0 hb0 rfl (by omega) _ _ _ rfl (hown.alloc _) ⟨wr.heap.size, 0, none⟩ 1 1 [.int .i64 y] rfl rfl (cells_new _ _ _ _ rfl) (i_one y) (by unfold maxLen; omega) (by omega) (by first | (simp; omega) | (simp [size_plus]; omega)) ?_)
          intro v' w9 hown' hgrow _
          obtain ⟨ao9, cap9, rfl, hb9, ho9⟩ := app_stateB (U1 := w) rfl i_len (by omega) (y := y) (ST.out.1.alloc ST.out.1.size _) (hown.alloc _) hown' hgrow
          have ST9 : Aside (Below w.heap.size w w9 ∧ w9.ownsRow w.heap.size 3 1 (.slice ao9 (l.length + 1) cap9) (l.length + 1) (flatE iEnc (l ++ [(y : Int)]))) := ⟨hb9, ho9⟩
          clear hown' hgrow hb9 ho9 hown
          clear l0
          go_wp2
          go_roundg (gk - 1)
          case measure => omega
          case rel => exact ⟨idx + 1, ao9, cap9, l ++ [(y : Int)], true, by simp, by simp, rfl, by omega, by simp; omega, (fun h => by cases h), A2, by first | exact ST9 | simpa using ST9⟩
      · have hiz : ¬ (idx : Int) < (n : Int) := by omega
        have hin : idx = xs.length := by have := HL.out; omega
        by_cases hp : p < xs.length
        · have ed : dn = true := by rw [A.out.2]; exact decide_eq_true (by omega)
          have el : l = r := by rw [ER2.out, ← A.out.1, hin, mid_end_lt _ _ _ hp]
          subst ed
          subst el
          clear A HC HN ER2
          go_wp2
          go_ret
          exact ⟨ao', cap', rfl, ST.out.2, ST.out.1⟩
        · have ed : dn = false := by rw [A.out.2]; exact decide_eq_false (by omega)
          have el : l ++ [(x : Int)] = r := by rw [ER2.out, ← A.out.1, hin, mid_end_eq _ _ _ (by omega)]
          subst ed
          subst el
          clear A HC HN ER2
          have hsw := ST.out.1.size
          try simp [size_plus] at hsw
          have hown := ST.out.2
          go_wp2_with (at_builtin; refine wpList_append_own _ rfl _ _ 37 rfl w.heap.size 3 i0 _ 1 8 Try.underlying37 hi0 hz0 hs0 hb0 rfl (by omega) _ _ _ rfl (hown.alloc _) ⟨wr.heap.size, 0, none⟩ 1 1 [.int .i64 x] rfl rfl (cells_new _ _ _ _ rfl) (i_one x) (by unfold maxLen; omega) (by omega) (by first | (simp; omega) | (simp [size_plus]; omega)) ?_)
          intro v' w9 hown' hgrow _
          obtain ⟨ao9, cap9, rfl, hb9, ho9⟩ := app_stateB (U1 := w) rfl i_len (by omega) (y := x) (ST.out.1.alloc ST.out.1.size _) (hown.alloc _) hown' hgrow
          have ST9 : Aside (Below w.heap.size w w9 ∧ w9.ownsRow w.heap.size 3 1 (.slice ao9 (l.length + 1) cap9) (l.length + 1) (flatE iEnc (l ++ [(x : Int)]))) := ⟨hb9, ho9⟩
          clear hown' hgrow hb9 ho9 hown
          go_wp2
          go_ret
          refine ⟨ao9, cap9, ?_, ?_, ST9.out.1⟩
          · rw [List.length_append]; rfl
          · rw [List.length_append]; exact ST9.out.2

/-- The ids of the fids that denote files, in the table's order; the list of the files. -/
def idsF (xs : List Fi) : List Int := (xs.filter (fun y => !y.auth)).map (·.id)
def filesF (xs : List Fi) : List Int := (idsF xs).foldl (fun o z => withI z o) []
theorem ids_skip (xs : List Fi) (i : Nat) (hi : i < xs.length) (h : xs[i]!.auth = true) : idsF (xs.take (i + 1)) = idsF (xs.take i) := by unfold idsF; rw [filt_skipE _ xs i hi (by rw [h]; rfl)]
theorem ids_keep (xs : List Fi) (i : Nat) (hi : i < xs.length) (h : xs[i]!.auth = false) : idsF (xs.take (i + 1)) = idsF (xs.take i) ++ [xs[i]!.id] := by unfold idsF; rw [filt_keepE _ xs i hi (by rw [h]; rfl), List.map_append]; rfl
theorem files_skip (xs : List Fi) (i : Nat) (hi : i < xs.length) (h : xs[i]!.auth = true) : filesF (xs.take (i + 1)) = filesF (xs.take i) := by unfold filesF; rw [ids_skip xs i hi h]
theorem files_keep (xs : List Fi) (i : Nat) (hi : i < xs.length) (h : xs[i]!.auth = false) : filesF (xs.take (i + 1)) = withI xs[i]!.id (filesF (xs.take i)) := by unfold filesF; rw [ids_keep xs i hi h, List.foldl_append]; rfl
theorem ids_le (xs : List Fi) (i : Nat) : (idsF (xs.take i)).length ≤ i := by unfold idsF; rw [List.length_map]; exact Nat.le_trans (List.length_filter_le _ _) (by rw [List.length_take]; omega)
theorem fold_asc : ∀ (l o : List Int), o.Pairwise (· < ·) → (l.foldl (fun o z => withI z o) o).Pairwise (· < ·)
  | [], o, h => h
  | x :: l, o, h => fold_asc l _ (with_asc x o h)
theorem fold_mem : ∀ (l o : List Int) (z : Int), z ∈ l.foldl (fun o z => withI z o) o ↔ z ∈ l ∨ z ∈ o
  | [], o, z => by simp
  | x :: l, o, z => by
    show z ∈ l.foldl _ (withI x o) ↔ _
    rw [fold_mem l (withI x o) z, with_mem, List.mem_cons]
    exact ⟨fun h => by rcases h with h | h | h <;> simp [h], fun h => by rcases h with (h | h) | h <;> simp [h]⟩
theorem fold_len : ∀ (l o : List Int), (l.foldl (fun o z => withI z o) o).length ≤ l.length + o.length
  | [], o => by simp
  | x :: l, o => by
    have h1 := fold_len l (withI x o)
    have h2 := with_len x o
    show (l.foldl _ (withI x o)).length ≤ _
    rw [List.length_cons]; omega
theorem files_asc (xs : List Fi) : (filesF xs).Pairwise (· < ·) := fold_asc _ _ List.Pairwise.nil
theorem files_mem (xs : List Fi) (z : Int) : z ∈ filesF xs ↔ z ∈ idsF xs := by unfold filesF; rw [fold_mem]; simp
theorem files_len (xs : List Fi) (i : Nat) : (filesF (xs.take i)).length ≤ i := by
  have h1 := fold_len (idsF (xs.take i)) []
  have h2 := ids_le xs i
  unfold filesF
  simp at h1; omega

set_option maxHeartbeats 8000000 in
theorem rfiles_calls (ao : Option Addr) (n cap : Nat) (xs : List Fi) (w : World) (h : Sl w 7 ao n cap (xs.map Fi.enc)) (hn : n ≤ 1000) :
    Calls Try.prog 24 #[.slice ao n cap] w fun e w' => ∃ ao2 cap2, e = .returned (.slice ao2 (filesF xs).length cap2) ∧ Sl w' 1 ao2 (filesF xs).length cap2 ((filesF xs).map iEnc) ∧ Below w.heap.size w w' := by
  have hbig : n ≤ 9223372036854775807 := Nat.le_trans h.hcap h.hmax
  have HL : Aside (xs.length = n) := Sl.lenE h
  have HC : Aside (CellsFi w ao xs) := cellsFi h
  clear h
  go_enter Try.func24, Try.ntmps24
  go_wp2
  go_loopg [3, 4] n (fun k s3 s4 wr => ∃ (idx : Nat) (ao' : Option Addr) (cap' : Nat) (l : List Int), s4 = .int .i64 (idx : Int) ∧ s3 = .slice ao' l.length cap' ∧ k + idx = n ∧ Aside (Below w.heap.size w wr ∧ Sl wr 1 ao' l.length cap' (l.map iEnc)) ∧ Aside (filesF (xs.take idx) = l))
  case atStart => exact ⟨0, none, 0, [], rfl, rfl, by omega, (show _ ∧ _ from ⟨Below.refl _ _, ⟨rfl, Nat.le_refl _, by omega, by simp, fun h => absurd h (Nat.lt_irrefl _), fun _ => rfl⟩⟩), rfl⟩
  case round =>
    obtain ⟨idx, ao', cap', l, rfl, rfl, hk, ST, A⟩ := hrel
    by_cases hi : idx < n
    · have hiz : (idx : Int) < (n : Int) := by omega
      have SK : Aside (xs[idx]!.auth = true → filesF (xs.take (idx + 1)) = l) := fun hh => by rw [← A.out]; exact files_skip xs idx (by have := HL.out; omega) hh
      have SP : Aside (xs[idx]!.auth = false → filesF (xs.take (idx + 1)) = withI xs[idx]!.id l) := fun hh => by rw [← A.out]; exact files_keep xs idx (by have := HL.out; omega) hh
      have hasc : l.Pairwise (· < ·) := by rw [← A.out]; exact files_asc _
      have hll : l.length ≤ idx := by rw [← A.out]; exact files_len xs idx
      obtain ⟨b, off, rfl, hby, l0, l1, l2, l3, l4, l5, l6⟩ := HC.out idx (by have := HL.out; omega)
      have k1 := (ST.out.1.cell (p := ⟨b, off + idx * 7 + 1, none⟩) hby).trans l1
      have k3 := (ST.out.1.cell (p := ⟨b, off + idx * 7 + 3, none⟩) hby).trans l3
      have hbr : b < wr.heap.size := Nat.lt_of_lt_of_le hby ST.out.1.size
      clear l0 l1 l2 l3 l4 l5 l6 HC A
      generalize xs[idx]! = y at k1 k3 SK SP
      obtain ⟨y1, y2, y3, y4, y5, y6, y7⟩ := y
      simp only [] at k1 k3
      cases y4 with
      | true =>
        have A2 := SK.out rfl
        have A3 : Aside (filesF (xs.take (idx + 1)) = l) := A2
        clear SK SP A2 hasc
        go_wp2
        go_roundg (gk - 1)
        case measure => omega
        case rel => exact ⟨idx + 1, ao', cap', l, by simp, rfl, by omega, ST, A3⟩
      | false =>
        have A2 := SP.out rfl
        have A3 : Aside (filesF (xs.take (idx + 1)) = withI y2 l) := A2
        have cw := with_calls y2 ao' l.length cap' l wr ST.out.2 (by omega) hasc
        clear SK SP A2 hasc
        go_wp2_with fail
        refine cw.mono ?_
        rintro e w2 ⟨ao2, cap2, rfl, ho, hb⟩
        have ST2 : Aside (Below w.heap.size w w2 ∧ Sl w2 1 ao2 (withI y2 l).length cap2 ((withI y2 l).map iEnc)) := ⟨ST.out.1.trans (hb.mono ST.out.1.size), by
          obtain ⟨a9, c9, hv9, hsl9⟩ := ownE_sl i_len (by omega) ho
          cases hv9
          exact hsl9⟩
        generalize withI y2 l = l2 at ST2 A3 ⊢
        clear cw ST ho hb k1 k3
        go_wp2
        go_roundg (gk - 1)
        case measure => omega
        case rel => exact ⟨idx + 1, ao2, cap2, l2, by simp, rfl, by omega, ST2, A3⟩
    · have hiz : ¬ (idx : Int) < (n : Int) := by omega
      have el : l = filesF xs := by rw [← A.out, List.take_of_length_le (by have := HL.out; omega)]
      subst el
      clear A HC
      go_wp2
      go_ret
      exact ⟨ao', cap', rfl, ST.out.2, ST.out.1⟩

end Go.Proofs.Ytjnfllcbkkcfiaa
