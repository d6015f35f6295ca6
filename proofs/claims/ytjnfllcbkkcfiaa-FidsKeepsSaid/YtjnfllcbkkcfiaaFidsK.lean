/- This text proves the walk of Files of package fids. Conditions: those that each theorem names. -/
import Derived.Test.YtjnfllcbkkcfiaaFidsJ
import Derived.Sort.OwnSortedInts
namespace Go.Proofs.Ytjnfllcbkkcfiaa
open Go.ChangeShapes Go.WideShapes Go.ChangeAt Go.RowKit Go.Sort
set_option linter.unusedVariables false
set_option linter.unusedSimpArgs false

theorem own_prefix {w : World} {B : Nat} {E : TypeId} {ao : Option Addr} {n m cap : Nat} {l : List Value} (h : w.ownsRow B E 1 (.slice ao n cap) n l) (hm : m ≤ n) (h0 : 0 < n) : w.ownsRow B E 1 (.slice ao m cap) m (l.take m) := by
  obtain ⟨h1, h2 | ⟨g, cap', cur, h3, h4, h5, h6, h7, h8, h9⟩⟩ := h
  · obtain ⟨_, rfl⟩ := h2; omega
  · cases h3
    refine ⟨by rw [List.length_take, h1]; omega, .inr ⟨g, cap, cur, rfl, h4, h5, by omega, h7, h8, ?_⟩⟩
    rw [← h9, List.take_take]
    congr 1
    omega
/-- What Compact makes of a sorted list. -/
theorem compact_mem (zs : List Int) (z : Int) : z ∈ Lib.compact zs ↔ z ∈ zs := by
  unfold Lib.compact Lib.compactUpTo
  simp only [List.mem_map, List.mem_filter, List.mem_range]
  constructor
  · rintro ⟨j, ⟨hj, _⟩, rfl⟩
    rw [getElem!_pos zs.toArray j (by simpa using hj)]
    simp
  · intro hz
    obtain ⟨j, hj, rfl⟩ := List.getElem_of_mem hz
    have key : ∀ j, j < zs.length → ∃ i, i < zs.length ∧ Lib.keeps zs.toArray i = true ∧ zs.toArray[i]! = zs.toArray[j]! := by
      intro j
      induction j with
      | zero => intro hj; exact ⟨0, hj, by simp [Lib.keeps], rfl⟩
      | succ j ih =>
        intro hj
        by_cases e : zs.toArray[j + 1]! = zs.toArray[j]!
        · obtain ⟨i, h1, h2, h3⟩ := ih (by omega)
          exact ⟨i, h1, h2, by rw [h3, e]⟩
        · exact ⟨j + 1, hj, Lib.keeps_pos e, rfl⟩
    obtain ⟨i, h1, h2, h3⟩ := key j hj
    exact ⟨i, ⟨h1, h2⟩, by rw [h3, getElem!_pos zs.toArray j (by simpa using hj)]; simp⟩
theorem compact_asc (zs : List Int) (hs : zs.Pairwise (· ≤ ·)) : (Lib.compact zs).Pairwise (· < ·) := by
  unfold Lib.compact Lib.compactUpTo
  rw [List.pairwise_map]
  have h1 : ((List.range zs.length).filter (Lib.keeps zs.toArray)).Pairwise (fun i j => i < j) := List.Pairwise.filter _ List.pairwise_lt_range
  refine List.Pairwise.imp_of_mem ?_ h1
  intro i j hi hj hij
  simp only [List.mem_filter, List.mem_range] at hi hj
  have hk := hj.2
  simp only [Lib.keeps, decide_eq_true_eq] at hk
  have hle : ∀ a b, a ≤ b → b < zs.length → zs.toArray[a]! ≤ zs.toArray[b]! := by
    intro a b hab hb
    by_cases e : a = b
    · subst e; exact Int.le_refl _
    · have := List.pairwise_iff_getElem.1 hs a b (by omega) hb (by omega)
      rw [getElem!_pos zs.toArray a (by simp; omega), getElem!_pos zs.toArray b (by simpa using hb)]
      simpa using this
  have a1 := hle i (j - 1) (by omega) (by omega)
  have a2 := hle (j - 1) j (by omega) hj.1
  rcases hk with hk | hk
  · omega
  · omega
theorem compact_le (zs : List Int) : (Lib.compact zs).length ≤ zs.length := by
  unfold Lib.compact Lib.compactUpTo
  rw [List.length_map]
  exact Nat.le_trans (List.length_filter_le _ _) (by simp)
def sortI (zs : List Int) : List Int := zs.mergeSort fun x y => decide (x ≤ y)
theorem sortI_asc (zs : List Int) : (sortI zs).Pairwise (· ≤ ·) := by
  have := List.pairwise_mergeSort (le := fun x y : Int => decide (x ≤ y)) (fun a b c h1 h2 => by simp at *; omega) (fun a b => by simp; omega) zs
  exact this.imp (fun h => by simpa using h)
theorem sortI_len (zs : List Int) : (sortI zs).length = zs.length := List.length_mergeSort _
theorem files_eq (xs : List Fi) : Lib.compact (sortI (idsF xs)) = filesF xs :=
  asc_ext _ _ (compact_asc _ (sortI_asc _)) (files_asc xs) (fun z => by rw [compact_mem, files_mem]; exact List.mem_mergeSort)
theorem flat_iEnc (l : List Int) : flatE iEnc l = l.map (Value.int .i64) := by
  induction l with
  | nil => rfl
  | cons x l ih => rw [flatE_cons, ih]; rfl

set_option maxRecDepth 100000 in
set_option maxHeartbeats 8000000 in
theorem files_calls (ao : Option Addr) (n cap : Nat) (xs : List Fi) (w : World) (h : Sl w 7 ao n cap (xs.map Fi.enc)) (hn : n ≤ 1000) :
    Calls Try.prog 18 #[.slice ao n cap] w fun e w' => ∃ ao2 cap2, e = .returned (.slice ao2 (filesF xs).length cap2) ∧ Sl w' 1 ao2 (filesF xs).length cap2 ((filesF xs).map iEnc) ∧ Below w.heap.size w w' := by
  have hbig : n ≤ 9223372036854775807 := Nat.le_trans h.hcap h.hmax
  have HL : Aside (xs.length = n) := Sl.lenE h
  have HC : Aside (CellsFi w ao xs) := cellsFi h
  obtain ⟨i0, hi0, hz0, hs0, hb0⟩ := iInfo
  have EF0 : Aside (filesF xs = Lib.compact (sortI (idsF xs))) := (files_eq xs).symm
  generalize filesF xs = r at EF0 ⊢
  clear h
  go_enter Try.func18, Try.ntmps18
  go_wp2
  go_loopg [3, 8] n (fun k s3 s8 wr => ∃ (idx : Nat) (ao' : Option Addr) (cap' : Nat) (l : List Int), s8 = .int .i64 (idx : Int) ∧ s3 = .slice ao' l.length cap' ∧ k + idx = n ∧ l.length ≤ idx ∧ Aside (idsF (xs.take idx) = l) ∧ Aside (Below w.heap.size w wr ∧ wr.ownsRow w.heap.size 3 1 (.slice ao' l.length cap') l.length (flatE iEnc l)))
  case atStart => exact ⟨0, none, 0, [], rfl, rfl, by omega, by simp, rfl, ⟨Below.refl _ _, World.ownsRow_nil _ _ _ _⟩⟩
  case round =>
    obtain ⟨idx, ao', cap', l, rfl, rfl, hk, hll, A, ST⟩ := hrel
    by_cases hi : idx < n
    · have hiz : (idx : Int) < (n : Int) := by omega
      have SK : Aside (xs[idx]!.auth = true → idsF (xs.take (idx + 1)) = l) := fun hh => by rw [← A.out]; exact ids_skip xs idx (by have := HL.out; omega) hh
      have SP : Aside (xs[idx]!.auth = false → idsF (xs.take (idx + 1)) = l ++ [xs[idx]!.id]) := fun hh => by rw [← A.out]; exact ids_keep xs idx (by have := HL.out; omega) hh
      obtain ⟨b, off, rfl, hby, q0, q1, q2, q3, q4, q5, q6⟩ := HC.out idx (by have := HL.out; omega)
      have l0 := (ST.out.1.cell (p := ⟨b, off + idx * 7, none⟩) hby).trans q0
      have l1 := (ST.out.1.cell (p := ⟨b, off + idx * 7 + 1, none⟩) hby).trans q1
      have l2 := (ST.out.1.cell (p := ⟨b, off + idx * 7 + 2, none⟩) hby).trans q2
      have l3 := (ST.out.1.cell (p := ⟨b, off + idx * 7 + 3, none⟩) hby).trans q3
      have l4 := (ST.out.1.cell (p := ⟨b, off + idx * 7 + 4, none⟩) hby).trans q4
      have l5 := (ST.out.1.cell (p := ⟨b, off + idx * 7 + 5, none⟩) hby).trans q5
      have l6 := (ST.out.1.cell (p := ⟨b, off + idx * 7 + 6, none⟩) hby).trans q6
      have hbr : b < wr.heap.size := Nat.lt_of_lt_of_le hby ST.out.1.size
      have hsw := ST.out.1.size
      clear q0 q1 q2 q3 q4 q5 q6 HC A
      generalize xs[idx]! = y at l0 l1 l2 l3 l4 l5 l6 SK SP
      obtain ⟨y1, y2, y3, y4, y5, y6, y7⟩ := y
      simp only [] at l0 l1 l2 l3 l4 l5 l6
      have hb2 := ST.out.1.alloc ST.out.1.size (.cells #[.int .i64 y1, .int .i64 y2, .string y3, .bool y4, .bool y5, .int .i64 y6, .int .i64 y7] 24)
      have ho2 : (wr.alloc (.cells #[.int .i64 y1, .int .i64 y2, .string y3, .bool y4, .bool y5, .int .i64 y6, .int .i64 y7] 24)).ownsRow w.heap.size 3 1 (.slice ao' l.length cap') l.length (flatE iEnc l) := own_alloc ST.out.2
      have ST2 : Aside (Below w.heap.size w (wr.alloc (.cells #[.int .i64 y1, .int .i64 y2, .string y3, .bool y4, .bool y5, .int .i64 y6, .int .i64 y7] 24)) ∧ (wr.alloc (.cells #[.int .i64 y1, .int .i64 y2, .string y3, .bool y4, .bool y5, .int .i64 y6, .int .i64 y7] 24)).ownsRow w.heap.size 3 1 (.slice ao' l.length cap') l.length (flatE iEnc l)) := ⟨hb2, ho2⟩
      clear hb2 ho2
      cases y4 with
      | true =>
        have A2 := SK.out rfl
        have A3 : Aside (idsF (xs.take (idx + 1)) = l) := A2
        clear SK SP A2
        go_wp2
        go_roundg (gk - 1)
        case measure => omega
        case rel => exact ⟨idx + 1, ao', cap', l, by simp, rfl, by omega, by omega, A3, ST2⟩
      | false =>
        have A2 := SP.out rfl
        have A3 : Aside (idsF (xs.take (idx + 1)) = l ++ [(y2 : Int)]) := A2
        have hown := ST2.out.2
        clear SK SP A2
        go_wp2_with (at_builtin; refine wpList_append_own _ rfl _ _ 37 rfl w.heap.size 3 i0 _ 1 8 Try.underlying37 hi0 hz0 hs0 hb0 rfl (by omega) _ _ _ rfl (hown.alloc _) ⟨wr.heap.size + 1, 0, none⟩ 1 1 [.int .i64 y2] rfl rfl (cells_new _ _ _ _ (by simp)) (i_one y2) (by unfold maxLen; omega) (by omega) (by first | (simp; omega) | (simp [size_plus]; omega)) ?_)
        intro v' w6 hown' hgrow _
        obtain ⟨ao6, cap6, rfl, hb6, ho6⟩ := app_stateB (U1 := w) rfl i_len (by omega) (y := y2) (ST2.out.1.alloc ST2.out.1.size _) (hown.alloc _) hown' hgrow
        have ST6 : Aside (Below w.heap.size w w6 ∧ w6.ownsRow w.heap.size 3 1 (.slice ao6 (l.length + 1) cap6) (l.length + 1) (flatE iEnc (l ++ [(y2 : Int)]))) := ⟨hb6, ho6⟩
        clear hown' hgrow hb6 ho6 hown
        clear l0 l1 l2 l3 l4 l5 l6
        go_wp2
        go_roundg (gk - 1)
        case measure => omega
        case rel => exact ⟨idx + 1, ao6, cap6, l ++ [(y2 : Int)], by simp, by simp, by omega, by simp; omega, A3, by first | exact ST6 | simpa using ST6⟩
    · have hiz : ¬ (idx : Int) < (n : Int) := by omega
      have el : l = idsF xs := by rw [← A.out, List.take_of_length_le (by have := HL.out; omega)]
      have EF : Aside (r = Lib.compact (sortI l)) := by show _ = _; rw [el]; exact EF0.out
      clear A HC el EF0
      by_cases h0 : l.length = 0
      · have hl0 : l = [] := List.eq_nil_of_length_eq_zero h0
        subst hl0
        have er : r = [] := by rw [EF.out, show sortI [] = [] from by simp [sortI]]; rfl
        subst er
        have HB : Aside (Below w.heap.size w wr) := ST.out.1
        have HSL : Aside (Sl wr 1 ao' 0 cap' (([] : List Int).map iEnc)) := by
          obtain ⟨a9, c9, hv9, hsl9⟩ := ownE_sl i_len (by omega) ST.out.2
          cases hv9
          exact hsl9
        clear ST EF h0
        have cS : ∀ U, Calls Try.prog 32 #[.slice ao' 0 cap'] U fun e w' => e = .returned (.tuple #[]) ∧ w' = U := fun U => sh_slices_Sort_int_none ao' cap' U
        have cC : ∀ U, Calls Try.prog 33 #[.slice ao' 0 cap'] U fun e w' => e = .returned (.slice ao' 0 cap') ∧ w' = U := fun U => sh_slices_Compact_int_empty ao' cap' U
        go_wp2_with fail
        refine (cS _).mono ?_
        rintro e w2 ⟨rfl, rfl⟩
        go_wp2_with fail
        refine (cC _).mono ?_
        rintro e w2 ⟨rfl, rfl⟩
        clear cS cC
        go_wp2
        go_ret
        exact ⟨ao', cap', rfl, HSL.out, HB.out⟩
      · obtain ⟨hl, ⟨hv, _⟩ | ⟨g, cap3, cur, hv, hBg, hh, hnc, hcm, hcs, htk⟩⟩ := ST.out.2
        · injection hv with _ h9 _
          exact absurd h9 h0
        injection hv with e1 _ e3
        subst e1
        subst e3
        have hgs : g < wr.heap.size := (Array.getElem?_eq_some_iff.1 hh).1
        rw [Nat.mul_one] at htk
        rw [flat_iEnc] at htk
        have hH := holds_of_blockI hh htk
        have cS := sh_slices_Sort_int g 0 cap' l wr hH hgs (by omega)
        have HB : Aside (Below w.heap.size w wr) := ST.out.1
        have HX : Aside (wr.heap[g]? = some (.cells cur 3 (0, 0)) ∧ l.length ≤ cap' ∧ cap' ≤ maxLen ∧ cur.size = cap' * 1 ∧ w.heap.size ≤ g) := ⟨hh, hnc, hcm, hcs, hBg⟩
        clear ST hh hcs htk hH hl
        go_wp2_with fail
        refine cS.mono ?_
        rintro e w2 ⟨rfl, k, os, hw2⟩
        have ho2 : w2.ownsRow w.heap.size 3 1 (.slice (some ⟨g, 0, none⟩) l.length cap') l.length ((sortI l).map (Value.int .i64)) := by
          rw [hw2]
          exact ownsRow_sortedI (sortI_len l) HX.out.2.2.2.2 HX.out.1 HX.out.2.1 HX.out.2.2.1 HX.out.2.2.2.1
        have hg2 : wr.grownBy w2 (some g) := by rw [hw2]; exact grownBy_sortedI _
        have hb2 : Below w.heap.size w w2 := HB.out.grown hg2 HB.out.size (fun k hk => by cases hk; exact HX.out.2.2.2.2)
        have HB2 : Aside (Below w.heap.size w w2) := hb2
        clear hw2 hg2 cS HB hb2 HX
        obtain ⟨hl, ⟨hv, _⟩ | ⟨g2, cap4, cur2, hv, hBg2, hh2, hnc2, hcm2, hcs2, htk2⟩⟩ := ho2
        · cases hv
        cases hv
        rw [Nat.mul_one, ← sortI_len l] at htk2
        have hH := holds_of_blockI hh2 htk2
        have cC := sh_slices_Compact_int g 0 cap' (sortI l) w2 hH (by rw [sortI_len]; omega) (by rw [sortI_len]; exact hnc2)
        rw [sortI_len] at cC
        have HX : Aside (w2.heap[g]? = some (.cells cur2 3 (0, 0)) ∧ l.length ≤ cap' ∧ cap' ≤ maxLen ∧ cur2.size = cap' * 1 ∧ w.heap.size ≤ g) := ⟨hh2, hnc2, hcm2, hcs2, hBg2⟩
        have HLE : Aside ((Lib.compact (sortI l)).length ≤ l.length) := by have := compact_le (sortI l); rw [sortI_len] at this; exact this
        have HSLN := sortI_len l
        have HSL2 : Aside (_ = _) := HSLN
        generalize sortI l = m at cC EF HLE HSL2
        generalize Lib.compact m = c at cC EF HLE
        clear hh2 hcs2 htk2 hH hl HSLN
        go_wp2_with fail
        refine cC.mono ?_
        rintro e w3 ⟨rfl, k, hw3⟩
        have ho3 : w3.ownsRow w.heap.size 3 1 (.slice (some ⟨g, 0, none⟩) m.length cap') m.length ((c ++ List.replicate (l.length - c.length) 0).map (Value.int .i64)) := by
          rw [hw3, ← grow_empty (putRow _ _ _ _ _)]
          exact ownsRow_sortedI (by simp; have := HLE.out; have := HSL2.out; omega) HX.out.2.2.2.2 HX.out.1 (by rw [HSL2.out]; exact HX.out.2.1) HX.out.2.2.1 HX.out.2.2.2.1
        have hg3 : w2.grownBy w3 (some g) := by rw [hw3, ← grow_empty (putRow _ _ _ _ _)]; exact grownBy_sortedI _
        have HB3 : Aside (Below w.heap.size w w3) := HB2.out.grown hg3 HB2.out.size (fun k hk => by cases hk; exact HX.out.2.2.2.2)
        have hp := own_prefix (m := c.length) ho3 (by rw [HSL2.out]; exact HLE.out) (by rw [HSL2.out]; omega)
        rw [← List.map_take, List.take_left, ← flat_iEnc] at hp
        have HP : Aside (w3.ownsRow w.heap.size 3 1 (.slice (some ⟨g, 0, none⟩) c.length cap') c.length (flatE iEnc c)) := hp
        have e1 := EF.out
        subst e1
        clear hw3 hg3 cC HB2 HX ho3 hp EF
        go_wp2
        go_ret
        refine ⟨_, _, rfl, ?_, HB3.out⟩
        obtain ⟨a9, c9, hv9, hsl9⟩ := ownE_sl i_len (by omega) HP.out
        cases hv9
        exact hsl9

end Go.Proofs.Ytjnfllcbkkcfiaa
