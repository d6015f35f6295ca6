/- This text says in plain Lean how insert of the reference lays a name, and proves its walk. Conditions: those that each theorem names. -/
import Derived.Test.YtodoilengdnlfaaGlobK
namespace Go.Proofs.Ytodoilengdnlfaa
open Go.ChangeShapes Go.WideShapes Go.ChangeAt Go.RowKit
set_option linter.unusedVariables false
set_option linter.unusedSimpArgs false

theorem sInfo : ∃ i0 : TypeInfo, Try.prog.info? 9 = some i0 ∧ i0.zero = some (.string ⟨#[]⟩) ∧ i0.size = 1 ∧ i0.bytes = 16 := by
  have h : (Try.prog.info? 9).map (fun i => (i.zero, i.size, i.bytes)) = some (some (.string ⟨#[]⟩), 1, 16) := by kernel_rfl
  cases hi : Try.prog.info? 9 with
  | none => rw [hi] at h; cases h
  | some i0 =>
    rw [hi] at h
    simp only [Option.map_some, Option.some.injEq, Prod.mk.injEq] at h
    exact ⟨i0, rfl, h.1, h.2.1, h.2.2⟩
/-- A name is not above another. -/
def ltB (a b : ByteArray) : Bool := !Op.bytesLess b.toList a.toList
def insStep (t : ByteArray) (o : List ByteArray × Bool) (y : ByteArray) : List ByteArray × Bool := if !o.2 && ltB t y then (o.1 ++ [t] ++ [y], true) else (o.1 ++ [y], o.2)
def insF (t : ByteArray) (xs : List ByteArray) : List ByteArray × Bool := xs.foldl (insStep t) ([], false)
/-- The list with a name more. -/
def insB (t : ByteArray) (xs : List ByteArray) : List ByteArray := if inB t xs then xs else if (insF t xs).2 then (insF t xs).1 else (insF t xs).1 ++ [t]
theorem insF_take {t : ByteArray} {xs : List ByteArray} {j : Nat} (h : j < xs.length) : insF t (xs.take (j + 1)) = insStep t (insF t (xs.take j)) (nth xs j) := by
  unfold insF
  rw [List.take_add_one, nth_get h, List.foldl_append]; rfl

set_option maxHeartbeats 8000000 in
theorem insert_calls (ao : Option Addr) (n cap : Nat) (xs : List ByteArray) (t : ByteArray) (hn : n ≤ 100000) (w : World) (ha : Sl w 1 ao n cap (xs.map sEnc)) :
    Calls Try.prog 28 #[.slice ao n cap, .string t] w fun e w' => ∃ a2 n2 c2, e = .returned (.slice a2 n2 c2) ∧ Sl w' 1 a2 n2 c2 ((insB t xs).map sEnc) ∧ Below w.heap.size w w' := by
  obtain ⟨i0, hi0, hz0, hs0, hb0⟩ := sInfo
  have HL : Aside (xs.length = n) := Sl.lenE ha
  have HA : Aside (CellsS w ao xs) := cellsS ha
  have HSL : Aside (Sl w 1 ao n cap (xs.map sEnc)) := ha
  clear ha
  go_enter Try.func28, Try.ntmps28
  go_wp2
  go_loopg [5, 6, 10] n (fun k s5 s6 s10 wr => ∃ (idx : Nat) (ao' : Option Addr) (cap' : Nat) (l : List ByteArray) (d : Bool), s10 = .int .i64 (idx : Int) ∧ s5 = .slice ao' l.length cap' ∧ s6 = .bool d ∧ k + idx = n ∧ l.length ≤ 2 * idx ∧ Aside (insF t (xs.take idx) = (l, d)) ∧ Aside (∀ j, j < idx → nth xs j ≠ t) ∧ Aside (Below w.heap.size w wr ∧ wr.ownsRow w.heap.size 9 1 (.slice ao' l.length cap') l.length (flatE sEnc l)))
  case atStart => exact ⟨0, none, 0, [], false, rfl, rfl, rfl, by omega, by simp, rfl, fun j hj => absurd hj (Nat.not_lt_zero _), ⟨Below.refl _ _, World.ownsRow_nil _ _ _ _⟩⟩
  case round =>
    obtain ⟨idx, ao', cap', l, d, rfl, rfl, rfl, hk, hll, FF, A, ST⟩ := hrel
    by_cases hi : idx < n
    · have hiz : (idx : Int) < (n : Int) := by omega
      have hix : idx < xs.length := by have := HL.out; omega
      obtain ⟨b, off, rfl, hbw0, l0⟩ := HA.out idx hix
      replace l0 := (ST.out.1.cell (p := ⟨b, off + idx, none⟩) hbw0).trans l0
      have hbw : b < wr.heap.size := Nat.lt_of_lt_of_le hbw0 ST.out.1.size
      have AS : Aside (nth xs idx ≠ t → ∀ j, j < idx + 1 → nth xs j ≠ t) := fun hh j hj => by
        rcases (by omega : j < idx ∨ j = idx) with h' | h'
        · exact A.out j h'
        · rw [h']; exact hh
      have AN : Aside (nth xs idx = t → insB t xs = xs) := fun e => by unfold insB; rw [if_pos (inB_iff.2 (e ▸ nth_mem hix))]
      have FN : Aside (insF t (xs.take (idx + 1)) = insStep t (l, d) (nth xs idx)) := by show _ = _; rw [insF_take hix, FF.out]
      generalize nth xs idx = y at l0 AS AN FN
      by_cases hq : y = t
      · have e1 : Aside (insB t xs = xs) := AN.out hq
        have hf : (y.toList == t.toList) = true := by simp [hq]
        have hsl := HSL.out
        have HB : Aside (Below w.heap.size w wr ∧ Sl wr 1 (some ⟨b, off, none⟩) n cap (xs.map sEnc)) := ⟨ST.out.1, Sl.stays hsl ST.out.1⟩
        clear hq AS AN A HA HSL hix FN FF ST hsl
        go_wp2
        go_ret
        exact ⟨_, _, _, rfl, by rw [e1.out]; exact HB.out.2, HB.out.1⟩
      · have A2 := AS.out hq
        have A3 : Aside (∀ j, j < idx + 1 → nth xs j ≠ t) := A2
        have hf : (y.toList == t.toList) = false := by simp [str_inj, hq]
        clear hq A2 AS AN A HA HSL hix FF
        cases d with
        | true =>
          have F2 : Aside (insF t (xs.take (idx + 1)) = (l ++ [y], true)) := by show _ = _; rw [FN.out]; rfl
          clear FN
          have hown := ST.out.2
          have hsw := ST.out.1.size
          go_wp2_with (at_builtin; refine wpList_append_own _ rfl _ _ 25 rfl w.heap.size 9 i0 _ 1 16 Try.underlying25 hi0 hz0 hs0 hb0 rfl (by omega) _ _ _ rfl (hown.alloc _) ⟨wr.heap.size, 0, none⟩ 1 1 [.string y] rfl rfl (cells_new _ _ _ _ rfl) (s_one y) (by unfold maxLen; omega) (by omega) (by first | (simp; omega) | (simp [size_plus]; omega)) ?_)
          intro v' w9 hown' hgrow _
          obtain ⟨ao9, cap9, rfl, hb9, ho9⟩ := app_stateN (U1 := w) (Nat.le_refl _) (Nat.le_refl _) s_len (by omega) (ys := [(y : ByteArray)]) (ST.out.1.alloc ST.out.1.size _) (hown.alloc _) (by rw [flatE_one]; exact hown') hgrow
          have ST9 : Aside (Below w.heap.size w w9 ∧ w9.ownsRow w.heap.size 9 1 (.slice ao9 (l.length + 1) cap9) (l.length + 1) (flatE sEnc (l ++ [(y : ByteArray)]))) := ⟨hb9, ho9⟩
          clear hown hown' hgrow hb9 ho9 hsw
          go_wp2
          go_roundg (n - (idx + 1))
          case measure => omega
          case rel => exact ⟨idx + 1, ao9, cap9, l ++ [y], true, by simp, by simp, rfl, by omega, by simp; omega, F2, A3, by first | exact ST9 | simpa using ST9⟩
        | false =>
          cases hg : ltB t y with
          | true =>
            have F2 : Aside (insF t (xs.take (idx + 1)) = (l ++ [t] ++ [y], true)) := by show _ = _; rw [FN.out]; unfold insStep; rw [hg]; rfl
            clear FN
            have hg2 : Op.bytesLess y.toList t.toList = false := by unfold ltB at hg; simpa using hg
            clear hg
            have hown := ST.out.2
            have hsw := ST.out.1.size
            go_wp2_with (at_builtin; refine wpList_append_own _ rfl _ _ 25 rfl w.heap.size 9 i0 _ 1 16 Try.underlying25 hi0 hz0 hs0 hb0 rfl (by omega) _ _ _ rfl (hown.alloc _) ⟨wr.heap.size, 0, none⟩ 1 1 [.string t] rfl rfl (cells_new _ _ _ _ rfl) (s_one t) (by unfold maxLen; omega) (by omega) (by first | (simp; omega) | (simp [size_plus]; omega)) ?_)
            intro v' w8 hown' hgrow _
            obtain ⟨ao8, cap8, rfl, hb9, ho9⟩ := app_stateN (U1 := w) (Nat.le_refl _) (Nat.le_refl _) s_len (by omega) (ys := [(t : ByteArray)]) (ST.out.1.alloc ST.out.1.size _) (hown.alloc _) (by rw [flatE_one]; exact hown') hgrow
            have ST8 : Aside (Below w.heap.size w w8 ∧ w8.ownsRow w.heap.size 9 1 (.slice ao8 (l.length + 1) cap8) (l.length + 1) (flatE sEnc (l ++ [(t : ByteArray)]))) := ⟨hb9, ho9⟩
            clear hown hown' hgrow hb9 ho9 hsw
            have hll8 : (l ++ [t]).length = l.length + 1 := by simp
            have ST7 : Aside (Below w.heap.size w w8 ∧ w8.ownsRow w.heap.size 9 1 (.slice ao8 (l.length + 1) cap8) (l.length + 1) (flatE sEnc (l ++ [t]))) := ST8
            have m0 := (ST8.out.1.cell (p := ⟨b, off + idx, none⟩) hbw0).trans ((ST.out.1.cell (p := ⟨b, off + idx, none⟩) hbw0).symm.trans l0)
            have hbw8 : b < w8.heap.size := Nat.lt_of_lt_of_le hbw0 ST8.out.1.size
            clear ST8
            have hown := ST7.out.2
            have hsw := ST7.out.1.size
            go_wp2_with (at_builtin; refine wpList_append_own _ rfl _ _ 25 rfl w.heap.size 9 i0 _ 1 16 Try.underlying25 hi0 hz0 hs0 hb0 rfl (by omega) _ _ _ rfl (hown.alloc _) ⟨w8.heap.size, 0, none⟩ 1 1 [.string y] rfl rfl (cells_new _ _ _ _ rfl) (s_one y) (by unfold maxLen; omega) (by omega) (by first | (simp; omega) | (simp [size_plus]; omega)) ?_)
            intro v' w9 hown' hgrow _
            obtain ⟨ao9, cap9, rfl, hb9, ho9⟩ := app_stateN (U1 := w) (Nat.le_refl _) (Nat.le_refl _) s_len (by omega) (ys := [(y : ByteArray)]) (ST7.out.1.alloc ST7.out.1.size _) (hown.alloc _) (by rw [flatE_one]; exact hown') hgrow
            have ST9 : Aside (Below w.heap.size w w9 ∧ w9.ownsRow w.heap.size 9 1 (.slice ao9 ((l.length + 1) + 1) cap9) ((l.length + 1) + 1) (flatE sEnc ((l ++ [t]) ++ [(y : ByteArray)]))) := ⟨hb9, ho9⟩
            clear hown hown' hgrow hb9 ho9 hsw
            go_wp2
            go_roundg (n - (idx + 1))
            case measure => omega
            case rel => exact ⟨idx + 1, ao9, cap9, l ++ [t] ++ [y], true, by simp, by simp, rfl, by omega, by simp; omega, F2, A3, by first | exact ST9 | simpa using ST9⟩
          | false =>
            have F2 : Aside (insF t (xs.take (idx + 1)) = (l ++ [y], false)) := by show _ = _; rw [FN.out]; unfold insStep; rw [hg]; rfl
            clear FN
            have hg2 : Op.bytesLess y.toList t.toList = true := by unfold ltB at hg; simpa using hg
            clear hg
            have hown := ST.out.2
            have hsw := ST.out.1.size
            go_wp2_with (at_builtin; refine wpList_append_own _ rfl _ _ 25 rfl w.heap.size 9 i0 _ 1 16 Try.underlying25 hi0 hz0 hs0 hb0 rfl (by omega) _ _ _ rfl (hown.alloc _) ⟨wr.heap.size, 0, none⟩ 1 1 [.string y] rfl rfl (cells_new _ _ _ _ rfl) (s_one y) (by unfold maxLen; omega) (by omega) (by first | (simp; omega) | (simp [size_plus]; omega)) ?_)
            intro v' w9 hown' hgrow _
            obtain ⟨ao9, cap9, rfl, hb9, ho9⟩ := app_stateN (U1 := w) (Nat.le_refl _) (Nat.le_refl _) s_len (by omega) (ys := [(y : ByteArray)]) (ST.out.1.alloc ST.out.1.size _) (hown.alloc _) (by rw [flatE_one]; exact hown') hgrow
            have ST9 : Aside (Below w.heap.size w w9 ∧ w9.ownsRow w.heap.size 9 1 (.slice ao9 (l.length + 1) cap9) (l.length + 1) (flatE sEnc (l ++ [(y : ByteArray)]))) := ⟨hb9, ho9⟩
            clear hown hown' hgrow hb9 ho9 hsw
            go_wp2
            go_roundg (n - (idx + 1))
            case measure => omega
            case rel => exact ⟨idx + 1, ao9, cap9, l ++ [y], false, by simp, by simp, rfl, by omega, by simp; omega, F2, A3, by first | exact ST9 | simpa using ST9⟩
    · have hiz : ¬ (idx : Int) < (n : Int) := by omega
      have hnin : inB t xs = false := by
        cases h : inB t xs with
        | false => rfl
        | true =>
          obtain ⟨j, hj⟩ := List.mem_iff_getElem?.1 (inB_iff.1 h)
          have hjl := (List.getElem?_eq_some_iff.1 hj).1
          rw [nth_get hjl] at hj
          exact absurd (Option.some.inj hj) (A.out j (by have := HL.out; omega))
      have hfin : insF t xs = (l, d) := by rw [← FF.out, List.take_of_length_le (by have := HL.out; omega)]
      have HR : Aside (insB t xs = if d then l else l ++ [t]) := by show _ = _; unfold insB; rw [hnin, hfin]; rfl
      clear HA HSL A FF hnin hfin
      cases d with
      | true =>
        have HS9 : Aside (Sl wr 1 ao' l.length cap' (l.map sEnc) ∧ Below w.heap.size w wr) := ⟨by
          obtain ⟨a8, c8, hv8, hsl8⟩ := ownE_sl s_len (by omega) ST.out.2
          injection hv8 with u1 u2 u3
          subst u1
          subst u3
          exact hsl8, ST.out.1⟩
        clear ST
        go_wp2
        go_ret
        exact ⟨_, _, _, rfl, by rw [HR.out]; exact HS9.out.1, HS9.out.2⟩
      | false =>
        have hown := ST.out.2
        have hsw := ST.out.1.size
        go_wp2_with (at_builtin; refine wpList_append_own _ rfl _ _ 25 rfl w.heap.size 9 i0 _ 1 16 Try.underlying25 hi0 hz0 hs0 hb0 rfl (by omega) _ _ _ rfl (hown.alloc _) ⟨wr.heap.size, 0, none⟩ 1 1 [.string t] rfl rfl (cells_new _ _ _ _ rfl) (s_one t) (by unfold maxLen; omega) (by omega) (by first | (simp; omega) | (simp [size_plus]; omega)) ?_)
        intro v' w9 hown' hgrow _
        obtain ⟨ao9, cap9, rfl, hb9, ho9⟩ := app_stateN (U1 := w) (Nat.le_refl _) (Nat.le_refl _) s_len (by omega) (ys := [(t : ByteArray)]) (ST.out.1.alloc ST.out.1.size _) (hown.alloc _) (by rw [flatE_one]; exact hown') hgrow
        have ST9 : Aside (Below w.heap.size w w9 ∧ w9.ownsRow w.heap.size 9 1 (.slice ao9 (l.length + 1) cap9) (l.length + 1) (flatE sEnc (l ++ [(t : ByteArray)]))) := ⟨hb9, ho9⟩
        clear hown hown' hgrow hb9 ho9 hsw
        obtain ⟨a8, c8, hv8, hsl8⟩ := ownE_sl s_len (by omega) ST9.out.2
        injection hv8 with u1 u2 u3
        subst u1
        subst u3
        have HS9 : Aside (Sl w9 1 ao9 (l.length + 1) cap9 ((l ++ [t]).map sEnc) ∧ Below w.heap.size w w9) := ⟨hsl8, ST9.out.1⟩
        clear ST ST9 hsl8 u2
        go_wp2
        go_ret
        exact ⟨_, _, _, rfl, by rw [HR.out]; exact HS9.out.1, HS9.out.2⟩

end Go.Proofs.Ytodoilengdnlfaa
