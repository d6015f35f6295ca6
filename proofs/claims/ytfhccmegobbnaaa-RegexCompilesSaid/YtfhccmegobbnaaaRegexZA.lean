/- This text proves the walks of the library's Builder at this program, and of part. Conditions: those that each theorem names. -/
import Derived.Test.YtfhccmegobbnaaaRegexZ
import Derived.Lib.Builder
import Derived.Lib.AppendStr
import Derived.Shelf.Strings.Builder1
namespace Go.Proofs.Ytfhccmegobbnaaa
open Go.ChangeShapes Go.WideShapes Go.ChangeAt Go.RowKit
set_option linter.unusedVariables false
set_option linter.unusedSimpArgs false

theorem bInfo : ∃ i0 : TypeInfo, Try.prog.info? 5 = some i0 ∧ i0.zero = some (.int .u8 0) ∧ i0.size = 1 ∧ i0.bytes = 1 := by
  have h : (Try.prog.info? 5).map (fun i => (i.zero, i.size, i.bytes)) = some (some (.int .u8 0), 1, 1) := by kernel_rfl
  cases hi : Try.prog.info? 5 with
  | none => rw [hi] at h; cases h
  | some i0 =>
    rw [hi] at h
    simp only [Option.map_some, Option.some.injEq, Prod.mk.injEq] at h
    exact ⟨i0, rfl, h.1, h.2.1, h.2.2⟩
set_option maxHeartbeats 1000000 in
set_option maxRecDepth 100000 in
theorem bcheck_calls (B b : Nat) (bs : List Value) (w : World) (h : Lib.IsBuilder 84 5 B b bs w) :
    Calls Try.prog 61 #[.pointer (some ⟨b, 0, none⟩)] w fun e w' => e = .returned (.tuple #[]) ∧ Lib.BuilderAt 84 5 B b (.pointer (some ⟨b, 0, none⟩)) bs w' ∧ Below B w w' := by
  obtain ⟨j, hj, hjs⟩ := Option.map_eq_some_iff.1 (show (Try.prog.info? 84).map (·.size) = some 2 by kernel_rfl)
  rcases h with h | h
  · have h0 := h.cell0
    have HX : Aside (Lib.BuilderAt 84 5 B b (.pointer none) bs w ∧ w.shape? b = some (84, 2) ∧ w.frozen? ⟨b, 0, none⟩ = false) := ⟨h, h.shape, h.frozen0⟩
    have hf := h.frozen0
    clear h
    go_enter Try.func61, Try.ntmps61
    go_wp2
    rw [Lib.run_to_unsafe w ⟨b, 0, none⟩ Try.underlying81 Try.underlying118 hj (by rw [hjs]; decide) HX.out.2.1 (Nat.zero_lt_succ 1)]
    simp only [Result.andThen]
    rw [Oper.upon_value]
    go_wp2
    rw [run_callFunc_extern Try.func68 (by kernel_rfl) (by kernel_rfl) (by kernel_rfl) (e := Extern.AbiNoEscape.same) (by kernel_rfl)]
    rw [Lib.run_noEscape]
    simp only [Result.andThen]
    rw [Oper.upon_value]
    go_wp2
    rw [Lib.run_from_unsafe w ⟨b, 0, none⟩ Try.underlying118 Try.underlying81 hj HX.out.2.1 (show liesAt Try.prog Try.prog.depth 84 (2 / Try.prog.cellsOf 84) 0 84 1 = true by kernel_rfl)]
    simp only [Result.andThen]
    rw [Oper.upon_value]
    go_wp2
    go_end0
    exact ⟨rfl, HX.out.1.used _, (Below.refl B w).setCell (p := ⟨b, 0, none⟩) HX.out.1.1 _⟩
  · have h0 := h.cell0
    have HX : Aside (Lib.BuilderAt 84 5 B b (.pointer (some ⟨b, 0, none⟩)) bs w) := h
    clear h
    go_enter Try.func61, Try.ntmps61
    go_wp2
    rw [Lib.run_neq_ptr_same w _ Try.underlying81 hj]
    go_wp2
    go_end0
    exact ⟨rfl, HX.out, Below.refl B _⟩

set_option maxHeartbeats 2000000 in
set_option maxRecDepth 100000 in
theorem bwrite_calls (B b : Nat) (bs : List Value) (c : Int) (w : World) (h : Lib.IsBuilder 84 5 B b bs w) (hlen : bs.length + 1 ≤ 1000000) (hBw : B ≤ w.heap.size) :
    Calls Try.prog 46 #[.pointer (some ⟨b, 0, none⟩), .int .u8 c] w fun e w' => e = .returned .nilIface ∧ Lib.IsBuilder 84 5 B b (bs ++ [.int .u8 c]) w' ∧ Below B w w' := by
  obtain ⟨i0, hi0, hz0, hs0, hb0⟩ := bInfo
  have HC : Aside (∀ U, U = w → Calls Try.prog 61 #[.pointer (some ⟨b, 0, none⟩)] U fun e w' => e = .returned (.tuple #[]) ∧ Lib.BuilderAt 84 5 B b (.pointer (some ⟨b, 0, none⟩)) bs w' ∧ Below B w w') := fun U hU => by subst hU; exact bcheck_calls B b bs _ h
  clear h
  go_enter Try.func46, Try.ntmps46
  go_wp2_with fail
  refine (HC.out _ rfl).mono ?_
  rintro e w1 ⟨rfl, h1, hb1⟩
  obtain ⟨hB, v, hbk, hown, hne⟩ := h1
  have c0 : w1.cell? ⟨b, 0, none⟩ = some (.pointer (some ⟨b, 0, none⟩)) := by rw [Lib.cell_of_heap hbk]; rfl
  have c1 : w1.cell? ⟨b, 1, none⟩ = some v := by rw [Lib.cell_of_heap hbk]; rfl
  have hlt : b < w1.heap.size := (Array.getElem?_eq_some_iff.1 hbk).1
  have HN : Aside (v.ownBlock ≠ some b ∧ Below B w w1) := ⟨hne, hb1⟩
  have HK : Aside (w1.heap[b]? = some (.cells #[.pointer (some ⟨b, 0, none⟩), v] 84 (0, 0)) ∧ B ≤ b) := ⟨hbk, hB⟩
  have hsz := hb1.size
  clear HC hbk hB hne hb1
  go_wp2_with (at_builtin; refine wpList_append_own _ rfl _ _ 82 rfl B 5 i0 _ 1 1 Try.underlying82 hi0 hz0 hs0 hb0 rfl (by omega) _ _ _ rfl (hown.alloc _) ⟨w1.heap.size, 0, none⟩ 1 1 [.int .u8 c] rfl rfl (cells_new _ _ _ _ rfl) (fun u hu => by rw [List.mem_singleton] at hu; subst hu; rfl) (by unfold maxLen; omega) (by omega) (by simp; omega) ?_)
  intro v' w2 hown' hgrow _
  have hb2 : w2.heap[b]? = some (.cells #[.pointer (some ⟨b, 0, none⟩), v] 84 (0, 0)) := by
    rw [hgrow.block b (by simp; omega) (fun e => HN.out.1 e.symm), Lib.alloc_old w1 _ b hlt]
    exact HK.out.1
  have d0 : w2.cell? ⟨b, 0, none⟩ = some (.pointer (some ⟨b, 0, none⟩)) := by rw [Lib.cell_of_heap hb2]; rfl
  have d1 : w2.cell? ⟨b, 1, none⟩ = some v := by rw [Lib.cell_of_heap hb2]; rfl
  have f1 : w2.frozen? ⟨b, 1, none⟩ = false := Lib.frozen_of_heap hb2 1
  obtain ⟨g, cap, rfl⟩ : ∃ g cap, v' = .slice (some ⟨g, 0, none⟩) (bs.length + 1) cap := by
    rcases hown'.2 with ⟨_, h0⟩ | ⟨g, cap, cur, hv, _⟩
    · omega
    · exact ⟨g, cap, hv⟩
  have HF : Aside (Lib.BuilderAt 84 5 B b (.pointer (some ⟨b, 0, none⟩)) (bs ++ [.int .u8 c]) (w2.setCell ⟨b, 1, none⟩ (.slice (some ⟨g, 0, none⟩) (bs.length + 1) cap)) ∧ Below B w (w2.setCell ⟨b, 1, none⟩ (.slice (some ⟨g, 0, none⟩) (bs.length + 1) cap))) :=
    ⟨Lib.BuilderAt.put (T := 84) (e := 5) HK.out.2 hb2 (bs' := bs ++ [.int .u8 c]) (by simpa using hown') (by decide),
     ((HN.out.2.alloc (by omega) _).grown hgrow (by simp; omega) (fun k hk => (hown.lt k hk).1)).setCell (p := ⟨b, 1, none⟩) HK.out.2 _⟩
  clear hown' hgrow hown HN HK
  go_wp2
  go_ret
  exact ⟨rfl, .inr HF.out.1, HF.out.2⟩

set_option maxHeartbeats 2000000 in
set_option maxRecDepth 100000 in
theorem bstr_calls (B b : Nat) (bs : List Value) (s : ByteArray) (w : World) (h : Lib.IsBuilder 84 5 B b bs w) (hlen : bs.length + s.size ≤ 1000000) (hBw : B ≤ w.heap.size) :
    Calls Try.prog 45 #[.pointer (some ⟨b, 0, none⟩), .string s] w fun e w' => e = .returned (.tuple #[.int .i64 (s.size : Int), .nilIface]) ∧ Lib.IsBuilder 84 5 B b (bs ++ Lib.strCells s) w' ∧ Below B w w' := by
  obtain ⟨i0, hi0, hz0, hs0, hb0⟩ := bInfo
  have HC : Aside (∀ U, U = w → Calls Try.prog 61 #[.pointer (some ⟨b, 0, none⟩)] U fun e w' => e = .returned (.tuple #[]) ∧ Lib.BuilderAt 84 5 B b (.pointer (some ⟨b, 0, none⟩)) bs w' ∧ Below B w w') := fun U hU => by subst hU; exact bcheck_calls B b bs _ h
  clear h
  go_enter Try.func45, Try.ntmps45
  go_wp2_with fail
  refine (HC.out _ rfl).mono ?_
  rintro e w1 ⟨rfl, h1, hb1⟩
  obtain ⟨hB, v, hbk, hown, hne⟩ := h1
  have c0 : w1.cell? ⟨b, 0, none⟩ = some (.pointer (some ⟨b, 0, none⟩)) := by rw [Lib.cell_of_heap hbk]; rfl
  have c1 : w1.cell? ⟨b, 1, none⟩ = some v := by rw [Lib.cell_of_heap hbk]; rfl
  have hlt : b < w1.heap.size := (Array.getElem?_eq_some_iff.1 hbk).1
  have HN : Aside (v.ownBlock ≠ some b ∧ Below B w w1) := ⟨hne, hb1⟩
  have HK : Aside (w1.heap[b]? = some (.cells #[.pointer (some ⟨b, 0, none⟩), v] 84 (0, 0)) ∧ B ≤ b) := ⟨hbk, hB⟩
  have hsz := hb1.size
  clear HC hbk hB hne hb1
  go_wp2_with (at_builtin; refine Lib.wpList_append_own_string _ rfl _ _ 82 9 rfl B 5 i0 Try.underlying82 Try.underlying9 hi0 hz0 hs0 hb0 _ _ _ rfl hown s rfl (by unfold maxLen; omega) (by omega) (by omega) ?_)
  intro v' w2 hown' hgrow hnil
  have hb2 : w2.heap[b]? = some (.cells #[.pointer (some ⟨b, 0, none⟩), v] 84 (0, 0)) := by
    rw [hgrow.block b hlt (fun e => HN.out.1 e.symm)]
    exact HK.out.1
  have d0 : w2.cell? ⟨b, 0, none⟩ = some (.pointer (some ⟨b, 0, none⟩)) := by rw [Lib.cell_of_heap hb2]; rfl
  have d1 : w2.cell? ⟨b, 1, none⟩ = some v := by rw [Lib.cell_of_heap hb2]; rfl
  have f1 : w2.frozen? ⟨b, 1, none⟩ = false := Lib.frozen_of_heap hb2 1
  obtain ⟨va, vn, vc, rfl⟩ : ∃ va vn vc, v' = .slice va vn vc := by
    rcases hown'.2 with ⟨h0, _⟩ | ⟨g, cap, cur, hv, _⟩
    · exact ⟨_, _, _, h0⟩
    · exact ⟨_, _, _, hv⟩
  have HF : Aside (Lib.BuilderAt 84 5 B b (.pointer (some ⟨b, 0, none⟩)) (bs ++ Lib.strCells s) (w2.setCell ⟨b, 1, none⟩ (.slice va vn vc)) ∧ Below B w (w2.setCell ⟨b, 1, none⟩ (.slice va vn vc))) :=
    ⟨Lib.BuilderAt.put (T := 84) (e := 5) HK.out.2 hb2 (bs' := bs ++ Lib.strCells s) (by rw [List.length_append, Lib.strCells_length]; exact hown') (by decide),
     (HN.out.2.grown hgrow (by omega) (fun k hk => (hown.lt k hk).1)).setCell (p := ⟨b, 1, none⟩) HK.out.2 _⟩
  clear hown' hgrow hown HN HK
  go_wp2
  go_ret2
  exact ⟨rfl, .inr HF.out.1, HF.out.2⟩


end Go.Proofs.Ytfhccmegobbnaaa
