/- This text proves the walks of the library's Builder (copyCheck, WriteByte) at this program, and of Escape of package glob. Conditions: those that each theorem names. -/
import Derived.Test.YtodoilengdnlfaaGlobQ
import Derived.Lib.Builder
import Derived.Shelf.Strings.Builder1
namespace Go.Proofs.Ytodoilengdnlfaa
open Go.ChangeShapes Go.WideShapes Go.ChangeAt Go.RowKit
set_option linter.unusedVariables false
set_option linter.unusedSimpArgs false

set_option maxHeartbeats 1000000 in
set_option maxRecDepth 100000 in
theorem bcheck_calls (B b : Nat) (bs : List Value) (w : World) (h : Lib.IsBuilder 49 5 B b bs w) :
    Calls Try.prog 42 #[.pointer (some ⟨b, 0, none⟩)] w fun e w' => e = .returned (.tuple #[]) ∧ Lib.BuilderAt 49 5 B b (.pointer (some ⟨b, 0, none⟩)) bs w' ∧ Below B w w' := by
  obtain ⟨j, hj, hjs⟩ := Option.map_eq_some_iff.1 (show (Try.prog.info? 49).map (·.size) = some 2 by kernel_rfl)
  rcases h with h | h
  · have h0 := h.cell0
    have HX : Aside (Lib.BuilderAt 49 5 B b (.pointer none) bs w ∧ w.shape? b = some (49, 2) ∧ w.frozen? ⟨b, 0, none⟩ = false) := ⟨h, h.shape, h.frozen0⟩
    have hf := h.frozen0
    clear h
    go_enter Try.func42, Try.ntmps42
    go_wp2
    rw [Lib.run_to_unsafe w ⟨b, 0, none⟩ Try.underlying46 Try.underlying78 hj (by rw [hjs]; decide) HX.out.2.1 (Nat.zero_lt_succ 1)]
    simp only [Result.andThen]
    rw [Oper.upon_value]
    go_wp2
    rw [run_callFunc_extern Try.func56 (by kernel_rfl) (by kernel_rfl) (by kernel_rfl) (e := Extern.AbiNoEscape.same) (by kernel_rfl)]
    rw [Lib.run_noEscape]
    simp only [Result.andThen]
    rw [Oper.upon_value]
    go_wp2
    rw [Lib.run_from_unsafe w ⟨b, 0, none⟩ Try.underlying78 Try.underlying46 hj HX.out.2.1 (show liesAt Try.prog Try.prog.depth 49 (2 / Try.prog.cellsOf 49) 0 49 1 = true by kernel_rfl)]
    simp only [Result.andThen]
    rw [Oper.upon_value]
    go_wp2
    go_end0
    exact ⟨rfl, HX.out.1.used _, (Below.refl B w).setCell (p := ⟨b, 0, none⟩) HX.out.1.1 _⟩
  · have h0 := h.cell0
    have HX : Aside (Lib.BuilderAt 49 5 B b (.pointer (some ⟨b, 0, none⟩)) bs w) := h
    clear h
    go_enter Try.func42, Try.ntmps42
    go_wp2
    rw [Lib.run_neq_ptr_same w _ Try.underlying46 hj]
    go_wp2
    go_end0
    exact ⟨rfl, HX.out, Below.refl B _⟩

set_option maxHeartbeats 2000000 in
set_option maxRecDepth 100000 in
theorem bwrite_calls (B b : Nat) (bs : List Value) (c : Int) (w : World) (h : Lib.IsBuilder 49 5 B b bs w) (hlen : bs.length + 1 ≤ 1000000) (hBw : B ≤ w.heap.size) :
    Calls Try.prog 30 #[.pointer (some ⟨b, 0, none⟩), .int .u8 c] w fun e w' => e = .returned .nilIface ∧ Lib.IsBuilder 49 5 B b (bs ++ [.int .u8 c]) w' ∧ Below B w w' := by
  obtain ⟨i0, hi0, hz0, hs0, hb0⟩ := bInfo
  have HC : Aside (∀ U, U = w → Calls Try.prog 42 #[.pointer (some ⟨b, 0, none⟩)] U fun e w' => e = .returned (.tuple #[]) ∧ Lib.BuilderAt 49 5 B b (.pointer (some ⟨b, 0, none⟩)) bs w' ∧ Below B w w') := fun U hU => by subst hU; exact bcheck_calls B b bs _ h
  clear h
  go_enter Try.func30, Try.ntmps30
  go_wp2_with fail
  refine (HC.out _ rfl).mono ?_
  rintro e w1 ⟨rfl, h1, hb1⟩
  obtain ⟨hB, v, hbk, hown, hne⟩ := h1
  have c0 : w1.cell? ⟨b, 0, none⟩ = some (.pointer (some ⟨b, 0, none⟩)) := by rw [Lib.cell_of_heap hbk]; rfl
  have c1 : w1.cell? ⟨b, 1, none⟩ = some v := by rw [Lib.cell_of_heap hbk]; rfl
  have hlt : b < w1.heap.size := (Array.getElem?_eq_some_iff.1 hbk).1
  have HN : Aside (v.ownBlock ≠ some b ∧ Below B w w1) := ⟨hne, hb1⟩
  have HK : Aside (w1.heap[b]? = some (.cells #[.pointer (some ⟨b, 0, none⟩), v] 49 (0, 0)) ∧ B ≤ b) := ⟨hbk, hB⟩
  have hsz := hb1.size
  clear HC hbk hB hne hb1
  go_wp2_with (at_builtin; refine wpList_append_own _ rfl _ _ 47 rfl B 5 i0 _ 1 1 Try.underlying47 hi0 hz0 hs0 hb0 rfl (by omega) _ _ _ rfl (hown.alloc _) ⟨w1.heap.size, 0, none⟩ 1 1 [.int .u8 c] rfl rfl (cells_new _ _ _ _ rfl) (fun u hu => by rw [List.mem_singleton] at hu; subst hu; rfl) (by unfold maxLen; omega) (by omega) (by simp; omega) ?_)
  intro v' w2 hown' hgrow _
  have hb2 : w2.heap[b]? = some (.cells #[.pointer (some ⟨b, 0, none⟩), v] 49 (0, 0)) := by
    rw [hgrow.block b (by simp; omega) (fun e => HN.out.1 e.symm), Lib.alloc_old w1 _ b hlt]
    exact HK.out.1
  have d0 : w2.cell? ⟨b, 0, none⟩ = some (.pointer (some ⟨b, 0, none⟩)) := by rw [Lib.cell_of_heap hb2]; rfl
  have d1 : w2.cell? ⟨b, 1, none⟩ = some v := by rw [Lib.cell_of_heap hb2]; rfl
  have f1 : w2.frozen? ⟨b, 1, none⟩ = false := Lib.frozen_of_heap hb2 1
  obtain ⟨g, cap, rfl⟩ : ∃ g cap, v' = .slice (some ⟨g, 0, none⟩) (bs.length + 1) cap := by
    rcases hown'.2 with ⟨_, h0⟩ | ⟨g, cap, cur, hv, _⟩
    · omega
    · exact ⟨g, cap, hv⟩
  have HF : Aside (Lib.BuilderAt 49 5 B b (.pointer (some ⟨b, 0, none⟩)) (bs ++ [.int .u8 c]) (w2.setCell ⟨b, 1, none⟩ (.slice (some ⟨g, 0, none⟩) (bs.length + 1) cap)) ∧ Below B w (w2.setCell ⟨b, 1, none⟩ (.slice (some ⟨g, 0, none⟩) (bs.length + 1) cap))) :=
    ⟨Lib.BuilderAt.put (T := 49) (e := 5) HK.out.2 hb2 (bs' := bs ++ [.int .u8 c]) (by simpa using hown') (by decide),
     ((HN.out.2.alloc (by omega) _).grown hgrow (by simp; omega) (fun k hk => (hown.lt k hk).1)).setCell (p := ⟨b, 1, none⟩) HK.out.2 _⟩
  clear hown' hgrow hown HN HK
  go_wp2
  go_ret
  exact ⟨rfl, .inr HF.out.1, HF.out.2⟩

/-! ### Escape -/
theorem bc_snoc (l : List UInt8) (a : UInt8) : Lib.byteCells l ++ [.int .u8 (a.toNat : Int)] = Lib.byteCells (l ++ [a]) := by simp [Lib.byteCells]
theorem ib_calls (b : UInt8) (U : World) : Calls Try.prog 29 #[.string ⟨#[42, 63, 91]⟩, .int .u8 (b.toNat : Int)] U fun e w' => e = .returned (.int .i64 (Lib.indexByte [42, 63, 91] b)) ∧ w' = U := by
  have := sh_strings_IndexByte ⟨#[42, 63, 91]⟩ (b.toNat : Int) U
  rwa [show (b.toNat : Int).toNat.toUInt8 = b from by simp] at this
theorem ib_eq (b : UInt8) : Lib.indexByte [42, 63, 91] b = if (b.toNat : Int) = 42 then 0 else if (b.toNat : Int) = 63 then 1 else if (b.toNat : Int) = 91 then 2 else -1 := by
  have h : ∀ c : UInt8, ((b.toNat : Int) = (c.toNat : Int)) ↔ c = b := fun c => by
    rw [← UInt8.toNat_inj]; omega
  have h1 := h 42
  have h2 := h 63
  have h3 := h 91
  change ((b.toNat : Int) = 42 ↔ _) at h1
  change ((b.toNat : Int) = 63 ↔ _) at h2
  change ((b.toNat : Int) = 91 ↔ _) at h3
  simp only [Lib.indexByte, beq_iff_eq, h1, h2, h3]
  repeat' split
  all_goals first | rfl | omega | simp_all

set_option maxHeartbeats 8000000 in
set_option maxRecDepth 100000 in
theorem esc_calls (s : ByteArray) (hs : s.size ≤ 20000) (w : World) :
    Calls Try.prog 17 #[.string s] w fun e w' => e = .returned (.string (escB s)) ∧ Below w.heap.size w w' := by
  have HB0 : Aside (Lib.IsBuilder 49 5 w.heap.size w.heap.size [] (w.alloc (.cells #[.pointer none, .slice none 0 0] 49)) ∧ Below w.heap.size w (w.alloc (.cells #[.pointer none, .slice none 0 0] 49))) := ⟨Lib.fresh_isBuilder 49 5 w, (Below.refl _ _).alloc (Nat.le_refl _) _⟩
  go_enter Try.func17, Try.ntmps17
  go_wp2
  go_loopg [7] s.size (fun k s7 wr => ∃ (i : Nat) (l : List UInt8), s7 = .int .i64 (i : Int) ∧ k + i = s.size ∧ Aside (l.length ≤ 3 * i) ∧ Aside (escL s i = l) ∧ Aside (Lib.IsBuilder 49 5 w.heap.size w.heap.size (Lib.byteCells l) wr ∧ Below w.heap.size w wr))
  case atStart => exact ⟨0, [], rfl, by omega, Nat.le_refl _, rfl, HB0.out⟩
  case round =>
    obtain ⟨i, l, rfl, hk, LB0, A, ST0⟩ := hrel
    by_cases hi : i < s.size
    · have hiz : (i : Int) < (s.size : Int) := by omega
      have u0 := ub_eq hi
      have AN : Aside (escL s (i + 1) = l ++ escOf (ub s i)) := by show _ = _; rw [escL_succ, A.out]
      have EI := ib_eq (ub s i)
      have ci := fun U => ib_calls (ub s i) U
      clear A HB0
      generalize ub s i = y at u0 AN EI ci
      by_cases hsp : ((y.toNat : Int) = 42 ∨ (y.toNat : Int) = 63) ∨ (y.toNat : Int) = 91
      · have hge : (0 : Int) ≤ Lib.indexByte [42, 63, 91] y := by
          rw [EI]
          rcases hsp with (h | h) | h <;> rw [h] <;> decide
        have A2 : Aside (escL s (i + 1) = l ++ [91] ++ [y] ++ [93]) := by show _ = _; rw [AN.out, esc_special hsp]; simp
        generalize Lib.indexByte [42, 63, 91] y = ix at ci hge
        clear EI AN hsp
        go_wp2_with (go_at_call 29; (with_reducible refine (ci _).mono ?_); rintro e w2 ⟨rfl, hw⟩; rw [hw]; clear hw)
        go_wp2_with fail
        refine (bwrite_calls _ _ _ (91) _ ST0.out.1 (by rw [Lib.byteCells_length]; have := LB0.out; omega) ST0.out.2.size).mono ?_
        rintro e w1 ⟨rfl, hB, hb⟩
        have LB1 : Aside ((l ++ [91]).length ≤ 3 * i + 1) := by show _ ≤ _; have := LB0.out; simp; omega
        have ST1 : Aside (Lib.IsBuilder 49 5 w.heap.size w.heap.size (Lib.byteCells (l ++ [91])) w1 ∧ Below w.heap.size w w1) := ⟨by rw [← bc_snoc]; exact hB, ST0.out.2.trans hb⟩
        clear hB hb ST0 LB0
        go_wp2_with fail
        refine (bwrite_calls _ _ _ ((y.toNat : Int)) _ ST1.out.1 (by rw [Lib.byteCells_length]; have := LB1.out; omega) ST1.out.2.size).mono ?_
        rintro e w3 ⟨rfl, hB, hb⟩
        have LB3 : Aside ((l ++ [91] ++ [y]).length ≤ 3 * i + 2) := by show _ ≤ _; have := LB1.out; simp at this ⊢; omega
        have ST3 : Aside (Lib.IsBuilder 49 5 w.heap.size w.heap.size (Lib.byteCells (l ++ [91] ++ [y])) w3 ∧ Below w.heap.size w w3) := ⟨by rw [← bc_snoc]; exact hB, ST1.out.2.trans hb⟩
        clear hB hb ST1 LB1
        go_wp2_with fail
        refine (bwrite_calls _ _ _ (93) _ ST3.out.1 (by rw [Lib.byteCells_length]; have := LB3.out; omega) ST3.out.2.size).mono ?_
        rintro e w4 ⟨rfl, hB, hb⟩
        have LB4 : Aside ((l ++ [91] ++ [y] ++ [93]).length ≤ 3 * (i + 1)) := by show _ ≤ _; have := LB3.out; simp at this ⊢; omega
        have ST4 : Aside (Lib.IsBuilder 49 5 w.heap.size w.heap.size (Lib.byteCells (l ++ [91] ++ [y] ++ [93])) w4 ∧ Below w.heap.size w w4) := ⟨by rw [← bc_snoc]; exact hB, ST3.out.2.trans hb⟩
        clear hB hb ST3 LB3 ci
        go_wp2
        go_roundg (s.size - (i + 1))
        case measure => omega
        case rel => exact ⟨i + 1, _, by simp, by omega, LB4, A2, ST4⟩
      · have hge : ¬ (0 : Int) ≤ Lib.indexByte [42, 63, 91] y := by
          rw [EI, if_neg (fun h => hsp (.inl (.inl h))), if_neg (fun h => hsp (.inl (.inr h))), if_neg (fun h => hsp (.inr h))]
          decide
        have A2 : Aside (escL s (i + 1) = l ++ [y]) := by show _ = _; rw [AN.out, esc_plain (fun h => hsp (.inl (.inl h))) (fun h => hsp (.inl (.inr h))) (fun h => hsp (.inr h))]
        generalize Lib.indexByte [42, 63, 91] y = ix at ci hge
        clear EI AN hsp
        go_wp2_with (go_at_call 29; (with_reducible refine (ci _).mono ?_); rintro e w2 ⟨rfl, hw⟩; rw [hw]; clear hw)
        go_wp2_with fail
        refine (bwrite_calls _ _ _ ((y.toNat : Int)) _ ST0.out.1 (by rw [Lib.byteCells_length]; have := LB0.out; omega) ST0.out.2.size).mono ?_
        rintro e w1 ⟨rfl, hB, hb⟩
        have LB1 : Aside ((l ++ [y]).length ≤ 3 * (i + 1)) := by show _ ≤ _; have := LB0.out; simp; omega
        have ST1 : Aside (Lib.IsBuilder 49 5 w.heap.size w.heap.size (Lib.byteCells (l ++ [y])) w1 ∧ Below w.heap.size w w1) := ⟨by rw [← bc_snoc]; exact hB, ST0.out.2.trans hb⟩
        clear hB hb ST0 LB0 ci
        go_wp2
        go_roundg (s.size - (i + 1))
        case measure => omega
        case rel => exact ⟨i + 1, _, by simp, by omega, LB1, A2, ST1⟩
    · have hiz : ¬ (i : Int) < (s.size : Int) := by omega
      have ei : i = s.size := by omega
      have er : Aside (escB s = ⟨l.toArray⟩) := by show _ = _; unfold escB; rw [← A.out, ei]
      clear A ei HB0
      go_wp2_with fail
      refine (sh_Builder_String_any _ _ _ _ ST0.out.1 ST0.out.2.size).mono ?_
      rintro e w1 ⟨rfl, hb⟩
      have HF : Aside (Below w.heap.size w w1) := ST0.out.2.trans hb
      clear ST0 hb
      go_wp2
      go_ret
      exact ⟨by rw [er.out]; rfl, HF.out⟩

end Go.Proofs.Ytodoilengdnlfaa
