/- This text proves the walks of step and Match of the reference. Conditions: those that each theorem names. -/
import Derived.Test.YtodoilengdnlfaaGlobG
namespace Go.Proofs.Ytodoilengdnlfaa
open Go.ChangeShapes Go.WideShapes Go.ChangeAt Go.RowKit
set_option linter.unusedVariables false
set_option linter.unusedSimpArgs false

def oEnc (b : Bool) : List Value := [.bool b]
theorem o_len (b : Bool) : (oEnc b).length = 1 := rfl
theorem o_one (b : Bool) : ∀ u ∈ oEnc b, u.oneCell' = true := by
  intro u hu
  simp only [oEnc, List.mem_cons, List.not_mem_nil, or_false] at hu
  subst hu; rfl
/-- The first n of r. -/
def rowL (n : Nat) (r : Nat → Bool) : List Bool := (List.range n).map r
theorem rowL_len (n : Nat) (r : Nat → Bool) : (rowL n r).length = n := by simp [rowL]
theorem rowL_get {n : Nat} {r : Nat → Bool} {j : Nat} (h : j < n) : (rowL n r)[j]? = some (r j) := by simp [rowL, h]
theorem rowL_snoc (n : Nat) (r : Nat → Bool) : rowL (n + 1) r = rowL n r ++ [r n] := by unfold rowL; rw [List.range_succ, List.map_append]; rfl
theorem cellsO {W : World} {b off n cap : Nat} {r : Nat → Bool} (h : Sl W 1 (some ⟨b, off, none⟩) n cap ((rowL n r).map oEnc)) : ∀ j, j < n → W.cell? ⟨b, off + j, none⟩ = some (.bool (r j)) := by
  intro j hj
  refine Sl.cellsE o_len (by omega) h j _ ?_
  have := flatE_get o_len (rowL n r) j 0 (by omega)
  rw [Nat.mul_one, Nat.add_zero, rowL_get hj] at this
  exact this

set_option maxHeartbeats 16000000 in
set_option maxRecDepth 100000 in
theorem step_calls (e : Em) (nm : ByteArray) (r : Nat → Bool) (ao : Option Addr) (cap : Nat) (hn : nm.size ≤ 2000000) (OK : OkE e) (w : World) (ha : Sl w 1 ao (nm.size + 1) cap ((rowL (nm.size + 1) r).map oEnc)) :
    Calls Try.prog 24 #[.slice ao (nm.size + 1) cap, .agg (encR e).toArray, .string nm] w fun x w' => ∃ a2 c2, x = .returned (.slice a2 (nm.size + 1) c2) ∧ w'.ownsRow w.heap.size 4 1 (.slice a2 (nm.size + 1) c2) (nm.size + 1) (flatE oEnc (rowL (nm.size + 1) (stepN e nm r))) ∧ Below w.heap.size w w' := by
  obtain ⟨i0, hi0, hz0, hs0, hb0⟩ := boInfo
  obtain ⟨b, off, rfl, hbw, _⟩ := ha.here (by omega)
  have CR : Aside (∀ j, j < nm.size + 1 → w.cell? ⟨b, off + j, none⟩ = some (.bool (r j))) := cellsO ha
  have hcap1 := ha.hcap
  have hmax1 := ha.hmax
  obtain ⟨yk, yc, yn, ys⟩ := e
  clear ha
  show Calls Try.prog 24 #[.slice (some ⟨b, off, none⟩) (nm.size + 1) cap, .agg #[.int .i64 (yk : Nat), .int .u8 yc, .string ys, .bool yn], .string nm] w _
  go_enter Try.func24, Try.ntmps24
  go_wp2
  go_loopg [7, 8] (nm.size + 1) (fun k s7 s8 wr => ∃ (j : Nat) (ao' : Option Addr) (cap' : Nat), s8 = .int .i64 (j : Int) ∧ s7 = .slice ao' j cap' ∧ k + j = nm.size + 1 ∧ j ≤ nm.size + 1 ∧ Aside (Below (w.alloc (.cells #[.int .i64 (yk : Nat), .int .u8 yc, .string ys, .bool yn] 39)).heap.size (w.alloc (.cells #[.int .i64 (yk : Nat), .int .u8 yc, .string ys, .bool yn] 39)) wr ∧ wr.ownsRow (w.heap.size + 1) 4 1 (.slice ao' j cap') j (flatE oEnc (rowL j (stepN ⟨yk, yc, yn, ys⟩ nm r)))))
  case atStart => exact ⟨0, none, 0, rfl, rfl, by omega, by omega, ⟨Below.refl _ _, World.ownsRow_nil _ _ _ _⟩⟩
  case round =>
    obtain ⟨j, ao', cap', rfl, rfl, hk, hkm, ST⟩ := hrel
    by_cases hl : j ≤ nm.size
    · have hlz : (j : Int) ≤ (nm.size : Int) := by omega
      have hjz : (j : Int) < (nm.size : Int) + 1 := by omega
      have hbV : Below w.heap.size w wr := Below.trans ((Below.refl _ w).alloc (Nat.le_refl _) _) (ST.out.1.mono (by simp))
      have hr0 : wr.heap[w.heap.size]? = some (.cells #[.int .i64 (yk : Nat), .int .u8 yc, .string ys, .bool yn] 39 (0, 0)) := heap_later (hp_new rfl) ST.out.1
      have l0 := cell_heap hr0 0 _ rfl
      have l1 := cell_heap hr0 1 _ rfl
      have l2 := cell_heap hr0 2 _ rfl
      have l3 := cell_heap hr0 3 _ rfl
      have hbox : w.heap.size < wr.heap.size := (Array.getElem?_eq_some_iff.1 hr0).1
      have hbr : b < wr.heap.size := by omega
      have CW : Aside (∀ j, j < nm.size + 1 → wr.cell? ⟨b, off + j, none⟩ = some (.bool (r j))) := fun j hj => (hbV.cell (p := ⟨b, off + j, none⟩) hbw).trans (CR.out j hj)
      clear hbV hr0 CR
      by_cases hk2 : yk = 2
      · subst hk2
        have hf : (((2 : Nat) : Int) == 2) = true := rfl
        cases j with
        | zero =>
          have z0 := CW.out 0 (by omega)
          rw [Nat.add_zero] at z0
          have SV : Aside (stepN ⟨2, yc, yn, ys⟩ nm r 0 = r 0) := by show _ = _; rw [stepN, if_pos rfl]
          generalize r 0 = a at z0 SV
          clear CW
          cases a with
          | true =>
            have hown := ST.out.2
            have hsw := ST.out.1.size
            simp at hsw
            go_wp2_with (at_builtin; refine wpList_append_own _ rfl _ _ 40 rfl (w.heap.size + 1) 4 i0 _ 1 1 Try.underlying40 hi0 hz0 hs0 hb0 rfl (by omega) _ _ _ rfl (hown.alloc _) ⟨wr.heap.size, 0, none⟩ 1 1 [.bool true] rfl rfl (cells_new _ _ _ _ rfl) (o_one true) (by unfold maxLen; omega) (by omega) (by first | (simp; omega) | (simp [size_plus]; omega)) ?_)
            intro v' w9 hown' hgrow _
            obtain ⟨ao9, cap9, rfl, hb9, ho9⟩ := app_stateN (U1 := (w.alloc (.cells #[.int .i64 (2 : Nat), .int .u8 yc, .string ys, .bool yn] 39))) (by simp) (by simp) o_len (by omega) (ys := [(true : Bool)]) (ST.out.1.alloc ST.out.1.size _) (hown.alloc _) (by rw [flatE_one]; exact hown') hgrow
            have ST9 : Aside (Below (w.alloc (.cells #[.int .i64 (2 : Nat), .int .u8 yc, .string ys, .bool yn] 39)).heap.size (w.alloc (.cells #[.int .i64 (2 : Nat), .int .u8 yc, .string ys, .bool yn] 39)) w9 ∧ w9.ownsRow (w.heap.size + 1) 4 1 (.slice ao9 (0 + 1) cap9) (0 + 1) (flatE oEnc (rowL (0 + 1) (stepN ⟨2, yc, yn, ys⟩ nm r)))) := ⟨hb9, by rw [rowL_snoc, SV.out]; exact ho9⟩
            clear hown hown' hgrow hb9 ho9 hsw
            go_wp2
            go_roundg (nm.size + 1 - (0 + 1))
            case measure => omega
            case rel => exact ⟨0 + 1, ao9, cap9, by simp, rfl, by omega, by omega, by first | exact ST9 | (have := ST9.out; rw [rowL_snoc, SV.out]; exact this)⟩
          | false =>
            have hown := ST.out.2
            have hsw := ST.out.1.size
            simp at hsw
            go_wp2_with (at_builtin; refine wpList_append_own _ rfl _ _ 40 rfl (w.heap.size + 1) 4 i0 _ 1 1 Try.underlying40 hi0 hz0 hs0 hb0 rfl (by omega) _ _ _ rfl (hown.alloc _) ⟨wr.heap.size, 0, none⟩ 1 1 [.bool false] rfl rfl (cells_new _ _ _ _ rfl) (o_one false) (by unfold maxLen; omega) (by omega) (by first | (simp; omega) | (simp [size_plus]; omega)) ?_)
            intro v' w9 hown' hgrow _
            obtain ⟨ao9, cap9, rfl, hb9, ho9⟩ := app_stateN (U1 := (w.alloc (.cells #[.int .i64 (2 : Nat), .int .u8 yc, .string ys, .bool yn] 39))) (by simp) (by simp) o_len (by omega) (ys := [(false : Bool)]) (ST.out.1.alloc ST.out.1.size _) (hown.alloc _) (by rw [flatE_one]; exact hown') hgrow
            have ST9 : Aside (Below (w.alloc (.cells #[.int .i64 (2 : Nat), .int .u8 yc, .string ys, .bool yn] 39)).heap.size (w.alloc (.cells #[.int .i64 (2 : Nat), .int .u8 yc, .string ys, .bool yn] 39)) w9 ∧ w9.ownsRow (w.heap.size + 1) 4 1 (.slice ao9 (0 + 1) cap9) (0 + 1) (flatE oEnc (rowL (0 + 1) (stepN ⟨2, yc, yn, ys⟩ nm r)))) := ⟨hb9, by rw [rowL_snoc, SV.out]; exact ho9⟩
            clear hown hown' hgrow hb9 ho9 hsw
            go_wp2
            go_roundg (nm.size + 1 - (0 + 1))
            case measure => omega
            case rel => exact ⟨0 + 1, ao9, cap9, by simp, rfl, by omega, by omega, by first | exact ST9 | (have := ST9.out; rw [rowL_snoc, SV.out]; exact this)⟩
        | succ i =>
          have hi : i < nm.size := by omega
          have hiz : (i : Int) < (nm.size : Int) := by omega
          have ec : ((i + 1 : Nat) : Int) = (i : Int) + 1 := by omega
          have u0 := ub_eq hi
          have hiw : IntKind.i64.wrap ((i : Int) + 1 - 1) = (i : Int) := by rw [IntKind.wrap_i64]; omega
          have hit : ((i : Int) + 1).toNat = i + 1 := by omega
          have hgt : (0 : Int) < (i : Int) + 1 := by omega
          have z0 := CW.out (i + 1) (by omega)
          have SU : Aside (stepN ⟨2, yc, yn, ys⟩ nm r (i + 1) = (r (i + 1) || (stepN ⟨2, yc, yn, ys⟩ nm r i && decide (gb nm i ≠ 47)))) := by show _ = _; rw [stepN, if_pos rfl]
          obtain ⟨ao0, cap0, hv0, hsl0⟩ := ownE_sl o_len (by omega) ST.out.2
          injection hv0 with hv1 hv2 hv3
          subst hv1
          subst hv3
          obtain ⟨b7, o7, rfl, hb7, _⟩ := hsl0.here (by omega)
          have y0 := cellsO hsl0 i (by omega)
          clear CW hsl0 hv2
          rw [ec] at hlz hjz ⊢
          cases ha : r (i + 1) with
          | true =>
            have SV : Aside (stepN ⟨2, yc, yn, ys⟩ nm r (i + 1) = true) := by show _ = _; rw [SU.out, ha]; rfl
            rw [ha] at z0
            clear SU ha
            have hown := ST.out.2
            have hsw := ST.out.1.size
            simp at hsw
            go_wp2_with (at_builtin; refine wpList_append_own _ rfl _ _ 40 rfl (w.heap.size + 1) 4 i0 _ 1 1 Try.underlying40 hi0 hz0 hs0 hb0 rfl (by omega) _ _ _ rfl (hown.alloc _) ⟨wr.heap.size, 0, none⟩ 1 1 [.bool true] rfl rfl (cells_new _ _ _ _ rfl) (o_one true) (by unfold maxLen; omega) (by omega) (by first | (simp; omega) | (simp [size_plus]; omega)) ?_)
            intro v' w9 hown' hgrow _
            obtain ⟨ao9, cap9, rfl, hb9, ho9⟩ := app_stateN (U1 := (w.alloc (.cells #[.int .i64 (2 : Nat), .int .u8 yc, .string ys, .bool yn] 39))) (by simp) (by simp) o_len (by omega) (ys := [(true : Bool)]) (ST.out.1.alloc ST.out.1.size _) (hown.alloc _) (by rw [flatE_one]; exact hown') hgrow
            have ST9 : Aside (Below (w.alloc (.cells #[.int .i64 (2 : Nat), .int .u8 yc, .string ys, .bool yn] 39)).heap.size (w.alloc (.cells #[.int .i64 (2 : Nat), .int .u8 yc, .string ys, .bool yn] 39)) w9 ∧ w9.ownsRow (w.heap.size + 1) 4 1 (.slice ao9 (i + 1 + 1) cap9) (i + 1 + 1) (flatE oEnc (rowL (i + 1 + 1) (stepN ⟨2, yc, yn, ys⟩ nm r)))) := ⟨hb9, by rw [rowL_snoc, SV.out]; exact ho9⟩
            clear hown hown' hgrow hb9 ho9 hsw
            go_wp2
            go_roundg (nm.size + 1 - (i + 1 + 1))
            case measure => omega
            case rel => exact ⟨i + 1 + 1, ao9, cap9, by simp, rfl, by omega, by omega, by first | exact ST9 | (have := ST9.out; rw [rowL_snoc, SV.out]; exact this)⟩
          | false =>
            rw [ha] at z0
            cases hb : stepN ⟨2, yc, yn, ys⟩ nm r i with
            | false =>
              have SV : Aside (stepN ⟨2, yc, yn, ys⟩ nm r (i + 1) = false) := by show _ = _; rw [SU.out, ha, hb]; rfl
              rw [hb] at y0
              clear SU ha hb
              have hown := ST.out.2
              have hsw := ST.out.1.size
              simp at hsw
              go_wp2_with (at_builtin; refine wpList_append_own _ rfl _ _ 40 rfl (w.heap.size + 1) 4 i0 _ 1 1 Try.underlying40 hi0 hz0 hs0 hb0 rfl (by omega) _ _ _ rfl (hown.alloc _) ⟨wr.heap.size, 0, none⟩ 1 1 [.bool false] rfl rfl (cells_new _ _ _ _ rfl) (o_one false) (by unfold maxLen; omega) (by omega) (by first | (simp; omega) | (simp [size_plus]; omega)) ?_)
              intro v' w9 hown' hgrow _
              obtain ⟨ao9, cap9, rfl, hb9, ho9⟩ := app_stateN (U1 := (w.alloc (.cells #[.int .i64 (2 : Nat), .int .u8 yc, .string ys, .bool yn] 39))) (by simp) (by simp) o_len (by omega) (ys := [(false : Bool)]) (ST.out.1.alloc ST.out.1.size _) (hown.alloc _) (by rw [flatE_one]; exact hown') hgrow
              have ST9 : Aside (Below (w.alloc (.cells #[.int .i64 (2 : Nat), .int .u8 yc, .string ys, .bool yn] 39)).heap.size (w.alloc (.cells #[.int .i64 (2 : Nat), .int .u8 yc, .string ys, .bool yn] 39)) w9 ∧ w9.ownsRow (w.heap.size + 1) 4 1 (.slice ao9 (i + 1 + 1) cap9) (i + 1 + 1) (flatE oEnc (rowL (i + 1 + 1) (stepN ⟨2, yc, yn, ys⟩ nm r)))) := ⟨hb9, by rw [rowL_snoc, SV.out]; exact ho9⟩
              clear hown hown' hgrow hb9 ho9 hsw
              go_wp2
              go_roundg (nm.size + 1 - (i + 1 + 1))
              case measure => omega
              case rel => exact ⟨i + 1 + 1, ao9, cap9, by simp, rfl, by omega, by omega, by first | exact ST9 | (have := ST9.out; rw [rowL_snoc, SV.out]; exact this)⟩
            | true =>
              rw [hb] at y0
              by_cases hc : gb nm i = 47
              · have hf2 : (((ub nm i).toNat : Int) != 47) = false := by have : ((ub nm i).toNat : Int) = 47 := hc; simp [this]
                have SV : Aside (stepN ⟨2, yc, yn, ys⟩ nm r (i + 1) = false) := by show _ = _; rw [SU.out, ha, hb, decide_eq_false (by simp [hc])]; rfl
                clear SU ha hb hc
                have hown := ST.out.2
                have hsw := ST.out.1.size
                simp at hsw
                go_wp2_with (at_builtin; refine wpList_append_own _ rfl _ _ 40 rfl (w.heap.size + 1) 4 i0 _ 1 1 Try.underlying40 hi0 hz0 hs0 hb0 rfl (by omega) _ _ _ rfl (hown.alloc _) ⟨wr.heap.size, 0, none⟩ 1 1 [.bool false] rfl rfl (cells_new _ _ _ _ rfl) (o_one false) (by unfold maxLen; omega) (by omega) (by first | (simp; omega) | (simp [size_plus]; omega)) ?_)
                intro v' w9 hown' hgrow _
                obtain ⟨ao9, cap9, rfl, hb9, ho9⟩ := app_stateN (U1 := (w.alloc (.cells #[.int .i64 (2 : Nat), .int .u8 yc, .string ys, .bool yn] 39))) (by simp) (by simp) o_len (by omega) (ys := [(false : Bool)]) (ST.out.1.alloc ST.out.1.size _) (hown.alloc _) (by rw [flatE_one]; exact hown') hgrow
                have ST9 : Aside (Below (w.alloc (.cells #[.int .i64 (2 : Nat), .int .u8 yc, .string ys, .bool yn] 39)).heap.size (w.alloc (.cells #[.int .i64 (2 : Nat), .int .u8 yc, .string ys, .bool yn] 39)) w9 ∧ w9.ownsRow (w.heap.size + 1) 4 1 (.slice ao9 (i + 1 + 1) cap9) (i + 1 + 1) (flatE oEnc (rowL (i + 1 + 1) (stepN ⟨2, yc, yn, ys⟩ nm r)))) := ⟨hb9, by rw [rowL_snoc, SV.out]; exact ho9⟩
                clear hown hown' hgrow hb9 ho9 hsw
                go_wp2
                go_roundg (nm.size + 1 - (i + 1 + 1))
                case measure => omega
                case rel => exact ⟨i + 1 + 1, ao9, cap9, by simp, rfl, by omega, by omega, by first | exact ST9 | (have := ST9.out; rw [rowL_snoc, SV.out]; exact this)⟩
              · have hf2 : (((ub nm i).toNat : Int) != 47) = true := bne_iff_ne.2 hc
                have SV : Aside (stepN ⟨2, yc, yn, ys⟩ nm r (i + 1) = true) := by show _ = _; rw [SU.out, ha, hb, decide_eq_true hc]; rfl
                clear SU ha hb hc
                have hown := ST.out.2
                have hsw := ST.out.1.size
                simp at hsw
                go_wp2_with (at_builtin; refine wpList_append_own _ rfl _ _ 40 rfl (w.heap.size + 1) 4 i0 _ 1 1 Try.underlying40 hi0 hz0 hs0 hb0 rfl (by omega) _ _ _ rfl (hown.alloc _) ⟨wr.heap.size, 0, none⟩ 1 1 [.bool true] rfl rfl (cells_new _ _ _ _ rfl) (o_one true) (by unfold maxLen; omega) (by omega) (by first | (simp; omega) | (simp [size_plus]; omega)) ?_)
                intro v' w9 hown' hgrow _
                obtain ⟨ao9, cap9, rfl, hb9, ho9⟩ := app_stateN (U1 := (w.alloc (.cells #[.int .i64 (2 : Nat), .int .u8 yc, .string ys, .bool yn] 39))) (by simp) (by simp) o_len (by omega) (ys := [(true : Bool)]) (ST.out.1.alloc ST.out.1.size _) (hown.alloc _) (by rw [flatE_one]; exact hown') hgrow
                have ST9 : Aside (Below (w.alloc (.cells #[.int .i64 (2 : Nat), .int .u8 yc, .string ys, .bool yn] 39)).heap.size (w.alloc (.cells #[.int .i64 (2 : Nat), .int .u8 yc, .string ys, .bool yn] 39)) w9 ∧ w9.ownsRow (w.heap.size + 1) 4 1 (.slice ao9 (i + 1 + 1) cap9) (i + 1 + 1) (flatE oEnc (rowL (i + 1 + 1) (stepN ⟨2, yc, yn, ys⟩ nm r)))) := ⟨hb9, by rw [rowL_snoc, SV.out]; exact ho9⟩
                clear hown hown' hgrow hb9 ho9 hsw
                go_wp2
                go_roundg (nm.size + 1 - (i + 1 + 1))
                case measure => omega
                case rel => exact ⟨i + 1 + 1, ao9, cap9, by simp, rfl, by omega, by omega, by first | exact ST9 | (have := ST9.out; rw [rowL_snoc, SV.out]; exact this)⟩
      · have hf : (((yk : Nat) : Int) == 2) = false := by simp only [beq_eq_false_iff_ne]; omega
        have hkd : yk = 0 ∨ yk = 1 ∨ yk = 3 := by
          rcases OK.kind with h | h | h | h
          · exact .inl h
          · exact .inr (.inl h)
          · exact absurd h hk2
          · exact .inr (.inr h)
        cases j with
        | zero =>
          have SV : Aside (stepN ⟨yk, yc, yn, ys⟩ nm r 0 = false) := by show _ = _; rw [stepN, if_neg hk2]
          clear CW hkd hk2
          go_wp2
          refine wp_region_lo_plus 19 [18] (by kernel_rfl) (by kernel_rfl) ?_
          simp only [List.take, List.drop]
          refine lo_tame rfl rfl rfl (fun K hK => ?_)
          simp [go_sem, ↓IntWalk.iteOmega, *]
          refine hK _ ?_
          clear hK
          clear K
          refine lo_tame rfl rfl rfl (fun K hK => ?_)
          simp [go_sem, ↓IntWalk.iteOmega, *]
          refine hK _ ?_
          clear hK
          clear K
          refine lo_tame rfl rfl rfl (fun K hK => ?_)
          simp [go_sem, ↓IntWalk.iteOmega, *]
          refine hK _ ?_
          clear hK
          clear K
          refine lo_tame rfl rfl rfl (fun K hK => ?_)
          simp [go_sem, ↓IntWalk.iteOmega, *]
          refine hK _ ?_
          clear hK
          clear K
          refine lo_skip rfl rfl ?_
          simp only [Act.put, Array.setIfInBounds, List.size_toArray, List.length_cons, List.length_nil, Nat.reduceAdd, Nat.reduceLT, dite_true, List.set_toArray, List.set_cons_succ, List.set_cons_zero]
          refine lo_skip rfl rfl ?_
          simp only [Act.put, Array.setIfInBounds, List.size_toArray, List.length_cons, List.length_nil, Nat.reduceAdd, Nat.reduceLT, dite_true, List.set_toArray, List.set_cons_succ, List.set_cons_zero]
          refine lo_skip rfl rfl ?_
          simp only [Act.put, Array.setIfInBounds, List.size_toArray, List.length_cons, List.length_nil, Nat.reduceAdd, Nat.reduceLT, dite_true, List.set_toArray, List.set_cons_succ, List.set_cons_zero]
          refine lo_skip rfl rfl ?_
          simp only [Act.put, Array.setIfInBounds, List.size_toArray, List.length_cons, List.length_nil, Nat.reduceAdd, Nat.reduceLT, dite_true, List.set_toArray, List.set_cons_succ, List.set_cons_zero]
          refine lo_skip rfl rfl ?_
          simp only [Act.put, Array.setIfInBounds, List.size_toArray, List.length_cons, List.length_nil, Nat.reduceAdd, Nat.reduceLT, dite_true, List.set_toArray, List.set_cons_succ, List.set_cons_zero]
          refine lo_tame rfl rfl rfl (fun K hK => ?_)
          simp [go_sem, ↓IntWalk.iteOmega, *]
          refine hK _ ?_
          clear hK
          clear K
          refine lo_tame rfl rfl rfl (fun K hK => ?_)
          simp [go_sem, ↓IntWalk.iteOmega, *]
          refine hK _ ?_
          clear hK
          clear K
          refine lo_skip rfl rfl ?_
          simp only [Act.put, Array.setIfInBounds, List.size_toArray, List.length_cons, List.length_nil, Nat.reduceAdd, Nat.reduceLT, dite_true, List.set_toArray, List.set_cons_succ, List.set_cons_zero]
          refine lo_skip rfl rfl ?_
          simp only [Act.put, Array.setIfInBounds, List.size_toArray, List.length_cons, List.length_nil, Nat.reduceAdd, Nat.reduceLT, dite_true, List.set_toArray, List.set_cons_succ, List.set_cons_zero]
          refine lo_skip rfl rfl ?_
          simp only [Act.put, Array.setIfInBounds, List.size_toArray, List.length_cons, List.length_nil, Nat.reduceAdd, Nat.reduceLT, dite_true, List.set_toArray, List.set_cons_succ, List.set_cons_zero]
          refine lo_skip rfl rfl ?_
          simp only [Act.put, Array.setIfInBounds, List.size_toArray, List.length_cons, List.length_nil, Nat.reduceAdd, Nat.reduceLT, dite_true, List.set_toArray, List.set_cons_succ, List.set_cons_zero]
          refine lo_skip rfl rfl ?_
          simp only [Act.put, Array.setIfInBounds, List.size_toArray, List.length_cons, List.length_nil, Nat.reduceAdd, Nat.reduceLT, dite_true, List.set_toArray, List.set_cons_succ, List.set_cons_zero]
          refine lo_skip rfl rfl ?_
          simp only [Act.put, Array.setIfInBounds, List.size_toArray, List.length_cons, List.length_nil, Nat.reduceAdd, Nat.reduceLT, dite_true, List.set_toArray, List.set_cons_succ, List.set_cons_zero]
          refine lo_tame rfl rfl rfl (fun K hK => ?_)
          simp [go_sem, ↓IntWalk.iteOmega, *]
          refine hK _ ?_
          clear hK
          clear K
          refine lo_build (enc := oEnc) o_len (by omega) [(false : Bool)] 1 rfl (by omega) #[.bool false] 4 rfl rfl rfl rfl (fun x => by simp [go_sem]) ?_
          simp only [List.nil_append, List.cons_append]
          refine lo_nil ?_
          rintro _ ⟨y, rfl⟩
          refine specEnd_sl (fun aS cS _ hS => ?_)
          refine specEnd_nil ?_
          simp only [Act.put, Array.setIfInBounds, List.size_toArray, List.length_cons, List.length_nil, Nat.reduceAdd, Nat.reduceLT, dite_true, List.set_toArray, List.set_cons_succ, List.set_cons_zero]
          have ST8 : Aside (Below (w.alloc (.cells #[.int .i64 (yk : Nat), .int .u8 yc, .string ys, .bool yn] 39)).heap.size (w.alloc (.cells #[.int .i64 (yk : Nat), .int .u8 yc, .string ys, .bool yn] 39)) (plus wr y) ∧ (plus wr y).ownsRow (w.heap.size + 1) 4 1 (.slice ao' (0) cap') (0) (flatE oEnc (rowL (0) (stepN ⟨yk, yc, yn, ys⟩ nm r)))) := ⟨ST.out.1.trans ((below_plus wr y).mono ST.out.1.size), own_plus ST.out.2⟩
          clear ST
          generalize plus wr y = w8 at ST8 hS ⊢
          obtain ⟨b9, o9, rfl, _, _⟩ := hS.here (by omega)
          have hc9 := Sl.cellsE o_len (by omega) hS
          have hown := ST8.out.2
          have hsw := ST8.out.1.size
          simp at hsw
          go_wp2_with (at_builtin; refine wpList_append_own _ rfl _ _ 40 rfl (w.heap.size + 1) 4 i0 _ 1 1 Try.underlying40 hi0 hz0 hs0 hb0 rfl (by omega) _ _ _ rfl hown ⟨b9, o9, none⟩ 1 cS (flatE oEnc [(false : Bool)]) rfl rfl (fun j u hj => by rw [Addr.add_lit]; exact hc9 j u hj) (flatE_cells (enc := oEnc) o_one _) (by unfold maxLen; omega) (by omega) (by omega) ?_)
          intro v' w9 hown' hgrow _
          obtain ⟨ao9, cap9, rfl, hb9, ho9⟩ := app_stateN (U1 := (w.alloc (.cells #[.int .i64 (yk : Nat), .int .u8 yc, .string ys, .bool yn] 39))) (by simp) (by simp) o_len (by omega) (ys := [(false : Bool)]) ST8.out.1 hown hown' hgrow
          have ST9 : Aside (Below (w.alloc (.cells #[.int .i64 (yk : Nat), .int .u8 yc, .string ys, .bool yn] 39)).heap.size (w.alloc (.cells #[.int .i64 (yk : Nat), .int .u8 yc, .string ys, .bool yn] 39)) w9 ∧ w9.ownsRow (w.heap.size + 1) 4 1 (.slice ao9 (0 + 1) cap9) (0 + 1) (flatE oEnc (rowL (0 + 1) (stepN ⟨yk, yc, yn, ys⟩ nm r)))) := ⟨hb9, by rw [rowL_snoc, SV.out]; exact ho9⟩
          clear hown hown' hgrow hb9 ho9 ST8 hS hc9
          go_wp2
          go_roundg (nm.size + 1 - (0 + 1))
          case measure => omega
          case rel => exact ⟨0 + 1, ao9, cap9, by simp, rfl, by omega, by omega, by first | exact ST9 | (have := ST9.out; rw [rowL_snoc, SV.out]; exact this)⟩
        | succ i =>
          have hi : i < nm.size := by omega
          have hiz : (i : Int) < (nm.size : Int) := by omega
          have hiz1 : (i : Int) < (nm.size : Int) + 1 := by omega
          have ec : ((i + 1 : Nat) : Int) = (i : Int) + 1 := by omega
          have u0 := ub_eq hi
          have hiw : IntKind.i64.wrap ((i : Int) + 1 - 1) = (i : Int) := by rw [IntKind.wrap_i64]; omega
          have hiw2 : IntKind.i64.wrap (i : Int) = (i : Int) := by rw [IntKind.wrap_i64]; omega
          have hgt : (0 : Int) < (i : Int) + 1 := by omega
          have z0 := CW.out i (by omega)
          have SU : Aside (stepN ⟨yk, yc, yn, ys⟩ nm r (i + 1) = (r i && accB ⟨yk, yc, yn, ys⟩ (gb nm i))) := by show _ = _; rw [stepN, if_neg hk2]
          have cac := fun U => fits_calls ⟨yk, yc, yn, ys⟩ (gb nm i) hkd OK.even OK.len U
          clear CW hkd hk2
          rw [ec] at hlz hjz ⊢
          cases ha : r i with
          | false =>
            have SV : Aside (stepN ⟨yk, yc, yn, ys⟩ nm r (i + 1) = false) := by show _ = _; rw [SU.out, ha]; rfl
            rw [ha] at z0
            clear SU ha cac
            go_wp2
            refine wp_region_lo_plus 19 [18] (by kernel_rfl) (by kernel_rfl) ?_
            simp only [List.take, List.drop]
            refine lo_tame rfl rfl rfl (fun K hK => ?_)
            simp [go_sem, ↓IntWalk.iteOmega, *]
            refine hK _ ?_
            clear hK
            clear K
            refine lo_tame rfl rfl rfl (fun K hK => ?_)
            simp [go_sem, ↓IntWalk.iteOmega, *]
            refine hK _ ?_
            clear hK
            clear K
            refine lo_tame rfl rfl rfl (fun K hK => ?_)
            simp [go_sem, ↓IntWalk.iteOmega, *]
            refine hK _ ?_
            clear hK
            clear K
            refine lo_tame rfl rfl rfl (fun K hK => ?_)
            simp [go_sem, ↓IntWalk.iteOmega, *]
            refine hK _ ?_
            clear hK
            clear K
            refine lo_tame rfl rfl rfl (fun K hK => ?_)
            simp [go_sem, ↓IntWalk.iteOmega, *]
            refine hK _ ?_
            clear hK
            clear K
            refine lo_tame rfl rfl rfl (fun K hK => ?_)
            simp [go_sem, ↓IntWalk.iteOmega, *]
            refine hK _ ?_
            clear hK
            clear K
            refine lo_tame rfl rfl rfl (fun K hK => ?_)
            simp [go_sem, ↓IntWalk.iteOmega, *]
            refine hK _ ?_
            clear hK
            clear K
            refine lo_tame rfl rfl rfl (fun K hK => ?_)
            simp [go_sem, ↓IntWalk.iteOmega, *]
            refine hK _ ?_
            clear hK
            clear K
            refine lo_tame rfl rfl rfl (fun K hK => ?_)
            simp [go_sem, ↓IntWalk.iteOmega, *]
            refine hK _ ?_
            clear hK
            clear K
            refine lo_tame rfl rfl rfl (fun K hK => ?_)
            simp [go_sem, ↓IntWalk.iteOmega, *]
            refine hK _ ?_
            clear hK
            clear K
            refine lo_tame rfl rfl rfl (fun K hK => ?_)
            simp [go_sem, ↓IntWalk.iteOmega, *]
            refine hK _ ?_
            clear hK
            clear K
            refine lo_skip rfl rfl ?_
            simp only [Act.put, Array.setIfInBounds, List.size_toArray, List.length_cons, List.length_nil, Nat.reduceAdd, Nat.reduceLT, dite_true, List.set_toArray, List.set_cons_succ, List.set_cons_zero]
            refine lo_skip rfl rfl ?_
            simp only [Act.put, Array.setIfInBounds, List.size_toArray, List.length_cons, List.length_nil, Nat.reduceAdd, Nat.reduceLT, dite_true, List.set_toArray, List.set_cons_succ, List.set_cons_zero]
            refine lo_skip rfl rfl ?_
            simp only [Act.put, Array.setIfInBounds, List.size_toArray, List.length_cons, List.length_nil, Nat.reduceAdd, Nat.reduceLT, dite_true, List.set_toArray, List.set_cons_succ, List.set_cons_zero]
            refine lo_skip rfl rfl ?_
            simp only [Act.put, Array.setIfInBounds, List.size_toArray, List.length_cons, List.length_nil, Nat.reduceAdd, Nat.reduceLT, dite_true, List.set_toArray, List.set_cons_succ, List.set_cons_zero]
            refine lo_skip rfl rfl ?_
            simp only [Act.put, Array.setIfInBounds, List.size_toArray, List.length_cons, List.length_nil, Nat.reduceAdd, Nat.reduceLT, dite_true, List.set_toArray, List.set_cons_succ, List.set_cons_zero]
            refine lo_skip rfl rfl ?_
            simp only [Act.put, Array.setIfInBounds, List.size_toArray, List.length_cons, List.length_nil, Nat.reduceAdd, Nat.reduceLT, dite_true, List.set_toArray, List.set_cons_succ, List.set_cons_zero]
            refine lo_tame rfl rfl rfl (fun K hK => ?_)
            simp [go_sem, ↓IntWalk.iteOmega, *]
            refine hK _ ?_
            clear hK
            clear K
            refine lo_build (enc := oEnc) o_len (by omega) [(false : Bool)] 1 rfl (by omega) #[.bool false] 4 rfl rfl rfl rfl (fun x => by simp [go_sem]) ?_
            simp only [List.nil_append, List.cons_append]
            refine lo_nil ?_
            rintro _ ⟨y, rfl⟩
            refine specEnd_sl (fun aS cS _ hS => ?_)
            refine specEnd_nil ?_
            simp only [Act.put, Array.setIfInBounds, List.size_toArray, List.length_cons, List.length_nil, Nat.reduceAdd, Nat.reduceLT, dite_true, List.set_toArray, List.set_cons_succ, List.set_cons_zero]
            have ST8 : Aside (Below (w.alloc (.cells #[.int .i64 (yk : Nat), .int .u8 yc, .string ys, .bool yn] 39)).heap.size (w.alloc (.cells #[.int .i64 (yk : Nat), .int .u8 yc, .string ys, .bool yn] 39)) (plus wr y) ∧ (plus wr y).ownsRow (w.heap.size + 1) 4 1 (.slice ao' (i + 1) cap') (i + 1) (flatE oEnc (rowL (i + 1) (stepN ⟨yk, yc, yn, ys⟩ nm r)))) := ⟨ST.out.1.trans ((below_plus wr y).mono ST.out.1.size), own_plus ST.out.2⟩
            clear ST
            generalize plus wr y = w8 at ST8 hS ⊢
            obtain ⟨b9, o9, rfl, _, _⟩ := hS.here (by omega)
            have hc9 := Sl.cellsE o_len (by omega) hS
            have hown := ST8.out.2
            have hsw := ST8.out.1.size
            simp at hsw
            go_wp2_with (at_builtin; refine wpList_append_own _ rfl _ _ 40 rfl (w.heap.size + 1) 4 i0 _ 1 1 Try.underlying40 hi0 hz0 hs0 hb0 rfl (by omega) _ _ _ rfl hown ⟨b9, o9, none⟩ 1 cS (flatE oEnc [(false : Bool)]) rfl rfl (fun j u hj => by rw [Addr.add_lit]; exact hc9 j u hj) (flatE_cells (enc := oEnc) o_one _) (by unfold maxLen; omega) (by omega) (by omega) ?_)
            intro v' w9 hown' hgrow _
            obtain ⟨ao9, cap9, rfl, hb9, ho9⟩ := app_stateN (U1 := (w.alloc (.cells #[.int .i64 (yk : Nat), .int .u8 yc, .string ys, .bool yn] 39))) (by simp) (by simp) o_len (by omega) (ys := [(false : Bool)]) ST8.out.1 hown hown' hgrow
            have ST9 : Aside (Below (w.alloc (.cells #[.int .i64 (yk : Nat), .int .u8 yc, .string ys, .bool yn] 39)).heap.size (w.alloc (.cells #[.int .i64 (yk : Nat), .int .u8 yc, .string ys, .bool yn] 39)) w9 ∧ w9.ownsRow (w.heap.size + 1) 4 1 (.slice ao9 (i + 1 + 1) cap9) (i + 1 + 1) (flatE oEnc (rowL (i + 1 + 1) (stepN ⟨yk, yc, yn, ys⟩ nm r)))) := ⟨hb9, by rw [rowL_snoc, SV.out]; exact ho9⟩
            clear hown hown' hgrow hb9 ho9 ST8 hS hc9
            go_wp2
            go_roundg (nm.size + 1 - (i + 1 + 1))
            case measure => omega
            case rel => exact ⟨i + 1 + 1, ao9, cap9, by simp, rfl, by omega, by omega, by first | exact ST9 | (have := ST9.out; rw [rowL_snoc, SV.out]; exact this)⟩
          | true =>
            have SV : Aside (stepN ⟨yk, yc, yn, ys⟩ nm r (i + 1) = accB ⟨yk, yc, yn, ys⟩ (gb nm i)) := by show _ = _; rw [SU.out, ha]; rfl
            generalize accB ⟨yk, yc, yn, ys⟩ (gb nm i) = av at cac SV
            have ca : ∀ U, Calls Try.prog 37 #[.agg #[.int .i64 (yk : Nat), .int .u8 yc, .string ys, .bool yn], .int .u8 ((ub nm i).toNat : Int)] U fun e w' => e = .returned (.bool av) ∧ Below U.heap.size U w' := cac
            rw [ha] at z0
            clear SU ha cac
            go_wp2
            refine wp_region_lo_plus 19 [18] (by kernel_rfl) (by kernel_rfl) ?_
            simp only [List.take, List.drop]
            refine lo_tame rfl rfl rfl (fun K hK => ?_)
            simp [go_sem, ↓IntWalk.iteOmega, *]
            refine hK _ ?_
            clear hK
            clear K
            refine lo_tame rfl rfl rfl (fun K hK => ?_)
            simp [go_sem, ↓IntWalk.iteOmega, *]
            refine hK _ ?_
            clear hK
            clear K
            refine lo_tame rfl rfl rfl (fun K hK => ?_)
            simp [go_sem, ↓IntWalk.iteOmega, *]
            refine hK _ ?_
            clear hK
            clear K
            refine lo_tame rfl rfl rfl (fun K hK => ?_)
            simp [go_sem, ↓IntWalk.iteOmega, *]
            refine hK _ ?_
            clear hK
            clear K
            refine lo_tame rfl rfl rfl (fun K hK => ?_)
            simp [go_sem, ↓IntWalk.iteOmega, *]
            refine hK _ ?_
            clear hK
            clear K
            refine lo_tame rfl rfl rfl (fun K hK => ?_)
            simp [go_sem, ↓IntWalk.iteOmega, *]
            refine hK _ ?_
            clear hK
            clear K
            refine lo_tame rfl rfl rfl (fun K hK => ?_)
            simp [go_sem, ↓IntWalk.iteOmega, *]
            refine hK _ ?_
            clear hK
            clear K
            refine lo_tame rfl rfl rfl (fun K hK => ?_)
            simp [go_sem, ↓IntWalk.iteOmega, *]
            refine hK _ ?_
            clear hK
            clear K
            refine lo_tame rfl rfl rfl (fun K hK => ?_)
            simp [go_sem, ↓IntWalk.iteOmega, *]
            refine hK _ ?_
            clear hK
            clear K
            refine lo_tame rfl rfl rfl (fun K hK => ?_)
            simp [go_sem, ↓IntWalk.iteOmega, *]
            refine hK _ ?_
            clear hK
            clear K
            refine lo_tame rfl rfl rfl (fun K hK => ?_)
            simp [go_sem, ↓IntWalk.iteOmega, *]
            refine hK _ ?_
            clear hK
            clear K
            refine lo_tame rfl rfl rfl (fun K hK => ?_)
            simp [go_sem, ↓IntWalk.iteOmega, *]
            refine hK _ ?_
            clear hK
            clear K
            refine lo_tame rfl rfl rfl (fun K hK => ?_)
            simp [go_sem, ↓IntWalk.iteOmega, *]
            refine hK _ ?_
            clear hK
            clear K
            refine lo_tame rfl rfl rfl (fun K hK => ?_)
            simp [go_sem, ↓IntWalk.iteOmega, *]
            refine hK _ ?_
            clear hK
            clear K
            refine lo_tame rfl rfl rfl (fun K hK => ?_)
            simp [go_sem, ↓IntWalk.iteOmega, *]
            refine hK _ ?_
            clear hK
            clear K
            refine lo_tame rfl rfl rfl (fun K hK => ?_)
            simp [go_sem, ↓IntWalk.iteOmega, *]
            refine hK _ ?_
            clear hK
            clear K
            refine lo_tcall 37 #[.agg #[.int .i64 (yk : Nat), .int .u8 yc, .string ys, .bool yn], .int .u8 ((ub nm i).toNat : Int)] (.bool av) rfl rfl rfl (fun x => by simp [go_sem]) (fun x => ca _) ?_
            simp only [Act.put, Array.setIfInBounds, List.size_toArray, List.length_cons, List.length_nil, Nat.reduceAdd, Nat.reduceLT, dite_true, List.set_toArray, List.set_cons_succ, List.set_cons_zero]
            refine lo_tame rfl rfl rfl (fun K hK => ?_)
            simp [go_sem, ↓IntWalk.iteOmega, *]
            refine hK _ ?_
            clear hK
            clear K
            refine lo_build (enc := oEnc) o_len (by omega) [(av : Bool)] 1 rfl (by omega) #[.bool av] 4 rfl rfl rfl rfl (fun x => by simp [go_sem]) ?_
            simp only [List.nil_append, List.cons_append]
            refine lo_nil ?_
            rintro _ ⟨y, rfl⟩
            refine specEnd_sl (fun aS cS _ hS => ?_)
            refine specEnd_nil ?_
            simp only [Act.put, Array.setIfInBounds, List.size_toArray, List.length_cons, List.length_nil, Nat.reduceAdd, Nat.reduceLT, dite_true, List.set_toArray, List.set_cons_succ, List.set_cons_zero]
            have ST8 : Aside (Below (w.alloc (.cells #[.int .i64 (yk : Nat), .int .u8 yc, .string ys, .bool yn] 39)).heap.size (w.alloc (.cells #[.int .i64 (yk : Nat), .int .u8 yc, .string ys, .bool yn] 39)) (plus wr y) ∧ (plus wr y).ownsRow (w.heap.size + 1) 4 1 (.slice ao' (i + 1) cap') (i + 1) (flatE oEnc (rowL (i + 1) (stepN ⟨yk, yc, yn, ys⟩ nm r)))) := ⟨ST.out.1.trans ((below_plus wr y).mono ST.out.1.size), own_plus ST.out.2⟩
            clear ST
            generalize plus wr y = w8 at ST8 hS ⊢
            obtain ⟨b9, o9, rfl, _, _⟩ := hS.here (by omega)
            have hc9 := Sl.cellsE o_len (by omega) hS
            have hown := ST8.out.2
            have hsw := ST8.out.1.size
            simp at hsw
            go_wp2_with (at_builtin; refine wpList_append_own _ rfl _ _ 40 rfl (w.heap.size + 1) 4 i0 _ 1 1 Try.underlying40 hi0 hz0 hs0 hb0 rfl (by omega) _ _ _ rfl hown ⟨b9, o9, none⟩ 1 cS (flatE oEnc [(av : Bool)]) rfl rfl (fun j u hj => by rw [Addr.add_lit]; exact hc9 j u hj) (flatE_cells (enc := oEnc) o_one _) (by unfold maxLen; omega) (by omega) (by omega) ?_)
            intro v' w9 hown' hgrow _
            obtain ⟨ao9, cap9, rfl, hb9, ho9⟩ := app_stateN (U1 := (w.alloc (.cells #[.int .i64 (yk : Nat), .int .u8 yc, .string ys, .bool yn] 39))) (by simp) (by simp) o_len (by omega) (ys := [(av : Bool)]) ST8.out.1 hown hown' hgrow
            have ST9 : Aside (Below (w.alloc (.cells #[.int .i64 (yk : Nat), .int .u8 yc, .string ys, .bool yn] 39)).heap.size (w.alloc (.cells #[.int .i64 (yk : Nat), .int .u8 yc, .string ys, .bool yn] 39)) w9 ∧ w9.ownsRow (w.heap.size + 1) 4 1 (.slice ao9 (i + 1 + 1) cap9) (i + 1 + 1) (flatE oEnc (rowL (i + 1 + 1) (stepN ⟨yk, yc, yn, ys⟩ nm r)))) := ⟨hb9, by rw [rowL_snoc, SV.out]; exact ho9⟩
            clear hown hown' hgrow hb9 ho9 ST8 hS hc9
            go_wp2
            go_roundg (nm.size + 1 - (i + 1 + 1))
            case measure => omega
            case rel => exact ⟨i + 1 + 1, ao9, cap9, by simp, rfl, by omega, by omega, by first | exact ST9 | (have := ST9.out; rw [rowL_snoc, SV.out]; exact this)⟩
    · have hlz : ¬ (j : Int) ≤ (nm.size : Int) := by omega
      have ej : j = nm.size + 1 := by omega
      subst ej
      go_wp2
      go_ret
      exact ⟨ao', cap', rfl, own_lower ST.out.2 (by omega), Below.trans ((Below.refl _ w).alloc (Nat.le_refl _) _) (ST.out.1.mono (by simp))⟩

end Go.Proofs.Ytodoilengdnlfaa
