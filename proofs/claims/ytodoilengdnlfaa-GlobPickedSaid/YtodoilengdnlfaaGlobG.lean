/- This text says in plain Lean which names a pattern matches, and proves the walk of Match of package glob. Conditions: those that each theorem names. -/
import Derived.Test.YtodoilengdnlfaaGlobF
import Derived.Laws.MakeOwn
namespace Go.Proofs.Ytodoilengdnlfaa
open Go.ChangeShapes Go.WideShapes Go.ChangeAt Go.RowKit
set_option linter.unusedVariables false
set_option linter.unusedSimpArgs false

/-- Which beginnings of a name match with one element more. -/
def stepN (e : Em) (nm : ByteArray) (r : Nat → Bool) : Nat → Bool
  | 0 => if e.kind = 2 then r 0 else false
  | j + 1 => if e.kind = 2 then r (j + 1) || (stepN e nm r j && decide (gb nm j ≠ 47)) else r j && accB e (gb nm j)
def reachF (nm : ByteArray) (es : List Em) : Nat → Bool := es.foldl (fun r e => stepN e nm r) (fun j => decide (j = 0))
def matchB (s q nm : ByteArray) : Bool := reachF nm (elems s q) nm.size
theorem pk_star {k : Nat} (h : k ≠ 2) : pk k ≠ 2 := by
  unfold pk
  repeat' split
  all_goals first | decide | exact absurd ‹_› h
/-- A row of n bools. -/
def rowB (n : Nat) (f : Nat → Bool) : Array Value := ((List.range n).map fun j => Value.bool (f j)).toArray
theorem rowB_size (n : Nat) (f : Nat → Bool) : (rowB n f).size = n := by simp [rowB]
theorem rowB_get {n : Nat} {f : Nat → Bool} {j : Nat} (h : j < n) : (rowB n f)[j]? = some (.bool (f j)) := by simp [rowB, h]
theorem rowB_ext {n : Nat} {f g : Nat → Bool} (h : ∀ j, j < n → f j = g j) : rowB n f = rowB n g := by
  unfold rowB
  congr 1
  exact List.map_congr_left fun j hj => by rw [h j (List.mem_range.1 hj)]
theorem rowB_set (n : Nat) (f : Nat → Bool) (i : Nat) (b : Bool) : (rowB n f).setIfInBounds i (.bool b) = rowB n (fun j => if j = i then b else f j) := by
  apply Array.ext_getElem?
  intro j
  rw [Array.getElem?_setIfInBounds]
  by_cases hj : j < n
  · simp only [rowB_get hj, rowB_size]
    by_cases e : i = j
    · subst e; simp only [if_true, if_pos hj]
    · rw [if_neg e, if_neg (fun h => e h.symm)]
  · have h1 : ∀ g, (rowB n g)[j]? = none := fun g => Array.getElem?_eq_none (by rw [rowB_size]; omega)
    rw [h1, h1, rowB_size]
    by_cases e : i = j
    · subst e; rw [if_pos rfl, if_neg hj]
    · rw [if_neg e]
theorem made_rowB (n : Nat) : madeCells #[Value.bool false] n = rowB n (fun _ => false) := by
  apply Array.ext_getElem?
  intro j
  by_cases hj : j < n
  · rw [rowB_get hj]
    simp [madeCells, hj, Nat.mod_one]
  · rw [Array.getElem?_eq_none (by rw [size_madeCells]; omega), Array.getElem?_eq_none (by rw [rowB_size]; omega)]
/-- The first i + 1 of a step. -/
def partF (e : Em) (nm : ByteArray) (r : Nat → Bool) (i : Nat) (j : Nat) : Bool := if j ≤ i then stepN e nm r j else false
theorem part_set (e : Em) (nm : ByteArray) (r : Nat → Bool) (i : Nat) (hi : i < nm.size) : (rowB (nm.size + 1) (partF e nm r i)).setIfInBounds (i + 1) (.bool (stepN e nm r (i + 1))) = rowB (nm.size + 1) (partF e nm r (i + 1)) := by
  rw [rowB_set]
  refine rowB_ext (fun j hj => ?_)
  unfold partF
  by_cases e1 : j = i + 1
  · subst e1; rw [if_pos rfl, if_pos (Nat.le_refl _)]
  · rw [if_neg e1]
    by_cases h : j ≤ i
    · rw [if_pos h, if_pos (by omega)]
    · rw [if_neg h, if_neg (by omega)]
theorem part_all (e : Em) (nm : ByteArray) (r : Nat → Bool) : rowB (nm.size + 1) (partF e nm r nm.size) = rowB (nm.size + 1) (stepN e nm r) :=
  rowB_ext fun j hj => by unfold partF; rw [if_pos (by omega)]
theorem part_zero (e : Em) (nm : ByteArray) (r : Nat → Bool) (h : e.kind ≠ 2) : rowB (nm.size + 1) (fun _ => false) = rowB (nm.size + 1) (partF e nm r 0) :=
  rowB_ext fun j hj => by
    unfold partF
    split
    · have : j = 0 := by omega
      subst this
      unfold stepN
      rw [if_neg h]
    · rfl
theorem part_zero_star (e : Em) (nm : ByteArray) (r : Nat → Bool) (h : e.kind = 2) : (rowB (nm.size + 1) (fun _ => false)).setIfInBounds 0 (.bool (r 0)) = rowB (nm.size + 1) (partF e nm r 0) := by
  rw [rowB_set]
  refine rowB_ext fun j hj => ?_
  unfold partF
  by_cases e1 : j = 0
  · subst e1
    rw [if_pos rfl, if_pos (Nat.le_refl _)]
    unfold stepN
    rw [if_pos h]
  · rw [if_neg e1, if_neg (by omega)]
theorem boInfo : ∃ i0 : TypeInfo, Try.prog.info? 4 = some i0 ∧ i0.zero = some (.bool false) ∧ i0.size = 1 ∧ i0.bytes = 1 := by
  have h : (Try.prog.info? 4).map (fun i => (i.zero, i.size, i.bytes)) = some (some (.bool false), 1, 1) := by kernel_rfl
  cases hi : Try.prog.info? 4 with
  | none => rw [hi] at h; cases h
  | some i0 =>
    rw [hi] at h
    simp only [Option.map_some, Option.some.injEq, Prod.mk.injEq] at h
    exact ⟨i0, rfl, h.1, h.2.1, h.2.2⟩
theorem make_bools (n : Nat) (hn : n ≤ 140737488351232) (U : World) : (Instr.makeSlice 40 (.int .i64 ((n : Int) + 1)) (.int .i64 ((n : Int) + 1))).run Try.prog U = .ok (.slice (some ⟨U.heap.size, 0, none⟩) (n + 1) (n + 1)) (U.alloc (.cells (rowB (n + 1) (fun _ => false)) 4)) := by
  obtain ⟨i0, hi0, hz0, hs0, hb0⟩ := boInfo
  rw [run_make (P := Try.prog) U 40 4 i0 (.bool false) Try.underlying40 hi0 hz0 .i64 .i64 ((n : Int) + 1) ((n : Int) + 1) (by omega) (Int.le_refl _) (by rw [hb0]; omega) (by omega), hs0, Nat.mul_one, show ((n : Int) + 1).toNat = n + 1 by omega]
  have e : (Value.bool false).cells = #[Value.bool false] := rfl
  rw [e, made_rowB]

set_option maxHeartbeats 16000000 in
set_option maxRecDepth 100000 in
theorem match_calls (s q nm : ByteArray) (hs : s.size ≤ 20000) (hn : nm.size ≤ 140737488351232) (w : World) :
    Calls Try.prog 12 #[.string s, .string q, .string nm] w fun e w' => e = .returned (.bool (matchB s q nm)) ∧ Below w.heap.size w w' := by
  have cp := fun U => parse_calls s q hs U
  have mk := fun U => make_bools nm.size hn U
  have HR : Aside (matchB s q nm = reachF nm (elems s q) nm.size) := rfl
  have hlen := elems_len s q
  have HOK : Aside (∀ e ∈ elems s q, OkE e) := elems_ok s q hs
  generalize elems s q = es at cp HR hlen HOK
  generalize matchB s q nm = res at HR ⊢
  have g0 : (rowB (nm.size + 1) (fun _ => false))[0]? = some (.bool false) := rowB_get (by omega)
  have hnp : (0 : Int) < (nm.size : Int) + 1 := by omega
  go_enter Try.func12, Try.ntmps12
  go_wp2_with fail
  refine (cp _).mono ?_
  rintro e w1 ⟨ao, cap, rfl, ho, hb⟩
  obtain ⟨a9, c9, hv9, hsl⟩ := ownE_sl encP_len (by omega) ho
  injection hv9 with v1 v2 v3
  subst v1
  subst v3
  have HC : Aside (CE encP w1 ao es) := ce_of encP_len hsl
  have hr0 : w1.heap[w.heap.size]? = some (.cells (rowB (nm.size + 1) (reachF nm (es.take 0))) 4 (0, 0)) := by
    have := heap_later (hp_new (w := w) (o := .cells ((rowB (nm.size + 1) (fun _ => false)).setIfInBounds 0 (.bool true)) 4) rfl) hb
    have e0 : rowB (nm.size + 1) (fun j => if j = 0 then true else false) = rowB (nm.size + 1) (reachF nm (es.take 0)) := rowB_ext fun j _ => by
      show _ = decide (j = 0)
      by_cases e : j = 0
      · rw [if_pos e, decide_eq_true e]
      · rw [if_neg e, decide_eq_false e]
    rw [this, rowB_set, e0]
  have HB : Aside (Below w.heap.size w w1) := Below.trans ((Below.refl _ w).alloc (Nat.le_refl _) _) (hb.mono (by simp))
  have HR0 : Aside (_ = _) := hr0
  have hnz : es.length ≤ 20000 := by omega
  clear ho hb cp hsl hlen hr0 g0 v2
  go_wp2
  go_loopg [7, 22] es.length (fun k s7 s22 wr => ∃ (idx rb : Nat), s22 = .int .i64 (idx : Int) ∧ s7 = .slice (some ⟨rb, 0, none⟩) (nm.size + 1) (nm.size + 1) ∧ k + idx = es.length ∧ Aside (Below w1.heap.size w1 wr ∧ wr.heap[rb]? = some (.cells (rowB (nm.size + 1) (reachF nm (es.take idx))) 4 (0, 0))))
  case atStart => exact ⟨0, w.heap.size, rfl, rfl, by omega, (show _ ∧ _ from ⟨Below.refl _ _, HR0.out⟩)⟩
  case round =>
    obtain ⟨idx, rb, rfl, rfl, hk, ST⟩ := hrel
    by_cases hj : idx < es.length
    · have hjz : (idx : Int) < (es.length : Int) := by omega
      have RS : Aside (reachF nm (es.take (idx + 1)) = stepN es[idx]! nm (reachF nm (es.take idx))) := by show _ = _; unfold reachF; rw [take_foldE _ _ _ _ hj]
      have OK1 : Aside (OkE es[idx]!) := HOK.out _ (by rw [getElem!_pos es idx hj]; exact List.getElem_mem _)
      obtain ⟨b, off, rfl, hbw, hc⟩ := HC.out idx hj
      generalize es[idx]! = y at hc RS OK1
      obtain ⟨yk, yc, yn, ys⟩ := y
      have l0 := (ST.out.1.cell (p := ⟨b, off + idx * 4, none⟩) hbw).trans (hc 0 _ rfl)
      have l1 := (ST.out.1.cell (p := ⟨b, off + idx * 4 + 1, none⟩) hbw).trans (hc 1 _ rfl)
      have l2 := (ST.out.1.cell (p := ⟨b, off + idx * 4 + 2, none⟩) hbw).trans (hc 2 _ rfl)
      have l3 := (ST.out.1.cell (p := ⟨b, off + idx * 4 + 3, none⟩) hbw).trans (hc 3 _ rfl)
      have hbr : b < wr.heap.size := Nat.lt_of_lt_of_le hbw ST.out.1.size
      have hrl : rb < wr.heap.size := (Array.getElem?_eq_some_iff.1 ST.out.2).1
      have hrn : ¬ rb = wr.heap.size := by omega
      have hrn1 : ¬ rb = wr.heap.size + 1 := by omega
      have hrl1 : rb < wr.heap.size + 1 := by omega
      have hrl2 : rb < wr.heap.size + 1 + 1 := by omega
      generalize hr0 : reachF nm (es.take idx) = r0 at RS
      have STH : Aside (Below w1.heap.size w1 wr ∧ wr.heap[rb]? = some (.cells (rowB (nm.size + 1) r0) 4 (0, 0))) := by have := ST.out; rw [hr0] at this; exact this
      have CR : Aside (∀ j, j < nm.size + 1 → wr.cell? ⟨rb, j, none⟩ = some (.bool (r0 j))) := fun j hj => cell_heap STH.out.2 j _ (rowB_get hj)
      have z0 := CR.out 0 (by omega)
      have g0 : (rowB (nm.size + 1) (fun _ => false))[0]? = some (.bool false) := rowB_get (by omega)
      clear hc HC HR ST hr0
      by_cases hk2 : yk = 2
      · subst hk2
        have ez : (rowB (nm.size + 1) (fun _ => false)).setIfInBounds 0 (.bool (r0 0)) = rowB (nm.size + 1) (partF ⟨2, yc, yn, ys⟩ nm r0 0) := part_zero_star _ _ _ rfl
        have hpk : pk 2 = 2 := rfl
        rw [hpk] at l0
        clear hpk OK1
        go_wp2
        go_loopg [40] nm.size (fun k2 s40 wr2 => ∃ (i : Nat) (x : World), s40 = .int .i64 (i : Int) ∧ wr2 = plus ((wr.alloc (.cells #[.int .i64 2, .int .u8 yc, .bool yn, .string ys] 35)).alloc (.cells (rowB (nm.size + 1) (partF ⟨2, yc, yn, ys⟩ nm r0 i)) 4)) x ∧ k2 + i = nm.size)
        case atStart => exact ⟨0, _, rfl, by rw [← ez]; exact plus_self _, by omega⟩
        case round =>
          obtain ⟨i, x, rfl, rfl, hk3⟩ := hrel
          by_cases hi : i < nm.size
          · have hiz : (i : Int) < (nm.size : Int) := by omega
            have hi1 : (i : Int) + 1 < (nm.size : Int) + 1 := by omega
            have hi2 : (i : Int) < (nm.size : Int) + 1 := by omega
            have hiw : IntKind.i64.wrap ((i : Int) + 1) = (i : Int) + 1 := by rw [IntKind.wrap_i64]; omega
            have hit : ((i : Int) + 1).toNat = i + 1 := by omega
            have hig : (0 : Int) ≤ (i : Int) + 1 := by omega
            have u0 := ub_eq hi
            have zi := CR.out i (by omega)
            have zi1 := CR.out (i + 1) (by omega)
            have qi : (rowB (nm.size + 1) (partF ⟨2, yc, yn, ys⟩ nm r0 i))[i]? = some (.bool (stepN ⟨2, yc, yn, ys⟩ nm r0 i)) := by rw [rowB_get (by omega)]; unfold partF; rw [if_pos (Nat.le_refl _)]
            have qs : (rowB (nm.size + 1) (partF ⟨2, yc, yn, ys⟩ nm r0 i))[i + 1]? = some (.bool (partF ⟨2, yc, yn, ys⟩ nm r0 i (i + 1))) := rowB_get (by omega)
            have SU : Aside (stepN ⟨2, yc, yn, ys⟩ nm r0 (i + 1) = (r0 (i + 1) || (stepN ⟨2, yc, yn, ys⟩ nm r0 i && decide (gb nm i ≠ 47)))) := by show _ = _; rw [stepN, if_pos rfl]
            cases ha : r0 (i + 1) with
            | true =>
              have HV : Aside (stepN ⟨2, yc, yn, ys⟩ nm r0 (i + 1) = true) := by show _ = _; rw [SU.out, ha]; rfl
              rw [ha] at zi1
              clear SU ha zi
              go_wp2
              go_roundg (nm.size - (i + 1))
              case measure => omega
              case rel => exact ⟨i + 1, x, by simp, by rw [← part_set ⟨2, yc, yn, ys⟩ nm r0 i hi, HV.out], by omega⟩
            | false =>
              rw [ha] at zi1
              cases hb : stepN ⟨2, yc, yn, ys⟩ nm r0 i with
              | false =>
                have HV : Aside (stepN ⟨2, yc, yn, ys⟩ nm r0 (i + 1) = false) := by show _ = _; rw [SU.out, ha, hb]; rfl
                rw [hb] at qi
                clear SU ha hb zi
                go_wp2
                go_roundg (nm.size - (i + 1))
                case measure => omega
                case rel => exact ⟨i + 1, x, by simp, by rw [← part_set ⟨2, yc, yn, ys⟩ nm r0 i hi, HV.out], by omega⟩
              | true =>
                rw [hb] at qi
                by_cases hc : gb nm i = 47
                · have hf : (((ub nm i).toNat : Int) != 47) = false := by have : ((ub nm i).toNat : Int) = 47 := hc; simp [this]
                  have HV : Aside (stepN ⟨2, yc, yn, ys⟩ nm r0 (i + 1) = false) := by show _ = _; rw [SU.out, ha, hb, decide_eq_false (by simp [hc])]; rfl
                  clear SU ha hb hc zi
                  go_wp2
                  go_roundg (nm.size - (i + 1))
                  case measure => omega
                  case rel => exact ⟨i + 1, x, by simp, by rw [← part_set ⟨2, yc, yn, ys⟩ nm r0 i hi, HV.out], by omega⟩
                · have hf : (((ub nm i).toNat : Int) != 47) = true := bne_iff_ne.2 hc
                  have HV : Aside (stepN ⟨2, yc, yn, ys⟩ nm r0 (i + 1) = true) := by show _ = _; rw [SU.out, ha, hb, decide_eq_true hc]; rfl
                  clear SU ha hb hc zi
                  go_wp2
                  go_roundg (nm.size - (i + 1))
                  case measure => omega
                  case rel => exact ⟨i + 1, x, by simp, by rw [← part_set ⟨2, yc, yn, ys⟩ nm r0 i hi, HV.out], by omega⟩
          · have hiz : ¬ (i : Int) < (nm.size : Int) := by omega
            have ein : i = nm.size := by omega
            subst ein
            rw [part_all]
            have RS2 : Aside (_ = _) := RS.out
            go_wp2
            go_roundg (es.length - (idx + 1))
            case measure => omega
            case rel =>
              refine ⟨idx + 1, wr.heap.size + 1, by simp, rfl, by omega, (show _ ∧ _ from ⟨?_, ?_⟩)⟩
              · have := STH.out.1
                have hsz := this.size
                repeat (first | (with_reducible exact Below.refl _ _) | (with_reducible assumption) | (with_reducible refine below_to_plus ?_ ?_ _) | (with_reducible refine below_holds ?_ ?_ _ _) | (with_reducible refine Below.alloc ?_ ?_ _) | (with_reducible refine Below.drew ?_) | (with_reducible refine below_drewN ?_ _) | (with_reducible refine Below.setCell ?_ ?_ _))
                all_goals first | omega | (simp; done) | (simp [go_sem]; done) | (simp [go_sem]; omega)
              · rw [RS2.out]; exact hp_plus (hp_new (by simp))
      · have hf : (pk yk == 2) = false := by simp only [beq_eq_false_iff_ne]; exact pk_star hk2
        have ez : rowB (nm.size + 1) (fun _ => false) = rowB (nm.size + 1) (partF ⟨yk, yc, yn, ys⟩ nm r0 0) := part_zero _ _ _ hk2
        have hkd : yk = 0 ∨ yk = 1 ∨ yk = 3 := by
          rcases OK1.out.kind with h | h | h | h
          · exact .inl h
          · exact .inr (.inl h)
          · exact absurd h hk2
          · exact .inr (.inr h)
        have cac := fun i U => accepts_calls ⟨yk, yc, yn, ys⟩ (gb nm i) hkd OK1.out.even OK1.out.len U
        have HK2 : Aside (yk ≠ 2) := hk2
        clear hkd OK1 hk2
        go_wp2
        go_loopg [40] nm.size (fun k2 s40 wr2 => ∃ (i : Nat) (x : World), s40 = .int .i64 (i : Int) ∧ wr2 = plus ((wr.alloc (.cells #[.int .i64 (pk yk), .int .u8 yc, .bool yn, .string ys] 35)).alloc (.cells (rowB (nm.size + 1) (partF ⟨yk, yc, yn, ys⟩ nm r0 i)) 4)) x ∧ k2 + i = nm.size)
        case atStart => exact ⟨0, _, rfl, by rw [← ez]; exact plus_self _, by omega⟩
        case round =>
          obtain ⟨i, x, rfl, rfl, hk3⟩ := hrel
          by_cases hi : i < nm.size
          · have hiz : (i : Int) < (nm.size : Int) := by omega
            have hi1 : (i : Int) + 1 < (nm.size : Int) + 1 := by omega
            have hi2 : (i : Int) < (nm.size : Int) + 1 := by omega
            have hiw : IntKind.i64.wrap ((i : Int) + 1) = (i : Int) + 1 := by rw [IntKind.wrap_i64]; omega
            have hit : ((i : Int) + 1).toNat = i + 1 := by omega
            have hig : (0 : Int) ≤ (i : Int) + 1 := by omega
            have u0 := ub_eq hi
            have zi := CR.out i (by omega)
            have zi1 := CR.out (i + 1) (by omega)
            have qi : (rowB (nm.size + 1) (partF ⟨yk, yc, yn, ys⟩ nm r0 i))[i]? = some (.bool (stepN ⟨yk, yc, yn, ys⟩ nm r0 i)) := by rw [rowB_get (by omega)]; unfold partF; rw [if_pos (Nat.le_refl _)]
            have qs : (rowB (nm.size + 1) (partF ⟨yk, yc, yn, ys⟩ nm r0 i))[i + 1]? = some (.bool (partF ⟨yk, yc, yn, ys⟩ nm r0 i (i + 1))) := rowB_get (by omega)
            have SU : Aside (stepN ⟨yk, yc, yn, ys⟩ nm r0 (i + 1) = (r0 i && accB ⟨yk, yc, yn, ys⟩ (gb nm i))) := by show _ = _; rw [stepN, if_neg HK2.out]
            cases ha : r0 i with
            | false =>
              have HV : Aside (stepN ⟨yk, yc, yn, ys⟩ nm r0 (i + 1) = false) := by show _ = _; rw [SU.out, ha]; rfl
              rw [ha] at zi
              clear SU ha zi1 cac
              go_wp2
              refine wp_region_lo_plus 15 [] (by kernel_rfl) (by kernel_rfl) ?_
              simp only [List.take, List.drop]
              refine lo_tame rfl rfl rfl (fun K hK => ?_)
              simp [go_sem, ↓IntWalk.iteOmega, *]
              refine hK _ ?_
              clear hK
              clear K
              refine lo_tame rfl rfl rfl (fun K hK => ?_)
              simp [go_sem, ↓IntWalk.iteOmega, *]
              refine hK _ ?_
              clear hK
              clear K
              refine lo_tame rfl rfl rfl (fun K hK => ?_)
              simp [go_sem, ↓IntWalk.iteOmega, *]
              refine hK _ ?_
              clear hK
              clear K
              refine lo_tame rfl rfl rfl (fun K hK => ?_)
              simp [go_sem, ↓IntWalk.iteOmega, *]
              refine hK _ ?_
              clear hK
              clear K
              refine lo_tame rfl rfl rfl (fun K hK => ?_)
              simp [go_sem, ↓IntWalk.iteOmega, *]
              refine hK _ ?_
              clear hK
              clear K
              refine lo_tame rfl rfl rfl (fun K hK => ?_)
              simp [go_sem, ↓IntWalk.iteOmega, *]
              refine hK _ ?_
              clear hK
              clear K
              refine lo_tame rfl rfl rfl (fun K hK => ?_)
              simp [go_sem, ↓IntWalk.iteOmega, *]
              refine hK _ ?_
              clear hK
              clear K
              refine lo_tame rfl rfl rfl (fun K hK => ?_)
              simp [go_sem, ↓IntWalk.iteOmega, *]
              refine hK _ ?_
              clear hK
              clear K
              refine lo_skip rfl rfl ?_
              simp only [Act.put, Array.setIfInBounds, List.size_toArray, List.length_cons, List.length_nil, Nat.reduceAdd, Nat.reduceLT, dite_true, List.set_toArray, List.set_cons_succ, List.set_cons_zero]
              refine lo_skip rfl rfl ?_
              simp only [Act.put, Array.setIfInBounds, List.size_toArray, List.length_cons, List.length_nil, Nat.reduceAdd, Nat.reduceLT, dite_true, List.set_toArray, List.set_cons_succ, List.set_cons_zero]
              refine lo_skip rfl rfl ?_
              simp only [Act.put, Array.setIfInBounds, List.size_toArray, List.length_cons, List.length_nil, Nat.reduceAdd, Nat.reduceLT, dite_true, List.set_toArray, List.set_cons_succ, List.set_cons_zero]
              refine lo_skip rfl rfl ?_
              simp only [Act.put, Array.setIfInBounds, List.size_toArray, List.length_cons, List.length_nil, Nat.reduceAdd, Nat.reduceLT, dite_true, List.set_toArray, List.set_cons_succ, List.set_cons_zero]
              refine lo_skip rfl rfl ?_
              simp only [Act.put, Array.setIfInBounds, List.size_toArray, List.length_cons, List.length_nil, Nat.reduceAdd, Nat.reduceLT, dite_true, List.set_toArray, List.set_cons_succ, List.set_cons_zero]
              refine lo_tame rfl rfl rfl (fun K hK => ?_)
              simp [go_sem, ↓IntWalk.iteOmega, *]
              refine hK _ ?_
              clear hK
              clear K
              refine lo_tame rfl rfl rfl (fun K hK => ?_)
              simp [go_sem, ↓IntWalk.iteOmega, *]
              refine hK _ ?_
              clear hK
              clear K
              refine lo_nil ?_
              rintro _ ⟨y2, rfl⟩
              refine specEnd_nil ?_
              obtain ⟨y3, hy3⟩ := plus_plus ((wr.alloc (.cells #[.int .i64 (pk yk), .int .u8 yc, .bool yn, .string ys] 35)).alloc (.cells (rowB (nm.size + 1) (partF ⟨yk, yc, yn, ys⟩ nm r0 i)) 4)) x y2
              rw [hy3]
              clear hy3
              go_wp2
              go_roundg (nm.size - (i + 1))
              case measure => omega
              case rel => exact ⟨i + 1, y3, by simp, by rw [← part_set ⟨yk, yc, yn, ys⟩ nm r0 i hi, HV.out], by omega⟩
            | true =>
              have HV : Aside (stepN ⟨yk, yc, yn, ys⟩ nm r0 (i + 1) = accB ⟨yk, yc, yn, ys⟩ (gb nm i)) := by show _ = _; rw [SU.out, ha]; rfl
              have ca := cac i
              generalize accB ⟨yk, yc, yn, ys⟩ (gb nm i) = av at ca HV
              have ca : ∀ U, Calls Try.prog 23 #[.agg #[.int .i64 (pk yk), .int .u8 yc, .bool yn, .string ys], .int .u8 ((ub nm i).toNat : Int)] U fun e w' => e = .returned (.bool av) ∧ Below U.heap.size U w' := ca
              rw [ha] at zi
              clear SU ha zi1 cac
              go_wp2
              refine wp_region_lo_plus 15 [] (by kernel_rfl) (by kernel_rfl) ?_
              simp only [List.take, List.drop]
              refine lo_tame rfl rfl rfl (fun K hK => ?_)
              simp [go_sem, ↓IntWalk.iteOmega, *]
              refine hK _ ?_
              clear hK
              clear K
              refine lo_tame rfl rfl rfl (fun K hK => ?_)
              simp [go_sem, ↓IntWalk.iteOmega, *]
              refine hK _ ?_
              clear hK
              clear K
              refine lo_tame rfl rfl rfl (fun K hK => ?_)
              simp [go_sem, ↓IntWalk.iteOmega, *]
              refine hK _ ?_
              clear hK
              clear K
              refine lo_tame rfl rfl rfl (fun K hK => ?_)
              simp [go_sem, ↓IntWalk.iteOmega, *]
              refine hK _ ?_
              clear hK
              clear K
              refine lo_tame rfl rfl rfl (fun K hK => ?_)
              simp [go_sem, ↓IntWalk.iteOmega, *]
              refine hK _ ?_
              clear hK
              clear K
              refine lo_tame rfl rfl rfl (fun K hK => ?_)
              simp [go_sem, ↓IntWalk.iteOmega, *]
              refine hK _ ?_
              clear hK
              clear K
              refine lo_tame rfl rfl rfl (fun K hK => ?_)
              simp [go_sem, ↓IntWalk.iteOmega, *]
              refine hK _ ?_
              clear hK
              clear K
              refine lo_tame rfl rfl rfl (fun K hK => ?_)
              simp [go_sem, ↓IntWalk.iteOmega, *]
              refine hK _ ?_
              clear hK
              clear K
              refine lo_tame rfl rfl rfl (fun K hK => ?_)
              simp [go_sem, ↓IntWalk.iteOmega, *]
              refine hK _ ?_
              clear hK
              clear K
              refine lo_tame rfl rfl rfl (fun K hK => ?_)
              simp [go_sem, ↓IntWalk.iteOmega, *]
              refine hK _ ?_
              clear hK
              clear K
              refine lo_tame rfl rfl rfl (fun K hK => ?_)
              simp [go_sem, ↓IntWalk.iteOmega, *]
              refine hK _ ?_
              clear hK
              clear K
              refine lo_tame rfl rfl rfl (fun K hK => ?_)
              simp [go_sem, ↓IntWalk.iteOmega, *]
              refine hK _ ?_
              clear hK
              clear K
              refine lo_tcall 23 #[.agg #[.int .i64 (pk yk), .int .u8 yc, .bool yn, .string ys], .int .u8 ((ub nm i).toNat : Int)] (.bool av) rfl rfl rfl (fun x => by simp [go_sem]) (fun x => ca _) ?_
              simp only [Act.put, Array.setIfInBounds, List.size_toArray, List.length_cons, List.length_nil, Nat.reduceAdd, Nat.reduceLT, dite_true, List.set_toArray, List.set_cons_succ, List.set_cons_zero]
              refine lo_tame rfl rfl rfl (fun K hK => ?_)
              simp [go_sem, ↓IntWalk.iteOmega, *]
              refine hK _ ?_
              clear hK
              clear K
              refine lo_tame rfl rfl rfl (fun K hK => ?_)
              simp [go_sem, ↓IntWalk.iteOmega, *]
              refine hK _ ?_
              clear hK
              clear K
              refine lo_nil ?_
              rintro _ ⟨y2, rfl⟩
              refine specEnd_nil ?_
              obtain ⟨y3, hy3⟩ := plus_plus ((wr.alloc (.cells #[.int .i64 (pk yk), .int .u8 yc, .bool yn, .string ys] 35)).alloc (.cells (rowB (nm.size + 1) (partF ⟨yk, yc, yn, ys⟩ nm r0 i)) 4)) x y2
              rw [hy3]
              clear hy3
              go_wp2
              go_roundg (nm.size - (i + 1))
              case measure => omega
              case rel => exact ⟨i + 1, y3, by simp, by rw [← part_set ⟨yk, yc, yn, ys⟩ nm r0 i hi, HV.out], by omega⟩
          · have hiz : ¬ (i : Int) < (nm.size : Int) := by omega
            have ein : i = nm.size := by omega
            subst ein
            rw [part_all]
            have RS2 : Aside (_ = _) := RS.out
            go_wp2
            go_roundg (es.length - (idx + 1))
            case measure => omega
            case rel =>
              refine ⟨idx + 1, wr.heap.size + 1, by simp, rfl, by omega, (show _ ∧ _ from ⟨?_, ?_⟩)⟩
              · have := STH.out.1
                have hsz := this.size
                repeat (first | (with_reducible exact Below.refl _ _) | (with_reducible assumption) | (with_reducible refine below_to_plus ?_ ?_ _) | (with_reducible refine below_holds ?_ ?_ _ _) | (with_reducible refine Below.alloc ?_ ?_ _) | (with_reducible refine Below.drew ?_) | (with_reducible refine below_drewN ?_ _) | (with_reducible refine Below.setCell ?_ ?_ _))
                all_goals first | omega | (simp; done) | (simp [go_sem]; done) | (simp [go_sem]; omega)
              · rw [RS2.out]; exact hp_plus (hp_new (by simp))
    · have hjz : ¬ (idx : Int) < (es.length : Int) := by omega
      have er : res = reachF nm (es.take idx) nm.size := by rw [HR.out, List.take_of_length_le (by omega)]
      have z0 := cell_heap ST.out.2 nm.size _ (rowB_get (by omega))
      rw [← er] at z0
      have hnn : (nm.size : Int) < (nm.size : Int) + 1 := by omega
      have HB2 : Aside (Below w.heap.size w wr) := HB.out.trans (ST.out.1.mono HB.out.size)
      clear HC HR ST HB er
      go_wp2
      go_ret
      exact ⟨rfl, HB2.out⟩

end Go.Proofs.Ytodoilengdnlfaa
