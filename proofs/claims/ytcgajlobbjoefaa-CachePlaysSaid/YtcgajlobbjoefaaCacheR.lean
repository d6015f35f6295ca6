/- This text proves the walk of Right of the reference of package cache. Conditions: those that each theorem names. -/
import Derived.Test.YtcgajlobbjoefaaCacheQ
namespace Go.Proofs.Ytcgajlobbjoefaa
open Go.ChangeShapes Go.WideShapes Go.ChangeAt Go.RowKit
set_option linter.unusedVariables false
set_option linter.unusedSimpArgs false

theorem right_no2 {cp : Int} {bl : List Pc} {hs : List Hd} (h : cp < 0 ∨ 256 < cp ∨ cp < (bl.length : Int) ∨ 64 < hs.length ∨ upH hs hs.length = false) : rightB cp bl hs = false := by
  rcases h with h | h | h | h | h
  · exact right_no (.inl h)
  · exact right_no (.inr (.inl h))
  · exact right_no (.inr (.inr (.inl h)))
  · exact right_no (.inr (.inr (.inr (by unfold holdsB; rw [decide_eq_false (by omega), Bool.and_false]))))
  · exact right_no (.inr (.inr (.inr (by unfold holdsB; rw [h, Bool.false_and]))))
theorem right_up2 {cp : Int} {bl : List Pc} {hs : List Hd} (h1 : ¬ cp < 0) (h2 : ¬ 256 < cp) (h3 : ¬ cp < (bl.length : Int)) (h4 : ¬ 64 < hs.length) (h5 : upH hs hs.length = true) : rightB cp bl hs = upB hs bl bl.length :=
  right_up h1 h2 h3 (by unfold holdsB; rw [h5, decide_eq_true (by omega)]; rfl)

theorem perm_ok {hs : List Hd} {p : Pc} (h : permB hs p = true) : OkP p := by
  unfold permB at h
  rw [Bool.and_eq_true, decide_eq_true_eq] at h
  obtain ⟨_, h2, h3, h4⟩ := h
  exact ⟨⟨h2, h3⟩, by omega⟩
set_option maxRecDepth 20000 in
set_option maxHeartbeats 16000000 in
theorem rright_calls (cp : Int) (ao : Option Addr) (n c1 : Nat) (ao2 : Option Addr) (n2 c2 : Nat) (bl : List Pc) (hs : List Hd) (w : World) (h1 : Sl w 4 ao n c1 (bl.map Pc.enc)) (h2 : Sl w 3 ao2 n2 c2 (hs.map Hd.enc)) :
    Calls Try.prog 11 #[.agg #[.int .i64 cp, .slice ao n c1, .slice ao2 n2 c2]] w fun e w' => e = .returned (.bool (rightB cp bl hs)) ∧ Below w.heap.size w w' := by
  have hbig : n ≤ 9223372036854775807 := Nat.le_trans h1.hcap h1.hmax
  have hbig2 : n2 ≤ 9223372036854775807 := Nat.le_trans h2.hcap h2.hmax
  have hb0 : Below w.heap.size w (w.alloc (.cells #[.int .i64 cp, .slice ao n c1, .slice ao2 n2 c2] 25)) := (Below.refl _ w).alloc (Nat.le_refl _) _
  have HL : Aside (bl.length = n) := Sl.lenE h1
  have HL2 : Aside (hs.length = n2) := Sl.lenE h2
  have HC : Aside (CellsPc w ao bl) := cellsPc h1
  have HC2 : Aside (CellsHd w ao2 hs) := cellsHd h2
  have H2 : Aside (Sl w 3 ao2 n2 c2 (hs.map Hd.enc)) := h2
  have BAD : Aside (cp < 0 ∨ 256 < cp ∨ cp < (n : Int) ∨ 64 < n2 ∨ upH hs n2 = false → rightB cp bl hs = false) := fun h => right_no2 (by rw [HL.out, HL2.out]; exact h)
  have GOOD : Aside (¬ cp < 0 → ¬ 256 < cp → ¬ cp < (n : Int) → ¬ 64 < n2 → upH hs n2 = true → rightB cp bl hs = upB hs bl n) := fun a b c d f => by rw [← HL.out]; exact right_up2 a b (by rw [HL.out]; exact c) (by rw [HL2.out]; exact d) (by rw [HL2.out]; exact f)
  generalize rightB cp bl hs = r at BAD GOOD ⊢
  clear h1 h2
  by_cases d1 : cp < 0
  · have e1 := BAD.out (.inl d1)
    subst e1
    clear BAD GOOD HC HC2 H2 HL HL2
    go_enter Try.func11, Try.ntmps11
    go_wp2
    go_ret
    exact ⟨rfl, hb0⟩
  by_cases d2 : 256 < cp
  · have e1 := BAD.out (.inr (.inl d2))
    subst e1
    clear BAD GOOD HC HC2 H2 HL HL2
    go_enter Try.func11, Try.ntmps11
    go_wp2
    go_ret
    exact ⟨rfl, hb0⟩
  by_cases d4 : 64 < n2
  · have e1 := BAD.out (.inr (.inr (.inr (.inl d4))))
    subst e1
    clear BAD GOOD HC HC2 H2 HL HL2
    have d4z : (64 : Int) < (n2 : Int) := by omega
    go_enter Try.func11, Try.ntmps11
    go_wp2
    go_ret
    exact ⟨rfl, hb0⟩
  have d4z : ¬ (64 : Int) < (n2 : Int) := by omega
  by_cases d3 : cp < (n : Int)
  · have e1 := BAD.out (.inr (.inr (.inl d3)))
    subst e1
    clear BAD GOOD HC HC2 H2 HL HL2
    go_enter Try.func11, Try.ntmps11
    go_wp2
    go_ret
    exact ⟨rfl, hb0⟩
  have HR : Aside (upH hs n2 = true → r = upB hs bl n) := GOOD.out d1 d2 d3 d4
  have HN : Aside (upH hs n2 = false → r = false) := fun h => BAD.out (.inr (.inr (.inr (.inr h))))
  clear BAD GOOD
  go_enter Try.func11, Try.ntmps11
  go_wp2
  go_loopg [31] n2 (fun k s31 wr => ∃ idx : Nat, s31 = .int .i64 (idx : Int) ∧ k + idx = n2 ∧ Aside (Below (w.alloc (.cells #[.int .i64 cp, .slice ao n c1, .slice ao2 n2 c2] 25)).heap.size (w.alloc (.cells #[.int .i64 cp, .slice ao n c1, .slice ao2 n2 c2] 25)) wr) ∧ Aside (upH hs idx = true))
  case atStart => exact ⟨0, rfl, by omega, Below.refl _ _, rfl⟩
  case round =>
    obtain ⟨idx, rfl, hk, BW, A⟩ := hrel
    by_cases hi : idx < n2
    · have hiz : (idx : Int) < (n2 : Int) := by omega
      have hix : idx < hs.length := by have := HL2.out; omega
      obtain ⟨b, off, rfl, hbw, q0, q1, q2⟩ := HC2.out idx hix
      have hBr : Below w.heap.size w wr := hb0.trans (BW.out.mono hb0.size)
      have hwr : w.heap.size < wr.heap.size := Nat.lt_of_lt_of_le (by simp) BW.out.size
      have b0 := (BW.out.cell (p := ⟨w.heap.size, 0, none⟩) (by simp)).trans (cell_heap (hp_new rfl) 0 _ rfl)
      have b1 := (BW.out.cell (p := ⟨w.heap.size, 1, none⟩) (by simp)).trans (cell_heap (hp_new rfl) 1 _ rfl)
      have b2 := (BW.out.cell (p := ⟨w.heap.size, 2, none⟩) (by simp)).trans (cell_heap (hp_new rfl) 2 _ rfl)
      have l0 := (hBr.cell (p := ⟨b, off + idx * 3, none⟩) hbw).trans q0
      have l1 := (hBr.cell (p := ⟨b, off + idx * 3 + 1, none⟩) hbw).trans q1
      have l2 := (hBr.cell (p := ⟨b, off + idx * 3 + 2, none⟩) hbw).trans q2
      have hbr : b < wr.heap.size := Nat.lt_of_lt_of_le hbw hBr.size
      have PC' : Aside (0 < idx → wr.cell? ⟨b, off + (idx - 1) * 3, none⟩ = some (.int .i64 hs[idx - 1]!.hid)) := fun h0 => by
        obtain ⟨b9, off9, e9, _, p0, _, _⟩ := HC2.out (idx - 1) (by omega)
        cases e9
        exact (hBr.cell (p := ⟨b, off + (idx - 1) * 3, none⟩) hbw).trans p0
      have NO : Aside (stepH hs idx = false → r = false) := fun h => HN.out (upH_later A.out h hi)
      have YES : Aside (stepH hs idx = true → upH hs (idx + 1) = true) := fun h => by rw [upH_succ, A.out, h]; rfl
      have SD : Aside (stepH hs idx = (rangedB hs[idx]! && (decide (idx = 0) || decide (hs[idx - 1]!.hid < hs[idx]!.hid)))) := rfl
      have hsz := BW.out.size
      clear HC HC2 HR HN H2 A q0 q1 q2 HL HL2
      generalize hs[idx - 1]!.hid = z at PC' SD
      generalize hs[idx]! = y at l0 l1 l2 SD
      obtain ⟨y1, y2, y3⟩ := y
      simp only [] at l0 l1 l2 SD
      have cr := fun U => ranged_calls y1 y2 y3 U
      by_cases hr : rangedB ⟨y1, y2, y3⟩ = true
      rotate_left
      · have hr1 : rangedB ⟨y1, y2, y3⟩ = false := by simpa using hr
        rw [hr1] at cr
        have er := NO.out (by rw [SD.out, hr1, Bool.false_and])
        subst er
        clear NO YES SD PC' hr hr1 BW
        go_wp2
        refine wp_region_plus (by kernel_rfl) (by kernel_rfl) ?_
        repeat (go_big_quiet_step ((go_at_call 28; exact calls_plus (cr _))))
        refine wpQuiet_nil ?_
        rintro _ ⟨x1, rfl⟩
        go_wp2
        go_ret
        refine ⟨rfl, ?_⟩
        repeat (first | (with_reducible exact Below.refl _ _) | (with_reducible assumption) | (with_reducible refine below_to_plus ?_ ?_ _) | (with_reducible refine below_holds ?_ ?_ _ _) | (with_reducible refine Below.alloc ?_ ?_ _) | (with_reducible refine Below.drew ?_) | (with_reducible refine below_drewN ?_ _) | (with_reducible refine Below.setCell ?_ ?_ _))
        all_goals first | omega | (simp; done) | (simp [go_sem]; done) | (simp [go_sem]; omega)
      rw [hr] at cr
      by_cases h0 : 0 < idx
      · have h0z : (0 : Int) < (idx : Int) := by omega
        have e0 : decide ((0 : Int) < (idx : Int)) = true := decide_eq_true h0z
        have e0n : decide (0 < idx) = true := decide_eq_true h0
        have hpw : IntKind.i64.wrap ((idx : Int) - 1) = (idx : Int) - 1 := by rw [IntKind.wrap_i64]; omega
        have hpt : ((idx : Int) - 1).toNat = idx - 1 := by omega
        have hpg : (0 : Int) ≤ (idx : Int) - 1 := by omega
        have hpl : (idx : Int) - 1 < (n2 : Int) := by omega
        have p0 := PC'.out h0
        by_cases hz : z < y1
        · have hz1 : decide (y1 ≤ z) = false := decide_eq_false (by omega)
          have G3 : Aside (upH hs (idx + 1) = true) := YES.out (by rw [SD.out, hr, decide_eq_true hz, Bool.or_true]; rfl)
          clear hr
          have BW3 : Aside (Below (w.alloc (.cells #[.int .i64 cp, .slice ao n c1, .slice (some ⟨b, off, none⟩) n2 c2] 25)).heap.size (w.alloc (.cells #[.int .i64 cp, .slice ao n c1, .slice (some ⟨b, off, none⟩) n2 c2] 25)) wr) := BW
          clear NO YES SD PC' BW
          go_wp2
          refine wp_region_plus (by kernel_rfl) (by kernel_rfl) ?_
          repeat (go_big_quiet_step ((go_at_call 28; exact calls_plus (cr _))))
          refine wpQuiet_nil ?_
          rintro _ ⟨x1, rfl⟩
          go_wp2
          go_roundg (n2 - (idx + 1))
          case measure => omega
          case rel => exact ⟨idx + 1, by simp, by omega, BW3.out.trans ((below_plus _ _).mono BW3.out.size), G3⟩
        · have hz1 : decide (y1 ≤ z) = true := decide_eq_true (by omega)
          have er := NO.out (by rw [SD.out, decide_eq_false (by omega : ¬ idx = 0), decide_eq_false hz, Bool.or_self, Bool.and_false])
          subst er
          clear NO YES SD PC' hr BW
          go_wp2
          refine wp_region_plus (by kernel_rfl) (by kernel_rfl) ?_
          repeat (go_big_quiet_step ((go_at_call 28; exact calls_plus (cr _))))
          refine wpQuiet_nil ?_
          rintro _ ⟨x1, rfl⟩
          go_wp2
          go_ret
          refine ⟨rfl, ?_⟩
          repeat (first | (with_reducible exact Below.refl _ _) | (with_reducible assumption) | (with_reducible refine below_to_plus ?_ ?_ _) | (with_reducible refine below_holds ?_ ?_ _ _) | (with_reducible refine Below.alloc ?_ ?_ _) | (with_reducible refine Below.drew ?_) | (with_reducible refine below_drewN ?_ _) | (with_reducible refine Below.setCell ?_ ?_ _))
          all_goals first | omega | (simp; done) | (simp [go_sem]; done) | (simp [go_sem]; omega)
      · have e0 : decide ((0 : Int) < (idx : Int)) = false := decide_eq_false (by omega)
        have e0n : decide (0 < idx) = false := decide_eq_false h0
        have G3 : Aside (upH hs (idx + 1) = true) := YES.out (by rw [SD.out, hr, decide_eq_true (by omega : idx = 0)]; rfl)
        clear hr
        have BW3 : Aside (Below (w.alloc (.cells #[.int .i64 cp, .slice ao n c1, .slice (some ⟨b, off, none⟩) n2 c2] 25)).heap.size (w.alloc (.cells #[.int .i64 cp, .slice ao n c1, .slice (some ⟨b, off, none⟩) n2 c2] 25)) wr) := BW
        clear NO YES SD PC' BW
        go_wp2
        refine wp_region_plus (by kernel_rfl) (by kernel_rfl) ?_
        repeat (go_big_quiet_step ((go_at_call 28; exact calls_plus (cr _))))
        refine wpQuiet_nil ?_
        rintro _ ⟨x1, rfl⟩
        go_wp2
        go_roundg (n2 - (idx + 1))
        case measure => omega
        case rel => exact ⟨idx + 1, by simp, by omega, BW3.out.trans ((below_plus _ _).mono BW3.out.size), G3⟩
    · have hiz : ¬ (idx : Int) < (n2 : Int) := by omega
      have ei : idx = n2 := by omega
      have HR2 : Aside (r = upB hs bl n) := HR.out (by rw [← ei]; exact A.out)
      clear HR HN A HC2 ei
      have hBr : Below w.heap.size w wr := hb0.trans (BW.out.mono hb0.size)
      have hwr : w.heap.size < wr.heap.size := Nat.lt_of_lt_of_le (by simp) BW.out.size
      have b0 := (BW.out.cell (p := ⟨w.heap.size, 0, none⟩) (by simp)).trans (cell_heap (hp_new rfl) 0 _ rfl)
      have b1 := (BW.out.cell (p := ⟨w.heap.size, 1, none⟩) (by simp)).trans (cell_heap (hp_new rfl) 1 _ rfl)
      have b2 := (BW.out.cell (p := ⟨w.heap.size, 2, none⟩) (by simp)).trans (cell_heap (hp_new rfl) 2 _ rfl)
      go_wp2
      clear b0 b1 b2 hBr hwr
      have B3 : Aside (Below (w.alloc (.cells #[.int .i64 cp, .slice ao n c1, .slice ao2 n2 c2] 25)).heap.size (w.alloc (.cells #[.int .i64 cp, .slice ao n c1, .slice ao2 n2 c2] 25)) wr) := BW
      clear BW
      go_loopg [65] n (fun k s65 wr => ∃ idx : Nat, s65 = .int .i64 (idx : Int) ∧ k + idx = n ∧ Aside (Below (w.alloc (.cells #[.int .i64 cp, .slice ao n c1, .slice ao2 n2 c2] 25)).heap.size (w.alloc (.cells #[.int .i64 cp, .slice ao n c1, .slice ao2 n2 c2] 25)) wr) ∧ Aside (upB hs bl idx = true))
      case atStart => exact ⟨0, rfl, by omega, B3, rfl⟩
      case round =>
        clear B3 hi hiz hk
        obtain ⟨ix, rfl, hk, BW, A⟩ := hrel
        by_cases hi : ix < n
        · have hiz : (ix : Int) < (n : Int) := by omega
          have hix : ix < bl.length := by have := HL.out; omega
          obtain ⟨b, off, rfl, hbw, q0, q1, q2, q3⟩ := HC.out ix hix
          have hBr : Below w.heap.size w wr := hb0.trans (BW.out.mono hb0.size)
          have hwr : w.heap.size < wr.heap.size := Nat.lt_of_lt_of_le (by simp) BW.out.size
          have b0 := (BW.out.cell (p := ⟨w.heap.size, 0, none⟩) (by simp)).trans (cell_heap (hp_new rfl) 0 _ rfl)
          have b1 := (BW.out.cell (p := ⟨w.heap.size, 1, none⟩) (by simp)).trans (cell_heap (hp_new rfl) 1 _ rfl)
          have b2 := (BW.out.cell (p := ⟨w.heap.size, 2, none⟩) (by simp)).trans (cell_heap (hp_new rfl) 2 _ rfl)
          have l0 := (hBr.cell (p := ⟨b, off + ix * 4, none⟩) hbw).trans q0
          have l1 := (hBr.cell (p := ⟨b, off + ix * 4 + 1, none⟩) hbw).trans q1
          have l2 := (hBr.cell (p := ⟨b, off + ix * 4 + 2, none⟩) hbw).trans q2
          have l3 := (hBr.cell (p := ⟨b, off + ix * 4 + 3, none⟩) hbw).trans q3
          have hbr : b < wr.heap.size := Nat.lt_of_lt_of_le hbw hBr.size
          have NO : Aside (stepB hs bl ix = false → r = false) := fun h => by rw [HR2.out]; exact upB_bad h hi
          have OKS : Aside (∀ j, j < ix → OkP bl[j]!) := fun j hj => upB_perm A.out hj
          have YES : Aside (stepB hs bl ix = true → upB hs bl (ix + 1) = true) := fun h => by rw [upB_succ, A.out, h]; rfl
          have SD : Aside (stepB hs bl ix = (permB hs bl[ix]! && noneB bl ix ix)) := rfl
          have NS : Aside (∀ k, noneB bl ix (k + 1) = (noneB bl ix k && !clashB bl[ix]! bl[k]!)) := fun k => noneB_succ bl ix k
          have NB : Aside (∀ k, k < ix → clashB bl[ix]! bl[k]! = true → noneB bl ix ix = false) := fun k hk h => noneB_bad h hk
          have OKP : Aside (permB hs bl[ix]! = true → OkP bl[ix]!) := perm_ok
          have LY : Aside (∀ i, i < 4 → w.cell? ⟨b, off + ix * 4 + i, none⟩ = bl[ix]!.enc[i]?) := fun i hi => by
            match i, hi with
            | 0, _ => exact q0
            | 1, _ => exact q1
            | 2, _ => exact q2
            | 3, _ => exact q3
          clear A HR2 q0 q1 q2 q3
          generalize bl[ix]! = y at l0 l1 l2 l3 SD NS NB OKP LY
          obtain ⟨y1, y2, y3, y4⟩ := y
          simp only [] at l0 l1 l2 l3
          have L0 : Aside (w.cell? ⟨b, off + ix * 4, none⟩ = some (.int .i64 y1)) := LY.out 0 (by omega)
          have L1 : Aside (w.cell? ⟨b, off + ix * 4 + 1, none⟩ = some (.int .i64 y2)) := LY.out 1 (by omega)
          have L2 : Aside (w.cell? ⟨b, off + ix * 4 + 2, none⟩ = some (.int .i64 y3)) := LY.out 2 (by omega)
          have L3 : Aside (w.cell? ⟨b, off + ix * 4 + 3, none⟩ = some (.string y4)) := LY.out 3 (by omega)
          clear LY
          have cm := fun U (h : Below w.heap.size w U) => permitted_calls cp (some ⟨b, off, none⟩) n c1 ao2 n2 c2 hs y1 y2 y3 y4 U (H2.out.stays h)
          by_cases hp : permB hs ⟨y1, y2, y3, y4⟩ = true
          rotate_left
          · have hp1 : permB hs ⟨y1, y2, y3, y4⟩ = false := by simpa using hp
            rw [hp1] at cm
            have er := NO.out (by rw [SD.out, hp1, Bool.false_and])
            subst er
            clear NO YES SD NS NB OKS OKP hp hp1 HC L0 L1 L2 L3
            have HBr : Aside (Below w.heap.size w wr) := hBr
            go_wp2
            refine wp_region_plus (by kernel_rfl) (by kernel_rfl) ?_
            repeat (go_big_quiet_step ((go_at_call 29; exact calls_plus (cm _ (HBr.out.trans ((below_plus _ _).mono HBr.out.size))))))
            refine wpQuiet_nil ?_
            rintro _ ⟨x1, rfl⟩
            go_wp2
            go_ret
            refine ⟨rfl, ?_⟩
            exact HBr.out.trans ((below_plus _ _).mono HBr.out.size)
          rw [hp] at cm
          have hok : Aside (OkP ⟨y1, y2, y3, y4⟩) := OKP.out hp
          have SD2 : Aside (stepB hs bl ix = noneB bl ix ix) := by
            show _ = _
            rw [SD.out, hp, Bool.true_and]
          have HBr : Aside (Below w.heap.size w wr) := hBr
          clear SD OKP hp
          go_wp2
          refine wp_region_plus (by kernel_rfl) (by kernel_rfl) ?_
          repeat (go_big_quiet_step ((go_at_call 29; exact calls_plus (cm _ (HBr.out.trans ((below_plus _ _).mono HBr.out.size))))))
          refine wpQuiet_nil ?_
          rintro _ ⟨x1, rfl⟩
          have B4 : Aside (Below (w.alloc (.cells #[.int .i64 cp, .slice (some ⟨b, off, none⟩) n c1, .slice ao2 n2 c2] 25)).heap.size (w.alloc (.cells #[.int .i64 cp, .slice (some ⟨b, off, none⟩) n c1, .slice ao2 n2 c2] 25)) (plus wr x1)) := BW.out.trans ((below_plus _ _).mono BW.out.size)
          clear cm b0 b1 b2 l0 l1 l2 l3 BW HBr hBr hwr
          go_wp2
          go_loopg [5] ix (fun g s5 wr => ∃ ii : Nat, s5 = .int .i64 (ii : Int) ∧ g + ii = ix ∧ Aside (Below (w.alloc (.cells #[.int .i64 cp, .slice (some ⟨b, off, none⟩) n c1, .slice ao2 n2 c2] 25)).heap.size (w.alloc (.cells #[.int .i64 cp, .slice (some ⟨b, off, none⟩) n c1, .slice ao2 n2 c2] 25)) wr) ∧ Aside (noneB bl ix ii = true))
          case atStart => exact ⟨0, rfl, by omega, B4, rfl⟩
          case round =>
            clear B4 hbr
            obtain ⟨ii, rfl, hkk, BW, D⟩ := hrel
            by_cases hii : ii < ix
            · have hiiz : (ii : Int) < (ix : Int) := by omega
              have hiin : (ii : Int) < (n : Int) := by omega
              have hBr : Below w.heap.size w wr := hb0.trans (BW.out.mono hb0.size)
              have hwr : w.heap.size < wr.heap.size := Nat.lt_of_lt_of_le (by simp) BW.out.size
              have b0 := (BW.out.cell (p := ⟨w.heap.size, 0, none⟩) (by simp)).trans (cell_heap (hp_new rfl) 0 _ rfl)
              have b1 := (BW.out.cell (p := ⟨w.heap.size, 1, none⟩) (by simp)).trans (cell_heap (hp_new rfl) 1 _ rfl)
              have b2 := (BW.out.cell (p := ⟨w.heap.size, 2, none⟩) (by simp)).trans (cell_heap (hp_new rfl) 2 _ rfl)
              obtain ⟨b9, off9, e9, hbw9, q0, q1, q2, q3⟩ := HC.out ii (by have := HL.out; omega)
              cases e9
              have m0 := (hBr.cell (p := ⟨b, off + ii * 4, none⟩) hbw).trans q0
              have l0 := (hBr.cell (p := ⟨b, off + ix * 4, none⟩) hbw).trans L0.out
              have m1 := (hBr.cell (p := ⟨b, off + ii * 4 + 1, none⟩) hbw).trans q1
              have l1 := (hBr.cell (p := ⟨b, off + ix * 4 + 1, none⟩) hbw).trans L1.out
              have m2 := (hBr.cell (p := ⟨b, off + ii * 4 + 2, none⟩) hbw).trans q2
              have l2 := (hBr.cell (p := ⟨b, off + ix * 4 + 2, none⟩) hbw).trans L2.out
              have m3 := (hBr.cell (p := ⟨b, off + ii * 4 + 3, none⟩) hbw).trans q3
              have l3 := (hBr.cell (p := ⟨b, off + ix * 4 + 3, none⟩) hbw).trans L3.out
              have hbr : b < wr.heap.size := Nat.lt_of_lt_of_le hbw hBr.size
              have okz := OKS.out ii hii
              have NS2 : Aside (clashB bl[ii]! ⟨y1, y2, y3, y4⟩ = false → noneB bl ix (ii + 1) = true) := fun h => by rw [NS.out ii, D.out, clashB_comm, h]; rfl
              have NB2 : Aside (clashB bl[ii]! ⟨y1, y2, y3, y4⟩ = true → r = false) := fun h => NO.out (by rw [SD2.out]; exact NB.out ii hii (by rw [clashB_comm]; exact h))
              clear q0 q1 q2 q3 NO YES NS NB OKS SD2 D HC L0 L1 L2 L3
              generalize bl[ii]! = z at m0 m1 m2 m3 okz NS2 NB2
              obtain ⟨z1, z2, z3, z4⟩ := z
              simp only [] at m0 m1 m2 m3
              have cc := fun U => rclash_calls z1 z2 z3 z4 y1 y2 y3 y4 U okz hok.out
              have HBr : Aside (Below w.heap.size w wr) := hBr
              have B9 := BW.out
              by_cases hc : clashB ⟨z1, z2, z3, z4⟩ ⟨y1, y2, y3, y4⟩ = true
              · rw [hc] at cc
                have er := NB2.out hc
                subst er
                clear NB2 NS2 hc hok okz
                go_wp2
                refine wp_region_plus (by kernel_rfl) (by kernel_rfl) ?_
                repeat (go_big_quiet_step ((go_at_call 30; exact calls_plus (cc _))))
                refine wpQuiet_nil ?_
                rintro _ ⟨x1, rfl⟩
                go_wp2
                go_ret
                exact ⟨rfl, HBr.out.trans ((below_plus _ _).mono HBr.out.size)⟩
              · have hc1 : clashB ⟨z1, z2, z3, z4⟩ ⟨y1, y2, y3, y4⟩ = false := by simpa using hc
                rw [hc1] at cc
                have G : Aside (noneB bl ix (ii + 1) = true) := NS2.out hc1
                clear NB2 NS2 hc hc1 hok okz
                go_wp2
                refine wp_region_plus (by kernel_rfl) (by kernel_rfl) ?_
                repeat (go_big_quiet_step ((go_at_call 30; exact calls_plus (cc _))))
                refine wpQuiet_nil ?_
                rintro _ ⟨x1, rfl⟩
                go_wp2
                go_roundg (ix - (ii + 1))
                case measure => omega
                case rel => exact ⟨ii + 1, by simp, by omega, B9.trans ((below_plus _ _).mono B9.size), G⟩
            · have hiiz : ¬ (ii : Int) < (ix : Int) := by omega
              obtain rfl : ii = ix := by omega
              have G : Aside (upB hs bl (ii + 1) = true) := YES.out (by rw [SD2.out, D.out])
              have B9 := BW.out
              clear NO YES NS NB OKS SD2 D HC L0 L1 L2 L3
              go_wp2
              go_roundg (n - (ii + 1))
              case measure => omega
              case rel => exact ⟨ii + 1, by simp, by omega, B9, G⟩
        · have hiz : ¬ (ix : Int) < (n : Int) := by omega
          have ei : ix = n := by omega
          have er : r = true := by rw [HR2.out, ← ei]; exact A.out
          subst er
          have B9 := BW.out
          clear HC A HL HL2 HR2 ei
          go_wp2
          go_ret
          exact ⟨rfl, hb0.trans (B9.mono hb0.size)⟩

end Go.Proofs.Ytcgajlobbjoefaa
