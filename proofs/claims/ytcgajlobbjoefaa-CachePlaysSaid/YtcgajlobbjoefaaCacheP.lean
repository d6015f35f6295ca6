/- This text proves the walk of Right of package cache. Conditions: those that each theorem names. -/
import Derived.Test.YtcgajlobbjoefaaCacheO
namespace Go.Proofs.Ytcgajlobbjoefaa
open Go.ChangeShapes Go.WideShapes Go.ChangeAt Go.RowKit
set_option linter.unusedVariables false
set_option linter.unusedSimpArgs false

theorem right_no {cp : Int} {bl : List Pc} {hs : List Hd} (h : cp < 0 ∨ 256 < cp ∨ cp < (bl.length : Int) ∨ holdsB hs = false) : rightB cp bl hs = false := by
  unfold rightB
  rcases h with h | h | h | h
  · rw [decide_eq_false (by omega), Bool.false_and]
  · rw [decide_eq_false (by omega), Bool.false_and]
  · rw [decide_eq_false (by omega : ¬ (bl.length : Int) ≤ cp), Bool.false_and, Bool.and_false]
  · rw [h, Bool.false_and, Bool.and_false, Bool.and_false]
theorem right_up {cp : Int} {bl : List Pc} {hs : List Hd} (h1 : ¬ cp < 0) (h2 : ¬ 256 < cp) (h3 : ¬ cp < (bl.length : Int)) (h4 : holdsB hs = true) : rightB cp bl hs = upB hs bl bl.length := by
  unfold rightB
  rw [decide_eq_true (by omega), decide_eq_true (by omega : (bl.length : Int) ≤ cp), h4, Bool.true_and, Bool.true_and, Bool.true_and]
theorem perm_of {hs : List Hd} {p : Pc} {k : Nat} (e : holdI p.pid hs = (k : Int)) : permB hs p = (decide (hs[k]!.vers = p.vers) && decide (0 ≤ p.pos ∧ p.pos ≤ 9007199254740991 ∧ p.data.size ≤ 65536)) := by
  unfold permB
  rw [e, decide_eq_true (by omega), Bool.true_and]; rfl
theorem perm_no {hs : List Hd} {p : Pc} (e : holdI p.pid hs = -1) : permB hs p = false := by
  unfold permB
  rw [e]; rfl

set_option maxRecDepth 20000 in
set_option maxHeartbeats 16000000 in
theorem right_calls (cp : Int) (ao : Option Addr) (n c1 : Nat) (ao2 : Option Addr) (n2 c2 : Nat) (bl : List Pc) (hs : List Hd) (w : World) (h1 : Sl w 4 ao n c1 (bl.map Pc.enc)) (h2 : Sl w 3 ao2 n2 c2 (hs.map Hd.enc)) :
    Calls Try.prog 10 #[.agg #[.int .i64 cp, .slice ao n c1, .slice ao2 n2 c2]] w fun e w' => e = .returned (.bool (rightB cp bl hs)) ∧ Below w.heap.size w w' := by
  have hbig : n ≤ 9223372036854775807 := Nat.le_trans h1.hcap h1.hmax
  have hbig2 : n2 ≤ 9223372036854775807 := Nat.le_trans h2.hcap h2.hmax
  have hcp := h1.hcap
  have hcm := h1.hmax
  have hb0 : Below w.heap.size w (w.alloc (.cells #[.int .i64 cp, .slice ao n c1, .slice ao2 n2 c2] 25)) := (Below.refl _ w).alloc (Nat.le_refl _) _
  have HL : Aside (bl.length = n) := Sl.lenE h1
  have HL2 : Aside (hs.length = n2) := Sl.lenE h2
  have HC : Aside (CellsPc w ao bl) := cellsPc h1
  have HC2 : Aside (CellsHd w ao2 hs) := cellsHd h2
  have H2 : Aside (Sl w 3 ao2 n2 c2 (hs.map Hd.enc)) := h2
  have BAD : Aside (cp < 0 ∨ 256 < cp ∨ cp < (n : Int) ∨ holdsB hs = false → rightB cp bl hs = false) := fun h => right_no (by rw [HL.out]; exact h)
  have GOOD : Aside (¬ cp < 0 → ¬ 256 < cp → ¬ cp < (n : Int) → holdsB hs = true → rightB cp bl hs = upB hs bl n) := fun a b c d => by rw [← HL.out]; exact right_up a b (by rw [HL.out]; exact c) d
  have ch := holds_calls ao2 n2 c2 hs (w.alloc (.cells #[.int .i64 cp, .slice ao n c1, .slice ao2 n2 c2] 25)) (h2.stays hb0)
  generalize rightB cp bl hs = r at BAD GOOD ⊢
  clear h1 h2
  by_cases d1 : cp < 0
  · have e1 := BAD.out (.inl d1)
    subst e1
    clear BAD GOOD HC HC2 H2 HL HL2
    go_enter Try.func10, Try.ntmps10
    go_wp2
    go_ret
    exact ⟨rfl, hb0⟩
  by_cases d2 : 256 < cp
  · have e1 := BAD.out (.inr (.inl d2))
    subst e1
    clear BAD GOOD HC HC2 H2 HL HL2
    go_enter Try.func10, Try.ntmps10
    go_wp2
    go_ret
    exact ⟨rfl, hb0⟩
  by_cases d3 : cp < (n : Int)
  · have e1 := BAD.out (.inr (.inr (.inl d3)))
    subst e1
    clear BAD GOOD HC HC2 H2 HL HL2
    go_enter Try.func10, Try.ntmps10
    go_wp2
    go_ret
    exact ⟨rfl, hb0⟩
  have hn : n ≤ 256 := by omega
  by_cases hB : holdsB hs = true
  rotate_left
  · have hB1 : holdsB hs = false := by simpa using hB
    rw [hB1] at ch
    have hB2 := BAD.out (.inr (.inr (.inr hB1)))
    subst hB2
    clear BAD GOOD HC HC2 H2 HL HL2 hB hB1
    go_enter Try.func10, Try.ntmps10
    go_wp2_with fail
    refine ch.mono ?_
    rintro e w1 ⟨rfl, hb⟩
    have HB : Aside (Below w.heap.size w w1) := hb0.trans (hb.mono hb0.size)
    clear hb hb0 ch
    go_wp2
    go_ret
    exact ⟨rfl, HB.out⟩
  rw [hB] at ch
  have HR : Aside (r = upB hs bl n) := GOOD.out d1 d2 d3 hB
  have ASC : Aside (AscH hs) := holds_asc hB
  have hn2 : n2 ≤ 64 := by
    have h9 := hB
    unfold holdsB at h9
    rw [Bool.and_eq_true, decide_eq_true_eq, HL2.out] at h9
    exact h9.2
  clear BAD GOOD hB
  go_enter Try.func10, Try.ntmps10
  go_wp2_with fail
  refine ch.mono ?_
  rintro e w1 ⟨rfl, hb⟩
  have HB : Aside (Below w.heap.size w w1) := hb0.trans (hb.mono hb0.size)
  have hw1 : w.heap.size < w1.heap.size := Nat.lt_of_lt_of_le (by simp) hb.size
  have B0 : Aside (w1.cell? ⟨w.heap.size, 0, none⟩ = some (.int .i64 cp)) := (hb.cell (p := ⟨w.heap.size, 0, none⟩) (by simp)).trans (cell_heap (hp_new rfl) 0 _ rfl)
  have B1 : Aside (w1.cell? ⟨w.heap.size, 1, none⟩ = some (.slice ao n c1)) := (hb.cell (p := ⟨w.heap.size, 1, none⟩) (by simp)).trans (cell_heap (hp_new rfl) 1 _ rfl)
  have B2 : Aside (w1.cell? ⟨w.heap.size, 2, none⟩ = some (.slice ao2 n2 c2)) := (hb.cell (p := ⟨w.heap.size, 2, none⟩) (by simp)).trans (cell_heap (hp_new rfl) 2 _ rfl)
  clear hb hb0 ch
  obtain ⟨cb, ecb⟩ : ∃ b, w.heap.size = b := ⟨_, rfl⟩
  rw [ecb] at B0 B1 B2 hw1 ⊢
  have b0 := B0.out
  have b1 := B1.out
  have b2 := B2.out
  go_wp2
  clear b0 b1 b2
  go_loopg [34] n (fun k s34 wr => ∃ idx : Nat, s34 = .int .i64 (idx : Int) ∧ k + idx = n ∧ Aside (Below w1.heap.size w1 wr) ∧ Aside (upB hs bl idx = true))
  case atStart => exact ⟨0, rfl, by omega, Below.refl _ _, rfl⟩
  case round =>
    obtain ⟨idx, rfl, hk, BW, A⟩ := hrel
    have hBr : Below w.heap.size w wr := HB.out.trans (BW.out.mono HB.out.size)
    have b0 := (BW.out.cell (p := ⟨cb, 0, none⟩) hw1).trans B0.out
    have b1 := (BW.out.cell (p := ⟨cb, 1, none⟩) hw1).trans B1.out
    have b2 := (BW.out.cell (p := ⟨cb, 2, none⟩) hw1).trans B2.out
    have hwr : cb < wr.heap.size := Nat.lt_of_lt_of_le hw1 BW.out.size
    by_cases hi : idx < n
    · have hiz : (idx : Int) < (n : Int) := by omega
      have hix : idx < bl.length := by have := HL.out; omega
      obtain ⟨b, off, rfl, hbw, q0, q1, q2, q3⟩ := HC.out idx hix
      have l0 := (hBr.cell (p := ⟨b, off + idx * 4, none⟩) hbw).trans q0
      have l1 := (hBr.cell (p := ⟨b, off + idx * 4 + 1, none⟩) hbw).trans q1
      have l2 := (hBr.cell (p := ⟨b, off + idx * 4 + 2, none⟩) hbw).trans q2
      have l3 := (hBr.cell (p := ⟨b, off + idx * 4 + 3, none⟩) hbw).trans q3
      have hbr : b < wr.heap.size := Nat.lt_of_lt_of_le hbw hBr.size
      have NO : Aside (stepB hs bl idx = false → r = false) := fun h => by rw [HR.out]; exact upB_bad h hi
      have OKS : Aside (∀ j, j < idx → OkP bl[j]!) := fun j hj => upB_perm A.out hj
      have YES : Aside (stepB hs bl idx = true → upB hs bl (idx + 1) = true) := fun h => by rw [upB_succ, A.out, h]; rfl
      have SD : Aside (stepB hs bl idx = (permB hs bl[idx]! && noneB bl idx idx)) := rfl
      have NS : Aside (∀ k, noneB bl idx (k + 1) = (noneB bl idx k && !clashB bl[idx]! bl[k]!)) := fun k => noneB_succ bl idx k
      have NB : Aside (∀ k, k < idx → clashB bl[idx]! bl[k]! = true → noneB bl idx idx = false) := fun k hk h => noneB_bad h hk
      have hcs := hold_cases bl[idx]!.pid hs
      have PN : Aside (holdI bl[idx]!.pid hs = -1 → permB hs bl[idx]! = false) := fun e => perm_no e
      have PY : Aside (∀ k : Nat, holdI bl[idx]!.pid hs = (k : Int) → permB hs bl[idx]! = (decide (hs[k]!.vers = bl[idx]!.vers) && decide (0 ≤ bl[idx]!.pos ∧ bl[idx]!.pos ≤ 9007199254740991 ∧ bl[idx]!.data.size ≤ 65536))) := fun k e => perm_of e
      clear q0 q1 q2 q3 A HR
      generalize bl[idx]! = y at l0 l1 l2 l3 SD NS NB hcs PN PY
      obtain ⟨y1, y2, y3, y4⟩ := y
      simp only [] at l0 l1 l2 l3 hcs PN PY
      have hV : Below w.heap.size w (wr.alloc (.cells #[.int .i64 y1, .int .i64 y2, .int .i64 y3, .string y4] 47)) := hBr.alloc hBr.size _
      have hV1 : Below w1.heap.size w1 (wr.alloc (.cells #[.int .i64 y1, .int .i64 y2, .int .i64 y3, .string y4] 47)) := BW.out.alloc BW.out.size _
      rcases hcs with ⟨e1, he⟩ | ⟨k0, hk0, e1, he, _⟩
      · have c := hold_miss cp (some ⟨b, off, none⟩) n c1 ao2 n2 c2 hs y1 (wr.alloc (.cells #[.int .i64 y1, .int .i64 y2, .int .i64 y3, .string y4] 47)) (H2.out.stays hV) (by omega) ASC.out he
        have er := NO.out (by rw [SD.out, PN.out e1, Bool.false_and])
        clear NO YES SD NS NB PN PY OKS HC HC2 he e1
        generalize posH y1 hs = ps at c
        go_wp2_with fail
        refine c.mono ?_
        rintro e w2 ⟨rfl, hb⟩
        have HB2 : Aside (Below w.heap.size w w2) := hV.trans (hb.mono hV.size)
        have BW2 : Aside (Below w1.heap.size w1 w2) := hV1.trans (hb.mono hV1.size)
        have P0 : Aside (w2.cell? ⟨wr.heap.size, 0, none⟩ = some (.int .i64 y1)) := (hb.cell (p := ⟨wr.heap.size, 0, none⟩) (by simp)).trans (cell_heap (hp_new rfl) 0 _ rfl)
        have P1 : Aside (w2.cell? ⟨wr.heap.size, 1, none⟩ = some (.int .i64 y2)) := (hb.cell (p := ⟨wr.heap.size, 1, none⟩) (by simp)).trans (cell_heap (hp_new rfl) 1 _ rfl)
        have P2 : Aside (w2.cell? ⟨wr.heap.size, 2, none⟩ = some (.int .i64 y3)) := (hb.cell (p := ⟨wr.heap.size, 2, none⟩) (by simp)).trans (cell_heap (hp_new rfl) 2 _ rfl)
        have P3 : Aside (w2.cell? ⟨wr.heap.size, 3, none⟩ = some (.string y4)) := (hb.cell (p := ⟨wr.heap.size, 3, none⟩) (by simp)).trans (cell_heap (hp_new rfl) 3 _ rfl)
        have hpb : wr.heap.size < w2.heap.size := Nat.lt_of_lt_of_le (by simp) hb.size
        have hcb : cb < w2.heap.size := Nat.lt_of_lt_of_le hw1 BW2.out.size
        have hpc : ¬ wr.heap.size = cb := by omega
        clear hb hV hV1 c l0 l1 l2 l3 b0 b1 b2 BW hBr
        obtain ⟨pb, epb⟩ : ∃ b, wr.heap.size = b := ⟨_, rfl⟩
        rw [epb] at P0 P1 P2 P3 hpb hpc ⊢
        clear epb hwr hbr
        have b0 := (BW2.out.cell (p := ⟨cb, 0, none⟩) hw1).trans B0.out
        have b1 := (BW2.out.cell (p := ⟨cb, 1, none⟩) hw1).trans B1.out
        have b2 := (BW2.out.cell (p := ⟨cb, 2, none⟩) hw1).trans B2.out
        have p0 := P0.out
        have p1 := P1.out
        have p2 := P2.out
        have p3 := P3.out
        subst er
        have hHB2 := HB2.out
        have hsz := HB2.out.size
        go_wp2
        refine wp_region_plus (by kernel_rfl) (by kernel_rfl) ?_
        repeat (go_big_quiet_step (fail))
        refine wpQuiet_nil ?_
        rintro _ ⟨x1, rfl⟩
        go_wp2
        go_ret
        refine ⟨rfl, ?_⟩
        repeat (first | (with_reducible exact Below.refl _ _) | (with_reducible assumption) | (with_reducible refine below_to_plus ?_ ?_ _) | (with_reducible refine below_holds ?_ ?_ _ _) | (with_reducible refine Below.alloc ?_ ?_ _) | (with_reducible refine Below.drew ?_) | (with_reducible refine below_drewN ?_ _) | (with_reducible refine Below.setCell ?_ ?_ _))
        all_goals first | omega | (simp; done) | (simp [go_sem]; done) | (simp [go_sem]; omega)
      · have c := hold_hit cp (some ⟨b, off, none⟩) n c1 ao2 n2 c2 hs y1 (wr.alloc (.cells #[.int .i64 y1, .int .i64 y2, .int .i64 y3, .string y4] 47)) (H2.out.stays hV) (by omega) ASC.out hk0 he
        have PD := PY.out k0 e1
        have PD' : Aside (permB hs ⟨y1, y2, y3, y4⟩ = (decide (hs[k0]!.vers = y2) && decide (0 ≤ y3 ∧ y3 ≤ 9007199254740991 ∧ y4.size ≤ 65536))) := PD
        obtain ⟨bb, off2, ea2, hbw2, m0, m1, m2⟩ := HC2.out k0 hk0
        subst ea2
        have hkn : k0 < n2 := by have := HL2.out; omega
        have hkz : (k0 : Int) < (n2 : Int) := by omega
        clear PY PN PD he e1
        go_wp2_with fail
        refine c.mono ?_
        rintro e w2 ⟨rfl, hb⟩
        have HB2 : Aside (Below w.heap.size w w2) := hV.trans (hb.mono hV.size)
        have BW2 : Aside (Below w1.heap.size w1 w2) := hV1.trans (hb.mono hV1.size)
        have P0 : Aside (w2.cell? ⟨wr.heap.size, 0, none⟩ = some (.int .i64 y1)) := (hb.cell (p := ⟨wr.heap.size, 0, none⟩) (by simp)).trans (cell_heap (hp_new rfl) 0 _ rfl)
        have P1 : Aside (w2.cell? ⟨wr.heap.size, 1, none⟩ = some (.int .i64 y2)) := (hb.cell (p := ⟨wr.heap.size, 1, none⟩) (by simp)).trans (cell_heap (hp_new rfl) 1 _ rfl)
        have P2 : Aside (w2.cell? ⟨wr.heap.size, 2, none⟩ = some (.int .i64 y3)) := (hb.cell (p := ⟨wr.heap.size, 2, none⟩) (by simp)).trans (cell_heap (hp_new rfl) 2 _ rfl)
        have P3 : Aside (w2.cell? ⟨wr.heap.size, 3, none⟩ = some (.string y4)) := (hb.cell (p := ⟨wr.heap.size, 3, none⟩) (by simp)).trans (cell_heap (hp_new rfl) 3 _ rfl)
        have hpb : wr.heap.size < w2.heap.size := Nat.lt_of_lt_of_le (by simp) hb.size
        have hcb : cb < w2.heap.size := Nat.lt_of_lt_of_le hw1 BW2.out.size
        have hpc : ¬ wr.heap.size = cb := by omega
        clear hb hV hV1 c l0 l1 l2 l3 b0 b1 b2 BW hBr
        obtain ⟨pb, epb⟩ : ∃ b, wr.heap.size = b := ⟨_, rfl⟩
        rw [epb] at P0 P1 P2 P3 hpb hpc ⊢
        clear epb hwr hbr
        have b0 := (BW2.out.cell (p := ⟨cb, 0, none⟩) hw1).trans B0.out
        have b1 := (BW2.out.cell (p := ⟨cb, 1, none⟩) hw1).trans B1.out
        have b2 := (BW2.out.cell (p := ⟨cb, 2, none⟩) hw1).trans B2.out
        have p0 := P0.out
        have p1 := P1.out
        have p2 := P2.out
        have p3 := P3.out
        have g1 := (HB2.out.cell (p := ⟨bb, off2 + k0 * 3 + 1, none⟩) hbw2).trans m1
        have hbb : bb < w2.heap.size := Nat.lt_of_lt_of_le hbw2 HB2.out.size
        clear m0 m1 m2
        generalize hs[k0]!.vers = z at g1 PD'
        by_cases v1 : z = y2
        rotate_left
        · have v1t : (z != y2) = true := by simpa using v1
          have v1d : decide (z = y2) = false := decide_eq_false v1
          have er := NO.out (by rw [SD.out, PD'.out, v1d]; rfl)
          clear NO YES SD NS NB PD' OKS HC HC2
          subst er
          have hHB2 := HB2.out
          have hsz := HB2.out.size
          go_wp2
          refine wp_region_plus (by kernel_rfl) (by kernel_rfl) ?_
          repeat (go_big_quiet_step (fail))
          refine wpQuiet_nil ?_
          rintro _ ⟨x1, rfl⟩
          go_wp2
          go_ret
          refine ⟨rfl, ?_⟩
          repeat (first | (with_reducible exact Below.refl _ _) | (with_reducible assumption) | (with_reducible refine below_to_plus ?_ ?_ _) | (with_reducible refine below_holds ?_ ?_ _ _) | (with_reducible refine Below.alloc ?_ ?_ _) | (with_reducible refine Below.drew ?_) | (with_reducible refine below_drewN ?_ _) | (with_reducible refine Below.setCell ?_ ?_ _))
          all_goals first | omega | (simp; done) | (simp [go_sem]; done) | (simp [go_sem]; omega)
        have v1f : (z != y2) = false := by simp [v1]
        have v1d : decide (z = y2) = true := decide_eq_true v1
        rw [v1d, Bool.true_and] at PD'
        clear v1 v1d
        by_cases v2 : y3 < 0
        · have v2t : decide (y3 < 0) = true := decide_eq_true v2
          have er := NO.out (by rw [SD.out, PD'.out, decide_eq_false (by omega)]; rfl)
          clear NO YES SD NS NB PD' OKS HC HC2
          subst er
          have hHB2 := HB2.out
          have hsz := HB2.out.size
          go_wp2
          refine wp_region_plus (by kernel_rfl) (by kernel_rfl) ?_
          repeat (go_big_quiet_step (fail))
          refine wpQuiet_nil ?_
          rintro _ ⟨x1, rfl⟩
          go_wp2
          go_ret
          refine ⟨rfl, ?_⟩
          repeat (first | (with_reducible exact Below.refl _ _) | (with_reducible assumption) | (with_reducible refine below_to_plus ?_ ?_ _) | (with_reducible refine below_holds ?_ ?_ _ _) | (with_reducible refine Below.alloc ?_ ?_ _) | (with_reducible refine Below.drew ?_) | (with_reducible refine below_drewN ?_ _) | (with_reducible refine Below.setCell ?_ ?_ _))
          all_goals first | omega | (simp; done) | (simp [go_sem]; done) | (simp [go_sem]; omega)
        have v2f : decide (y3 < 0) = false := decide_eq_false v2
        by_cases v3 : 9007199254740991 < y3
        · have v3t : decide (9007199254740991 < y3) = true := decide_eq_true v3
          have er := NO.out (by rw [SD.out, PD'.out, decide_eq_false (by omega)]; rfl)
          clear NO YES SD NS NB PD' OKS HC HC2
          subst er
          have hHB2 := HB2.out
          have hsz := HB2.out.size
          go_wp2
          refine wp_region_plus (by kernel_rfl) (by kernel_rfl) ?_
          repeat (go_big_quiet_step (fail))
          refine wpQuiet_nil ?_
          rintro _ ⟨x1, rfl⟩
          go_wp2
          go_ret
          refine ⟨rfl, ?_⟩
          repeat (first | (with_reducible exact Below.refl _ _) | (with_reducible assumption) | (with_reducible refine below_to_plus ?_ ?_ _) | (with_reducible refine below_holds ?_ ?_ _ _) | (with_reducible refine Below.alloc ?_ ?_ _) | (with_reducible refine Below.drew ?_) | (with_reducible refine below_drewN ?_ _) | (with_reducible refine Below.setCell ?_ ?_ _))
          all_goals first | omega | (simp; done) | (simp [go_sem]; done) | (simp [go_sem]; omega)
        have v3f : decide (9007199254740991 < y3) = false := decide_eq_false v3
        by_cases v4 : (65536 : Int) < (y4.size : Int)
        · have v4t : decide ((65536 : Int) < (y4.size : Int)) = true := decide_eq_true v4
          have er := NO.out (by rw [SD.out, PD'.out, decide_eq_false (by omega)]; rfl)
          clear NO YES SD NS NB PD' OKS HC HC2
          subst er
          have hHB2 := HB2.out
          have hsz := HB2.out.size
          go_wp2
          refine wp_region_plus (by kernel_rfl) (by kernel_rfl) ?_
          repeat (go_big_quiet_step (fail))
          refine wpQuiet_nil ?_
          rintro _ ⟨x1, rfl⟩
          go_wp2
          go_ret
          refine ⟨rfl, ?_⟩
          repeat (first | (with_reducible exact Below.refl _ _) | (with_reducible assumption) | (with_reducible refine below_to_plus ?_ ?_ _) | (with_reducible refine below_holds ?_ ?_ _ _) | (with_reducible refine Below.alloc ?_ ?_ _) | (with_reducible refine Below.drew ?_) | (with_reducible refine below_drewN ?_ _) | (with_reducible refine Below.setCell ?_ ?_ _))
          all_goals first | omega | (simp; done) | (simp [go_sem]; done) | (simp [go_sem]; omega)
        have v4f : decide ((65536 : Int) < (y4.size : Int)) = false := decide_eq_false v4
        have hok : Aside (OkP ⟨y1, y2, y3, y4⟩) := ⟨⟨by show 0 ≤ y3; omega, by show y3 ≤ 9007199254740991; omega⟩, by show y4.size ≤ 1000000; omega⟩
        have SD2 : Aside (stepB hs bl idx = noneB bl idx idx) := by
          show _ = _
          rw [SD.out, PD'.out, decide_eq_true (by omega), Bool.true_and]
        clear SD PD'
        have hHB2 := HB2.out
        have hiz0 : (0 : Int) ≤ (idx : Int) := by omega
        have hizc : (idx : Int) ≤ (c1 : Int) := by omega
        have hit : ((idx : Int)).toNat = idx := by omega
        go_wp2
        refine wp_region_plus (by kernel_rfl) (by kernel_rfl) ?_
        repeat (go_big_quiet_step (fail))
        refine wpQuiet_nil ?_
        rintro _ ⟨x1, rfl⟩
        clear hHB2
        obtain ⟨w4, hw4⟩ : ∃ v, plus w2 x1 = v := ⟨_, rfl⟩
        rw [hw4]
        have H24 : Below w2.heap.size w2 w4 := by rw [← hw4]; exact below_plus _ _
        have HB4 : Aside (Below w.heap.size w w4) := HB2.out.trans (H24.mono HB2.out.size)
        have BW4 : Aside (Below w1.heap.size w1 w4) := BW2.out.trans (H24.mono BW2.out.size)
        have Q0 : Aside (w4.cell? ⟨pb, 0, none⟩ = _) := (H24.cell (p := ⟨pb, 0, none⟩) hpb).trans P0.out
        have Q1 : Aside (w4.cell? ⟨pb, 1, none⟩ = _) := (H24.cell (p := ⟨pb, 1, none⟩) hpb).trans P1.out
        have Q2 : Aside (w4.cell? ⟨pb, 2, none⟩ = _) := (H24.cell (p := ⟨pb, 2, none⟩) hpb).trans P2.out
        have Q3 : Aside (w4.cell? ⟨pb, 3, none⟩ = _) := (H24.cell (p := ⟨pb, 3, none⟩) hpb).trans P3.out
        have hpb4 : pb < w4.heap.size := Nat.lt_of_lt_of_le hpb H24.size
        have hw4s : cb < w4.heap.size := Nat.lt_of_lt_of_le hw1 BW4.out.size
        clear b0 b1 b2 p0 p1 p2 p3 P0 P1 P2 P3 hw4 H24 HB2 BW2 hpb g1 hbb hcb
        have b0 := (BW4.out.cell (p := ⟨cb, 0, none⟩) hw1).trans B0.out
        have b1 := (BW4.out.cell (p := ⟨cb, 1, none⟩) hw1).trans B1.out
        have b2 := (BW4.out.cell (p := ⟨cb, 2, none⟩) hw1).trans B2.out
        go_wp2
        clear b0 b1 b2
        go_loopg [80] idx (fun g s80 wr2 => ∃ ii : Nat, s80 = .int .i64 (ii : Int) ∧ g + ii = idx ∧ Aside (Below w4.heap.size w4 wr2) ∧ Aside (noneB bl idx ii = true))
        case atStart => exact ⟨0, rfl, by omega, Below.refl _ _, rfl⟩
        case round =>
          obtain ⟨ii, rfl, hkk, BV, D⟩ := hrel
          by_cases hii : ii < idx
          · have hiiz : (ii : Int) < (idx : Int) := by omega
            have hB5 : Below w.heap.size w wr := HB4.out.trans (BV.out.mono HB4.out.size)
            obtain ⟨b9, off9, e9, hbw9, q0, q1, q2, q3⟩ := HC.out ii (by have := HL.out; omega)
            cases e9
            have l0 := (hB5.cell (p := ⟨b, off + ii * 4, none⟩) hbw).trans q0
            have p0 := (BV.out.cell (p := ⟨pb, 0, none⟩) hpb4).trans Q0.out
            have l1 := (hB5.cell (p := ⟨b, off + ii * 4 + 1, none⟩) hbw).trans q1
            have p1 := (BV.out.cell (p := ⟨pb, 1, none⟩) hpb4).trans Q1.out
            have l2 := (hB5.cell (p := ⟨b, off + ii * 4 + 2, none⟩) hbw).trans q2
            have p2 := (BV.out.cell (p := ⟨pb, 2, none⟩) hpb4).trans Q2.out
            have l3 := (hB5.cell (p := ⟨b, off + ii * 4 + 3, none⟩) hbw).trans q3
            have p3 := (BV.out.cell (p := ⟨pb, 3, none⟩) hpb4).trans Q3.out
            have hbr : b < wr.heap.size := Nat.lt_of_lt_of_le hbw hB5.size
            have hpr : pb < wr.heap.size := Nat.lt_of_lt_of_le hpb4 BV.out.size
            have okz := OKS.out ii hii
            have NS2 : Aside (clashB ⟨y1, y2, y3, y4⟩ bl[ii]! = false → noneB bl idx (ii + 1) = true) := fun h => by rw [NS.out ii, D.out, h]; rfl
            have NB2 : Aside (clashB ⟨y1, y2, y3, y4⟩ bl[ii]! = true → r = false) := fun h => NO.out (by rw [SD2.out]; exact NB.out ii hii h)
            clear q0 q1 q2 q3 NO YES NS NB OKS SD2 D HC HC2 BW4
            generalize bl[ii]! = z at l0 l1 l2 l3 okz NS2 NB2
            obtain ⟨z1, z2, z3, z4⟩ := z
            simp only [] at l0 l1 l2 l3
            have hV2 : Below w4.heap.size w4 (wr.alloc (.cells #[.int .i64 z1, .int .i64 z2, .int .i64 z3, .string z4] 47)) := BV.out.alloc BV.out.size _
            have c := clash_calls y1 y2 y3 y4 z1 z2 z3 z4 (wr.alloc (.cells #[.int .i64 z1, .int .i64 z2, .int .i64 z3, .string z4] 47)) hok.out okz
            by_cases hc : clashB ⟨y1, y2, y3, y4⟩ ⟨z1, z2, z3, z4⟩ = true
            · rw [hc] at c
              have er := NB2.out hc
              subst er
              clear NB2 NS2 hc hok
              go_wp2_with fail
              refine c.mono ?_
              rintro e w5 ⟨rfl, hb⟩
              have H45 : Below w4.heap.size w4 w5 := hV2.trans (hb.mono hV2.size)
              have HB6 : Aside (Below w.heap.size w w5) := HB4.out.trans (H45.mono HB4.out.size)
              clear hb hV2 c H45 l0 l1 l2 l3 p0 p1 p2 p3
              go_wp2
              go_ret
              exact ⟨rfl, by first | exact HB6.out | (rw [← ecb]; exact HB6.out)⟩
            · have hc1 : clashB ⟨y1, y2, y3, y4⟩ ⟨z1, z2, z3, z4⟩ = false := by simpa using hc
              rw [hc1] at c
              have G : Aside (noneB bl idx (ii + 1) = true) := NS2.out hc1
              clear NB2 NS2 hc hc1 hok
              go_wp2_with fail
              refine c.mono ?_
              rintro e w5 ⟨rfl, hb⟩
              have H45 : Aside (Below w4.heap.size w4 w5) := hV2.trans (hb.mono hV2.size)
              clear hb hV2 c l0 l1 l2 l3 p0 p1 p2 p3
              go_wp2
              go_roundg (idx - (ii + 1))
              case measure => omega
              case rel => exact ⟨ii + 1, by simp, by omega, H45, G⟩
          · have hiiz : ¬ (ii : Int) < (idx : Int) := by omega
            obtain rfl : ii = idx := by omega
            have G : Aside (upB hs bl (ii + 1) = true) := YES.out (by rw [SD2.out, D.out])
            have B9 : Aside (Below w1.heap.size w1 wr) := BW4.out.trans (BV.out.mono BW4.out.size)
            clear NO YES NS NB OKS SD2 D HC HC2 HB4 BW4
            go_wp2
            go_roundg (n - (ii + 1))
            case measure => omega
            case rel => exact ⟨ii + 1, by simp, by omega, B9, G⟩
    · have hiz : ¬ (idx : Int) < (n : Int) := by omega
      have ei : idx = n := by omega
      have er : r = true := by rw [HR.out, ← ei]; exact A.out
      subst er
      clear HC HC2 A HL HL2 HR ei
      go_wp2
      go_ret
      exact ⟨rfl, by rw [← ecb]; exact hBr⟩

end Go.Proofs.Ytcgajlobbjoefaa
