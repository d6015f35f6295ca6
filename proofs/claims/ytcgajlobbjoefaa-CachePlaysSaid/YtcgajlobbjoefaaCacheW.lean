/- This text proves the walk of Put of the reference of package cache. Conditions: those that each theorem names. -/
import Derived.Test.YtcgajlobbjoefaaCacheV
import Derived.Test.YtcgajlobbjoefaaCacheJ
namespace Go.Proofs.Ytcgajlobbjoefaa
open Go.ChangeShapes Go.WideShapes Go.ChangeAt Go.RowKit
set_option linter.unusedVariables false
set_option linter.unusedSimpArgs false

set_option maxHeartbeats 8000000 in
theorem rput_no (cp : Int) (ao : Option Addr) (n c1 : Nat) (ao2 : Option Addr) (n2 c2 : Nat) (bl : List Pc) (hs : List Hd) (id vers at' : Int) (data : ByteArray) (w : World) (h1 : Sl w 4 ao n c1 (bl.map Pc.enc)) (h2 : Sl w 3 ao2 n2 c2 (hs.map Hd.enc)) (hd : permB hs ⟨id, vers, at', data⟩ = false ∨ cp = 0) :
    Calls Try.prog 43 #[.agg #[.int .i64 cp, .slice ao n c1, .slice ao2 n2 c2], .int .i64 id, .int .i64 vers, .int .i64 at', .string data] w fun e w' => RPost w cp bl hs e w' := by
  have HR : Aside (∀ w', Below w.heap.size w w' → RPost w cp bl hs (.returned (.agg #[.int .i64 cp, .slice ao n c1, .slice ao2 n2 c2])) w') := fun w' hb => ⟨ao, c1, ao2, c2, by rw [Sl.lenE h1, Sl.lenE h2], by rw [Sl.lenE h1]; exact h1.stays hb, by rw [Sl.lenE h2]; exact h2.stays hb, hb⟩
  generalize RPost w cp bl hs = RP at HR ⊢
  have H2 : Aside (Sl w 3 ao2 n2 c2 (hs.map Hd.enc)) := h2
  have cm := fun U (h : Below w.heap.size w U) => permitted_calls cp ao n c1 ao2 n2 c2 hs id vers at' data U (H2.out.stays h)
  have hb0 : Below w.heap.size w (((w.alloc (.cells #[.int .i64 cp, .slice ao n c1, .slice ao2 n2 c2] 25)).alloc (.cells #[.int .i64 0, .slice none 0 0, .slice none 0 0] 25)).alloc (.cells #[.int .i64 id, .int .i64 vers, .int .i64 at', .string data] 47)) := by
    repeat (first | (with_reducible exact Below.refl _ _) | (with_reducible assumption) | (with_reducible refine below_to_plus ?_ ?_ _) | (with_reducible refine below_holds ?_ ?_ _ _) | (with_reducible refine Below.alloc ?_ ?_ _) | (with_reducible refine Below.drew ?_) | (with_reducible refine below_drewN ?_ _) | (with_reducible refine Below.setCell ?_ ?_ _))
    all_goals first | omega | (simp; done) | (simp [go_sem]; done) | (simp [go_sem]; omega)
  have ck := cm _ hb0
  clear cm H2 h1 h2
  generalize permB hs ⟨id, vers, at', data⟩ = q at ck hd
  go_enter Try.func43, Try.ntmps43
  go_wp2_with fail
  refine ck.mono ?_
  rintro e w1 ⟨rfl, hb⟩
  obtain ⟨x, hx⟩ := plus_of_below hb
  subst hx
  clear ck hb hb0
  cases q with
  | false =>
    clear hd
    go_wp2
    refine bodyPost_ret (v := .agg #[.int .i64 cp, .slice ao n c1, .slice ao2 n2 c2]) (by simp [results, Try.results43, go_sem, ↓IntWalk.iteOmega, *]) rfl (HR.out _ ?_)
    repeat (first | (with_reducible exact Below.refl _ _) | (with_reducible assumption) | (with_reducible refine below_to_plus ?_ ?_ _) | (with_reducible refine below_holds ?_ ?_ _ _) | (with_reducible refine Below.alloc ?_ ?_ _) | (with_reducible refine Below.drew ?_) | (with_reducible refine below_drewN ?_ _) | (with_reducible refine Below.setCell ?_ ?_ _))
    all_goals first | omega | (simp; done) | (simp [go_sem]; done) | (simp [go_sem]; omega)
  | true =>
    obtain rfl : cp = 0 := by simpa using hd
    clear hd
    go_wp2
    refine bodyPost_ret (v := .agg #[.int .i64 0, .slice ao n c1, .slice ao2 n2 c2]) (by simp [results, Try.results43, go_sem, ↓IntWalk.iteOmega, *]) rfl (HR.out _ ?_)
    repeat (first | (with_reducible exact Below.refl _ _) | (with_reducible assumption) | (with_reducible refine below_to_plus ?_ ?_ _) | (with_reducible refine below_holds ?_ ?_ _ _) | (with_reducible refine Below.alloc ?_ ?_ _) | (with_reducible refine Below.drew ?_) | (with_reducible refine below_drewN ?_ _) | (with_reducible refine Below.setCell ?_ ?_ _))
    all_goals first | omega | (simp; done) | (simp [go_sem]; done) | (simp [go_sem]; omega)

theorem sl_tail {α : Type} {enc : α → List Value} {k : Nat} {w : World} {b off n cap : Nat} {xs : List α} (h : Sl w k (some ⟨b, off, none⟩) n cap (xs.map enc)) (h0 : 0 < n) : Sl w k (some ⟨b, off + k, none⟩) (n - 1) (cap - 1) ((xs.drop 1).map enc) := by
  refine ⟨by have := h.lenE; simp; omega, by have := h.hcap; omega, by have := h.hmax; omega, fun y hy => h.hrows y ?_, fun hn => ?_, fun h => by cases h⟩
  · rw [List.map_drop] at hy
    exact List.mem_of_mem_drop hy
  · obtain ⟨b', off', e, hb, hc⟩ := h.here h0
    cases e
    refine ⟨b, off + k, rfl, hb, fun j y hj i v hv => ?_⟩
    rw [List.map_drop, List.getElem?_drop] at hj
    have := hc (1 + j) y hj i v hv
    rw [Nat.add_mul, Nat.one_mul] at this
    rw [show off + k + j * k + i = off + (k + j * k) + i by omega]
    exact this
theorem putL_many {cp : Int} {p : Pc} {bl fl : List Pc} (e : bl.filter (fun y => !clashB p y) = fl) (h : cp < (fl.length : Int) + 1) : putL cp p bl = (fl ++ [p]).drop 1 := by
  unfold putL
  rw [e, if_pos h]
theorem putL_few {cp : Int} {p : Pc} {bl fl : List Pc} (e : bl.filter (fun y => !clashB p y) = fl) (h : ¬ cp < (fl.length : Int) + 1) : putL cp p bl = fl ++ [p] := by
  unfold putL
  rw [e, if_neg h]

set_option maxRecDepth 20000 in
set_option maxHeartbeats 8000000 in
theorem rput_ok (cp : Int) (ao : Option Addr) (n c1 : Nat) (ao2 : Option Addr) (n2 c2 : Nat) (bl : List Pc) (hs : List Hd) (id vers at' : Int) (data : ByteArray) (w : World) (h1 : Sl w 4 ao n c1 (bl.map Pc.enc)) (h2 : Sl w 3 ao2 n2 c2 (hs.map Hd.enc)) (hd : permB hs ⟨id, vers, at', data⟩ = true) (hc0 : cp ≠ 0) (hn : n ≤ 100000) (ok : ∀ y ∈ bl, OkP y) :
    Calls Try.prog 43 #[.agg #[.int .i64 cp, .slice ao n c1, .slice ao2 n2 c2], .int .i64 id, .int .i64 vers, .int .i64 at', .string data] w fun e w' => RPost w cp (putL cp ⟨id, vers, at', data⟩ bl) hs e w' := by
  obtain ⟨i0, hi0, hz0, hs0, hb0⟩ := pcInfo
  have hbig : n ≤ 9223372036854775807 := by omega
  have okp : Aside (OkP (⟨id, vers, at', data⟩ : Pc)) := perm_ok hd
  have OKS : Aside (∀ j, j < n → OkP bl[j]!) := fun j hj => by
    have hl := Sl.lenE h1
    rw [getElem!_pos bl j (by omega)]
    exact ok _ (List.getElem_mem _)
  have ce0 : (cp == 0) = false := by simpa using hc0
  have de0 : decide (cp = 0) = false := decide_eq_false hc0
  have H2 : Aside (Sl w 3 ao2 n2 c2 (hs.map Hd.enc)) := h2
  have hl2 : hs.length = n2 := Sl.lenE h2
  have HB0 : Below w.heap.size w (((w.alloc (.cells #[.int .i64 cp, .slice ao n c1, .slice ao2 n2 c2] 25)).alloc (.cells #[.int .i64 0, .slice none 0 0, .slice none 0 0] 25)).alloc (.cells #[.int .i64 id, .int .i64 vers, .int .i64 at', .string data] 47)) := by
    repeat (first | (with_reducible exact Below.refl _ _) | (with_reducible assumption) | (with_reducible refine below_to_plus ?_ ?_ _) | (with_reducible refine below_holds ?_ ?_ _ _) | (with_reducible refine Below.alloc ?_ ?_ _) | (with_reducible refine Below.drew ?_) | (with_reducible refine below_drewN ?_ _) | (with_reducible refine Below.setCell ?_ ?_ _))
    all_goals first | omega | (simp; done) | (simp [go_sem]; done) | (simp [go_sem]; omega)
  have ck := permitted_calls cp ao n c1 ao2 n2 c2 hs id vers at' data (((w.alloc (.cells #[.int .i64 cp, .slice ao n c1, .slice ao2 n2 c2] 25)).alloc (.cells #[.int .i64 0, .slice none 0 0, .slice none 0 0] 25)).alloc (.cells #[.int .i64 id, .int .i64 vers, .int .i64 at', .string data] 47)) (h2.stays HB0)
  rw [hd] at ck
  have HL : Aside (bl.length = n) := Sl.lenE h1
  have HC : Aside (CellsPc w ao bl) := cellsPc h1
  clear h1 h2 ok hd hc0
  obtain ⟨fl, hfl⟩ : ∃ fl, bl.filter (fun y => !clashB (⟨id, vers, at', data⟩ : Pc) y) = fl := ⟨_, rfl⟩
  have HF : Aside (bl.filter (fun y => !clashB (⟨id, vers, at', data⟩ : Pc) y) = fl) := hfl
  have PM : Aside (cp < (fl.length : Int) + 1 → putL cp ⟨id, vers, at', data⟩ bl = (fl ++ [(⟨id, vers, at', data⟩ : Pc)]).drop 1) := putL_many hfl
  have PF : Aside (¬ cp < (fl.length : Int) + 1 → putL cp ⟨id, vers, at', data⟩ bl = fl ++ [(⟨id, vers, at', data⟩ : Pc)]) := putL_few hfl
  clear hfl
  generalize putL cp ⟨id, vers, at', data⟩ bl = pl at PM PF ⊢
  go_enter Try.func43, Try.ntmps43
  go_wp2_with fail
  refine ck.mono ?_
  rintro e w1 ⟨rfl, hb⟩
  obtain ⟨x, hx⟩ := plus_of_below hb
  subst hx
  have HB1 : Below w.heap.size w (plus (((w.alloc (.cells #[.int .i64 cp, .slice ao n c1, .slice ao2 n2 c2] 25)).alloc (.cells #[.int .i64 0, .slice none 0 0, .slice none 0 0] 25)).alloc (.cells #[.int .i64 id, .int .i64 vers, .int .i64 at', .string data] 47)) x) := by
    repeat (first | (with_reducible exact Below.refl _ _) | (with_reducible assumption) | (with_reducible refine below_to_plus ?_ ?_ _) | (with_reducible refine below_holds ?_ ?_ _ _) | (with_reducible refine Below.alloc ?_ ?_ _) | (with_reducible refine Below.drew ?_) | (with_reducible refine below_drewN ?_ _) | (with_reducible refine Below.setCell ?_ ?_ _))
    all_goals first | omega | (simp; done) | (simp [go_sem]; done) | (simp [go_sem]; omega)
  have ZX : (plus (((w.alloc (.cells #[.int .i64 cp, .slice ao n c1, .slice ao2 n2 c2] 25)).alloc (.cells #[.int .i64 0, .slice none 0 0, .slice none 0 0] 25)).alloc (.cells #[.int .i64 id, .int .i64 vers, .int .i64 at', .string data] 47)) x).heap.size = (w.heap.size + 1 + 1 + 1 + x.heap.size) := by simp [size_plus]
  clear ck hb
  go_wp2
  go_loopg [12, 32] n (fun k s12 s32 wr => ∃ (idx : Nat) (ao' : Option Addr) (cap' : Nat) (l : List Pc), s32 = .int .i64 (idx : Int) ∧ s12 = .slice ao' l.length cap' ∧ k + idx = n ∧ l.length ≤ idx ∧ Aside ((bl.take idx).filter (fun y => !clashB (⟨id, vers, at', data⟩ : Pc) y) = l) ∧ Aside (Below (plus (((w.alloc (.cells #[.int .i64 cp, .slice ao n c1, .slice ao2 n2 c2] 25)).alloc (.cells #[.int .i64 0, .slice none 0 0, .slice none 0 0] 25)).alloc (.cells #[.int .i64 id, .int .i64 vers, .int .i64 at', .string data] 47)) x).heap.size (plus (((w.alloc (.cells #[.int .i64 cp, .slice ao n c1, .slice ao2 n2 c2] 25)).alloc (.cells #[.int .i64 0, .slice none 0 0, .slice none 0 0] 25)).alloc (.cells #[.int .i64 id, .int .i64 vers, .int .i64 at', .string data] 47)) x) wr ∧ wr.ownsRow (w.heap.size + 1 + 1 + 1 + x.heap.size) 47 4 (.slice ao' l.length cap') l.length (flatE Pc.enc l)))
  case atStart => exact ⟨0, none, 0, [], rfl, rfl, by omega, by simp, rfl, Below.refl _ _, World.ownsRow_nil _ _ _ _⟩
  case round =>
    obtain ⟨idx, ao', cap', l, rfl, rfl, hk, hm, FE, ST⟩ := hrel
    by_cases hi : idx < n
    · have hiz : (idx : Int) < (n : Int) := by omega
      have hix : idx < bl.length := by have := HL.out; omega
      obtain ⟨b, off, rfl, hbw, q0, q1, q2, q3⟩ := HC.out idx hix
      have okz := OKS.out idx hi
      have LY : Aside (∀ i, i < 4 → w.cell? ⟨b, off + idx * 4 + i, none⟩ = bl[idx]!.enc[i]?) := fun i hi => by
        match i, hi with
        | 0, _ => exact q0
        | 1, _ => exact q1
        | 2, _ => exact q2
        | 3, _ => exact q3
      clear q0 q1 q2 q3
      have hBr : Below w.heap.size w wr := HB1.trans (ST.out.1.mono HB1.size)
      have hsw : (w.heap.size + 1 + 1 + 1 + x.heap.size) ≤ wr.heap.size := by have := ST.out.1.size; rw [ZX] at this; exact this
      have hbr : b < wr.heap.size := Nat.lt_of_lt_of_le hbw hBr.size
      have l0 : wr.cell? ⟨b, off + idx * 4, none⟩ = some (.int .i64 bl[idx]!.pid) := (hBr.cell (p := ⟨b, off + idx * 4, none⟩) hbw).trans (LY.out 0 (by omega))
      have l1 : wr.cell? ⟨b, off + idx * 4 + 1, none⟩ = some (.int .i64 bl[idx]!.vers) := (hBr.cell (p := ⟨b, off + idx * 4 + 1, none⟩) hbw).trans (LY.out 1 (by omega))
      have l2 : wr.cell? ⟨b, off + idx * 4 + 2, none⟩ = some (.int .i64 bl[idx]!.pos) := (hBr.cell (p := ⟨b, off + idx * 4 + 2, none⟩) hbw).trans (LY.out 2 (by omega))
      have l3 : wr.cell? ⟨b, off + idx * 4 + 3, none⟩ = some (.string bl[idx]!.data) := (hBr.cell (p := ⟨b, off + idx * 4 + 3, none⟩) hbw).trans (LY.out 3 (by omega))
      have b0 := (ST.out.1.cell (p := ⟨w.heap.size, 0, none⟩) (by rw [ZX]; show w.heap.size < _; omega)).trans (cell_heap (hp_plus (hp_old (hp_old (hp_new rfl)))) 0 _ rfl)
      have b1 := (ST.out.1.cell (p := ⟨w.heap.size, 1, none⟩) (by rw [ZX]; show w.heap.size < _; omega)).trans (cell_heap (hp_plus (hp_old (hp_old (hp_new rfl)))) 1 _ rfl)
      have b2 := (ST.out.1.cell (p := ⟨w.heap.size, 2, none⟩) (by rw [ZX]; show w.heap.size < _; omega)).trans (cell_heap (hp_plus (hp_old (hp_old (hp_new rfl)))) 2 _ rfl)
      have p0 := (ST.out.1.cell (p := ⟨w.heap.size + 1 + 1, 0, none⟩) (by rw [ZX]; show w.heap.size + 1 + 1 < _; omega)).trans (cell_heap (hp_plus (hp_new (by simp))) 0 _ rfl)
      have p1 := (ST.out.1.cell (p := ⟨w.heap.size + 1 + 1, 1, none⟩) (by rw [ZX]; show w.heap.size + 1 + 1 < _; omega)).trans (cell_heap (hp_plus (hp_new (by simp))) 1 _ rfl)
      have p2 := (ST.out.1.cell (p := ⟨w.heap.size + 1 + 1, 2, none⟩) (by rw [ZX]; show w.heap.size + 1 + 1 < _; omega)).trans (cell_heap (hp_plus (hp_new (by simp))) 2 _ rfl)
      have p3 := (ST.out.1.cell (p := ⟨w.heap.size + 1 + 1, 3, none⟩) (by rw [ZX]; show w.heap.size + 1 + 1 < _; omega)).trans (cell_heap (hp_plus (hp_new (by simp))) 3 _ rfl)
      have SK : Aside (clashB ⟨id, vers, at', data⟩ bl[idx]! = true → (bl.take (idx + 1)).filter (fun y => !clashB (⟨id, vers, at', data⟩ : Pc) y) = l) := fun h => by rw [takeF_no _ bl idx hix (by rw [h]; rfl), FE.out]
      have SP : Aside (clashB ⟨id, vers, at', data⟩ bl[idx]! = false → (bl.take (idx + 1)).filter (fun y => !clashB (⟨id, vers, at', data⟩ : Pc) y) = l ++ [bl[idx]!]) := fun h => by rw [takeF_yes _ bl idx hix (by rw [h]; rfl), FE.out]
      clear HC FE OKS
      generalize bl[idx]! = y at l0 l1 l2 l3 SK SP okz LY
      obtain ⟨y1, y2, y3, y4⟩ := y
      simp only [] at l0 l1 l2 l3
      have cc := fun U => rclash_calls y1 y2 y3 y4 id vers at' data U okz okp.out
      rw [clashB_comm] at cc
      by_cases hq : clashB ⟨id, vers, at', data⟩ ⟨y1, y2, y3, y4⟩ = true
      · rw [hq] at cc
        have G : Aside ((bl.take (idx + 1)).filter (fun y => !clashB (⟨id, vers, at', data⟩ : Pc) y) = l) := SK.out hq
        clear SK SP hq okz LY
        go_wp2
        refine wp_region_plus (by kernel_rfl) (by kernel_rfl) ?_
        repeat (go_big_quiet_step ((go_at_call 30; exact calls_plus (cc _))))
        refine wpQuiet_nil ?_
        rintro _ ⟨x1, rfl⟩
        have ST8 : Aside (Below (plus (((w.alloc (.cells #[.int .i64 cp, .slice (some ⟨b, off, none⟩) n c1, .slice ao2 n2 c2] 25)).alloc (.cells #[.int .i64 0, .slice none 0 0, .slice none 0 0] 25)).alloc (.cells #[.int .i64 id, .int .i64 vers, .int .i64 at', .string data] 47)) x).heap.size (plus (((w.alloc (.cells #[.int .i64 cp, .slice (some ⟨b, off, none⟩) n c1, .slice ao2 n2 c2] 25)).alloc (.cells #[.int .i64 0, .slice none 0 0, .slice none 0 0] 25)).alloc (.cells #[.int .i64 id, .int .i64 vers, .int .i64 at', .string data] 47)) x) (plus wr x1) ∧ (plus wr x1).ownsRow (w.heap.size + 1 + 1 + 1 + x.heap.size) 47 4 (.slice ao' l.length cap') l.length (flatE Pc.enc l)) := ⟨ST.out.1.trans ((below_plus wr x1).mono ST.out.1.size), own_plus ST.out.2⟩
        go_wp2
        go_roundg (n - (idx + 1))
        case measure => omega
        case rel => exact ⟨idx + 1, ao', cap', l, by simp, rfl, by omega, by omega, G, ST8⟩
      · have hq1 : clashB ⟨id, vers, at', data⟩ ⟨y1, y2, y3, y4⟩ = false := by simpa using hq
        rw [hq1] at cc
        have G : Aside ((bl.take (idx + 1)).filter (fun y => !clashB (⟨id, vers, at', data⟩ : Pc) y) = l ++ [⟨y1, y2, y3, y4⟩]) := SP.out hq1
        clear SK SP hq hq1 okz
        go_wp2
        refine wp_region_plus (by kernel_rfl) (by kernel_rfl) ?_
        repeat (go_big_quiet_step ((go_at_call 30; exact calls_plus (cc _))))
        refine wpQuiet_nil ?_
        rintro _ ⟨x1, rfl⟩
        have ST8 : Aside (Below (plus (((w.alloc (.cells #[.int .i64 cp, .slice (some ⟨b, off, none⟩) n c1, .slice ao2 n2 c2] 25)).alloc (.cells #[.int .i64 0, .slice none 0 0, .slice none 0 0] 25)).alloc (.cells #[.int .i64 id, .int .i64 vers, .int .i64 at', .string data] 47)) x).heap.size (plus (((w.alloc (.cells #[.int .i64 cp, .slice (some ⟨b, off, none⟩) n c1, .slice ao2 n2 c2] 25)).alloc (.cells #[.int .i64 0, .slice none 0 0, .slice none 0 0] 25)).alloc (.cells #[.int .i64 id, .int .i64 vers, .int .i64 at', .string data] 47)) x) (plus wr x1) ∧ (plus wr x1).ownsRow (w.heap.size + 1 + 1 + 1 + x.heap.size) 47 4 (.slice ao' l.length cap') l.length (flatE Pc.enc l)) := ⟨ST.out.1.trans ((below_plus wr x1).mono ST.out.1.size), own_plus ST.out.2⟩
        clear ST cc hBr hsw hbr l0 l1 l2 l3 b0 b1 b2 p0 p1 p2 p3
        generalize plus wr x1 = w8 at ST8 ⊢
        have hBr : Below w.heap.size w w8 := HB1.trans (ST8.out.1.mono HB1.size)
        have hsw : (w.heap.size + 1 + 1 + 1 + x.heap.size) ≤ w8.heap.size := by have := ST8.out.1.size; rw [ZX] at this; exact this
        have hbr : b < w8.heap.size := Nat.lt_of_lt_of_le hbw hBr.size
        have l0 : w8.cell? ⟨b, off + idx * 4, none⟩ = some (.int .i64 y1) := (hBr.cell (p := ⟨b, off + idx * 4, none⟩) hbw).trans (LY.out 0 (by omega))
        have l1 : w8.cell? ⟨b, off + idx * 4 + 1, none⟩ = some (.int .i64 y2) := (hBr.cell (p := ⟨b, off + idx * 4 + 1, none⟩) hbw).trans (LY.out 1 (by omega))
        have l2 : w8.cell? ⟨b, off + idx * 4 + 2, none⟩ = some (.int .i64 y3) := (hBr.cell (p := ⟨b, off + idx * 4 + 2, none⟩) hbw).trans (LY.out 2 (by omega))
        have l3 : w8.cell? ⟨b, off + idx * 4 + 3, none⟩ = some (.string y4) := (hBr.cell (p := ⟨b, off + idx * 4 + 3, none⟩) hbw).trans (LY.out 3 (by omega))
        have b0 := (ST8.out.1.cell (p := ⟨w.heap.size, 0, none⟩) (by rw [ZX]; show w.heap.size < _; omega)).trans (cell_heap (hp_plus (hp_old (hp_old (hp_new rfl)))) 0 _ rfl)
        have b1 := (ST8.out.1.cell (p := ⟨w.heap.size, 1, none⟩) (by rw [ZX]; show w.heap.size < _; omega)).trans (cell_heap (hp_plus (hp_old (hp_old (hp_new rfl)))) 1 _ rfl)
        have b2 := (ST8.out.1.cell (p := ⟨w.heap.size, 2, none⟩) (by rw [ZX]; show w.heap.size < _; omega)).trans (cell_heap (hp_plus (hp_old (hp_old (hp_new rfl)))) 2 _ rfl)
        clear LY
        have hown := ST8.out.2
        go_wp2_with (at_builtin; refine wpList_append_own _ rfl _ _ 22 rfl (w.heap.size + 1 + 1 + 1 + x.heap.size) 47 i0 _ 4 40 Try.underlying22 hi0 hz0 hs0 hb0 rfl (by omega) _ _ _ rfl (hown.alloc _) ⟨w8.heap.size, 0, none⟩ 1 1 [.int .i64 y1, .int .i64 y2, .int .i64 y3, .string y4] rfl rfl (cells_new _ _ _ _ rfl) (pc_one ⟨y1, y2, y3, y4⟩) (by unfold maxLen; omega) (by omega) (by first | (simp; omega) | (simp [size_plus]; omega)) ?_)
        intro v' w6 hown' hgrow _
        obtain ⟨ao6, cap6, rfl, hb6, ho6⟩ := app_stateB (U1 := (plus (((w.alloc (.cells #[.int .i64 cp, .slice (some ⟨b, off, none⟩) n c1, .slice ao2 n2 c2] 25)).alloc (.cells #[.int .i64 0, .slice none 0 0, .slice none 0 0] 25)).alloc (.cells #[.int .i64 id, .int .i64 vers, .int .i64 at', .string data] 47)) x)) (by simp [size_plus]) pc_len (by omega) (y := ⟨y1, y2, y3, y4⟩) (ST8.out.1.alloc ST8.out.1.size _) (hown.alloc _) hown' hgrow
        have ST6 : Aside (Below (plus (((w.alloc (.cells #[.int .i64 cp, .slice (some ⟨b, off, none⟩) n c1, .slice ao2 n2 c2] 25)).alloc (.cells #[.int .i64 0, .slice none 0 0, .slice none 0 0] 25)).alloc (.cells #[.int .i64 id, .int .i64 vers, .int .i64 at', .string data] 47)) x).heap.size (plus (((w.alloc (.cells #[.int .i64 cp, .slice (some ⟨b, off, none⟩) n c1, .slice ao2 n2 c2] 25)).alloc (.cells #[.int .i64 0, .slice none 0 0, .slice none 0 0] 25)).alloc (.cells #[.int .i64 id, .int .i64 vers, .int .i64 at', .string data] 47)) x) w6 ∧ w6.ownsRow (w.heap.size + 1 + 1 + 1 + x.heap.size) 47 4 (.slice ao6 (l.length + 1) cap6) (l.length + 1) (flatE Pc.enc (l ++ [(⟨y1, y2, y3, y4⟩ : Pc)]))) := ⟨hb6, ho6⟩
        clear hown' hgrow hb6 ho6 hown
        clear hBr hsw hbr l0 l1 l2 l3 b0 b1 b2
        go_wp2
        go_roundg (n - (idx + 1))
        case measure => omega
        case rel => exact ⟨idx + 1, ao6, cap6, l ++ [(⟨y1, y2, y3, y4⟩ : Pc)], by simp, by simp, by omega, by simp; omega, G, by first | exact ST6 | simpa using ST6⟩
    · have hiz : ¬ (idx : Int) < (n : Int) := by omega
      have ei : (bl.take idx) = bl := List.take_of_length_le (by have := HL.out; omega)
      have e1 : l = fl := by
        rw [← HF.out, ← FE.out, ei]
      subst e1
      clear ei FE HC HF OKS okp
      have hsw : (w.heap.size + 1 + 1 + 1 + x.heap.size) ≤ wr.heap.size := by have := ST.out.1.size; rw [ZX] at this; exact this
      have b0 := (ST.out.1.cell (p := ⟨w.heap.size, 0, none⟩) (by rw [ZX]; show w.heap.size < _; omega)).trans (cell_heap (hp_plus (hp_old (hp_old (hp_new rfl)))) 0 _ rfl)
      have b1 := (ST.out.1.cell (p := ⟨w.heap.size, 1, none⟩) (by rw [ZX]; show w.heap.size < _; omega)).trans (cell_heap (hp_plus (hp_old (hp_old (hp_new rfl)))) 1 _ rfl)
      have b2 := (ST.out.1.cell (p := ⟨w.heap.size, 2, none⟩) (by rw [ZX]; show w.heap.size < _; omega)).trans (cell_heap (hp_plus (hp_old (hp_old (hp_new rfl)))) 2 _ rfl)
      have p0 := (ST.out.1.cell (p := ⟨w.heap.size + 1 + 1, 0, none⟩) (by rw [ZX]; show w.heap.size + 1 + 1 < _; omega)).trans (cell_heap (hp_plus (hp_new (by simp))) 0 _ rfl)
      have p1 := (ST.out.1.cell (p := ⟨w.heap.size + 1 + 1, 1, none⟩) (by rw [ZX]; show w.heap.size + 1 + 1 < _; omega)).trans (cell_heap (hp_plus (hp_new (by simp))) 1 _ rfl)
      have p2 := (ST.out.1.cell (p := ⟨w.heap.size + 1 + 1, 2, none⟩) (by rw [ZX]; show w.heap.size + 1 + 1 < _; omega)).trans (cell_heap (hp_plus (hp_new (by simp))) 2 _ rfl)
      have p3 := (ST.out.1.cell (p := ⟨w.heap.size + 1 + 1, 3, none⟩) (by rw [ZX]; show w.heap.size + 1 + 1 < _; omega)).trans (cell_heap (hp_plus (hp_new (by simp))) 3 _ rfl)
      have hown := ST.out.2
      go_wp2_with (at_builtin; refine wpList_append_own _ rfl _ _ 22 rfl (w.heap.size + 1 + 1 + 1 + x.heap.size) 47 i0 _ 4 40 Try.underlying22 hi0 hz0 hs0 hb0 rfl (by omega) _ _ _ rfl (hown.alloc _) ⟨wr.heap.size, 0, none⟩ 1 1 [.int .i64 id, .int .i64 vers, .int .i64 at', .string data] rfl rfl (cells_new _ _ _ _ rfl) (pc_one ⟨id, vers, at', data⟩) (by unfold maxLen; omega) (by omega) (by first | (simp; omega) | (simp [size_plus]; omega)) ?_)
      intro v' w6 hown' hgrow _
      obtain ⟨ao6, cap6, rfl, hb6, ho6⟩ := app_stateB (U1 := (plus (((w.alloc (.cells #[.int .i64 cp, .slice ao n c1, .slice ao2 n2 c2] 25)).alloc (.cells #[.int .i64 0, .slice none 0 0, .slice none 0 0] 25)).alloc (.cells #[.int .i64 id, .int .i64 vers, .int .i64 at', .string data] 47)) x)) (by simp [size_plus]) pc_len (by omega) (y := ⟨id, vers, at', data⟩) (ST.out.1.alloc ST.out.1.size _) (hown.alloc _) hown' hgrow
      have ST6 : Aside (Below (plus (((w.alloc (.cells #[.int .i64 cp, .slice ao n c1, .slice ao2 n2 c2] 25)).alloc (.cells #[.int .i64 0, .slice none 0 0, .slice none 0 0] 25)).alloc (.cells #[.int .i64 id, .int .i64 vers, .int .i64 at', .string data] 47)) x).heap.size (plus (((w.alloc (.cells #[.int .i64 cp, .slice ao n c1, .slice ao2 n2 c2] 25)).alloc (.cells #[.int .i64 0, .slice none 0 0, .slice none 0 0] 25)).alloc (.cells #[.int .i64 id, .int .i64 vers, .int .i64 at', .string data] 47)) x) w6 ∧ w6.ownsRow (w.heap.size + 1 + 1 + 1 + x.heap.size) 47 4 (.slice ao6 (l.length + 1) cap6) (l.length + 1) (flatE Pc.enc (l ++ [(⟨id, vers, at', data⟩ : Pc)]))) := ⟨hb6, ho6⟩
      clear hown' hgrow hb6 ho6 hown hsw b0 b1 b2 p0 p1 p2 p3 ST
      have O1 : Aside (w6.ownsRow (w.heap.size + 1 + 1 + 1) 47 4 (.slice ao6 (l.length + 1) cap6) (l.length + 1) (flatE Pc.enc (l ++ [(⟨id, vers, at', data⟩ : Pc)]))) := own_lower ST6.out.2 (by omega)
      have SL1 : Aside (Sl w6 4 ao6 (l.length + 1) cap6 ((l ++ [(⟨id, vers, at', data⟩ : Pc)]).map Pc.enc)) := own_Sl pc_len (by omega) ST6.out.2
      have hB3 : Below (((w.alloc (.cells #[.int .i64 cp, .slice ao n c1, .slice ao2 n2 c2] 25)).alloc (.cells #[.int .i64 0, .slice none 0 0, .slice none 0 0] 25)).alloc (.cells #[.int .i64 id, .int .i64 vers, .int .i64 at', .string data] 47)).heap.size (((w.alloc (.cells #[.int .i64 cp, .slice ao n c1, .slice ao2 n2 c2] 25)).alloc (.cells #[.int .i64 0, .slice none 0 0, .slice none 0 0] 25)).alloc (.cells #[.int .i64 id, .int .i64 vers, .int .i64 at', .string data] 47)) w6 := (below_plus _ _).trans (ST6.out.1.mono (below_plus _ _).size)
      obtain ⟨x3, hx⟩ := plus_of_below hB3
      subst hx
      have hcl := SL1.out.hcap
      have hcm := SL1.out.hmax
      obtain ⟨b9, off9, e9, -⟩ := SL1.out.here (by omega)
      subst e9
      clear ST6 HB1 ZX hB3 SL1
      by_cases hq : cp < (l.length : Int) + 1
      · have E := PM.out hq
        have LP : Aside (pl.length = l.length) := by show _ = _; rw [E]; simp
        by_cases hc6 : cap6 = 1
        · have E2 : Aside (pl = []) := by
            show _ = _
            rw [E]
            have : l = [] := List.eq_nil_of_length_eq_zero (by omega)
            rw [this]; rfl
          have l0 : l.length = 0 := by omega
          clear PM PF O1 E
          go_wp2
          refine bodyPost_ret (v := .agg #[.int .i64 cp, .slice (some ⟨b9, off9, none⟩) l.length 0, .slice ao2 n2 c2]) (by simp [results, Try.results43, go_sem, ↓IntWalk.iteOmega, *]) rfl ⟨some ⟨b9, off9, none⟩, 0, ao2, c2, by rw [LP.out, hl2], ?_, ?_, ?_⟩
          · rw [E2.out]
            exact ⟨rfl, Nat.le_refl _, by omega, by simp, fun h => absurd h (Nat.lt_irrefl _), fun _ => rfl⟩
          · rw [hl2]
            refine H2.out.stays ?_
            repeat (first | (with_reducible exact Below.refl _ _) | (with_reducible assumption) | (with_reducible refine below_to_plus ?_ ?_ _) | (with_reducible refine below_holds ?_ ?_ _ _) | (with_reducible refine Below.alloc ?_ ?_ _) | (with_reducible refine Below.drew ?_) | (with_reducible refine below_drewN ?_ _) | (with_reducible refine Below.setCell ?_ ?_ _))
            all_goals first | omega | (simp; done) | (simp [go_sem]; done) | (simp [go_sem]; omega)
          · repeat (first | (with_reducible exact Below.refl _ _) | (with_reducible assumption) | (with_reducible refine below_to_plus ?_ ?_ _) | (with_reducible refine below_holds ?_ ?_ _ _) | (with_reducible refine Below.alloc ?_ ?_ _) | (with_reducible refine Below.drew ?_) | (with_reducible refine below_drewN ?_ _) | (with_reducible refine Below.setCell ?_ ?_ _))
            all_goals first | omega | (simp; done) | (simp [go_sem]; done) | (simp [go_sem]; omega)
        · have T1 : Aside (∀ W' : World, W'.ownsRow (w.heap.size + 1 + 1 + 1) 47 4 (.slice (some ⟨b9, off9, none⟩) (l.length + 1) cap6) (l.length + 1) (flatE Pc.enc (l ++ [(⟨id, vers, at', data⟩ : Pc)])) → Sl W' 4 (some ⟨b9, off9 + 4, none⟩) l.length (cap6 - 1) (pl.map Pc.enc)) := fun W' h => by
            rw [E]
            exact sl_tail (own_Sl pc_len (by omega) h) (by omega)
          clear PM PF E
          go_wp2
          refine bodyPost_ret (v := .agg #[.int .i64 cp, .slice (some ⟨b9, off9 + 4, none⟩) l.length (cap6 - 1), .slice ao2 n2 c2]) (by simp [results, Try.results43, go_sem, ↓IntWalk.iteOmega, *]) rfl ⟨some ⟨b9, off9 + 4, none⟩, cap6 - 1, ao2, c2, by rw [LP.out, hl2], ?_, ?_, ?_⟩
          · rw [LP.out]
            exact T1.out _ (own_past O1.out (by simp) (by simp))
          · rw [hl2]
            refine H2.out.stays ?_
            repeat (first | (with_reducible exact Below.refl _ _) | (with_reducible assumption) | (with_reducible refine below_to_plus ?_ ?_ _) | (with_reducible refine below_holds ?_ ?_ _ _) | (with_reducible refine Below.alloc ?_ ?_ _) | (with_reducible refine Below.drew ?_) | (with_reducible refine below_drewN ?_ _) | (with_reducible refine Below.setCell ?_ ?_ _))
            all_goals first | omega | (simp; done) | (simp [go_sem]; done) | (simp [go_sem]; omega)
          · repeat (first | (with_reducible exact Below.refl _ _) | (with_reducible assumption) | (with_reducible refine below_to_plus ?_ ?_ _) | (with_reducible refine below_holds ?_ ?_ _ _) | (with_reducible refine Below.alloc ?_ ?_ _) | (with_reducible refine Below.drew ?_) | (with_reducible refine below_drewN ?_ _) | (with_reducible refine Below.setCell ?_ ?_ _))
            all_goals first | omega | (simp; done) | (simp [go_sem]; done) | (simp [go_sem]; omega)
      · have E := PF.out (by omega)
        have LP : Aside (pl.length = l.length + 1) := by show _ = _; rw [E]; simp
        rw [← E] at O1
        clear PM PF E
        go_wp2
        refine bodyPost_ret (v := .agg #[.int .i64 cp, .slice (some ⟨b9, off9, none⟩) (l.length + 1) cap6, .slice ao2 n2 c2]) (by simp [results, Try.results43, go_sem, ↓IntWalk.iteOmega, *]) rfl ⟨some ⟨b9, off9, none⟩, cap6, ao2, c2, by rw [LP.out, hl2], ?_, ?_, ?_⟩
        · rw [LP.out]
          exact own_Sl pc_len (by omega) (own_past O1.out (by simp) (by simp))
        · rw [hl2]
          refine H2.out.stays ?_
          repeat (first | (with_reducible exact Below.refl _ _) | (with_reducible assumption) | (with_reducible refine below_to_plus ?_ ?_ _) | (with_reducible refine below_holds ?_ ?_ _ _) | (with_reducible refine Below.alloc ?_ ?_ _) | (with_reducible refine Below.drew ?_) | (with_reducible refine below_drewN ?_ _) | (with_reducible refine Below.setCell ?_ ?_ _))
          all_goals first | omega | (simp; done) | (simp [go_sem]; done) | (simp [go_sem]; omega)
        · repeat (first | (with_reducible exact Below.refl _ _) | (with_reducible assumption) | (with_reducible refine below_to_plus ?_ ?_ _) | (with_reducible refine below_holds ?_ ?_ _ _) | (with_reducible refine Below.alloc ?_ ?_ _) | (with_reducible refine Below.drew ?_) | (with_reducible refine below_drewN ?_ _) | (with_reducible refine Below.setCell ?_ ?_ _))
          all_goals first | omega | (simp; done) | (simp [go_sem]; done) | (simp [go_sem]; omega)

end Go.Proofs.Ytcgajlobbjoefaa
