/- This text proves the walk of Hold of the reference of package cache. Conditions: those that each theorem names. -/
import Derived.Test.YtcgajlobbjoefaaCacheW
namespace Go.Proofs.Ytcgajlobbjoefaa
open Go.ChangeShapes Go.WideShapes Go.ChangeAt Go.RowKit
set_option linter.unusedVariables false
set_option linter.unusedSimpArgs false

/-- One round of the reference's loop: the hold goes in front of the first one that is not below it; one of the same file falls away. -/
def stepP (h : Hd) (s : List Hd × Bool) (y : Hd) : List Hd × Bool :=
  ((if !s.2 && decide (h.hid ≤ y.hid) then s.1 ++ [h] else s.1) ++ (if y.hid = h.hid then [] else [y]), s.2 || decide (h.hid ≤ y.hid))
def endPut (h : Hd) (s : List Hd × Bool) : List Hd := if s.2 then s.1 else s.1 ++ [h]
/-- The holds behind the reference's Hold. -/
def putH (h : Hd) (hs : List Hd) : List Hd := endPut h (hs.foldl (stepP h) ([], false))
theorem fold_take {α β : Type} [Inhabited α] (f : β → α → β) (b : β) (xs : List α) (k : Nat) (hk : k < xs.length) : (xs.take (k + 1)).foldl f b = f ((xs.take k).foldl f b) xs[k]! := by
  rw [List.take_add_one, List.getElem?_eq_getElem hk, List.foldl_append, getElem!_pos xs k hk]
  rfl

set_option maxHeartbeats 8000000 in
theorem rhold_no (cp : Int) (ao : Option Addr) (n c1 : Nat) (ao2 : Option Addr) (n2 c2 : Nat) (bl : List Pc) (hs : List Hd) (f1 f2 f3 : Int) (w : World) (h1 : Sl w 4 ao n c1 (bl.map Pc.enc)) (h2 : Sl w 3 ao2 n2 c2 (hs.map Hd.enc)) (hd : rangedB (⟨f1, f2, f3⟩ : Hd) = false ∨ (holdI f1 hs = -1 ∧ 64 ≤ n2)) :
    Calls Try.prog 41 #[.agg #[.int .i64 cp, .slice ao n c1, .slice ao2 n2 c2], .int .i64 f1, .int .i64 f2, .int .i64 f3] w fun e w' => RPost w cp bl hs e w' := by
  have HR : Aside (∀ w', Below w.heap.size w w' → RPost w cp bl hs (.returned (.agg #[.int .i64 cp, .slice ao n c1, .slice ao2 n2 c2])) w') := fun w' hb => ⟨ao, c1, ao2, c2, by rw [Sl.lenE h1, Sl.lenE h2], by rw [Sl.lenE h1]; exact h1.stays hb, by rw [Sl.lenE h2]; exact h2.stays hb, hb⟩
  generalize RPost w cp bl hs = RP at HR ⊢
  have cr := fun U => ranged_calls f1 f2 f3 U
  have H2 : Aside (Sl w 3 ao2 n2 c2 (hs.map Hd.enc)) := h2
  have ch := fun U (h : Below w.heap.size w U) => rhold_calls cp ao n c1 ao2 n2 c2 hs f1 U (H2.out.stays h)
  clear h1 h2 H2
  cases q : rangedB (⟨f1, f2, f3⟩ : Hd) with
  | false =>
    rw [q] at cr
    clear hd q ch
    go_enter Try.func41, Try.ntmps41
    go_wp2_with fail
    refine (cr _).mono ?_
    rintro e w1 ⟨rfl, hb⟩
    obtain ⟨x, hx⟩ := plus_of_below hb
    subst hx
    clear cr hb
    go_wp2
    refine bodyPost_ret (v := .agg #[.int .i64 cp, .slice ao n c1, .slice ao2 n2 c2]) (by simp [results, Try.results41, go_sem, ↓IntWalk.iteOmega, *]) rfl (HR.out _ ?_)
    repeat (first | (with_reducible exact Below.refl _ _) | (with_reducible assumption) | (with_reducible refine below_to_plus ?_ ?_ _) | (with_reducible refine below_holds ?_ ?_ _ _) | (with_reducible refine Below.alloc ?_ ?_ _) | (with_reducible refine Below.drew ?_) | (with_reducible refine below_drewN ?_ _) | (with_reducible refine Below.setCell ?_ ?_ _))
    all_goals first | omega | (simp; done) | (simp [go_sem]; done) | (simp [go_sem]; omega)
  | true =>
    rw [q] at cr
    obtain ⟨e1, hf⟩ : holdI f1 hs = -1 ∧ 64 ≤ n2 := by
      rcases hd with h | h
      · rw [h] at q; cases q
      · exact h
    have hfz : (64 : Int) ≤ (n2 : Int) := by omega
    have dfz : decide ((64 : Int) ≤ (n2 : Int)) = true := decide_eq_true hfz
    rw [e1] at ch
    clear hd q e1
    go_enter Try.func41, Try.ntmps41
    go_wp2_with fail
    refine (cr _).mono ?_
    rintro e w1 ⟨rfl, hb⟩
    obtain ⟨x, hx⟩ := plus_of_below hb
    subst hx
    clear cr hb
    have hB1 : Below w.heap.size w (plus (((w.alloc (.cells #[.int .i64 cp, .slice ao n c1, .slice ao2 n2 c2] 25)).alloc (.cells #[.int .i64 0, .slice none 0 0, .slice none 0 0] 25)).alloc (.cells #[.int .i64 f1, .int .i64 f2, .int .i64 f3] 36)) x) := by
      repeat (first | (with_reducible exact Below.refl _ _) | (with_reducible assumption) | (with_reducible refine below_to_plus ?_ ?_ _) | (with_reducible refine below_holds ?_ ?_ _ _) | (with_reducible refine Below.alloc ?_ ?_ _) | (with_reducible refine Below.drew ?_) | (with_reducible refine below_drewN ?_ _) | (with_reducible refine Below.setCell ?_ ?_ _))
      all_goals first | omega | (simp; done) | (simp [go_sem]; done) | (simp [go_sem]; omega)
    have ck := ch _ hB1
    clear ch
    go_wp2_with fail
    refine ck.mono ?_
    rintro e w2 ⟨rfl, hb⟩
    have hB2 : Below (((w.alloc (.cells #[.int .i64 cp, .slice ao n c1, .slice ao2 n2 c2] 25)).alloc (.cells #[.int .i64 0, .slice none 0 0, .slice none 0 0] 25)).alloc (.cells #[.int .i64 f1, .int .i64 f2, .int .i64 f3] 36)).heap.size (((w.alloc (.cells #[.int .i64 cp, .slice ao n c1, .slice ao2 n2 c2] 25)).alloc (.cells #[.int .i64 0, .slice none 0 0, .slice none 0 0] 25)).alloc (.cells #[.int .i64 f1, .int .i64 f2, .int .i64 f3] 36)) w2 := (below_plus _ _).trans (hb.mono (below_plus _ _).size)
    obtain ⟨x2, hx⟩ := plus_of_below hB2
    subst hx
    clear ck hb hB1 hB2
    go_wp2
    refine bodyPost_ret (v := .agg #[.int .i64 cp, .slice ao n c1, .slice ao2 n2 c2]) (by simp [results, Try.results41, go_sem, ↓IntWalk.iteOmega, *]) rfl (HR.out _ ?_)
    repeat (first | (with_reducible exact Below.refl _ _) | (with_reducible assumption) | (with_reducible refine below_to_plus ?_ ?_ _) | (with_reducible refine below_holds ?_ ?_ _ _) | (with_reducible refine Below.alloc ?_ ?_ _) | (with_reducible refine Below.drew ?_) | (with_reducible refine below_drewN ?_ _) | (with_reducible refine Below.setCell ?_ ?_ _))
    all_goals first | omega | (simp; done) | (simp [go_sem]; done) | (simp [go_sem]; omega)

set_option maxRecDepth 20000 in
set_option maxHeartbeats 8000000 in
theorem rhold_new (cp : Int) (ao : Option Addr) (n c1 : Nat) (ao2 : Option Addr) (n2 c2 : Nat) (bl : List Pc) (hs : List Hd) (f1 f2 f3 : Int) (w : World) (h1 : Sl w 4 ao n c1 (bl.map Pc.enc)) (h2 : Sl w 3 ao2 n2 c2 (hs.map Hd.enc)) (hr : rangedB (⟨f1, f2, f3⟩ : Hd) = true) (hn2 : n2 ≤ 100000) (he : holdI f1 hs = -1) (hf : n2 < 64) :
    Calls Try.prog 41 #[.agg #[.int .i64 cp, .slice ao n c1, .slice ao2 n2 c2], .int .i64 f1, .int .i64 f2, .int .i64 f3] w fun e w' => RPost w cp bl (putH ⟨f1, f2, f3⟩ hs) e w' := by
  obtain ⟨i0, hi0, hz0, hs0, hb0⟩ := hdInfo
  have hbig : n2 ≤ 9223372036854775807 := by omega
  have cr := fun U => ranged_calls f1 f2 f3 U
  rw [hr] at cr
  have H2 : Aside (Sl w 3 ao2 n2 c2 (hs.map Hd.enc)) := h2
  have ch := fun U (h : Below w.heap.size w U) => rhold_calls cp ao n c1 ao2 n2 c2 hs f1 U (H2.out.stays h)
  have HL2 : Aside (hs.length = n2) := Sl.lenE h2
  have HC : Aside (CellsHd w ao2 hs) := cellsHd h2
  have EH : Aside (putH ⟨f1, f2, f3⟩ hs = endPut ⟨f1, f2, f3⟩ (hs.foldl (stepP ⟨f1, f2, f3⟩) ([], false))) := rfl
  have HS1 : Aside (∀ w', Below w.heap.size w w' → Sl w' 4 ao bl.length c1 (bl.map Pc.enc)) := fun w' hb => by rw [Sl.lenE h1]; exact h1.stays hb
  obtain rfl : bl.length = n := Sl.lenE h1
  clear h1 h2 H2 hr
  rw [he] at ch
  clear he
  have hfz : ¬ (64 : Int) ≤ (n2 : Int) := by omega
  have dfz : decide ((64 : Int) ≤ (n2 : Int)) = false := decide_eq_false hfz
  generalize putH ⟨f1, f2, f3⟩ hs = pl at EH ⊢
  go_enter Try.func41, Try.ntmps41
  go_wp2_with fail
  refine (cr _).mono ?_
  rintro e w1 ⟨rfl, hb⟩
  obtain ⟨x1, hx⟩ := plus_of_below hb
  subst hx
  clear cr hb
  have hB1 : Below w.heap.size w (plus (((w.alloc (.cells #[.int .i64 cp, .slice ao bl.length c1, .slice ao2 n2 c2] 25)).alloc (.cells #[.int .i64 0, .slice none 0 0, .slice none 0 0] 25)).alloc (.cells #[.int .i64 f1, .int .i64 f2, .int .i64 f3] 36)) x1) := by
    repeat (first | (with_reducible exact Below.refl _ _) | (with_reducible assumption) | (with_reducible refine below_to_plus ?_ ?_ _) | (with_reducible refine below_holds ?_ ?_ _ _) | (with_reducible refine Below.alloc ?_ ?_ _) | (with_reducible refine Below.drew ?_) | (with_reducible refine below_drewN ?_ _) | (with_reducible refine Below.setCell ?_ ?_ _))
    all_goals first | omega | (simp; done) | (simp [go_sem]; done) | (simp [go_sem]; omega)
  have ck := ch _ hB1
  clear ch
  go_wp2_with fail
  refine ck.mono ?_
  rintro e w2 ⟨rfl, hb⟩
  have hB2 : Below (((w.alloc (.cells #[.int .i64 cp, .slice ao bl.length c1, .slice ao2 n2 c2] 25)).alloc (.cells #[.int .i64 0, .slice none 0 0, .slice none 0 0] 25)).alloc (.cells #[.int .i64 f1, .int .i64 f2, .int .i64 f3] 36)).heap.size (((w.alloc (.cells #[.int .i64 cp, .slice ao bl.length c1, .slice ao2 n2 c2] 25)).alloc (.cells #[.int .i64 0, .slice none 0 0, .slice none 0 0] 25)).alloc (.cells #[.int .i64 f1, .int .i64 f2, .int .i64 f3] 36)) w2 := (below_plus _ _).trans (hb.mono (below_plus _ _).size)
  obtain ⟨x, hx⟩ := plus_of_below hB2
  subst hx
  clear ck hb hB1 hB2
  go_wp2
  have HB1 : Below w.heap.size w (plus (((w.alloc (.cells #[.int .i64 cp, .slice ao bl.length c1, .slice ao2 n2 c2] 25)).alloc (.cells #[.int .i64 0, .slice none 0 0, .slice none 0 0] 25)).alloc (.cells #[.int .i64 f1, .int .i64 f2, .int .i64 f3] 36)) x) := by
    repeat (first | (with_reducible exact Below.refl _ _) | (with_reducible assumption) | (with_reducible refine below_to_plus ?_ ?_ _) | (with_reducible refine below_holds ?_ ?_ _ _) | (with_reducible refine Below.alloc ?_ ?_ _) | (with_reducible refine Below.drew ?_) | (with_reducible refine below_drewN ?_ _) | (with_reducible refine Below.setCell ?_ ?_ _))
    all_goals first | omega | (simp; done) | (simp [go_sem]; done) | (simp [go_sem]; omega)
  have ZX : (plus (((w.alloc (.cells #[.int .i64 cp, .slice ao bl.length c1, .slice ao2 n2 c2] 25)).alloc (.cells #[.int .i64 0, .slice none 0 0, .slice none 0 0] 25)).alloc (.cells #[.int .i64 f1, .int .i64 f2, .int .i64 f3] 36)) x).heap.size = (w.heap.size + 1 + 1 + 1 + x.heap.size) := by simp [size_plus]
  go_loopg [11, 12, 52] n2 (fun k s11 s12 s52 wr => ∃ (idx : Nat) (ao' : Option Addr) (cap' : Nat) (l : List Hd) (dn : Bool), s52 = .int .i64 (idx : Int) ∧ s11 = .slice ao' l.length cap' ∧ s12 = .bool dn ∧ k + idx = n2 ∧ l.length ≤ 2 * idx ∧ Aside ((hs.take idx).foldl (stepP ⟨f1, f2, f3⟩) ([], false) = (l, dn)) ∧ Aside (Below (plus (((w.alloc (.cells #[.int .i64 cp, .slice ao bl.length c1, .slice ao2 n2 c2] 25)).alloc (.cells #[.int .i64 0, .slice none 0 0, .slice none 0 0] 25)).alloc (.cells #[.int .i64 f1, .int .i64 f2, .int .i64 f3] 36)) x).heap.size (plus (((w.alloc (.cells #[.int .i64 cp, .slice ao bl.length c1, .slice ao2 n2 c2] 25)).alloc (.cells #[.int .i64 0, .slice none 0 0, .slice none 0 0] 25)).alloc (.cells #[.int .i64 f1, .int .i64 f2, .int .i64 f3] 36)) x) wr ∧ wr.ownsRow (w.heap.size + 1 + 1 + 1 + x.heap.size) 36 3 (.slice ao' l.length cap') l.length (flatE Hd.enc l)))
  case atStart => exact ⟨0, none, 0, [], false, rfl, rfl, rfl, by omega, by simp, rfl, Below.refl _ _, World.ownsRow_nil _ _ _ _⟩
  case round =>
    obtain ⟨idx, ao', cap', l, dn, rfl, rfl, rfl, hk, hm, FE, ST⟩ := hrel
    by_cases hi : idx < n2
    · have hiz : (idx : Int) < (n2 : Int) := by omega
      have hix : idx < hs.length := by have := HL2.out; omega
      obtain ⟨b, off, rfl, hbw, q0, q1, q2⟩ := HC.out idx hix
      have LY : Aside (∀ i, i < 3 → w.cell? ⟨b, off + idx * 3 + i, none⟩ = hs[idx]!.enc[i]?) := fun i hi => by
        match i, hi with
        | 0, _ => exact q0
        | 1, _ => exact q1
        | 2, _ => exact q2
      clear q0 q1 q2
      have hsw : (w.heap.size + 1 + 1 + 1 + x.heap.size) ≤ wr.heap.size := by have := ST.out.1.size; rw [ZX] at this; exact this
      have hBr : Below w.heap.size w wr := HB1.trans (ST.out.1.mono HB1.size)
      have hbr : b < wr.heap.size := Nat.lt_of_lt_of_le hbw hBr.size
      have l0 : wr.cell? ⟨b, off + idx * 3, none⟩ = some (.int .i64 hs[idx]!.hid) := (hBr.cell (p := ⟨b, off + idx * 3, none⟩) hbw).trans (LY.out 0 (by omega))
      have l1 : wr.cell? ⟨b, off + idx * 3 + 1, none⟩ = some (.int .i64 hs[idx]!.vers) := (hBr.cell (p := ⟨b, off + idx * 3 + 1, none⟩) hbw).trans (LY.out 1 (by omega))
      have l2 : wr.cell? ⟨b, off + idx * 3 + 2, none⟩ = some (.int .i64 hs[idx]!.til) := (hBr.cell (p := ⟨b, off + idx * 3 + 2, none⟩) hbw).trans (LY.out 2 (by omega))
      have b0 := (ST.out.1.cell (p := ⟨w.heap.size, 0, none⟩) (by rw [ZX]; show w.heap.size < _; omega)).trans (cell_heap (hp_plus (hp_old (hp_old (hp_new rfl)))) 0 _ rfl)
      have b1 := (ST.out.1.cell (p := ⟨w.heap.size, 1, none⟩) (by rw [ZX]; show w.heap.size < _; omega)).trans (cell_heap (hp_plus (hp_old (hp_old (hp_new rfl)))) 1 _ rfl)
      have b2 := (ST.out.1.cell (p := ⟨w.heap.size, 2, none⟩) (by rw [ZX]; show w.heap.size < _; omega)).trans (cell_heap (hp_plus (hp_old (hp_old (hp_new rfl)))) 2 _ rfl)
      have h0 := (ST.out.1.cell (p := ⟨w.heap.size + 1 + 1, 0, none⟩) (by rw [ZX]; show w.heap.size + 1 + 1 < _; omega)).trans (cell_heap (hp_plus (hp_new (by simp))) 0 _ rfl)
      have h1 := (ST.out.1.cell (p := ⟨w.heap.size + 1 + 1, 1, none⟩) (by rw [ZX]; show w.heap.size + 1 + 1 < _; omega)).trans (cell_heap (hp_plus (hp_new (by simp))) 1 _ rfl)
      have h2 := (ST.out.1.cell (p := ⟨w.heap.size + 1 + 1, 2, none⟩) (by rw [ZX]; show w.heap.size + 1 + 1 < _; omega)).trans (cell_heap (hp_plus (hp_new (by simp))) 2 _ rfl)
      have SG : Aside ((hs.take (idx + 1)).foldl (stepP ⟨f1, f2, f3⟩) ([], false) = stepP ⟨f1, f2, f3⟩ (l, dn) hs[idx]!) := by
        show _ = _
        rw [fold_take _ _ hs idx hix, FE.out]
      clear HC FE EH
      generalize hs[idx]! = y at l0 l1 l2 LY SG
      obtain ⟨y1, y2, y3⟩ := y
      simp only [] at l0 l1 l2
      cases dn with
      | true =>
        by_cases hq : y1 = f1
        · have hq1 : (y1 != f1) = false := by simp [hq]
          have G : Aside ((hs.take (idx + 1)).foldl (stepP ⟨f1, f2, f3⟩) ([], false) = (l, true)) := SG.out.trans (by simp [stepP, hq])
          clear SG hq LY
          go_wp2
          go_roundg (n2 - (idx + 1))
          case measure => omega
          case rel => exact ⟨idx + 1, ao', cap', l, true, by simp, rfl, rfl, by omega, by omega, G, ST⟩
        · have hq1 : (y1 != f1) = true := by simp [hq]
          have G : Aside ((hs.take (idx + 1)).foldl (stepP ⟨f1, f2, f3⟩) ([], false) = (l ++ [(⟨y1, y2, y3⟩ : Hd)], true)) := SG.out.trans (by simp [stepP, hq])
          clear SG hq LY
          have hown := ST.out.2
          go_wp2_with (at_builtin; refine wpList_append_own _ rfl _ _ 23 rfl (w.heap.size + 1 + 1 + 1 + x.heap.size) 36 i0 _ 3 24 Try.underlying23 hi0 hz0 hs0 hb0 rfl (by omega) _ _ _ rfl (hown.alloc _) ⟨wr.heap.size, 0, none⟩ 1 1 [.int .i64 y1, .int .i64 y2, .int .i64 y3] rfl rfl (cells_new _ _ _ _ rfl) (hd_one ⟨y1, y2, y3⟩) (by unfold maxLen; omega) (by omega) (by first | (simp; omega) | (simp [size_plus]; omega)) ?_)
          intro v' w6 hown' hgrow _
          obtain ⟨ao6, cap6, rfl, hb6, ho6⟩ := app_stateB (U1 := (plus (((w.alloc (.cells #[.int .i64 cp, .slice ao bl.length c1, .slice (some ⟨b, off, none⟩) n2 c2] 25)).alloc (.cells #[.int .i64 0, .slice none 0 0, .slice none 0 0] 25)).alloc (.cells #[.int .i64 f1, .int .i64 f2, .int .i64 f3] 36)) x)) (by simp [size_plus]) hd_len (by omega) (y := ⟨y1, y2, y3⟩) (ST.out.1.alloc ST.out.1.size _) (hown.alloc _) hown' hgrow
          have ST6 : Aside (Below (plus (((w.alloc (.cells #[.int .i64 cp, .slice ao bl.length c1, .slice (some ⟨b, off, none⟩) n2 c2] 25)).alloc (.cells #[.int .i64 0, .slice none 0 0, .slice none 0 0] 25)).alloc (.cells #[.int .i64 f1, .int .i64 f2, .int .i64 f3] 36)) x).heap.size (plus (((w.alloc (.cells #[.int .i64 cp, .slice ao bl.length c1, .slice (some ⟨b, off, none⟩) n2 c2] 25)).alloc (.cells #[.int .i64 0, .slice none 0 0, .slice none 0 0] 25)).alloc (.cells #[.int .i64 f1, .int .i64 f2, .int .i64 f3] 36)) x) w6 ∧ w6.ownsRow (w.heap.size + 1 + 1 + 1 + x.heap.size) 36 3 (.slice ao6 (l.length + 1) cap6) (l.length + 1) (flatE Hd.enc (l ++ [(⟨y1, y2, y3⟩ : Hd)]))) := ⟨hb6, ho6⟩
          clear hown' hgrow hb6 ho6 hown
          go_wp2
          go_roundg (n2 - (idx + 1))
          case measure => omega
          case rel => exact ⟨idx + 1, ao6, cap6, l ++ [(⟨y1, y2, y3⟩ : Hd)], true, by simp, by simp, rfl, by omega, by simp; omega, G, by first | exact ST6 | simpa using ST6⟩
      | false =>
        by_cases hge : f1 ≤ y1
        · have hge1 : decide (f1 ≤ y1) = true := decide_eq_true hge
          have hown := ST.out.2
          go_wp2_with (at_builtin; refine wpList_append_own _ rfl _ _ 23 rfl (w.heap.size + 1 + 1 + 1 + x.heap.size) 36 i0 _ 3 24 Try.underlying23 hi0 hz0 hs0 hb0 rfl (by omega) _ _ _ rfl (hown.alloc _) ⟨wr.heap.size, 0, none⟩ 1 1 [.int .i64 f1, .int .i64 f2, .int .i64 f3] rfl rfl (cells_new _ _ _ _ rfl) (hd_one ⟨f1, f2, f3⟩) (by unfold maxLen; omega) (by omega) (by first | (simp; omega) | (simp [size_plus]; omega)) ?_)
          intro v' w6 hown' hgrow _
          obtain ⟨ao6, cap6, rfl, hb6, ho6⟩ := app_stateB (U1 := (plus (((w.alloc (.cells #[.int .i64 cp, .slice ao bl.length c1, .slice (some ⟨b, off, none⟩) n2 c2] 25)).alloc (.cells #[.int .i64 0, .slice none 0 0, .slice none 0 0] 25)).alloc (.cells #[.int .i64 f1, .int .i64 f2, .int .i64 f3] 36)) x)) (by simp [size_plus]) hd_len (by omega) (y := ⟨f1, f2, f3⟩) (ST.out.1.alloc ST.out.1.size _) (hown.alloc _) hown' hgrow
          have ST6 : Aside (Below (plus (((w.alloc (.cells #[.int .i64 cp, .slice ao bl.length c1, .slice (some ⟨b, off, none⟩) n2 c2] 25)).alloc (.cells #[.int .i64 0, .slice none 0 0, .slice none 0 0] 25)).alloc (.cells #[.int .i64 f1, .int .i64 f2, .int .i64 f3] 36)) x).heap.size (plus (((w.alloc (.cells #[.int .i64 cp, .slice ao bl.length c1, .slice (some ⟨b, off, none⟩) n2 c2] 25)).alloc (.cells #[.int .i64 0, .slice none 0 0, .slice none 0 0] 25)).alloc (.cells #[.int .i64 f1, .int .i64 f2, .int .i64 f3] 36)) x) w6 ∧ w6.ownsRow (w.heap.size + 1 + 1 + 1 + x.heap.size) 36 3 (.slice ao6 (l.length + 1) cap6) (l.length + 1) (flatE Hd.enc (l ++ [(⟨f1, f2, f3⟩ : Hd)]))) := ⟨hb6, ho6⟩
          clear hown' hgrow hb6 ho6 hown
          clear hsw hBr hbr l0 l1 l2 b0 b1 b2 h0 h1 h2
          have hsw : (w.heap.size + 1 + 1 + 1 + x.heap.size) ≤ w6.heap.size := by have := ST6.out.1.size; rw [ZX] at this; exact this
          have hBr : Below w.heap.size w w6 := HB1.trans (ST6.out.1.mono HB1.size)
          have hbr : b < w6.heap.size := Nat.lt_of_lt_of_le hbw hBr.size
          have l0 : w6.cell? ⟨b, off + idx * 3, none⟩ = some (.int .i64 y1) := (hBr.cell (p := ⟨b, off + idx * 3, none⟩) hbw).trans (LY.out 0 (by omega))
          have l1 : w6.cell? ⟨b, off + idx * 3 + 1, none⟩ = some (.int .i64 y2) := (hBr.cell (p := ⟨b, off + idx * 3 + 1, none⟩) hbw).trans (LY.out 1 (by omega))
          have l2 : w6.cell? ⟨b, off + idx * 3 + 2, none⟩ = some (.int .i64 y3) := (hBr.cell (p := ⟨b, off + idx * 3 + 2, none⟩) hbw).trans (LY.out 2 (by omega))
          have b0 := (ST6.out.1.cell (p := ⟨w.heap.size, 0, none⟩) (by rw [ZX]; show w.heap.size < _; omega)).trans (cell_heap (hp_plus (hp_old (hp_old (hp_new rfl)))) 0 _ rfl)
          have b1 := (ST6.out.1.cell (p := ⟨w.heap.size, 1, none⟩) (by rw [ZX]; show w.heap.size < _; omega)).trans (cell_heap (hp_plus (hp_old (hp_old (hp_new rfl)))) 1 _ rfl)
          have b2 := (ST6.out.1.cell (p := ⟨w.heap.size, 2, none⟩) (by rw [ZX]; show w.heap.size < _; omega)).trans (cell_heap (hp_plus (hp_old (hp_old (hp_new rfl)))) 2 _ rfl)
          have h0 := (ST6.out.1.cell (p := ⟨w.heap.size + 1 + 1, 0, none⟩) (by rw [ZX]; show w.heap.size + 1 + 1 < _; omega)).trans (cell_heap (hp_plus (hp_new (by simp))) 0 _ rfl)
          have h1 := (ST6.out.1.cell (p := ⟨w.heap.size + 1 + 1, 1, none⟩) (by rw [ZX]; show w.heap.size + 1 + 1 < _; omega)).trans (cell_heap (hp_plus (hp_new (by simp))) 1 _ rfl)
          have h2 := (ST6.out.1.cell (p := ⟨w.heap.size + 1 + 1, 2, none⟩) (by rw [ZX]; show w.heap.size + 1 + 1 < _; omega)).trans (cell_heap (hp_plus (hp_new (by simp))) 2 _ rfl)
          by_cases hq : y1 = f1
          · have hq1 : (y1 != f1) = false := by simp [hq]
            have G : Aside ((hs.take (idx + 1)).foldl (stepP ⟨f1, f2, f3⟩) ([], false) = (l ++ [(⟨f1, f2, f3⟩ : Hd)], true)) := SG.out.trans (by simp [stepP, hq])
            clear SG hq LY hge hge1
            go_wp2
            go_roundg (n2 - (idx + 1))
            case measure => omega
            case rel => exact ⟨idx + 1, ao6, cap6, l ++ [(⟨f1, f2, f3⟩ : Hd)], true, by simp, by simp, rfl, by omega, by simp; omega, G, by first | exact ST6 | simpa using ST6⟩
          · have hq1 : (y1 != f1) = true := by simp [hq]
            have G : Aside ((hs.take (idx + 1)).foldl (stepP ⟨f1, f2, f3⟩) ([], false) = (l ++ [(⟨f1, f2, f3⟩ : Hd)] ++ [(⟨y1, y2, y3⟩ : Hd)], true)) := SG.out.trans (by simp [stepP, hq, hge])
            clear SG hq LY hge hge1
            have hown := ST6.out.2
            go_wp2_with (at_builtin; refine wpList_append_own _ rfl _ _ 23 rfl (w.heap.size + 1 + 1 + 1 + x.heap.size) 36 i0 _ 3 24 Try.underlying23 hi0 hz0 hs0 hb0 rfl (by omega) _ _ _ rfl (hown.alloc _) ⟨w6.heap.size, 0, none⟩ 1 1 [.int .i64 y1, .int .i64 y2, .int .i64 y3] rfl rfl (cells_new _ _ _ _ rfl) (hd_one ⟨y1, y2, y3⟩) (by unfold maxLen; omega) (by omega) (by first | (simp; omega) | (simp [size_plus]; omega)) ?_)
            intro v' w8 hown' hgrow _
            obtain ⟨ao8, cap8, rfl, hb8, ho8⟩ := app_stateB (U1 := (plus (((w.alloc (.cells #[.int .i64 cp, .slice ao bl.length c1, .slice (some ⟨b, off, none⟩) n2 c2] 25)).alloc (.cells #[.int .i64 0, .slice none 0 0, .slice none 0 0] 25)).alloc (.cells #[.int .i64 f1, .int .i64 f2, .int .i64 f3] 36)) x)) (by simp [size_plus]) hd_len (by omega) (y := ⟨y1, y2, y3⟩) (ST6.out.1.alloc ST6.out.1.size _) (hown.alloc _) hown' hgrow
            have ST8 : Aside (Below (plus (((w.alloc (.cells #[.int .i64 cp, .slice ao bl.length c1, .slice (some ⟨b, off, none⟩) n2 c2] 25)).alloc (.cells #[.int .i64 0, .slice none 0 0, .slice none 0 0] 25)).alloc (.cells #[.int .i64 f1, .int .i64 f2, .int .i64 f3] 36)) x).heap.size (plus (((w.alloc (.cells #[.int .i64 cp, .slice ao bl.length c1, .slice (some ⟨b, off, none⟩) n2 c2] 25)).alloc (.cells #[.int .i64 0, .slice none 0 0, .slice none 0 0] 25)).alloc (.cells #[.int .i64 f1, .int .i64 f2, .int .i64 f3] 36)) x) w8 ∧ w8.ownsRow (w.heap.size + 1 + 1 + 1 + x.heap.size) 36 3 (.slice ao8 (l.length + 1 + 1) cap8) (l.length + 1 + 1) (flatE Hd.enc (l ++ [(⟨f1, f2, f3⟩ : Hd)] ++ [(⟨y1, y2, y3⟩ : Hd)]))) := ⟨hb8, ho8⟩
            clear hown' hgrow hb8 ho8 hown
            go_wp2
            go_roundg (n2 - (idx + 1))
            case measure => omega
            case rel => exact ⟨idx + 1, ao8, cap8, l ++ [(⟨f1, f2, f3⟩ : Hd)] ++ [(⟨y1, y2, y3⟩ : Hd)], true, by simp, by simp, rfl, by omega, by simp; omega, G, by first | exact ST8 | simpa using ST8⟩
        · have hge1 : decide (f1 ≤ y1) = false := decide_eq_false hge
          have hq1 : (y1 != f1) = true := by simp; omega
          have G : Aside ((hs.take (idx + 1)).foldl (stepP ⟨f1, f2, f3⟩) ([], false) = (l ++ [(⟨y1, y2, y3⟩ : Hd)], false)) := SG.out.trans (by simp [stepP, hge, show ¬ y1 = f1 by omega])
          clear SG LY hge
          have hown := ST.out.2
          go_wp2_with (at_builtin; refine wpList_append_own _ rfl _ _ 23 rfl (w.heap.size + 1 + 1 + 1 + x.heap.size) 36 i0 _ 3 24 Try.underlying23 hi0 hz0 hs0 hb0 rfl (by omega) _ _ _ rfl (hown.alloc _) ⟨wr.heap.size, 0, none⟩ 1 1 [.int .i64 y1, .int .i64 y2, .int .i64 y3] rfl rfl (cells_new _ _ _ _ rfl) (hd_one ⟨y1, y2, y3⟩) (by unfold maxLen; omega) (by omega) (by first | (simp; omega) | (simp [size_plus]; omega)) ?_)
          intro v' w6 hown' hgrow _
          obtain ⟨ao6, cap6, rfl, hb6, ho6⟩ := app_stateB (U1 := (plus (((w.alloc (.cells #[.int .i64 cp, .slice ao bl.length c1, .slice (some ⟨b, off, none⟩) n2 c2] 25)).alloc (.cells #[.int .i64 0, .slice none 0 0, .slice none 0 0] 25)).alloc (.cells #[.int .i64 f1, .int .i64 f2, .int .i64 f3] 36)) x)) (by simp [size_plus]) hd_len (by omega) (y := ⟨y1, y2, y3⟩) (ST.out.1.alloc ST.out.1.size _) (hown.alloc _) hown' hgrow
          have ST6 : Aside (Below (plus (((w.alloc (.cells #[.int .i64 cp, .slice ao bl.length c1, .slice (some ⟨b, off, none⟩) n2 c2] 25)).alloc (.cells #[.int .i64 0, .slice none 0 0, .slice none 0 0] 25)).alloc (.cells #[.int .i64 f1, .int .i64 f2, .int .i64 f3] 36)) x).heap.size (plus (((w.alloc (.cells #[.int .i64 cp, .slice ao bl.length c1, .slice (some ⟨b, off, none⟩) n2 c2] 25)).alloc (.cells #[.int .i64 0, .slice none 0 0, .slice none 0 0] 25)).alloc (.cells #[.int .i64 f1, .int .i64 f2, .int .i64 f3] 36)) x) w6 ∧ w6.ownsRow (w.heap.size + 1 + 1 + 1 + x.heap.size) 36 3 (.slice ao6 (l.length + 1) cap6) (l.length + 1) (flatE Hd.enc (l ++ [(⟨y1, y2, y3⟩ : Hd)]))) := ⟨hb6, ho6⟩
          clear hown' hgrow hb6 ho6 hown
          go_wp2
          go_roundg (n2 - (idx + 1))
          case measure => omega
          case rel => exact ⟨idx + 1, ao6, cap6, l ++ [(⟨y1, y2, y3⟩ : Hd)], false, by simp, by simp, rfl, by omega, by simp; omega, G, by first | exact ST6 | simpa using ST6⟩
    · have hiz : ¬ (idx : Int) < (n2 : Int) := by omega
      have FE2 : Aside (hs.foldl (stepP ⟨f1, f2, f3⟩) ([], false) = (l, dn)) := by
        show _ = _
        rw [← FE.out, List.take_of_length_le (by have := HL2.out; omega)]
      have hle : l.length ≤ 2 * n2 := by omega
      clear FE
      have hsw : (w.heap.size + 1 + 1 + 1 + x.heap.size) ≤ wr.heap.size := by have := ST.out.1.size; rw [ZX] at this; exact this
      have b0 := (ST.out.1.cell (p := ⟨w.heap.size, 0, none⟩) (by rw [ZX]; show w.heap.size < _; omega)).trans (cell_heap (hp_plus (hp_old (hp_old (hp_new rfl)))) 0 _ rfl)
      have b1 := (ST.out.1.cell (p := ⟨w.heap.size, 1, none⟩) (by rw [ZX]; show w.heap.size < _; omega)).trans (cell_heap (hp_plus (hp_old (hp_old (hp_new rfl)))) 1 _ rfl)
      have b2 := (ST.out.1.cell (p := ⟨w.heap.size, 2, none⟩) (by rw [ZX]; show w.heap.size < _; omega)).trans (cell_heap (hp_plus (hp_old (hp_old (hp_new rfl)))) 2 _ rfl)
      have h0 := (ST.out.1.cell (p := ⟨w.heap.size + 1 + 1, 0, none⟩) (by rw [ZX]; show w.heap.size + 1 + 1 < _; omega)).trans (cell_heap (hp_plus (hp_new (by simp))) 0 _ rfl)
      have h1 := (ST.out.1.cell (p := ⟨w.heap.size + 1 + 1, 1, none⟩) (by rw [ZX]; show w.heap.size + 1 + 1 < _; omega)).trans (cell_heap (hp_plus (hp_new (by simp))) 1 _ rfl)
      have h2 := (ST.out.1.cell (p := ⟨w.heap.size + 1 + 1, 2, none⟩) (by rw [ZX]; show w.heap.size + 1 + 1 < _; omega)).trans (cell_heap (hp_plus (hp_new (by simp))) 2 _ rfl)
      cases dn with
      | true =>
        have E : l = pl := by rw [EH.out, FE2.out]; rfl
        subst E
        clear FE2 EH hsw b0 b1 b2 h0 h1 h2
        have hB3 : Below (((w.alloc (.cells #[.int .i64 cp, .slice ao bl.length c1, .slice ao2 n2 c2] 25)).alloc (.cells #[.int .i64 0, .slice none 0 0, .slice none 0 0] 25)).alloc (.cells #[.int .i64 f1, .int .i64 f2, .int .i64 f3] 36)).heap.size (((w.alloc (.cells #[.int .i64 cp, .slice ao bl.length c1, .slice ao2 n2 c2] 25)).alloc (.cells #[.int .i64 0, .slice none 0 0, .slice none 0 0] 25)).alloc (.cells #[.int .i64 f1, .int .i64 f2, .int .i64 f3] 36)) wr := (below_plus _ _).trans (ST.out.1.mono (below_plus _ _).size)
        have O2 : Aside (wr.ownsRow (w.heap.size + 1 + 1 + 1) 36 3 (.slice ao' l.length cap') l.length (flatE Hd.enc (l))) := own_lower ST.out.2 (by omega)
        obtain ⟨x3, hx⟩ := plus_of_below hB3
        subst hx
        clear ST HB1 ZX hB3 HC HL2
        go_wp2
        refine bodyPost_ret (v := .agg #[.int .i64 cp, .slice ao bl.length c1, .slice ao' l.length cap']) (by simp [results, Try.results41, go_sem, ↓IntWalk.iteOmega, *]) rfl ⟨ao, c1, ao', cap', rfl, HS1.out _ ?_, own_Sl hd_len (by omega) (own_past O2.out (by simp) (by simp)), ?_⟩
        · repeat (first | (with_reducible exact Below.refl _ _) | (with_reducible assumption) | (with_reducible refine below_to_plus ?_ ?_ _) | (with_reducible refine below_holds ?_ ?_ _ _) | (with_reducible refine Below.alloc ?_ ?_ _) | (with_reducible refine Below.drew ?_) | (with_reducible refine below_drewN ?_ _) | (with_reducible refine Below.setCell ?_ ?_ _))
          all_goals first | omega | (simp; done) | (simp [go_sem]; done) | (simp [go_sem]; omega)
        · repeat (first | (with_reducible exact Below.refl _ _) | (with_reducible assumption) | (with_reducible refine below_to_plus ?_ ?_ _) | (with_reducible refine below_holds ?_ ?_ _ _) | (with_reducible refine Below.alloc ?_ ?_ _) | (with_reducible refine Below.drew ?_) | (with_reducible refine below_drewN ?_ _) | (with_reducible refine Below.setCell ?_ ?_ _))
          all_goals first | omega | (simp; done) | (simp [go_sem]; done) | (simp [go_sem]; omega)
      | false =>
        have E : l ++ [(⟨f1, f2, f3⟩ : Hd)] = pl := by rw [EH.out, FE2.out]; rfl
        subst E
        clear FE2 EH
        have hown := ST.out.2
        go_wp2_with (at_builtin; refine wpList_append_own _ rfl _ _ 23 rfl (w.heap.size + 1 + 1 + 1 + x.heap.size) 36 i0 _ 3 24 Try.underlying23 hi0 hz0 hs0 hb0 rfl (by omega) _ _ _ rfl (hown.alloc _) ⟨wr.heap.size, 0, none⟩ 1 1 [.int .i64 f1, .int .i64 f2, .int .i64 f3] rfl rfl (cells_new _ _ _ _ rfl) (hd_one ⟨f1, f2, f3⟩) (by unfold maxLen; omega) (by omega) (by first | (simp; omega) | (simp [size_plus]; omega)) ?_)
        intro v' w6 hown' hgrow _
        obtain ⟨ao6, cap6, rfl, hb6, ho6⟩ := app_stateB (U1 := (plus (((w.alloc (.cells #[.int .i64 cp, .slice ao bl.length c1, .slice ao2 n2 c2] 25)).alloc (.cells #[.int .i64 0, .slice none 0 0, .slice none 0 0] 25)).alloc (.cells #[.int .i64 f1, .int .i64 f2, .int .i64 f3] 36)) x)) (by simp [size_plus]) hd_len (by omega) (y := ⟨f1, f2, f3⟩) (ST.out.1.alloc ST.out.1.size _) (hown.alloc _) hown' hgrow
        have ST6 : Aside (Below (plus (((w.alloc (.cells #[.int .i64 cp, .slice ao bl.length c1, .slice ao2 n2 c2] 25)).alloc (.cells #[.int .i64 0, .slice none 0 0, .slice none 0 0] 25)).alloc (.cells #[.int .i64 f1, .int .i64 f2, .int .i64 f3] 36)) x).heap.size (plus (((w.alloc (.cells #[.int .i64 cp, .slice ao bl.length c1, .slice ao2 n2 c2] 25)).alloc (.cells #[.int .i64 0, .slice none 0 0, .slice none 0 0] 25)).alloc (.cells #[.int .i64 f1, .int .i64 f2, .int .i64 f3] 36)) x) w6 ∧ w6.ownsRow (w.heap.size + 1 + 1 + 1 + x.heap.size) 36 3 (.slice ao6 (l.length + 1) cap6) (l.length + 1) (flatE Hd.enc (l ++ [(⟨f1, f2, f3⟩ : Hd)]))) := ⟨hb6, ho6⟩
        clear hown' hgrow hb6 ho6 hown
        clear hsw b0 b1 b2 h0 h1 h2
        have hlp : (l ++ [(⟨f1, f2, f3⟩ : Hd)]).length = l.length + 1 := by simp
        have hB3 : Below (((w.alloc (.cells #[.int .i64 cp, .slice ao bl.length c1, .slice ao2 n2 c2] 25)).alloc (.cells #[.int .i64 0, .slice none 0 0, .slice none 0 0] 25)).alloc (.cells #[.int .i64 f1, .int .i64 f2, .int .i64 f3] 36)).heap.size (((w.alloc (.cells #[.int .i64 cp, .slice ao bl.length c1, .slice ao2 n2 c2] 25)).alloc (.cells #[.int .i64 0, .slice none 0 0, .slice none 0 0] 25)).alloc (.cells #[.int .i64 f1, .int .i64 f2, .int .i64 f3] 36)) w6 := (below_plus _ _).trans (ST6.out.1.mono (below_plus _ _).size)
        have O2 : Aside (w6.ownsRow (w.heap.size + 1 + 1 + 1) 36 3 (.slice ao6 (l.length + 1) cap6) (l.length + 1) (flatE Hd.enc (l ++ [(⟨f1, f2, f3⟩ : Hd)]))) := own_lower ST6.out.2 (by omega)
        obtain ⟨x3, hx⟩ := plus_of_below hB3
        subst hx
        clear ST6 HB1 ZX hB3 HC HL2
        go_wp2
        refine bodyPost_ret (v := .agg #[.int .i64 cp, .slice ao bl.length c1, .slice ao6 (l.length + 1) cap6]) (by simp [results, Try.results41, go_sem, ↓IntWalk.iteOmega, *]) rfl ⟨ao, c1, ao6, cap6, by rw [hlp], HS1.out _ ?_, (by rw [hlp]; exact own_Sl hd_len (by omega) (own_past O2.out (by simp) (by simp))), ?_⟩
        · repeat (first | (with_reducible exact Below.refl _ _) | (with_reducible assumption) | (with_reducible refine below_to_plus ?_ ?_ _) | (with_reducible refine below_holds ?_ ?_ _ _) | (with_reducible refine Below.alloc ?_ ?_ _) | (with_reducible refine Below.drew ?_) | (with_reducible refine below_drewN ?_ _) | (with_reducible refine Below.setCell ?_ ?_ _))
          all_goals first | omega | (simp; done) | (simp [go_sem]; done) | (simp [go_sem]; omega)
        · repeat (first | (with_reducible exact Below.refl _ _) | (with_reducible assumption) | (with_reducible refine below_to_plus ?_ ?_ _) | (with_reducible refine below_holds ?_ ?_ _ _) | (with_reducible refine Below.alloc ?_ ?_ _) | (with_reducible refine Below.drew ?_) | (with_reducible refine below_drewN ?_ _) | (with_reducible refine Below.setCell ?_ ?_ _))
          all_goals first | omega | (simp; done) | (simp [go_sem]; done) | (simp [go_sem]; omega)

set_option maxRecDepth 20000 in
set_option maxHeartbeats 8000000 in
theorem rhold_same (cp : Int) (ao : Option Addr) (n c1 : Nat) (ao2 : Option Addr) (n2 c2 : Nat) (bl : List Pc) (hs : List Hd) (f1 f2 f3 : Int) (w : World) (h1 : Sl w 4 ao n c1 (bl.map Pc.enc)) (h2 : Sl w 3 ao2 n2 c2 (hs.map Hd.enc)) (hr : rangedB (⟨f1, f2, f3⟩ : Hd) = true) (hn2 : n2 ≤ 100000) {k : Nat} (hk : k < hs.length) (he : holdI f1 hs = (k : Int)) (hv : hs[k]!.vers = f2) :
    Calls Try.prog 41 #[.agg #[.int .i64 cp, .slice ao n c1, .slice ao2 n2 c2], .int .i64 f1, .int .i64 f2, .int .i64 f3] w fun e w' => RPost w cp bl (putH ⟨f1, f2, f3⟩ hs) e w' := by
  obtain ⟨i0, hi0, hz0, hs0, hb0⟩ := hdInfo
  have hbig : n2 ≤ 9223372036854775807 := by omega
  have cr := fun U => ranged_calls f1 f2 f3 U
  rw [hr] at cr
  have H2 : Aside (Sl w 3 ao2 n2 c2 (hs.map Hd.enc)) := h2
  have ch := fun U (h : Below w.heap.size w U) => rhold_calls cp ao n c1 ao2 n2 c2 hs f1 U (H2.out.stays h)
  have HL2 : Aside (hs.length = n2) := Sl.lenE h2
  have HC : Aside (CellsHd w ao2 hs) := cellsHd h2
  have EH : Aside (putH ⟨f1, f2, f3⟩ hs = endPut ⟨f1, f2, f3⟩ (hs.foldl (stepP ⟨f1, f2, f3⟩) ([], false))) := rfl
  have HS1 : Aside (∀ w', Below w.heap.size w w' → Sl w' 4 ao bl.length c1 (bl.map Pc.enc)) := fun w' hb => by rw [Sl.lenE h1]; exact h1.stays hb
  obtain rfl : bl.length = n := Sl.lenE h1
  obtain ⟨gb, go, ea, hgb, g0, g1, g2⟩ := (cellsHd h2) k hk
  subst ea
  rw [hv] at g1
  rw [he] at ch
  clear h1 h2 H2 hr he hv g0 g2
  have hkn : k < n2 := by have := HL2.out; omega
  have hkz : (k : Int) < (n2 : Int) := by omega
  have vz : (f2 != f2) = false := by simp
  generalize putH ⟨f1, f2, f3⟩ hs = pl at EH ⊢
  go_enter Try.func41, Try.ntmps41
  go_wp2_with fail
  refine (cr _).mono ?_
  rintro e w1 ⟨rfl, hb⟩
  obtain ⟨x1, hx⟩ := plus_of_below hb
  subst hx
  clear cr hb
  have hB1 : Below w.heap.size w (plus (((w.alloc (.cells #[.int .i64 cp, .slice ao bl.length c1, .slice (some ⟨gb, go, none⟩) n2 c2] 25)).alloc (.cells #[.int .i64 0, .slice none 0 0, .slice none 0 0] 25)).alloc (.cells #[.int .i64 f1, .int .i64 f2, .int .i64 f3] 36)) x1) := by
    repeat (first | (with_reducible exact Below.refl _ _) | (with_reducible assumption) | (with_reducible refine below_to_plus ?_ ?_ _) | (with_reducible refine below_holds ?_ ?_ _ _) | (with_reducible refine Below.alloc ?_ ?_ _) | (with_reducible refine Below.drew ?_) | (with_reducible refine below_drewN ?_ _) | (with_reducible refine Below.setCell ?_ ?_ _))
    all_goals first | omega | (simp; done) | (simp [go_sem]; done) | (simp [go_sem]; omega)
  have ck := ch _ hB1
  clear ch
  go_wp2_with fail
  refine ck.mono ?_
  rintro e w2 ⟨rfl, hb⟩
  have hB2 : Below (((w.alloc (.cells #[.int .i64 cp, .slice ao bl.length c1, .slice (some ⟨gb, go, none⟩) n2 c2] 25)).alloc (.cells #[.int .i64 0, .slice none 0 0, .slice none 0 0] 25)).alloc (.cells #[.int .i64 f1, .int .i64 f2, .int .i64 f3] 36)).heap.size (((w.alloc (.cells #[.int .i64 cp, .slice ao bl.length c1, .slice (some ⟨gb, go, none⟩) n2 c2] 25)).alloc (.cells #[.int .i64 0, .slice none 0 0, .slice none 0 0] 25)).alloc (.cells #[.int .i64 f1, .int .i64 f2, .int .i64 f3] 36)) w2 := (below_plus _ _).trans (hb.mono (below_plus _ _).size)
  obtain ⟨x, hx⟩ := plus_of_below hB2
  subst hx
  clear ck hb hB1 hB2
  have hB0 : Below w.heap.size w (plus (((w.alloc (.cells #[.int .i64 cp, .slice ao bl.length c1, .slice (some ⟨gb, go, none⟩) n2 c2] 25)).alloc (.cells #[.int .i64 0, .slice none 0 0, .slice none 0 0] 25)).alloc (.cells #[.int .i64 f1, .int .i64 f2, .int .i64 f3] 36)) x) := by
    repeat (first | (with_reducible exact Below.refl _ _) | (with_reducible assumption) | (with_reducible refine below_to_plus ?_ ?_ _) | (with_reducible refine below_holds ?_ ?_ _ _) | (with_reducible refine Below.alloc ?_ ?_ _) | (with_reducible refine Below.drew ?_) | (with_reducible refine below_drewN ?_ _) | (with_reducible refine Below.setCell ?_ ?_ _))
    all_goals first | omega | (simp; done) | (simp [go_sem]; done) | (simp [go_sem]; omega)
  have m1 := (hB0.cell (p := ⟨gb, go + k * 3 + 1, none⟩) hgb).trans g1
  have hgx : gb < (plus (((w.alloc (.cells #[.int .i64 cp, .slice ao bl.length c1, .slice (some ⟨gb, go, none⟩) n2 c2] 25)).alloc (.cells #[.int .i64 0, .slice none 0 0, .slice none 0 0] 25)).alloc (.cells #[.int .i64 f1, .int .i64 f2, .int .i64 f3] 36)) x).heap.size := Nat.lt_of_lt_of_le hgb hB0.size
  clear g1
  go_wp2
  clear m1 hgx hB0
  have HB1 : Below w.heap.size w (plus (((w.alloc (.cells #[.int .i64 cp, .slice ao bl.length c1, .slice (some ⟨gb, go, none⟩) n2 c2] 25)).alloc (.cells #[.int .i64 0, .slice none 0 0, .slice none 0 0] 25)).alloc (.cells #[.int .i64 f1, .int .i64 f2, .int .i64 f3] 36)) x) := by
    repeat (first | (with_reducible exact Below.refl _ _) | (with_reducible assumption) | (with_reducible refine below_to_plus ?_ ?_ _) | (with_reducible refine below_holds ?_ ?_ _ _) | (with_reducible refine Below.alloc ?_ ?_ _) | (with_reducible refine Below.drew ?_) | (with_reducible refine below_drewN ?_ _) | (with_reducible refine Below.setCell ?_ ?_ _))
    all_goals first | omega | (simp; done) | (simp [go_sem]; done) | (simp [go_sem]; omega)
  have ZX : (plus (((w.alloc (.cells #[.int .i64 cp, .slice ao bl.length c1, .slice (some ⟨gb, go, none⟩) n2 c2] 25)).alloc (.cells #[.int .i64 0, .slice none 0 0, .slice none 0 0] 25)).alloc (.cells #[.int .i64 f1, .int .i64 f2, .int .i64 f3] 36)) x).heap.size = (w.heap.size + 1 + 1 + 1 + x.heap.size) := by simp [size_plus]
  go_loopg [11, 12, 52] n2 (fun k s11 s12 s52 wr => ∃ (idx : Nat) (ao' : Option Addr) (cap' : Nat) (l : List Hd) (dn : Bool), s52 = .int .i64 (idx : Int) ∧ s11 = .slice ao' l.length cap' ∧ s12 = .bool dn ∧ k + idx = n2 ∧ l.length ≤ 2 * idx ∧ Aside ((hs.take idx).foldl (stepP ⟨f1, f2, f3⟩) ([], false) = (l, dn)) ∧ Aside (Below (plus (((w.alloc (.cells #[.int .i64 cp, .slice ao bl.length c1, .slice (some ⟨gb, go, none⟩) n2 c2] 25)).alloc (.cells #[.int .i64 0, .slice none 0 0, .slice none 0 0] 25)).alloc (.cells #[.int .i64 f1, .int .i64 f2, .int .i64 f3] 36)) x).heap.size (plus (((w.alloc (.cells #[.int .i64 cp, .slice ao bl.length c1, .slice (some ⟨gb, go, none⟩) n2 c2] 25)).alloc (.cells #[.int .i64 0, .slice none 0 0, .slice none 0 0] 25)).alloc (.cells #[.int .i64 f1, .int .i64 f2, .int .i64 f3] 36)) x) wr ∧ wr.ownsRow (w.heap.size + 1 + 1 + 1 + x.heap.size) 36 3 (.slice ao' l.length cap') l.length (flatE Hd.enc l)))
  case atStart => exact ⟨0, none, 0, [], false, rfl, rfl, rfl, by omega, by simp, rfl, Below.refl _ _, World.ownsRow_nil _ _ _ _⟩
  case round =>
    obtain ⟨idx, ao', cap', l, dn, rfl, rfl, rfl, hk, hm, FE, ST⟩ := hrel
    by_cases hi : idx < n2
    · have hiz : (idx : Int) < (n2 : Int) := by omega
      have hix : idx < hs.length := by have := HL2.out; omega
      obtain ⟨b9, off9, e9, hbw, q0, q1, q2⟩ := HC.out idx hix
      cases e9
      have LY : Aside (∀ i, i < 3 → w.cell? ⟨gb, go + idx * 3 + i, none⟩ = hs[idx]!.enc[i]?) := fun i hi => by
        match i, hi with
        | 0, _ => exact q0
        | 1, _ => exact q1
        | 2, _ => exact q2
      clear q0 q1 q2
      have hsw : (w.heap.size + 1 + 1 + 1 + x.heap.size) ≤ wr.heap.size := by have := ST.out.1.size; rw [ZX] at this; exact this
      have hBr : Below w.heap.size w wr := HB1.trans (ST.out.1.mono HB1.size)
      have hbr : gb < wr.heap.size := Nat.lt_of_lt_of_le hbw hBr.size
      have l0 : wr.cell? ⟨gb, go + idx * 3, none⟩ = some (.int .i64 hs[idx]!.hid) := (hBr.cell (p := ⟨gb, go + idx * 3, none⟩) hbw).trans (LY.out 0 (by omega))
      have l1 : wr.cell? ⟨gb, go + idx * 3 + 1, none⟩ = some (.int .i64 hs[idx]!.vers) := (hBr.cell (p := ⟨gb, go + idx * 3 + 1, none⟩) hbw).trans (LY.out 1 (by omega))
      have l2 : wr.cell? ⟨gb, go + idx * 3 + 2, none⟩ = some (.int .i64 hs[idx]!.til) := (hBr.cell (p := ⟨gb, go + idx * 3 + 2, none⟩) hbw).trans (LY.out 2 (by omega))
      have b0 := (ST.out.1.cell (p := ⟨w.heap.size, 0, none⟩) (by rw [ZX]; show w.heap.size < _; omega)).trans (cell_heap (hp_plus (hp_old (hp_old (hp_new rfl)))) 0 _ rfl)
      have b1 := (ST.out.1.cell (p := ⟨w.heap.size, 1, none⟩) (by rw [ZX]; show w.heap.size < _; omega)).trans (cell_heap (hp_plus (hp_old (hp_old (hp_new rfl)))) 1 _ rfl)
      have b2 := (ST.out.1.cell (p := ⟨w.heap.size, 2, none⟩) (by rw [ZX]; show w.heap.size < _; omega)).trans (cell_heap (hp_plus (hp_old (hp_old (hp_new rfl)))) 2 _ rfl)
      have h0 := (ST.out.1.cell (p := ⟨w.heap.size + 1 + 1, 0, none⟩) (by rw [ZX]; show w.heap.size + 1 + 1 < _; omega)).trans (cell_heap (hp_plus (hp_new (by simp))) 0 _ rfl)
      have h1 := (ST.out.1.cell (p := ⟨w.heap.size + 1 + 1, 1, none⟩) (by rw [ZX]; show w.heap.size + 1 + 1 < _; omega)).trans (cell_heap (hp_plus (hp_new (by simp))) 1 _ rfl)
      have h2 := (ST.out.1.cell (p := ⟨w.heap.size + 1 + 1, 2, none⟩) (by rw [ZX]; show w.heap.size + 1 + 1 < _; omega)).trans (cell_heap (hp_plus (hp_new (by simp))) 2 _ rfl)
      have SG : Aside ((hs.take (idx + 1)).foldl (stepP ⟨f1, f2, f3⟩) ([], false) = stepP ⟨f1, f2, f3⟩ (l, dn) hs[idx]!) := by
        show _ = _
        rw [fold_take _ _ hs idx hix, FE.out]
      clear HC FE EH
      generalize hs[idx]! = y at l0 l1 l2 LY SG
      obtain ⟨y1, y2, y3⟩ := y
      simp only [] at l0 l1 l2
      cases dn with
      | true =>
        by_cases hq : y1 = f1
        · have hq1 : (y1 != f1) = false := by simp [hq]
          have G : Aside ((hs.take (idx + 1)).foldl (stepP ⟨f1, f2, f3⟩) ([], false) = (l, true)) := SG.out.trans (by simp [stepP, hq])
          clear SG hq LY
          go_wp2
          go_roundg (n2 - (idx + 1))
          case measure => omega
          case rel => exact ⟨idx + 1, ao', cap', l, true, by simp, rfl, rfl, by omega, by omega, G, ST⟩
        · have hq1 : (y1 != f1) = true := by simp [hq]
          have G : Aside ((hs.take (idx + 1)).foldl (stepP ⟨f1, f2, f3⟩) ([], false) = (l ++ [(⟨y1, y2, y3⟩ : Hd)], true)) := SG.out.trans (by simp [stepP, hq])
          clear SG hq LY
          have hown := ST.out.2
          go_wp2_with (at_builtin; refine wpList_append_own _ rfl _ _ 23 rfl (w.heap.size + 1 + 1 + 1 + x.heap.size) 36 i0 _ 3 24 Try.underlying23 hi0 hz0 hs0 hb0 rfl (by omega) _ _ _ rfl (hown.alloc _) ⟨wr.heap.size, 0, none⟩ 1 1 [.int .i64 y1, .int .i64 y2, .int .i64 y3] rfl rfl (cells_new _ _ _ _ rfl) (hd_one ⟨y1, y2, y3⟩) (by unfold maxLen; omega) (by omega) (by first | (simp; omega) | (simp [size_plus]; omega)) ?_)
          intro v' w6 hown' hgrow _
          obtain ⟨ao6, cap6, rfl, hb6, ho6⟩ := app_stateB (U1 := (plus (((w.alloc (.cells #[.int .i64 cp, .slice ao bl.length c1, .slice (some ⟨gb, go, none⟩) n2 c2] 25)).alloc (.cells #[.int .i64 0, .slice none 0 0, .slice none 0 0] 25)).alloc (.cells #[.int .i64 f1, .int .i64 f2, .int .i64 f3] 36)) x)) (by simp [size_plus]) hd_len (by omega) (y := ⟨y1, y2, y3⟩) (ST.out.1.alloc ST.out.1.size _) (hown.alloc _) hown' hgrow
          have ST6 : Aside (Below (plus (((w.alloc (.cells #[.int .i64 cp, .slice ao bl.length c1, .slice (some ⟨gb, go, none⟩) n2 c2] 25)).alloc (.cells #[.int .i64 0, .slice none 0 0, .slice none 0 0] 25)).alloc (.cells #[.int .i64 f1, .int .i64 f2, .int .i64 f3] 36)) x).heap.size (plus (((w.alloc (.cells #[.int .i64 cp, .slice ao bl.length c1, .slice (some ⟨gb, go, none⟩) n2 c2] 25)).alloc (.cells #[.int .i64 0, .slice none 0 0, .slice none 0 0] 25)).alloc (.cells #[.int .i64 f1, .int .i64 f2, .int .i64 f3] 36)) x) w6 ∧ w6.ownsRow (w.heap.size + 1 + 1 + 1 + x.heap.size) 36 3 (.slice ao6 (l.length + 1) cap6) (l.length + 1) (flatE Hd.enc (l ++ [(⟨y1, y2, y3⟩ : Hd)]))) := ⟨hb6, ho6⟩
          clear hown' hgrow hb6 ho6 hown
          go_wp2
          go_roundg (n2 - (idx + 1))
          case measure => omega
          case rel => exact ⟨idx + 1, ao6, cap6, l ++ [(⟨y1, y2, y3⟩ : Hd)], true, by simp, by simp, rfl, by omega, by simp; omega, G, by first | exact ST6 | simpa using ST6⟩
      | false =>
        by_cases hge : f1 ≤ y1
        · have hge1 : decide (f1 ≤ y1) = true := decide_eq_true hge
          have hown := ST.out.2
          go_wp2_with (at_builtin; refine wpList_append_own _ rfl _ _ 23 rfl (w.heap.size + 1 + 1 + 1 + x.heap.size) 36 i0 _ 3 24 Try.underlying23 hi0 hz0 hs0 hb0 rfl (by omega) _ _ _ rfl (hown.alloc _) ⟨wr.heap.size, 0, none⟩ 1 1 [.int .i64 f1, .int .i64 f2, .int .i64 f3] rfl rfl (cells_new _ _ _ _ rfl) (hd_one ⟨f1, f2, f3⟩) (by unfold maxLen; omega) (by omega) (by first | (simp; omega) | (simp [size_plus]; omega)) ?_)
          intro v' w6 hown' hgrow _
          obtain ⟨ao6, cap6, rfl, hb6, ho6⟩ := app_stateB (U1 := (plus (((w.alloc (.cells #[.int .i64 cp, .slice ao bl.length c1, .slice (some ⟨gb, go, none⟩) n2 c2] 25)).alloc (.cells #[.int .i64 0, .slice none 0 0, .slice none 0 0] 25)).alloc (.cells #[.int .i64 f1, .int .i64 f2, .int .i64 f3] 36)) x)) (by simp [size_plus]) hd_len (by omega) (y := ⟨f1, f2, f3⟩) (ST.out.1.alloc ST.out.1.size _) (hown.alloc _) hown' hgrow
          have ST6 : Aside (Below (plus (((w.alloc (.cells #[.int .i64 cp, .slice ao bl.length c1, .slice (some ⟨gb, go, none⟩) n2 c2] 25)).alloc (.cells #[.int .i64 0, .slice none 0 0, .slice none 0 0] 25)).alloc (.cells #[.int .i64 f1, .int .i64 f2, .int .i64 f3] 36)) x).heap.size (plus (((w.alloc (.cells #[.int .i64 cp, .slice ao bl.length c1, .slice (some ⟨gb, go, none⟩) n2 c2] 25)).alloc (.cells #[.int .i64 0, .slice none 0 0, .slice none 0 0] 25)).alloc (.cells #[.int .i64 f1, .int .i64 f2, .int .i64 f3] 36)) x) w6 ∧ w6.ownsRow (w.heap.size + 1 + 1 + 1 + x.heap.size) 36 3 (.slice ao6 (l.length + 1) cap6) (l.length + 1) (flatE Hd.enc (l ++ [(⟨f1, f2, f3⟩ : Hd)]))) := ⟨hb6, ho6⟩
          clear hown' hgrow hb6 ho6 hown
          clear hsw hBr hbr l0 l1 l2 b0 b1 b2 h0 h1 h2
          have hsw : (w.heap.size + 1 + 1 + 1 + x.heap.size) ≤ w6.heap.size := by have := ST6.out.1.size; rw [ZX] at this; exact this
          have hBr : Below w.heap.size w w6 := HB1.trans (ST6.out.1.mono HB1.size)
          have hbr : gb < w6.heap.size := Nat.lt_of_lt_of_le hbw hBr.size
          have l0 : w6.cell? ⟨gb, go + idx * 3, none⟩ = some (.int .i64 y1) := (hBr.cell (p := ⟨gb, go + idx * 3, none⟩) hbw).trans (LY.out 0 (by omega))
          have l1 : w6.cell? ⟨gb, go + idx * 3 + 1, none⟩ = some (.int .i64 y2) := (hBr.cell (p := ⟨gb, go + idx * 3 + 1, none⟩) hbw).trans (LY.out 1 (by omega))
          have l2 : w6.cell? ⟨gb, go + idx * 3 + 2, none⟩ = some (.int .i64 y3) := (hBr.cell (p := ⟨gb, go + idx * 3 + 2, none⟩) hbw).trans (LY.out 2 (by omega))
          have b0 := (ST6.out.1.cell (p := ⟨w.heap.size, 0, none⟩) (by rw [ZX]; show w.heap.size < _; omega)).trans (cell_heap (hp_plus (hp_old (hp_old (hp_new rfl)))) 0 _ rfl)
          have b1 := (ST6.out.1.cell (p := ⟨w.heap.size, 1, none⟩) (by rw [ZX]; show w.heap.size < _; omega)).trans (cell_heap (hp_plus (hp_old (hp_old (hp_new rfl)))) 1 _ rfl)
          have b2 := (ST6.out.1.cell (p := ⟨w.heap.size, 2, none⟩) (by rw [ZX]; show w.heap.size < _; omega)).trans (cell_heap (hp_plus (hp_old (hp_old (hp_new rfl)))) 2 _ rfl)
          have h0 := (ST6.out.1.cell (p := ⟨w.heap.size + 1 + 1, 0, none⟩) (by rw [ZX]; show w.heap.size + 1 + 1 < _; omega)).trans (cell_heap (hp_plus (hp_new (by simp))) 0 _ rfl)
          have h1 := (ST6.out.1.cell (p := ⟨w.heap.size + 1 + 1, 1, none⟩) (by rw [ZX]; show w.heap.size + 1 + 1 < _; omega)).trans (cell_heap (hp_plus (hp_new (by simp))) 1 _ rfl)
          have h2 := (ST6.out.1.cell (p := ⟨w.heap.size + 1 + 1, 2, none⟩) (by rw [ZX]; show w.heap.size + 1 + 1 < _; omega)).trans (cell_heap (hp_plus (hp_new (by simp))) 2 _ rfl)
          by_cases hq : y1 = f1
          · have hq1 : (y1 != f1) = false := by simp [hq]
            have G : Aside ((hs.take (idx + 1)).foldl (stepP ⟨f1, f2, f3⟩) ([], false) = (l ++ [(⟨f1, f2, f3⟩ : Hd)], true)) := SG.out.trans (by simp [stepP, hq])
            clear SG hq LY hge hge1
            go_wp2
            go_roundg (n2 - (idx + 1))
            case measure => omega
            case rel => exact ⟨idx + 1, ao6, cap6, l ++ [(⟨f1, f2, f3⟩ : Hd)], true, by simp, by simp, rfl, by omega, by simp; omega, G, by first | exact ST6 | simpa using ST6⟩
          · have hq1 : (y1 != f1) = true := by simp [hq]
            have G : Aside ((hs.take (idx + 1)).foldl (stepP ⟨f1, f2, f3⟩) ([], false) = (l ++ [(⟨f1, f2, f3⟩ : Hd)] ++ [(⟨y1, y2, y3⟩ : Hd)], true)) := SG.out.trans (by simp [stepP, hq, hge])
            clear SG hq LY hge hge1
            have hown := ST6.out.2
            go_wp2_with (at_builtin; refine wpList_append_own _ rfl _ _ 23 rfl (w.heap.size + 1 + 1 + 1 + x.heap.size) 36 i0 _ 3 24 Try.underlying23 hi0 hz0 hs0 hb0 rfl (by omega) _ _ _ rfl (hown.alloc _) ⟨w6.heap.size, 0, none⟩ 1 1 [.int .i64 y1, .int .i64 y2, .int .i64 y3] rfl rfl (cells_new _ _ _ _ rfl) (hd_one ⟨y1, y2, y3⟩) (by unfold maxLen; omega) (by omega) (by first | (simp; omega) | (simp [size_plus]; omega)) ?_)
            intro v' w8 hown' hgrow _
            obtain ⟨ao8, cap8, rfl, hb8, ho8⟩ := app_stateB (U1 := (plus (((w.alloc (.cells #[.int .i64 cp, .slice ao bl.length c1, .slice (some ⟨gb, go, none⟩) n2 c2] 25)).alloc (.cells #[.int .i64 0, .slice none 0 0, .slice none 0 0] 25)).alloc (.cells #[.int .i64 f1, .int .i64 f2, .int .i64 f3] 36)) x)) (by simp [size_plus]) hd_len (by omega) (y := ⟨y1, y2, y3⟩) (ST6.out.1.alloc ST6.out.1.size _) (hown.alloc _) hown' hgrow
            have ST8 : Aside (Below (plus (((w.alloc (.cells #[.int .i64 cp, .slice ao bl.length c1, .slice (some ⟨gb, go, none⟩) n2 c2] 25)).alloc (.cells #[.int .i64 0, .slice none 0 0, .slice none 0 0] 25)).alloc (.cells #[.int .i64 f1, .int .i64 f2, .int .i64 f3] 36)) x).heap.size (plus (((w.alloc (.cells #[.int .i64 cp, .slice ao bl.length c1, .slice (some ⟨gb, go, none⟩) n2 c2] 25)).alloc (.cells #[.int .i64 0, .slice none 0 0, .slice none 0 0] 25)).alloc (.cells #[.int .i64 f1, .int .i64 f2, .int .i64 f3] 36)) x) w8 ∧ w8.ownsRow (w.heap.size + 1 + 1 + 1 + x.heap.size) 36 3 (.slice ao8 (l.length + 1 + 1) cap8) (l.length + 1 + 1) (flatE Hd.enc (l ++ [(⟨f1, f2, f3⟩ : Hd)] ++ [(⟨y1, y2, y3⟩ : Hd)]))) := ⟨hb8, ho8⟩
            clear hown' hgrow hb8 ho8 hown
            go_wp2
            go_roundg (n2 - (idx + 1))
            case measure => omega
            case rel => exact ⟨idx + 1, ao8, cap8, l ++ [(⟨f1, f2, f3⟩ : Hd)] ++ [(⟨y1, y2, y3⟩ : Hd)], true, by simp, by simp, rfl, by omega, by simp; omega, G, by first | exact ST8 | simpa using ST8⟩
        · have hge1 : decide (f1 ≤ y1) = false := decide_eq_false hge
          have hq1 : (y1 != f1) = true := by simp; omega
          have G : Aside ((hs.take (idx + 1)).foldl (stepP ⟨f1, f2, f3⟩) ([], false) = (l ++ [(⟨y1, y2, y3⟩ : Hd)], false)) := SG.out.trans (by simp [stepP, hge, show ¬ y1 = f1 by omega])
          clear SG LY hge
          have hown := ST.out.2
          go_wp2_with (at_builtin; refine wpList_append_own _ rfl _ _ 23 rfl (w.heap.size + 1 + 1 + 1 + x.heap.size) 36 i0 _ 3 24 Try.underlying23 hi0 hz0 hs0 hb0 rfl (by omega) _ _ _ rfl (hown.alloc _) ⟨wr.heap.size, 0, none⟩ 1 1 [.int .i64 y1, .int .i64 y2, .int .i64 y3] rfl rfl (cells_new _ _ _ _ rfl) (hd_one ⟨y1, y2, y3⟩) (by unfold maxLen; omega) (by omega) (by first | (simp; omega) | (simp [size_plus]; omega)) ?_)
          intro v' w6 hown' hgrow _
          obtain ⟨ao6, cap6, rfl, hb6, ho6⟩ := app_stateB (U1 := (plus (((w.alloc (.cells #[.int .i64 cp, .slice ao bl.length c1, .slice (some ⟨gb, go, none⟩) n2 c2] 25)).alloc (.cells #[.int .i64 0, .slice none 0 0, .slice none 0 0] 25)).alloc (.cells #[.int .i64 f1, .int .i64 f2, .int .i64 f3] 36)) x)) (by simp [size_plus]) hd_len (by omega) (y := ⟨y1, y2, y3⟩) (ST.out.1.alloc ST.out.1.size _) (hown.alloc _) hown' hgrow
          have ST6 : Aside (Below (plus (((w.alloc (.cells #[.int .i64 cp, .slice ao bl.length c1, .slice (some ⟨gb, go, none⟩) n2 c2] 25)).alloc (.cells #[.int .i64 0, .slice none 0 0, .slice none 0 0] 25)).alloc (.cells #[.int .i64 f1, .int .i64 f2, .int .i64 f3] 36)) x).heap.size (plus (((w.alloc (.cells #[.int .i64 cp, .slice ao bl.length c1, .slice (some ⟨gb, go, none⟩) n2 c2] 25)).alloc (.cells #[.int .i64 0, .slice none 0 0, .slice none 0 0] 25)).alloc (.cells #[.int .i64 f1, .int .i64 f2, .int .i64 f3] 36)) x) w6 ∧ w6.ownsRow (w.heap.size + 1 + 1 + 1 + x.heap.size) 36 3 (.slice ao6 (l.length + 1) cap6) (l.length + 1) (flatE Hd.enc (l ++ [(⟨y1, y2, y3⟩ : Hd)]))) := ⟨hb6, ho6⟩
          clear hown' hgrow hb6 ho6 hown
          go_wp2
          go_roundg (n2 - (idx + 1))
          case measure => omega
          case rel => exact ⟨idx + 1, ao6, cap6, l ++ [(⟨y1, y2, y3⟩ : Hd)], false, by simp, by simp, rfl, by omega, by simp; omega, G, by first | exact ST6 | simpa using ST6⟩
    · have hiz : ¬ (idx : Int) < (n2 : Int) := by omega
      have FE2 : Aside (hs.foldl (stepP ⟨f1, f2, f3⟩) ([], false) = (l, dn)) := by
        show _ = _
        rw [← FE.out, List.take_of_length_le (by have := HL2.out; omega)]
      have hle : l.length ≤ 2 * n2 := by omega
      clear FE
      have hsw : (w.heap.size + 1 + 1 + 1 + x.heap.size) ≤ wr.heap.size := by have := ST.out.1.size; rw [ZX] at this; exact this
      have b0 := (ST.out.1.cell (p := ⟨w.heap.size, 0, none⟩) (by rw [ZX]; show w.heap.size < _; omega)).trans (cell_heap (hp_plus (hp_old (hp_old (hp_new rfl)))) 0 _ rfl)
      have b1 := (ST.out.1.cell (p := ⟨w.heap.size, 1, none⟩) (by rw [ZX]; show w.heap.size < _; omega)).trans (cell_heap (hp_plus (hp_old (hp_old (hp_new rfl)))) 1 _ rfl)
      have b2 := (ST.out.1.cell (p := ⟨w.heap.size, 2, none⟩) (by rw [ZX]; show w.heap.size < _; omega)).trans (cell_heap (hp_plus (hp_old (hp_old (hp_new rfl)))) 2 _ rfl)
      have h0 := (ST.out.1.cell (p := ⟨w.heap.size + 1 + 1, 0, none⟩) (by rw [ZX]; show w.heap.size + 1 + 1 < _; omega)).trans (cell_heap (hp_plus (hp_new (by simp))) 0 _ rfl)
      have h1 := (ST.out.1.cell (p := ⟨w.heap.size + 1 + 1, 1, none⟩) (by rw [ZX]; show w.heap.size + 1 + 1 < _; omega)).trans (cell_heap (hp_plus (hp_new (by simp))) 1 _ rfl)
      have h2 := (ST.out.1.cell (p := ⟨w.heap.size + 1 + 1, 2, none⟩) (by rw [ZX]; show w.heap.size + 1 + 1 < _; omega)).trans (cell_heap (hp_plus (hp_new (by simp))) 2 _ rfl)
      cases dn with
      | true =>
        have E : l = pl := by rw [EH.out, FE2.out]; rfl
        subst E
        clear FE2 EH hsw b0 b1 b2 h0 h1 h2
        have hB3 : Below (((w.alloc (.cells #[.int .i64 cp, .slice ao bl.length c1, .slice (some ⟨gb, go, none⟩) n2 c2] 25)).alloc (.cells #[.int .i64 0, .slice none 0 0, .slice none 0 0] 25)).alloc (.cells #[.int .i64 f1, .int .i64 f2, .int .i64 f3] 36)).heap.size (((w.alloc (.cells #[.int .i64 cp, .slice ao bl.length c1, .slice (some ⟨gb, go, none⟩) n2 c2] 25)).alloc (.cells #[.int .i64 0, .slice none 0 0, .slice none 0 0] 25)).alloc (.cells #[.int .i64 f1, .int .i64 f2, .int .i64 f3] 36)) wr := (below_plus _ _).trans (ST.out.1.mono (below_plus _ _).size)
        have O2 : Aside (wr.ownsRow (w.heap.size + 1 + 1 + 1) 36 3 (.slice ao' l.length cap') l.length (flatE Hd.enc (l))) := own_lower ST.out.2 (by omega)
        obtain ⟨x3, hx⟩ := plus_of_below hB3
        subst hx
        clear ST HB1 ZX hB3 HC HL2
        go_wp2
        refine bodyPost_ret (v := .agg #[.int .i64 cp, .slice ao bl.length c1, .slice ao' l.length cap']) (by simp [results, Try.results41, go_sem, ↓IntWalk.iteOmega, *]) rfl ⟨ao, c1, ao', cap', rfl, HS1.out _ ?_, own_Sl hd_len (by omega) (own_past O2.out (by simp) (by simp)), ?_⟩
        · repeat (first | (with_reducible exact Below.refl _ _) | (with_reducible assumption) | (with_reducible refine below_to_plus ?_ ?_ _) | (with_reducible refine below_holds ?_ ?_ _ _) | (with_reducible refine Below.alloc ?_ ?_ _) | (with_reducible refine Below.drew ?_) | (with_reducible refine below_drewN ?_ _) | (with_reducible refine Below.setCell ?_ ?_ _))
          all_goals first | omega | (simp; done) | (simp [go_sem]; done) | (simp [go_sem]; omega)
        · repeat (first | (with_reducible exact Below.refl _ _) | (with_reducible assumption) | (with_reducible refine below_to_plus ?_ ?_ _) | (with_reducible refine below_holds ?_ ?_ _ _) | (with_reducible refine Below.alloc ?_ ?_ _) | (with_reducible refine Below.drew ?_) | (with_reducible refine below_drewN ?_ _) | (with_reducible refine Below.setCell ?_ ?_ _))
          all_goals first | omega | (simp; done) | (simp [go_sem]; done) | (simp [go_sem]; omega)
      | false =>
        have E : l ++ [(⟨f1, f2, f3⟩ : Hd)] = pl := by rw [EH.out, FE2.out]; rfl
        subst E
        clear FE2 EH
        have hown := ST.out.2
        go_wp2_with (at_builtin; refine wpList_append_own _ rfl _ _ 23 rfl (w.heap.size + 1 + 1 + 1 + x.heap.size) 36 i0 _ 3 24 Try.underlying23 hi0 hz0 hs0 hb0 rfl (by omega) _ _ _ rfl (hown.alloc _) ⟨wr.heap.size, 0, none⟩ 1 1 [.int .i64 f1, .int .i64 f2, .int .i64 f3] rfl rfl (cells_new _ _ _ _ rfl) (hd_one ⟨f1, f2, f3⟩) (by unfold maxLen; omega) (by omega) (by first | (simp; omega) | (simp [size_plus]; omega)) ?_)
        intro v' w6 hown' hgrow _
        obtain ⟨ao6, cap6, rfl, hb6, ho6⟩ := app_stateB (U1 := (plus (((w.alloc (.cells #[.int .i64 cp, .slice ao bl.length c1, .slice (some ⟨gb, go, none⟩) n2 c2] 25)).alloc (.cells #[.int .i64 0, .slice none 0 0, .slice none 0 0] 25)).alloc (.cells #[.int .i64 f1, .int .i64 f2, .int .i64 f3] 36)) x)) (by simp [size_plus]) hd_len (by omega) (y := ⟨f1, f2, f3⟩) (ST.out.1.alloc ST.out.1.size _) (hown.alloc _) hown' hgrow
        have ST6 : Aside (Below (plus (((w.alloc (.cells #[.int .i64 cp, .slice ao bl.length c1, .slice (some ⟨gb, go, none⟩) n2 c2] 25)).alloc (.cells #[.int .i64 0, .slice none 0 0, .slice none 0 0] 25)).alloc (.cells #[.int .i64 f1, .int .i64 f2, .int .i64 f3] 36)) x).heap.size (plus (((w.alloc (.cells #[.int .i64 cp, .slice ao bl.length c1, .slice (some ⟨gb, go, none⟩) n2 c2] 25)).alloc (.cells #[.int .i64 0, .slice none 0 0, .slice none 0 0] 25)).alloc (.cells #[.int .i64 f1, .int .i64 f2, .int .i64 f3] 36)) x) w6 ∧ w6.ownsRow (w.heap.size + 1 + 1 + 1 + x.heap.size) 36 3 (.slice ao6 (l.length + 1) cap6) (l.length + 1) (flatE Hd.enc (l ++ [(⟨f1, f2, f3⟩ : Hd)]))) := ⟨hb6, ho6⟩
        clear hown' hgrow hb6 ho6 hown
        clear hsw b0 b1 b2 h0 h1 h2
        have hlp : (l ++ [(⟨f1, f2, f3⟩ : Hd)]).length = l.length + 1 := by simp
        have hB3 : Below (((w.alloc (.cells #[.int .i64 cp, .slice ao bl.length c1, .slice (some ⟨gb, go, none⟩) n2 c2] 25)).alloc (.cells #[.int .i64 0, .slice none 0 0, .slice none 0 0] 25)).alloc (.cells #[.int .i64 f1, .int .i64 f2, .int .i64 f3] 36)).heap.size (((w.alloc (.cells #[.int .i64 cp, .slice ao bl.length c1, .slice (some ⟨gb, go, none⟩) n2 c2] 25)).alloc (.cells #[.int .i64 0, .slice none 0 0, .slice none 0 0] 25)).alloc (.cells #[.int .i64 f1, .int .i64 f2, .int .i64 f3] 36)) w6 := (below_plus _ _).trans (ST6.out.1.mono (below_plus _ _).size)
        have O2 : Aside (w6.ownsRow (w.heap.size + 1 + 1 + 1) 36 3 (.slice ao6 (l.length + 1) cap6) (l.length + 1) (flatE Hd.enc (l ++ [(⟨f1, f2, f3⟩ : Hd)]))) := own_lower ST6.out.2 (by omega)
        obtain ⟨x3, hx⟩ := plus_of_below hB3
        subst hx
        clear ST6 HB1 ZX hB3 HC HL2
        go_wp2
        refine bodyPost_ret (v := .agg #[.int .i64 cp, .slice ao bl.length c1, .slice ao6 (l.length + 1) cap6]) (by simp [results, Try.results41, go_sem, ↓IntWalk.iteOmega, *]) rfl ⟨ao, c1, ao6, cap6, by rw [hlp], HS1.out _ ?_, (by rw [hlp]; exact own_Sl hd_len (by omega) (own_past O2.out (by simp) (by simp))), ?_⟩
        · repeat (first | (with_reducible exact Below.refl _ _) | (with_reducible assumption) | (with_reducible refine below_to_plus ?_ ?_ _) | (with_reducible refine below_holds ?_ ?_ _ _) | (with_reducible refine Below.alloc ?_ ?_ _) | (with_reducible refine Below.drew ?_) | (with_reducible refine below_drewN ?_ _) | (with_reducible refine Below.setCell ?_ ?_ _))
          all_goals first | omega | (simp; done) | (simp [go_sem]; done) | (simp [go_sem]; omega)
        · repeat (first | (with_reducible exact Below.refl _ _) | (with_reducible assumption) | (with_reducible refine below_to_plus ?_ ?_ _) | (with_reducible refine below_holds ?_ ?_ _ _) | (with_reducible refine Below.alloc ?_ ?_ _) | (with_reducible refine Below.drew ?_) | (with_reducible refine below_drewN ?_ _) | (with_reducible refine Below.setCell ?_ ?_ _))
          all_goals first | omega | (simp; done) | (simp [go_sem]; done) | (simp [go_sem]; omega)

set_option maxRecDepth 20000 in
set_option maxHeartbeats 8000000 in
theorem rhold_other (cp : Int) (ao : Option Addr) (n c1 : Nat) (ao2 : Option Addr) (n2 c2 : Nat) (bl : List Pc) (hs : List Hd) (f1 f2 f3 : Int) (w : World) (h1 : Sl w 4 ao n c1 (bl.map Pc.enc)) (h2 : Sl w 3 ao2 n2 c2 (hs.map Hd.enc)) (hr : rangedB (⟨f1, f2, f3⟩ : Hd) = true) (hn2 : n2 ≤ 100000) (hn : n ≤ 1000000) {k : Nat} (hk : k < hs.length) (he : holdI f1 hs = (k : Int)) (hv : hs[k]!.vers ≠ f2) :
    Calls Try.prog 41 #[.agg #[.int .i64 cp, .slice ao n c1, .slice ao2 n2 c2], .int .i64 f1, .int .i64 f2, .int .i64 f3] w fun e w' => RPost w cp (bl.filter (fun y => !decide (y.pid = f1))) (putH ⟨f1, f2, f3⟩ hs) e w' := by
  obtain ⟨i0, hi0, hz0, hs0, hb0⟩ := hdInfo
  have hbig : n2 ≤ 9223372036854775807 := by omega
  have cr := fun U => ranged_calls f1 f2 f3 U
  rw [hr] at cr
  have H2 : Aside (Sl w 3 ao2 n2 c2 (hs.map Hd.enc)) := h2
  have ch := fun U (h : Below w.heap.size w U) => rhold_calls cp ao n c1 ao2 n2 c2 hs f1 U (H2.out.stays h)
  have HL2 : Aside (hs.length = n2) := Sl.lenE h2
  have HC : Aside (CellsHd w ao2 hs) := cellsHd h2
  have EH : Aside (putH ⟨f1, f2, f3⟩ hs = endPut ⟨f1, f2, f3⟩ (hs.foldl (stepP ⟨f1, f2, f3⟩) ([], false))) := rfl
  have HS1 : Aside (∀ w', Below w.heap.size w w' → Sl w' 4 ao bl.length c1 (bl.map Pc.enc)) := fun w' hb => by rw [Sl.lenE h1]; exact h1.stays hb
  obtain ⟨fl, hfl⟩ : ∃ fl, bl.filter (fun y => !decide (y.pid = f1)) = fl := ⟨_, rfl⟩
  have cd := fun U (h : Below w.heap.size w U) => rdrop_own cp ao n c1 ao2 n2 c2 bl hs f1 U (h1.stays h) (h2.stays h) hn
  rw [hfl] at cd ⊢
  clear hfl HS1
  obtain ⟨gb, go, ea, hgb, g0, g1, g2⟩ := (cellsHd h2) k hk
  subst ea
  rw [he] at ch
  have CD : Aside (∀ U, Below w.heap.size w U → _) := cd
  clear h1 h2 H2 hr he g0 g2 cd
  have hkn : k < n2 := by have := HL2.out; omega
  have hkz : (k : Int) < (n2 : Int) := by omega
  have vz : (hs[k]!.vers != f2) = true := bne_iff_ne.2 hv
  generalize hs[k]!.vers = v9 at g1 vz
  clear hv
  generalize putH ⟨f1, f2, f3⟩ hs = pl at EH ⊢
  go_enter Try.func41, Try.ntmps41
  go_wp2_with fail
  refine (cr _).mono ?_
  rintro e w1 ⟨rfl, hb⟩
  obtain ⟨x1, hx⟩ := plus_of_below hb
  subst hx
  clear cr hb
  have hB1 : Below w.heap.size w (plus (((w.alloc (.cells #[.int .i64 cp, .slice ao n c1, .slice (some ⟨gb, go, none⟩) n2 c2] 25)).alloc (.cells #[.int .i64 0, .slice none 0 0, .slice none 0 0] 25)).alloc (.cells #[.int .i64 f1, .int .i64 f2, .int .i64 f3] 36)) x1) := by
    repeat (first | (with_reducible exact Below.refl _ _) | (with_reducible assumption) | (with_reducible refine below_to_plus ?_ ?_ _) | (with_reducible refine below_holds ?_ ?_ _ _) | (with_reducible refine Below.alloc ?_ ?_ _) | (with_reducible refine Below.drew ?_) | (with_reducible refine below_drewN ?_ _) | (with_reducible refine Below.setCell ?_ ?_ _))
    all_goals first | omega | (simp; done) | (simp [go_sem]; done) | (simp [go_sem]; omega)
  have ck := ch _ hB1
  clear ch
  go_wp2_with fail
  refine ck.mono ?_
  rintro e w2 ⟨rfl, hb⟩
  have hB2 : Below (((w.alloc (.cells #[.int .i64 cp, .slice ao n c1, .slice (some ⟨gb, go, none⟩) n2 c2] 25)).alloc (.cells #[.int .i64 0, .slice none 0 0, .slice none 0 0] 25)).alloc (.cells #[.int .i64 f1, .int .i64 f2, .int .i64 f3] 36)).heap.size (((w.alloc (.cells #[.int .i64 cp, .slice ao n c1, .slice (some ⟨gb, go, none⟩) n2 c2] 25)).alloc (.cells #[.int .i64 0, .slice none 0 0, .slice none 0 0] 25)).alloc (.cells #[.int .i64 f1, .int .i64 f2, .int .i64 f3] 36)) w2 := (below_plus _ _).trans (hb.mono (below_plus _ _).size)
  obtain ⟨x, hx⟩ := plus_of_below hB2
  subst hx
  clear ck hb hB1 hB2
  have hB0 : Below w.heap.size w (plus (((w.alloc (.cells #[.int .i64 cp, .slice ao n c1, .slice (some ⟨gb, go, none⟩) n2 c2] 25)).alloc (.cells #[.int .i64 0, .slice none 0 0, .slice none 0 0] 25)).alloc (.cells #[.int .i64 f1, .int .i64 f2, .int .i64 f3] 36)) x) := by
    repeat (first | (with_reducible exact Below.refl _ _) | (with_reducible assumption) | (with_reducible refine below_to_plus ?_ ?_ _) | (with_reducible refine below_holds ?_ ?_ _ _) | (with_reducible refine Below.alloc ?_ ?_ _) | (with_reducible refine Below.drew ?_) | (with_reducible refine below_drewN ?_ _) | (with_reducible refine Below.setCell ?_ ?_ _))
    all_goals first | omega | (simp; done) | (simp [go_sem]; done) | (simp [go_sem]; omega)
  have m1 := (hB0.cell (p := ⟨gb, go + k * 3 + 1, none⟩) hgb).trans g1
  have hgx : gb < (plus (((w.alloc (.cells #[.int .i64 cp, .slice ao n c1, .slice (some ⟨gb, go, none⟩) n2 c2] 25)).alloc (.cells #[.int .i64 0, .slice none 0 0, .slice none 0 0] 25)).alloc (.cells #[.int .i64 f1, .int .i64 f2, .int .i64 f3] 36)) x).heap.size := Nat.lt_of_lt_of_le hgb hB0.size
  have ck := CD.out _ hB0
  clear g1 CD
  go_wp2_with fail
  refine ck.mono ?_
  rintro e w2 ⟨a1, k1, rfl, o1, hb⟩
  have hB2 : Below (((w.alloc (.cells #[.int .i64 cp, .slice ao n c1, .slice (some ⟨gb, go, none⟩) n2 c2] 25)).alloc (.cells #[.int .i64 0, .slice none 0 0, .slice none 0 0] 25)).alloc (.cells #[.int .i64 f1, .int .i64 f2, .int .i64 f3] 36)).heap.size (((w.alloc (.cells #[.int .i64 cp, .slice ao n c1, .slice (some ⟨gb, go, none⟩) n2 c2] 25)).alloc (.cells #[.int .i64 0, .slice none 0 0, .slice none 0 0] 25)).alloc (.cells #[.int .i64 f1, .int .i64 f2, .int .i64 f3] 36)) w2 := (below_plus _ _).trans (hb.mono (below_plus _ _).size)
  have O0 : Aside (w2.ownsRow (w.heap.size + 1 + 1 + 1) 47 4 (.slice a1 fl.length k1) fl.length (flatE Pc.enc fl)) := own_lower o1 (by have := (below_plus (((w.alloc (.cells #[.int .i64 cp, .slice ao n c1, .slice (some ⟨gb, go, none⟩) n2 c2] 25)).alloc (.cells #[.int .i64 0, .slice none 0 0, .slice none 0 0] 25)).alloc (.cells #[.int .i64 f1, .int .i64 f2, .int .i64 f3] 36)) x).size; simpa using this)
  clear ck hb hB0 m1 hgx o1
  obtain ⟨x9, hx⟩ := plus_of_below hB2
  subst hx
  clear hB2
  have O1 : Aside ((plus (((w.alloc (.cells #[.int .i64 cp, .slice a1 fl.length k1, .slice (some ⟨gb, go, none⟩) n2 c2] 25)).alloc (.cells #[.int .i64 0, .slice none 0 0, .slice none 0 0] 25)).alloc (.cells #[.int .i64 f1, .int .i64 f2, .int .i64 f3] 36)) x9).ownsRow (w.heap.size + 1 + 1 + 1) 47 4 (.slice a1 fl.length k1) fl.length (flatE Pc.enc fl)) := own_past O0.out (by simp) (by simp)
  clear O0
  go_wp2
  have HB1 : Below w.heap.size w (plus (((w.alloc (.cells #[.int .i64 cp, .slice a1 fl.length k1, .slice (some ⟨gb, go, none⟩) n2 c2] 25)).alloc (.cells #[.int .i64 0, .slice none 0 0, .slice none 0 0] 25)).alloc (.cells #[.int .i64 f1, .int .i64 f2, .int .i64 f3] 36)) x9) := by
    repeat (first | (with_reducible exact Below.refl _ _) | (with_reducible assumption) | (with_reducible refine below_to_plus ?_ ?_ _) | (with_reducible refine below_holds ?_ ?_ _ _) | (with_reducible refine Below.alloc ?_ ?_ _) | (with_reducible refine Below.drew ?_) | (with_reducible refine below_drewN ?_ _) | (with_reducible refine Below.setCell ?_ ?_ _))
    all_goals first | omega | (simp; done) | (simp [go_sem]; done) | (simp [go_sem]; omega)
  have ZX : (plus (((w.alloc (.cells #[.int .i64 cp, .slice a1 fl.length k1, .slice (some ⟨gb, go, none⟩) n2 c2] 25)).alloc (.cells #[.int .i64 0, .slice none 0 0, .slice none 0 0] 25)).alloc (.cells #[.int .i64 f1, .int .i64 f2, .int .i64 f3] 36)) x9).heap.size = (w.heap.size + 1 + 1 + 1 + x9.heap.size) := by simp [size_plus]
  go_loopg [11, 12, 52] n2 (fun k s11 s12 s52 wr => ∃ (idx : Nat) (ao' : Option Addr) (cap' : Nat) (l : List Hd) (dn : Bool), s52 = .int .i64 (idx : Int) ∧ s11 = .slice ao' l.length cap' ∧ s12 = .bool dn ∧ k + idx = n2 ∧ l.length ≤ 2 * idx ∧ Aside ((hs.take idx).foldl (stepP ⟨f1, f2, f3⟩) ([], false) = (l, dn)) ∧ Aside (Below (plus (((w.alloc (.cells #[.int .i64 cp, .slice a1 fl.length k1, .slice (some ⟨gb, go, none⟩) n2 c2] 25)).alloc (.cells #[.int .i64 0, .slice none 0 0, .slice none 0 0] 25)).alloc (.cells #[.int .i64 f1, .int .i64 f2, .int .i64 f3] 36)) x9).heap.size (plus (((w.alloc (.cells #[.int .i64 cp, .slice a1 fl.length k1, .slice (some ⟨gb, go, none⟩) n2 c2] 25)).alloc (.cells #[.int .i64 0, .slice none 0 0, .slice none 0 0] 25)).alloc (.cells #[.int .i64 f1, .int .i64 f2, .int .i64 f3] 36)) x9) wr ∧ wr.ownsRow (w.heap.size + 1 + 1 + 1 + x9.heap.size) 36 3 (.slice ao' l.length cap') l.length (flatE Hd.enc l)))
  case atStart => exact ⟨0, none, 0, [], false, rfl, rfl, rfl, by omega, by simp, rfl, Below.refl _ _, World.ownsRow_nil _ _ _ _⟩
  case round =>
    obtain ⟨idx, ao', cap', l, dn, rfl, rfl, rfl, hk, hm, FE, ST⟩ := hrel
    by_cases hi : idx < n2
    · have hiz : (idx : Int) < (n2 : Int) := by omega
      have hix : idx < hs.length := by have := HL2.out; omega
      obtain ⟨b9, off9, e9, hbw, q0, q1, q2⟩ := HC.out idx hix
      cases e9
      have LY : Aside (∀ i, i < 3 → w.cell? ⟨gb, go + idx * 3 + i, none⟩ = hs[idx]!.enc[i]?) := fun i hi => by
        match i, hi with
        | 0, _ => exact q0
        | 1, _ => exact q1
        | 2, _ => exact q2
      clear q0 q1 q2
      have hsw : (w.heap.size + 1 + 1 + 1 + x9.heap.size) ≤ wr.heap.size := by have := ST.out.1.size; rw [ZX] at this; exact this
      have hBr : Below w.heap.size w wr := HB1.trans (ST.out.1.mono HB1.size)
      have hbr : gb < wr.heap.size := Nat.lt_of_lt_of_le hbw hBr.size
      have l0 : wr.cell? ⟨gb, go + idx * 3, none⟩ = some (.int .i64 hs[idx]!.hid) := (hBr.cell (p := ⟨gb, go + idx * 3, none⟩) hbw).trans (LY.out 0 (by omega))
      have l1 : wr.cell? ⟨gb, go + idx * 3 + 1, none⟩ = some (.int .i64 hs[idx]!.vers) := (hBr.cell (p := ⟨gb, go + idx * 3 + 1, none⟩) hbw).trans (LY.out 1 (by omega))
      have l2 : wr.cell? ⟨gb, go + idx * 3 + 2, none⟩ = some (.int .i64 hs[idx]!.til) := (hBr.cell (p := ⟨gb, go + idx * 3 + 2, none⟩) hbw).trans (LY.out 2 (by omega))
      have b0 := (ST.out.1.cell (p := ⟨w.heap.size, 0, none⟩) (by rw [ZX]; show w.heap.size < _; omega)).trans (cell_heap (hp_plus (hp_old (hp_old (hp_new rfl)))) 0 _ rfl)
      have b1 := (ST.out.1.cell (p := ⟨w.heap.size, 1, none⟩) (by rw [ZX]; show w.heap.size < _; omega)).trans (cell_heap (hp_plus (hp_old (hp_old (hp_new rfl)))) 1 _ rfl)
      have b2 := (ST.out.1.cell (p := ⟨w.heap.size, 2, none⟩) (by rw [ZX]; show w.heap.size < _; omega)).trans (cell_heap (hp_plus (hp_old (hp_old (hp_new rfl)))) 2 _ rfl)
      have h0 := (ST.out.1.cell (p := ⟨w.heap.size + 1 + 1, 0, none⟩) (by rw [ZX]; show w.heap.size + 1 + 1 < _; omega)).trans (cell_heap (hp_plus (hp_new (by simp))) 0 _ rfl)
      have h1 := (ST.out.1.cell (p := ⟨w.heap.size + 1 + 1, 1, none⟩) (by rw [ZX]; show w.heap.size + 1 + 1 < _; omega)).trans (cell_heap (hp_plus (hp_new (by simp))) 1 _ rfl)
      have h2 := (ST.out.1.cell (p := ⟨w.heap.size + 1 + 1, 2, none⟩) (by rw [ZX]; show w.heap.size + 1 + 1 < _; omega)).trans (cell_heap (hp_plus (hp_new (by simp))) 2 _ rfl)
      have SG : Aside ((hs.take (idx + 1)).foldl (stepP ⟨f1, f2, f3⟩) ([], false) = stepP ⟨f1, f2, f3⟩ (l, dn) hs[idx]!) := by
        show _ = _
        rw [fold_take _ _ hs idx hix, FE.out]
      clear HC FE EH
      generalize hs[idx]! = y at l0 l1 l2 LY SG
      obtain ⟨y1, y2, y3⟩ := y
      simp only [] at l0 l1 l2
      cases dn with
      | true =>
        by_cases hq : y1 = f1
        · have hq1 : (y1 != f1) = false := by simp [hq]
          have G : Aside ((hs.take (idx + 1)).foldl (stepP ⟨f1, f2, f3⟩) ([], false) = (l, true)) := SG.out.trans (by simp [stepP, hq])
          clear SG hq LY
          go_wp2
          go_roundg (n2 - (idx + 1))
          case measure => omega
          case rel => exact ⟨idx + 1, ao', cap', l, true, by simp, rfl, rfl, by omega, by omega, G, ST⟩
        · have hq1 : (y1 != f1) = true := by simp [hq]
          have G : Aside ((hs.take (idx + 1)).foldl (stepP ⟨f1, f2, f3⟩) ([], false) = (l ++ [(⟨y1, y2, y3⟩ : Hd)], true)) := SG.out.trans (by simp [stepP, hq])
          clear SG hq LY
          have hown := ST.out.2
          go_wp2_with (at_builtin; refine wpList_append_own _ rfl _ _ 23 rfl (w.heap.size + 1 + 1 + 1 + x9.heap.size) 36 i0 _ 3 24 Try.underlying23 hi0 hz0 hs0 hb0 rfl (by omega) _ _ _ rfl (hown.alloc _) ⟨wr.heap.size, 0, none⟩ 1 1 [.int .i64 y1, .int .i64 y2, .int .i64 y3] rfl rfl (cells_new _ _ _ _ rfl) (hd_one ⟨y1, y2, y3⟩) (by unfold maxLen; omega) (by omega) (by first | (simp; omega) | (simp [size_plus]; omega)) ?_)
          intro v' w6 hown' hgrow _
          obtain ⟨ao6, cap6, rfl, hb6, ho6⟩ := app_stateB (U1 := (plus (((w.alloc (.cells #[.int .i64 cp, .slice a1 fl.length k1, .slice (some ⟨gb, go, none⟩) n2 c2] 25)).alloc (.cells #[.int .i64 0, .slice none 0 0, .slice none 0 0] 25)).alloc (.cells #[.int .i64 f1, .int .i64 f2, .int .i64 f3] 36)) x9)) (by simp [size_plus]) hd_len (by omega) (y := ⟨y1, y2, y3⟩) (ST.out.1.alloc ST.out.1.size _) (hown.alloc _) hown' hgrow
          have ST6 : Aside (Below (plus (((w.alloc (.cells #[.int .i64 cp, .slice a1 fl.length k1, .slice (some ⟨gb, go, none⟩) n2 c2] 25)).alloc (.cells #[.int .i64 0, .slice none 0 0, .slice none 0 0] 25)).alloc (.cells #[.int .i64 f1, .int .i64 f2, .int .i64 f3] 36)) x9).heap.size (plus (((w.alloc (.cells #[.int .i64 cp, .slice a1 fl.length k1, .slice (some ⟨gb, go, none⟩) n2 c2] 25)).alloc (.cells #[.int .i64 0, .slice none 0 0, .slice none 0 0] 25)).alloc (.cells #[.int .i64 f1, .int .i64 f2, .int .i64 f3] 36)) x9) w6 ∧ w6.ownsRow (w.heap.size + 1 + 1 + 1 + x9.heap.size) 36 3 (.slice ao6 (l.length + 1) cap6) (l.length + 1) (flatE Hd.enc (l ++ [(⟨y1, y2, y3⟩ : Hd)]))) := ⟨hb6, ho6⟩
          clear hown' hgrow hb6 ho6 hown
          go_wp2
          go_roundg (n2 - (idx + 1))
          case measure => omega
          case rel => exact ⟨idx + 1, ao6, cap6, l ++ [(⟨y1, y2, y3⟩ : Hd)], true, by simp, by simp, rfl, by omega, by simp; omega, G, by first | exact ST6 | simpa using ST6⟩
      | false =>
        by_cases hge : f1 ≤ y1
        · have hge1 : decide (f1 ≤ y1) = true := decide_eq_true hge
          have hown := ST.out.2
          go_wp2_with (at_builtin; refine wpList_append_own _ rfl _ _ 23 rfl (w.heap.size + 1 + 1 + 1 + x9.heap.size) 36 i0 _ 3 24 Try.underlying23 hi0 hz0 hs0 hb0 rfl (by omega) _ _ _ rfl (hown.alloc _) ⟨wr.heap.size, 0, none⟩ 1 1 [.int .i64 f1, .int .i64 f2, .int .i64 f3] rfl rfl (cells_new _ _ _ _ rfl) (hd_one ⟨f1, f2, f3⟩) (by unfold maxLen; omega) (by omega) (by first | (simp; omega) | (simp [size_plus]; omega)) ?_)
          intro v' w6 hown' hgrow _
          obtain ⟨ao6, cap6, rfl, hb6, ho6⟩ := app_stateB (U1 := (plus (((w.alloc (.cells #[.int .i64 cp, .slice a1 fl.length k1, .slice (some ⟨gb, go, none⟩) n2 c2] 25)).alloc (.cells #[.int .i64 0, .slice none 0 0, .slice none 0 0] 25)).alloc (.cells #[.int .i64 f1, .int .i64 f2, .int .i64 f3] 36)) x9)) (by simp [size_plus]) hd_len (by omega) (y := ⟨f1, f2, f3⟩) (ST.out.1.alloc ST.out.1.size _) (hown.alloc _) hown' hgrow
          have ST6 : Aside (Below (plus (((w.alloc (.cells #[.int .i64 cp, .slice a1 fl.length k1, .slice (some ⟨gb, go, none⟩) n2 c2] 25)).alloc (.cells #[.int .i64 0, .slice none 0 0, .slice none 0 0] 25)).alloc (.cells #[.int .i64 f1, .int .i64 f2, .int .i64 f3] 36)) x9).heap.size (plus (((w.alloc (.cells #[.int .i64 cp, .slice a1 fl.length k1, .slice (some ⟨gb, go, none⟩) n2 c2] 25)).alloc (.cells #[.int .i64 0, .slice none 0 0, .slice none 0 0] 25)).alloc (.cells #[.int .i64 f1, .int .i64 f2, .int .i64 f3] 36)) x9) w6 ∧ w6.ownsRow (w.heap.size + 1 + 1 + 1 + x9.heap.size) 36 3 (.slice ao6 (l.length + 1) cap6) (l.length + 1) (flatE Hd.enc (l ++ [(⟨f1, f2, f3⟩ : Hd)]))) := ⟨hb6, ho6⟩
          clear hown' hgrow hb6 ho6 hown
          clear hsw hBr hbr l0 l1 l2 b0 b1 b2 h0 h1 h2
          have hsw : (w.heap.size + 1 + 1 + 1 + x9.heap.size) ≤ w6.heap.size := by have := ST6.out.1.size; rw [ZX] at this; exact this
          have hBr : Below w.heap.size w w6 := HB1.trans (ST6.out.1.mono HB1.size)
          have hbr : gb < w6.heap.size := Nat.lt_of_lt_of_le hbw hBr.size
          have l0 : w6.cell? ⟨gb, go + idx * 3, none⟩ = some (.int .i64 y1) := (hBr.cell (p := ⟨gb, go + idx * 3, none⟩) hbw).trans (LY.out 0 (by omega))
          have l1 : w6.cell? ⟨gb, go + idx * 3 + 1, none⟩ = some (.int .i64 y2) := (hBr.cell (p := ⟨gb, go + idx * 3 + 1, none⟩) hbw).trans (LY.out 1 (by omega))
          have l2 : w6.cell? ⟨gb, go + idx * 3 + 2, none⟩ = some (.int .i64 y3) := (hBr.cell (p := ⟨gb, go + idx * 3 + 2, none⟩) hbw).trans (LY.out 2 (by omega))
          have b0 := (ST6.out.1.cell (p := ⟨w.heap.size, 0, none⟩) (by rw [ZX]; show w.heap.size < _; omega)).trans (cell_heap (hp_plus (hp_old (hp_old (hp_new rfl)))) 0 _ rfl)
          have b1 := (ST6.out.1.cell (p := ⟨w.heap.size, 1, none⟩) (by rw [ZX]; show w.heap.size < _; omega)).trans (cell_heap (hp_plus (hp_old (hp_old (hp_new rfl)))) 1 _ rfl)
          have b2 := (ST6.out.1.cell (p := ⟨w.heap.size, 2, none⟩) (by rw [ZX]; show w.heap.size < _; omega)).trans (cell_heap (hp_plus (hp_old (hp_old (hp_new rfl)))) 2 _ rfl)
          have h0 := (ST6.out.1.cell (p := ⟨w.heap.size + 1 + 1, 0, none⟩) (by rw [ZX]; show w.heap.size + 1 + 1 < _; omega)).trans (cell_heap (hp_plus (hp_new (by simp))) 0 _ rfl)
          have h1 := (ST6.out.1.cell (p := ⟨w.heap.size + 1 + 1, 1, none⟩) (by rw [ZX]; show w.heap.size + 1 + 1 < _; omega)).trans (cell_heap (hp_plus (hp_new (by simp))) 1 _ rfl)
          have h2 := (ST6.out.1.cell (p := ⟨w.heap.size + 1 + 1, 2, none⟩) (by rw [ZX]; show w.heap.size + 1 + 1 < _; omega)).trans (cell_heap (hp_plus (hp_new (by simp))) 2 _ rfl)
          by_cases hq : y1 = f1
          · have hq1 : (y1 != f1) = false := by simp [hq]
            have G : Aside ((hs.take (idx + 1)).foldl (stepP ⟨f1, f2, f3⟩) ([], false) = (l ++ [(⟨f1, f2, f3⟩ : Hd)], true)) := SG.out.trans (by simp [stepP, hq])
            clear SG hq LY hge hge1
            go_wp2
            go_roundg (n2 - (idx + 1))
            case measure => omega
            case rel => exact ⟨idx + 1, ao6, cap6, l ++ [(⟨f1, f2, f3⟩ : Hd)], true, by simp, by simp, rfl, by omega, by simp; omega, G, by first | exact ST6 | simpa using ST6⟩
          · have hq1 : (y1 != f1) = true := by simp [hq]
            have G : Aside ((hs.take (idx + 1)).foldl (stepP ⟨f1, f2, f3⟩) ([], false) = (l ++ [(⟨f1, f2, f3⟩ : Hd)] ++ [(⟨y1, y2, y3⟩ : Hd)], true)) := SG.out.trans (by simp [stepP, hq, hge])
            clear SG hq LY hge hge1
            have hown := ST6.out.2
            go_wp2_with (at_builtin; refine wpList_append_own _ rfl _ _ 23 rfl (w.heap.size + 1 + 1 + 1 + x9.heap.size) 36 i0 _ 3 24 Try.underlying23 hi0 hz0 hs0 hb0 rfl (by omega) _ _ _ rfl (hown.alloc _) ⟨w6.heap.size, 0, none⟩ 1 1 [.int .i64 y1, .int .i64 y2, .int .i64 y3] rfl rfl (cells_new _ _ _ _ rfl) (hd_one ⟨y1, y2, y3⟩) (by unfold maxLen; omega) (by omega) (by first | (simp; omega) | (simp [size_plus]; omega)) ?_)
            intro v' w8 hown' hgrow _
            obtain ⟨ao8, cap8, rfl, hb8, ho8⟩ := app_stateB (U1 := (plus (((w.alloc (.cells #[.int .i64 cp, .slice a1 fl.length k1, .slice (some ⟨gb, go, none⟩) n2 c2] 25)).alloc (.cells #[.int .i64 0, .slice none 0 0, .slice none 0 0] 25)).alloc (.cells #[.int .i64 f1, .int .i64 f2, .int .i64 f3] 36)) x9)) (by simp [size_plus]) hd_len (by omega) (y := ⟨y1, y2, y3⟩) (ST6.out.1.alloc ST6.out.1.size _) (hown.alloc _) hown' hgrow
            have ST8 : Aside (Below (plus (((w.alloc (.cells #[.int .i64 cp, .slice a1 fl.length k1, .slice (some ⟨gb, go, none⟩) n2 c2] 25)).alloc (.cells #[.int .i64 0, .slice none 0 0, .slice none 0 0] 25)).alloc (.cells #[.int .i64 f1, .int .i64 f2, .int .i64 f3] 36)) x9).heap.size (plus (((w.alloc (.cells #[.int .i64 cp, .slice a1 fl.length k1, .slice (some ⟨gb, go, none⟩) n2 c2] 25)).alloc (.cells #[.int .i64 0, .slice none 0 0, .slice none 0 0] 25)).alloc (.cells #[.int .i64 f1, .int .i64 f2, .int .i64 f3] 36)) x9) w8 ∧ w8.ownsRow (w.heap.size + 1 + 1 + 1 + x9.heap.size) 36 3 (.slice ao8 (l.length + 1 + 1) cap8) (l.length + 1 + 1) (flatE Hd.enc (l ++ [(⟨f1, f2, f3⟩ : Hd)] ++ [(⟨y1, y2, y3⟩ : Hd)]))) := ⟨hb8, ho8⟩
            clear hown' hgrow hb8 ho8 hown
            go_wp2
            go_roundg (n2 - (idx + 1))
            case measure => omega
            case rel => exact ⟨idx + 1, ao8, cap8, l ++ [(⟨f1, f2, f3⟩ : Hd)] ++ [(⟨y1, y2, y3⟩ : Hd)], true, by simp, by simp, rfl, by omega, by simp; omega, G, by first | exact ST8 | simpa using ST8⟩
        · have hge1 : decide (f1 ≤ y1) = false := decide_eq_false hge
          have hq1 : (y1 != f1) = true := by simp; omega
          have G : Aside ((hs.take (idx + 1)).foldl (stepP ⟨f1, f2, f3⟩) ([], false) = (l ++ [(⟨y1, y2, y3⟩ : Hd)], false)) := SG.out.trans (by simp [stepP, hge, show ¬ y1 = f1 by omega])
          clear SG LY hge
          have hown := ST.out.2
          go_wp2_with (at_builtin; refine wpList_append_own _ rfl _ _ 23 rfl (w.heap.size + 1 + 1 + 1 + x9.heap.size) 36 i0 _ 3 24 Try.underlying23 hi0 hz0 hs0 hb0 rfl (by omega) _ _ _ rfl (hown.alloc _) ⟨wr.heap.size, 0, none⟩ 1 1 [.int .i64 y1, .int .i64 y2, .int .i64 y3] rfl rfl (cells_new _ _ _ _ rfl) (hd_one ⟨y1, y2, y3⟩) (by unfold maxLen; omega) (by omega) (by first | (simp; omega) | (simp [size_plus]; omega)) ?_)
          intro v' w6 hown' hgrow _
          obtain ⟨ao6, cap6, rfl, hb6, ho6⟩ := app_stateB (U1 := (plus (((w.alloc (.cells #[.int .i64 cp, .slice a1 fl.length k1, .slice (some ⟨gb, go, none⟩) n2 c2] 25)).alloc (.cells #[.int .i64 0, .slice none 0 0, .slice none 0 0] 25)).alloc (.cells #[.int .i64 f1, .int .i64 f2, .int .i64 f3] 36)) x9)) (by simp [size_plus]) hd_len (by omega) (y := ⟨y1, y2, y3⟩) (ST.out.1.alloc ST.out.1.size _) (hown.alloc _) hown' hgrow
          have ST6 : Aside (Below (plus (((w.alloc (.cells #[.int .i64 cp, .slice a1 fl.length k1, .slice (some ⟨gb, go, none⟩) n2 c2] 25)).alloc (.cells #[.int .i64 0, .slice none 0 0, .slice none 0 0] 25)).alloc (.cells #[.int .i64 f1, .int .i64 f2, .int .i64 f3] 36)) x9).heap.size (plus (((w.alloc (.cells #[.int .i64 cp, .slice a1 fl.length k1, .slice (some ⟨gb, go, none⟩) n2 c2] 25)).alloc (.cells #[.int .i64 0, .slice none 0 0, .slice none 0 0] 25)).alloc (.cells #[.int .i64 f1, .int .i64 f2, .int .i64 f3] 36)) x9) w6 ∧ w6.ownsRow (w.heap.size + 1 + 1 + 1 + x9.heap.size) 36 3 (.slice ao6 (l.length + 1) cap6) (l.length + 1) (flatE Hd.enc (l ++ [(⟨y1, y2, y3⟩ : Hd)]))) := ⟨hb6, ho6⟩
          clear hown' hgrow hb6 ho6 hown
          go_wp2
          go_roundg (n2 - (idx + 1))
          case measure => omega
          case rel => exact ⟨idx + 1, ao6, cap6, l ++ [(⟨y1, y2, y3⟩ : Hd)], false, by simp, by simp, rfl, by omega, by simp; omega, G, by first | exact ST6 | simpa using ST6⟩
    · have hiz : ¬ (idx : Int) < (n2 : Int) := by omega
      have FE2 : Aside (hs.foldl (stepP ⟨f1, f2, f3⟩) ([], false) = (l, dn)) := by
        show _ = _
        rw [← FE.out, List.take_of_length_le (by have := HL2.out; omega)]
      have hle : l.length ≤ 2 * n2 := by omega
      clear FE
      have hsw : (w.heap.size + 1 + 1 + 1 + x9.heap.size) ≤ wr.heap.size := by have := ST.out.1.size; rw [ZX] at this; exact this
      have b0 := (ST.out.1.cell (p := ⟨w.heap.size, 0, none⟩) (by rw [ZX]; show w.heap.size < _; omega)).trans (cell_heap (hp_plus (hp_old (hp_old (hp_new rfl)))) 0 _ rfl)
      have b1 := (ST.out.1.cell (p := ⟨w.heap.size, 1, none⟩) (by rw [ZX]; show w.heap.size < _; omega)).trans (cell_heap (hp_plus (hp_old (hp_old (hp_new rfl)))) 1 _ rfl)
      have b2 := (ST.out.1.cell (p := ⟨w.heap.size, 2, none⟩) (by rw [ZX]; show w.heap.size < _; omega)).trans (cell_heap (hp_plus (hp_old (hp_old (hp_new rfl)))) 2 _ rfl)
      have h0 := (ST.out.1.cell (p := ⟨w.heap.size + 1 + 1, 0, none⟩) (by rw [ZX]; show w.heap.size + 1 + 1 < _; omega)).trans (cell_heap (hp_plus (hp_new (by simp))) 0 _ rfl)
      have h1 := (ST.out.1.cell (p := ⟨w.heap.size + 1 + 1, 1, none⟩) (by rw [ZX]; show w.heap.size + 1 + 1 < _; omega)).trans (cell_heap (hp_plus (hp_new (by simp))) 1 _ rfl)
      have h2 := (ST.out.1.cell (p := ⟨w.heap.size + 1 + 1, 2, none⟩) (by rw [ZX]; show w.heap.size + 1 + 1 < _; omega)).trans (cell_heap (hp_plus (hp_new (by simp))) 2 _ rfl)
      cases dn with
      | true =>
        have E : l = pl := by rw [EH.out, FE2.out]; rfl
        subst E
        clear FE2 EH hsw b0 b1 b2 h0 h1 h2
        have hB3 : Below (((w.alloc (.cells #[.int .i64 cp, .slice a1 fl.length k1, .slice (some ⟨gb, go, none⟩) n2 c2] 25)).alloc (.cells #[.int .i64 0, .slice none 0 0, .slice none 0 0] 25)).alloc (.cells #[.int .i64 f1, .int .i64 f2, .int .i64 f3] 36)).heap.size (((w.alloc (.cells #[.int .i64 cp, .slice a1 fl.length k1, .slice (some ⟨gb, go, none⟩) n2 c2] 25)).alloc (.cells #[.int .i64 0, .slice none 0 0, .slice none 0 0] 25)).alloc (.cells #[.int .i64 f1, .int .i64 f2, .int .i64 f3] 36)) wr := (below_plus _ _).trans (ST.out.1.mono (below_plus _ _).size)
        have O2 : Aside (wr.ownsRow (w.heap.size + 1 + 1 + 1) 36 3 (.slice ao' l.length cap') l.length (flatE Hd.enc (l))) := own_lower ST.out.2 (by omega)
        have O3 : Aside (wr.ownsRow (w.heap.size + 1 + 1 + 1) 47 4 (.slice a1 fl.length k1) fl.length (flatE Pc.enc fl)) := own_from O1.out ST.out.1
        obtain ⟨x3, hx⟩ := plus_of_below hB3
        subst hx
        clear ST HB1 ZX hB3 HC HL2
        go_wp2
        refine bodyPost_ret (v := .agg #[.int .i64 cp, .slice a1 fl.length k1, .slice ao' l.length cap']) (by simp [results, Try.results41, go_sem, ↓IntWalk.iteOmega, *]) rfl ⟨a1, k1, ao', cap', rfl, own_Sl pc_len (by omega) (own_past O3.out (by simp) (by simp)), own_Sl hd_len (by omega) (own_past O2.out (by simp) (by simp)), ?_⟩
        repeat (first | (with_reducible exact Below.refl _ _) | (with_reducible assumption) | (with_reducible refine below_to_plus ?_ ?_ _) | (with_reducible refine below_holds ?_ ?_ _ _) | (with_reducible refine Below.alloc ?_ ?_ _) | (with_reducible refine Below.drew ?_) | (with_reducible refine below_drewN ?_ _) | (with_reducible refine Below.setCell ?_ ?_ _))
        all_goals first | omega | (simp; done) | (simp [go_sem]; done) | (simp [go_sem]; omega)
      | false =>
        have E : l ++ [(⟨f1, f2, f3⟩ : Hd)] = pl := by rw [EH.out, FE2.out]; rfl
        subst E
        clear FE2 EH
        have hown := ST.out.2
        go_wp2_with (at_builtin; refine wpList_append_own _ rfl _ _ 23 rfl (w.heap.size + 1 + 1 + 1 + x9.heap.size) 36 i0 _ 3 24 Try.underlying23 hi0 hz0 hs0 hb0 rfl (by omega) _ _ _ rfl (hown.alloc _) ⟨wr.heap.size, 0, none⟩ 1 1 [.int .i64 f1, .int .i64 f2, .int .i64 f3] rfl rfl (cells_new _ _ _ _ rfl) (hd_one ⟨f1, f2, f3⟩) (by unfold maxLen; omega) (by omega) (by first | (simp; omega) | (simp [size_plus]; omega)) ?_)
        intro v' w6 hown' hgrow _
        obtain ⟨ao6, cap6, rfl, hb6, ho6⟩ := app_stateB (U1 := (plus (((w.alloc (.cells #[.int .i64 cp, .slice a1 fl.length k1, .slice (some ⟨gb, go, none⟩) n2 c2] 25)).alloc (.cells #[.int .i64 0, .slice none 0 0, .slice none 0 0] 25)).alloc (.cells #[.int .i64 f1, .int .i64 f2, .int .i64 f3] 36)) x9)) (by simp [size_plus]) hd_len (by omega) (y := ⟨f1, f2, f3⟩) (ST.out.1.alloc ST.out.1.size _) (hown.alloc _) hown' hgrow
        have ST6 : Aside (Below (plus (((w.alloc (.cells #[.int .i64 cp, .slice a1 fl.length k1, .slice (some ⟨gb, go, none⟩) n2 c2] 25)).alloc (.cells #[.int .i64 0, .slice none 0 0, .slice none 0 0] 25)).alloc (.cells #[.int .i64 f1, .int .i64 f2, .int .i64 f3] 36)) x9).heap.size (plus (((w.alloc (.cells #[.int .i64 cp, .slice a1 fl.length k1, .slice (some ⟨gb, go, none⟩) n2 c2] 25)).alloc (.cells #[.int .i64 0, .slice none 0 0, .slice none 0 0] 25)).alloc (.cells #[.int .i64 f1, .int .i64 f2, .int .i64 f3] 36)) x9) w6 ∧ w6.ownsRow (w.heap.size + 1 + 1 + 1 + x9.heap.size) 36 3 (.slice ao6 (l.length + 1) cap6) (l.length + 1) (flatE Hd.enc (l ++ [(⟨f1, f2, f3⟩ : Hd)]))) := ⟨hb6, ho6⟩
        clear hown' hgrow hb6 ho6 hown
        clear hsw b0 b1 b2 h0 h1 h2
        have hlp : (l ++ [(⟨f1, f2, f3⟩ : Hd)]).length = l.length + 1 := by simp
        have hB3 : Below (((w.alloc (.cells #[.int .i64 cp, .slice a1 fl.length k1, .slice (some ⟨gb, go, none⟩) n2 c2] 25)).alloc (.cells #[.int .i64 0, .slice none 0 0, .slice none 0 0] 25)).alloc (.cells #[.int .i64 f1, .int .i64 f2, .int .i64 f3] 36)).heap.size (((w.alloc (.cells #[.int .i64 cp, .slice a1 fl.length k1, .slice (some ⟨gb, go, none⟩) n2 c2] 25)).alloc (.cells #[.int .i64 0, .slice none 0 0, .slice none 0 0] 25)).alloc (.cells #[.int .i64 f1, .int .i64 f2, .int .i64 f3] 36)) w6 := (below_plus _ _).trans (ST6.out.1.mono (below_plus _ _).size)
        have O2 : Aside (w6.ownsRow (w.heap.size + 1 + 1 + 1) 36 3 (.slice ao6 (l.length + 1) cap6) (l.length + 1) (flatE Hd.enc (l ++ [(⟨f1, f2, f3⟩ : Hd)]))) := own_lower ST6.out.2 (by omega)
        have O3 : Aside (w6.ownsRow (w.heap.size + 1 + 1 + 1) 47 4 (.slice a1 fl.length k1) fl.length (flatE Pc.enc fl)) := own_from O1.out ST6.out.1
        obtain ⟨x3, hx⟩ := plus_of_below hB3
        subst hx
        clear ST6 HB1 ZX hB3 HC HL2
        go_wp2
        refine bodyPost_ret (v := .agg #[.int .i64 cp, .slice a1 fl.length k1, .slice ao6 (l.length + 1) cap6]) (by simp [results, Try.results41, go_sem, ↓IntWalk.iteOmega, *]) rfl ⟨a1, k1, ao6, cap6, by rw [hlp], own_Sl pc_len (by omega) (own_past O3.out (by simp) (by simp)), (by rw [hlp]; exact own_Sl hd_len (by omega) (own_past O2.out (by simp) (by simp))), ?_⟩
        repeat (first | (with_reducible exact Below.refl _ _) | (with_reducible assumption) | (with_reducible refine below_to_plus ?_ ?_ _) | (with_reducible refine below_holds ?_ ?_ _ _) | (with_reducible refine Below.alloc ?_ ?_ _) | (with_reducible refine Below.drew ?_) | (with_reducible refine below_drewN ?_ _) | (with_reducible refine Below.setCell ?_ ?_ _))
        all_goals first | omega | (simp; done) | (simp [go_sem]; done) | (simp [go_sem]; omega)

end Go.Proofs.Ytcgajlobbjoefaa
