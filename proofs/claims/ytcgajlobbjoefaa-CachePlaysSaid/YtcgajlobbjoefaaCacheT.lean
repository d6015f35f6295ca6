/- This text proves the walk of Release of the reference of package cache. Conditions: those that each theorem names. -/
import Derived.Test.YtcgajlobbjoefaaCacheS
namespace Go.Proofs.Ytcgajlobbjoefaa
open Go.ChangeShapes Go.WideShapes Go.ChangeAt Go.RowKit
set_option linter.unusedVariables false
set_option linter.unusedSimpArgs false

set_option maxRecDepth 20000 in
set_option maxHeartbeats 8000000 in
theorem rrelease_calls (cp : Int) (ao : Option Addr) (n c1 : Nat) (ao2 : Option Addr) (n2 c2 : Nat) (bl : List Pc) (hs : List Hd) (id : Int) (w : World) (h1 : Sl w 4 ao n c1 (bl.map Pc.enc)) (h2 : Sl w 3 ao2 n2 c2 (hs.map Hd.enc)) (hn : n ≤ 1000000) (hn2 : n2 ≤ 1000000) :
    Calls Try.prog 42 #[.agg #[.int .i64 cp, .slice ao n c1, .slice ao2 n2 c2], .int .i64 id] w fun e w' => RPost w cp (bl.filter (fun y => !decide (y.pid = id))) (hs.filter (fun y => !decide (y.hid = id))) e w' := by
  obtain ⟨i0, hi0, hz0, hs0, hb0⟩ := hdInfo
  have hbig : n2 ≤ 9223372036854775807 := by omega
  have HB0 : Below w.heap.size w ((w.alloc (.cells #[.int .i64 cp, .slice ao n c1, .slice ao2 n2 c2] 25)).alloc (.cells #[.int .i64 0, .slice none 0 0, .slice none 0 0] 25)) := by
    repeat (first | (with_reducible exact Below.refl _ _) | (with_reducible assumption) | (with_reducible refine below_to_plus ?_ ?_ _) | (with_reducible refine below_holds ?_ ?_ _ _) | (with_reducible refine Below.alloc ?_ ?_ _) | (with_reducible refine Below.drew ?_) | (with_reducible refine below_drewN ?_ _) | (with_reducible refine Below.setCell ?_ ?_ _))
    all_goals first | omega | (simp; done) | (simp [go_sem]; done) | (simp [go_sem]; omega)
  have HL2 : Aside (hs.length = n2) := Sl.lenE h2
  have HC : Aside (CellsHd w ao2 hs) := cellsHd h2
  have c := rdrop_own cp ao n c1 ao2 n2 c2 bl hs id ((w.alloc (.cells #[.int .i64 cp, .slice ao n c1, .slice ao2 n2 c2] 25)).alloc (.cells #[.int .i64 0, .slice none 0 0, .slice none 0 0] 25)) (h1.stays HB0) (h2.stays HB0) hn
  clear h1 h2
  obtain ⟨fl, hfl⟩ : ∃ fl, bl.filter (fun y => !decide (y.pid = id)) = fl := ⟨_, rfl⟩
  rw [hfl] at c ⊢
  clear hfl
  obtain ⟨gl, hgl⟩ : ∃ gl, hs.filter (fun y => !decide (y.hid = id)) = gl := ⟨_, rfl⟩
  rw [hgl]
  have HF : Aside (hs.filter (fun y => !decide (y.hid = id)) = gl) := hgl
  clear hgl
  go_enter Try.func42, Try.ntmps42
  go_wp2_with fail
  refine c.mono ?_
  rintro e w1 ⟨a1, k1, rfl, o1, hb⟩
  obtain ⟨x, hx⟩ := plus_of_below hb
  subst hx
  have O1 : Aside ((plus ((w.alloc (.cells #[.int .i64 cp, .slice ao n c1, .slice ao2 n2 c2] 25)).alloc (.cells #[.int .i64 0, .slice none 0 0, .slice none 0 0] 25)) x).ownsRow (w.heap.size + 1 + 1) 47 4 (.slice a1 fl.length k1) fl.length (flatE Pc.enc fl)) := own_lower o1 (by simp)
  have HB1 : Below w.heap.size w (plus ((w.alloc (.cells #[.int .i64 cp, .slice a1 fl.length k1, .slice ao2 n2 c2] 25)).alloc (.cells #[.int .i64 0, .slice none 0 0, .slice none 0 0] 25)) x) := by
    repeat (first | (with_reducible exact Below.refl _ _) | (with_reducible assumption) | (with_reducible refine below_to_plus ?_ ?_ _) | (with_reducible refine below_holds ?_ ?_ _ _) | (with_reducible refine Below.alloc ?_ ?_ _) | (with_reducible refine Below.drew ?_) | (with_reducible refine below_drewN ?_ _) | (with_reducible refine Below.setCell ?_ ?_ _))
    all_goals first | omega | (simp; done) | (simp [go_sem]; done) | (simp [go_sem]; omega)
  have ZX : (plus ((w.alloc (.cells #[.int .i64 cp, .slice a1 fl.length k1, .slice ao2 n2 c2] 25)).alloc (.cells #[.int .i64 0, .slice none 0 0, .slice none 0 0] 25)) x).heap.size = (w.heap.size + 1 + 1 + x.heap.size) := by simp [size_plus]
  clear c o1 hb
  go_wp2
  go_loopg [5, 13] n2 (fun k s5 s13 wr => ∃ (idx : Nat) (ao' : Option Addr) (cap' : Nat) (l : List Hd), s13 = .int .i64 (idx : Int) ∧ s5 = .slice ao' l.length cap' ∧ k + idx = n2 ∧ l.length ≤ idx ∧ Aside ((hs.take idx).filter (fun y => !decide (y.hid = id)) = l) ∧ Aside (Below (plus ((w.alloc (.cells #[.int .i64 cp, .slice a1 fl.length k1, .slice ao2 n2 c2] 25)).alloc (.cells #[.int .i64 0, .slice none 0 0, .slice none 0 0] 25)) x).heap.size (plus ((w.alloc (.cells #[.int .i64 cp, .slice a1 fl.length k1, .slice ao2 n2 c2] 25)).alloc (.cells #[.int .i64 0, .slice none 0 0, .slice none 0 0] 25)) x) wr ∧ wr.ownsRow (w.heap.size + 1 + 1 + x.heap.size) 36 3 (.slice ao' l.length cap') l.length (flatE Hd.enc l)))
  case atStart => exact ⟨0, none, 0, [], rfl, rfl, by omega, by simp, rfl, Below.refl _ _, World.ownsRow_nil _ _ _ _⟩
  case round =>
    obtain ⟨idx, ao', cap', l, rfl, rfl, hk, hm, FE, ST⟩ := hrel
    by_cases hi : idx < n2
    · have hiz : (idx : Int) < (n2 : Int) := by omega
      have hix : idx < hs.length := by have := HL2.out; omega
      obtain ⟨b, off, rfl, hbw, q0, q1, q2⟩ := HC.out idx hix
      have hBr : Below w.heap.size w wr := HB1.trans (ST.out.1.mono HB1.size)
      have hsw : (w.heap.size + 1 + 1 + x.heap.size) ≤ wr.heap.size := by have := ST.out.1.size; rw [ZX] at this; exact this
      have hbr : b < wr.heap.size := Nat.lt_of_lt_of_le hbw hBr.size
      have l0 := (hBr.cell (p := ⟨b, off + idx * 3, none⟩) hbw).trans q0
      have l1 := (hBr.cell (p := ⟨b, off + idx * 3 + 1, none⟩) hbw).trans q1
      have l2 := (hBr.cell (p := ⟨b, off + idx * 3 + 2, none⟩) hbw).trans q2
      have b0 := (ST.out.1.cell (p := ⟨w.heap.size, 0, none⟩) (by rw [ZX]; show w.heap.size < _; omega)).trans (cell_heap (hp_plus (hp_old (hp_new rfl))) 0 _ rfl)
      have b1 := (ST.out.1.cell (p := ⟨w.heap.size, 1, none⟩) (by rw [ZX]; show w.heap.size < _; omega)).trans (cell_heap (hp_plus (hp_old (hp_new rfl))) 1 _ rfl)
      have b2 := (ST.out.1.cell (p := ⟨w.heap.size, 2, none⟩) (by rw [ZX]; show w.heap.size < _; omega)).trans (cell_heap (hp_plus (hp_old (hp_new rfl))) 2 _ rfl)
      have SK : Aside ((!decide (hs[idx]!.hid = id)) = false → (hs.take (idx + 1)).filter (fun y => !decide (y.hid = id)) = l) := fun h => by rw [takeF_no _ hs idx hix h, FE.out]
      have SP : Aside ((!decide (hs[idx]!.hid = id)) = true → (hs.take (idx + 1)).filter (fun y => !decide (y.hid = id)) = l ++ [hs[idx]!]) := fun h => by rw [takeF_yes _ hs idx hix h, FE.out]
      clear q0 q1 q2 HC FE hBr O1 HB1 ZX
      generalize hs[idx]! = y at l0 l1 l2 SK SP
      obtain ⟨y1, y2, y3⟩ := y
      simp only [] at l0 l1 l2
      by_cases hq : y1 = id
      · have hq1 : (y1 != id) = false := by simp [hq]
        have G : Aside ((hs.take (idx + 1)).filter (fun y => !decide (y.hid = id)) = l) := SK.out (by show (!decide (y1 = id)) = false; rw [decide_eq_true hq]; rfl)
        clear SK SP hq
        go_wp2
        go_roundg (n2 - (idx + 1))
        case measure => omega
        case rel => exact ⟨idx + 1, ao', cap', l, by simp, rfl, by omega, by omega, G, ST⟩
      · have hq1 : (y1 != id) = true := by simp [hq]
        have G : Aside ((hs.take (idx + 1)).filter (fun y => !decide (y.hid = id)) = l ++ [⟨y1, y2, y3⟩]) := SP.out (by show (!decide (y1 = id)) = true; rw [decide_eq_false hq]; rfl)
        clear SK SP hq
        have hown := ST.out.2
        go_wp2_with (at_builtin; refine wpList_append_own _ rfl _ _ 23 rfl (w.heap.size + 1 + 1 + x.heap.size) 36 i0 _ 3 24 Try.underlying23 hi0 hz0 hs0 hb0 rfl (by omega) _ _ _ rfl (hown.alloc _) ⟨wr.heap.size, 0, none⟩ 1 1 [.int .i64 y1, .int .i64 y2, .int .i64 y3] rfl rfl (cells_new _ _ _ _ rfl) (hd_one ⟨y1, y2, y3⟩) (by unfold maxLen; omega) (by omega) (by first | (simp; omega) | (simp [size_plus]; omega)) ?_)
        intro v' w6 hown' hgrow _
        obtain ⟨ao6, cap6, rfl, hb6, ho6⟩ := app_stateB (U1 := (plus ((w.alloc (.cells #[.int .i64 cp, .slice a1 fl.length k1, .slice (some ⟨b, off, none⟩) n2 c2] 25)).alloc (.cells #[.int .i64 0, .slice none 0 0, .slice none 0 0] 25)) x)) (by simp [size_plus]) hd_len (by omega) (y := ⟨y1, y2, y3⟩) (ST.out.1.alloc ST.out.1.size _) (hown.alloc _) hown' hgrow
        have ST6 : Aside (Below (plus ((w.alloc (.cells #[.int .i64 cp, .slice a1 fl.length k1, .slice (some ⟨b, off, none⟩) n2 c2] 25)).alloc (.cells #[.int .i64 0, .slice none 0 0, .slice none 0 0] 25)) x).heap.size (plus ((w.alloc (.cells #[.int .i64 cp, .slice a1 fl.length k1, .slice (some ⟨b, off, none⟩) n2 c2] 25)).alloc (.cells #[.int .i64 0, .slice none 0 0, .slice none 0 0] 25)) x) w6 ∧ w6.ownsRow (w.heap.size + 1 + 1 + x.heap.size) 36 3 (.slice ao6 (l.length + 1) cap6) (l.length + 1) (flatE Hd.enc (l ++ [(⟨y1, y2, y3⟩ : Hd)]))) := ⟨hb6, ho6⟩
        clear hown' hgrow hb6 ho6 hown
        go_wp2
        go_roundg (n2 - (idx + 1))
        case measure => omega
        case rel => exact ⟨idx + 1, ao6, cap6, l ++ [(⟨y1, y2, y3⟩ : Hd)], by simp, by simp, by omega, by simp; omega, G, by first | exact ST6 | simpa using ST6⟩
    · have hiz : ¬ (idx : Int) < (n2 : Int) := by omega
      have ei : (hs.take idx) = hs := List.take_of_length_le (by have := HL2.out; omega)
      have e1 : l = gl := by
        rw [← HF.out, ← FE.out, ei]
      subst e1
      have hB3 : Below ((w.alloc (.cells #[.int .i64 cp, .slice a1 fl.length k1, .slice ao2 n2 c2] 25)).alloc (.cells #[.int .i64 0, .slice none 0 0, .slice none 0 0] 25)).heap.size ((w.alloc (.cells #[.int .i64 cp, .slice a1 fl.length k1, .slice ao2 n2 c2] 25)).alloc (.cells #[.int .i64 0, .slice none 0 0, .slice none 0 0] 25)) wr := (below_plus _ _).trans (ST.out.1.mono (below_plus _ _).size)
      have O3 : Aside (wr.ownsRow (w.heap.size + 1 + 1) 47 4 (.slice a1 fl.length k1) fl.length (flatE Pc.enc fl)) := own_from (own_past O1.out (by simp) (by simp)) ST.out.1
      have O2 : Aside (wr.ownsRow (w.heap.size + 1 + 1) 36 3 (.slice ao' l.length cap') l.length (flatE Hd.enc l)) := own_lower ST.out.2 (by omega)
      obtain ⟨x3, hx⟩ := plus_of_below hB3
      subst hx
      clear ei FE ST HC HF O1 HB1 ZX hB3
      go_wp2
      refine bodyPost_ret (v := .agg #[.int .i64 cp, .slice a1 fl.length k1, .slice ao' l.length cap']) (by simp [results, Try.results42, go_sem, ↓IntWalk.iteOmega, *]) rfl ⟨a1, k1, ao', cap', rfl, own_Sl pc_len (by omega) (own_past O3.out (by simp) (by simp)), own_Sl hd_len (by omega) (own_past O2.out (by simp) (by simp)), ?_⟩
      repeat (first | (with_reducible exact Below.refl _ _) | (with_reducible assumption) | (with_reducible refine below_to_plus ?_ ?_ _) | (with_reducible refine below_holds ?_ ?_ _ _) | (with_reducible refine Below.alloc ?_ ?_ _) | (with_reducible refine Below.drew ?_) | (with_reducible refine below_drewN ?_ _) | (with_reducible refine Below.setCell ?_ ?_ _))
      all_goals first | omega | (simp; done) | (simp [go_sem]; done) | (simp [go_sem]; omega)

end Go.Proofs.Ytcgajlobbjoefaa
