/- This text proves the walk of Drop of the reference of package cache. Conditions: those that each theorem names. -/
import Derived.Test.YtcgajlobbjoefaaCacheR
namespace Go.Proofs.Ytcgajlobbjoefaa
open Go.ChangeShapes Go.WideShapes Go.ChangeAt Go.RowKit
set_option linter.unusedVariables false
set_option linter.unusedSimpArgs false

theorem app_stateB {α : Type} {enc : α → List Value} {k : Nat} {E : TypeId} {U1 W0 w' : World} {B : Nat} (hB0 : U1.heap.size = B) (hk : ∀ x, (enc x).length = k) (hk0 : 0 < k) {v v' : Value} {m : Nat} {o : List α} {y : α} (hB : Below U1.heap.size U1 W0) (ho : W0.ownsRow B E k v m (flatE enc o)) (ho' : w'.ownsRow B E k v' (m + 1) (flatE enc o ++ enc y)) (hg : W0.grownBy w' v.ownBlock) :
    ∃ ao2 cap2, v' = .slice ao2 (m + 1) cap2 ∧ Below U1.heap.size U1 w' ∧ w'.ownsRow B E k (.slice ao2 (m + 1) cap2) (m + 1) (flatE enc (o ++ [y])) := by
  subst hB0
  exact app_stateE hk hk0 hB ho ho' hg
theorem takeF_no {α : Type} [Inhabited α] (p : α → Bool) (xs : List α) (k : Nat) (hk : k < xs.length) (h : p xs[k]! = false) : (xs.take (k + 1)).filter p = (xs.take k).filter p := by
  rw [List.take_add_one, List.getElem?_eq_getElem hk, List.filter_append]
  rw [getElem!_pos xs k hk] at h
  simp [h]
theorem takeF_yes {α : Type} [Inhabited α] (p : α → Bool) (xs : List α) (k : Nat) (hk : k < xs.length) (h : p xs[k]! = true) : (xs.take (k + 1)).filter p = (xs.take k).filter p ++ [xs[k]!] := by
  rw [List.take_add_one, List.getElem?_eq_getElem hk, List.filter_append]
  rw [getElem!_pos xs k hk] at h ⊢
  simp [h]
/-- What a function of the reference returns: a cache whose rows can be read. -/
def RPost (w : World) (cp : Int) (bl : List Pc) (hs : List Hd) (e : Ending) (w' : World) : Prop :=
  ∃ a1 k1 a2 k2, e = .returned (.agg #[.int .i64 cp, .slice a1 bl.length k1, .slice a2 hs.length k2]) ∧ Sl w' 4 a1 bl.length k1 (bl.map Pc.enc) ∧ Sl w' 3 a2 hs.length k2 (hs.map Hd.enc) ∧ Below w.heap.size w w'
theorem own_Sl {α : Type} {enc : α → List Value} {k : Nat} (hk : ∀ x, (enc x).length = k) (hk0 : 0 < k) {w : World} {B : Nat} {E : TypeId} {ao : Option Addr} {m cap n : Nat} {xs : List α} (h : w.ownsRow B E k (.slice ao m cap) n (flatE enc xs)) : Sl w k ao m cap (xs.map enc) := by
  obtain ⟨ao', cap', e, h2⟩ := ownE_sl hk hk0 h
  cases e
  exact h2

set_option maxRecDepth 20000 in
set_option maxHeartbeats 8000000 in
theorem rdrop_own (cp : Int) (ao : Option Addr) (n c1 : Nat) (ao2 : Option Addr) (n2 c2 : Nat) (bl : List Pc) (hs : List Hd) (id : Int) (w : World) (h1 : Sl w 4 ao n c1 (bl.map Pc.enc)) (h2 : Sl w 3 ao2 n2 c2 (hs.map Hd.enc)) (hn : n ≤ 1000000) :
    Calls Try.prog 45 #[.agg #[.int .i64 cp, .slice ao n c1, .slice ao2 n2 c2], .int .i64 id] w fun e w' => ∃ a1 k1, e = .returned (.agg #[.int .i64 cp, .slice a1 (bl.filter (fun y => !decide (y.pid = id))).length k1, .slice ao2 n2 c2]) ∧ w'.ownsRow w.heap.size 47 4 (.slice a1 (bl.filter (fun y => !decide (y.pid = id))).length k1) (bl.filter (fun y => !decide (y.pid = id))).length (flatE Pc.enc (bl.filter (fun y => !decide (y.pid = id)))) ∧ Below w.heap.size w w' := by
  obtain ⟨i0, hi0, hz0, hs0, hb0⟩ := pcInfo
  have hbig : n ≤ 9223372036854775807 := by omega
  have HB0 : Below w.heap.size w ((w.alloc (.cells #[.int .i64 cp, .slice ao n c1, .slice ao2 n2 c2] 25)).alloc (.cells #[.int .i64 0, .slice none 0 0, .slice none 0 0] 25)) := by
    repeat (first | (with_reducible exact Below.refl _ _) | (with_reducible assumption) | (with_reducible refine below_to_plus ?_ ?_ _) | (with_reducible refine below_holds ?_ ?_ _ _) | (with_reducible refine Below.alloc ?_ ?_ _) | (with_reducible refine Below.drew ?_) | (with_reducible refine below_drewN ?_ _) | (with_reducible refine Below.setCell ?_ ?_ _))
    all_goals first | omega | (simp; done) | (simp [go_sem]; done) | (simp [go_sem]; omega)
  have HL : Aside (bl.length = n) := Sl.lenE h1
  have HC : Aside (CellsPc w ao bl) := cellsPc h1
  clear h1 h2
  obtain ⟨fl, hfl⟩ : ∃ fl, bl.filter (fun y => !decide (y.pid = id)) = fl := ⟨_, rfl⟩
  rw [hfl]
  have HF : Aside (bl.filter (fun y => !decide (y.pid = id)) = fl) := hfl
  clear hfl
  go_enter Try.func45, Try.ntmps45
  go_wp2
  go_loopg [5, 10] n (fun k s5 s10 wr => ∃ (idx : Nat) (ao' : Option Addr) (cap' : Nat) (l : List Pc), s10 = .int .i64 (idx : Int) ∧ s5 = .slice ao' l.length cap' ∧ k + idx = n ∧ l.length ≤ idx ∧ Aside ((bl.take idx).filter (fun y => !decide (y.pid = id)) = l) ∧ Aside (Below ((w.alloc (.cells #[.int .i64 cp, .slice ao n c1, .slice ao2 n2 c2] 25)).alloc (.cells #[.int .i64 0, .slice none 0 0, .slice none 0 0] 25)).heap.size ((w.alloc (.cells #[.int .i64 cp, .slice ao n c1, .slice ao2 n2 c2] 25)).alloc (.cells #[.int .i64 0, .slice none 0 0, .slice none 0 0] 25)) wr ∧ wr.ownsRow (w.heap.size + 1 + 1) 47 4 (.slice ao' l.length cap') l.length (flatE Pc.enc l)))
  case atStart => exact ⟨0, none, 0, [], rfl, rfl, by omega, by simp, rfl, Below.refl _ _, World.ownsRow_nil _ _ _ _⟩
  case round =>
    obtain ⟨idx, ao', cap', l, rfl, rfl, hk, hm, FE, ST⟩ := hrel
    by_cases hi : idx < n
    · have hiz : (idx : Int) < (n : Int) := by omega
      have hix : idx < bl.length := by have := HL.out; omega
      obtain ⟨b, off, rfl, hbw, q0, q1, q2, q3⟩ := HC.out idx hix
      have hBr : Below w.heap.size w wr := HB0.trans (ST.out.1.mono HB0.size)
      have hsw : w.heap.size + 1 + 1 ≤ wr.heap.size := by have := ST.out.1.size; simpa using this
      have hbr : b < wr.heap.size := Nat.lt_of_lt_of_le hbw hBr.size
      have l0 := (hBr.cell (p := ⟨b, off + idx * 4, none⟩) hbw).trans q0
      have l1 := (hBr.cell (p := ⟨b, off + idx * 4 + 1, none⟩) hbw).trans q1
      have l2 := (hBr.cell (p := ⟨b, off + idx * 4 + 2, none⟩) hbw).trans q2
      have l3 := (hBr.cell (p := ⟨b, off + idx * 4 + 3, none⟩) hbw).trans q3
      have b0 := (ST.out.1.cell (p := ⟨w.heap.size, 0, none⟩) (by simp; omega)).trans (cell_heap (hp_old (hp_new rfl)) 0 _ rfl)
      have b1 := (ST.out.1.cell (p := ⟨w.heap.size, 1, none⟩) (by simp; omega)).trans (cell_heap (hp_old (hp_new rfl)) 1 _ rfl)
      have b2 := (ST.out.1.cell (p := ⟨w.heap.size, 2, none⟩) (by simp; omega)).trans (cell_heap (hp_old (hp_new rfl)) 2 _ rfl)
      have SK : Aside ((!decide (bl[idx]!.pid = id)) = false → (bl.take (idx + 1)).filter (fun y => !decide (y.pid = id)) = l) := fun h => by rw [takeF_no _ bl idx hix h, FE.out]
      have SP : Aside ((!decide (bl[idx]!.pid = id)) = true → (bl.take (idx + 1)).filter (fun y => !decide (y.pid = id)) = l ++ [bl[idx]!]) := fun h => by rw [takeF_yes _ bl idx hix h, FE.out]
      clear q0 q1 q2 q3 HC FE hBr
      generalize bl[idx]! = y at l0 l1 l2 l3 SK SP
      obtain ⟨y1, y2, y3, y4⟩ := y
      simp only [] at l0 l1 l2 l3
      by_cases hq : y1 = id
      · have hq1 : (y1 != id) = false := by simp [hq]
        have G : Aside ((bl.take (idx + 1)).filter (fun y => !decide (y.pid = id)) = l) := SK.out (by show (!decide (y1 = id)) = false; rw [decide_eq_true hq]; rfl)
        clear SK SP hq
        go_wp2
        go_roundg (n - (idx + 1))
        case measure => omega
        case rel => exact ⟨idx + 1, ao', cap', l, by simp, rfl, by omega, by omega, G, ST⟩
      · have hq1 : (y1 != id) = true := by simp [hq]
        have G : Aside ((bl.take (idx + 1)).filter (fun y => !decide (y.pid = id)) = l ++ [⟨y1, y2, y3, y4⟩]) := SP.out (by show (!decide (y1 = id)) = true; rw [decide_eq_false hq]; rfl)
        clear SK SP hq
        have hown := ST.out.2
        go_wp2_with (at_builtin; refine wpList_append_own _ rfl _ _ 22 rfl (w.heap.size + 1 + 1) 47 i0 _ 4 40 Try.underlying22 hi0 hz0 hs0 hb0 rfl (by omega) _ _ _ rfl (hown.alloc _) ⟨wr.heap.size, 0, none⟩ 1 1 [.int .i64 y1, .int .i64 y2, .int .i64 y3, .string y4] rfl rfl (cells_new _ _ _ _ rfl) (pc_one ⟨y1, y2, y3, y4⟩) (by unfold maxLen; omega) (by omega) (by first | (simp; omega) | (simp [size_plus]; omega)) ?_)
        intro v' w6 hown' hgrow _
        obtain ⟨ao6, cap6, rfl, hb6, ho6⟩ := app_stateB (U1 := ((w.alloc (.cells #[.int .i64 cp, .slice (some ⟨b, off, none⟩) n c1, .slice ao2 n2 c2] 25)).alloc (.cells #[.int .i64 0, .slice none 0 0, .slice none 0 0] 25))) (by simp [size_plus]) pc_len (by omega) (y := ⟨y1, y2, y3, y4⟩) (ST.out.1.alloc ST.out.1.size _) (hown.alloc _) hown' hgrow
        have ST6 : Aside (Below ((w.alloc (.cells #[.int .i64 cp, .slice (some ⟨b, off, none⟩) n c1, .slice ao2 n2 c2] 25)).alloc (.cells #[.int .i64 0, .slice none 0 0, .slice none 0 0] 25)).heap.size ((w.alloc (.cells #[.int .i64 cp, .slice (some ⟨b, off, none⟩) n c1, .slice ao2 n2 c2] 25)).alloc (.cells #[.int .i64 0, .slice none 0 0, .slice none 0 0] 25)) w6 ∧ w6.ownsRow (w.heap.size + 1 + 1) 47 4 (.slice ao6 (l.length + 1) cap6) (l.length + 1) (flatE Pc.enc (l ++ [(⟨y1, y2, y3, y4⟩ : Pc)]))) := ⟨hb6, ho6⟩
        clear hown' hgrow hb6 ho6 hown
        go_wp2
        go_roundg (n - (idx + 1))
        case measure => omega
        case rel => exact ⟨idx + 1, ao6, cap6, l ++ [(⟨y1, y2, y3, y4⟩ : Pc)], by simp, by simp, by omega, by simp; omega, G, by first | exact ST6 | simpa using ST6⟩
    · have hiz : ¬ (idx : Int) < (n : Int) := by omega
      have ei : (bl.take idx) = bl := List.take_of_length_le (by have := HL.out; omega)
      have e1 : l = fl := by
        rw [← HF.out, ← FE.out, ei]
      subst e1
      obtain ⟨x, hx⟩ := plus_of_below ST.out.1
      subst hx
      have O1 : Aside ((plus ((w.alloc (.cells #[.int .i64 cp, .slice ao n c1, .slice ao2 n2 c2] 25)).alloc (.cells #[.int .i64 0, .slice none 0 0, .slice none 0 0] 25)) x).ownsRow (w.heap.size + 1 + 1) 47 4 (.slice ao' l.length cap') l.length (flatE Pc.enc l)) := ST.out.2
      clear ei FE ST HC HF
      go_wp2
      refine bodyPost_ret (v := .agg #[.int .i64 cp, .slice ao' l.length cap', .slice ao2 n2 c2]) (by simp [results, Try.results45, go_sem, ↓IntWalk.iteOmega, *]) rfl ⟨ao', cap', rfl, own_lower (own_past O1.out (by simp) (by simp)) (by omega), ?_⟩
      repeat (first | (with_reducible exact Below.refl _ _) | (with_reducible assumption) | (with_reducible refine below_to_plus ?_ ?_ _) | (with_reducible refine below_holds ?_ ?_ _ _) | (with_reducible refine Below.alloc ?_ ?_ _) | (with_reducible refine Below.drew ?_) | (with_reducible refine below_drewN ?_ _) | (with_reducible refine Below.setCell ?_ ?_ _))
      all_goals first | omega | (simp; done) | (simp [go_sem]; done) | (simp [go_sem]; omega)
theorem rdrop_calls (cp : Int) (ao : Option Addr) (n c1 : Nat) (ao2 : Option Addr) (n2 c2 : Nat) (bl : List Pc) (hs : List Hd) (id : Int) (w : World) (h1 : Sl w 4 ao n c1 (bl.map Pc.enc)) (h2 : Sl w 3 ao2 n2 c2 (hs.map Hd.enc)) (hn : n ≤ 1000000) :
    Calls Try.prog 45 #[.agg #[.int .i64 cp, .slice ao n c1, .slice ao2 n2 c2], .int .i64 id] w fun e w' => RPost w cp (bl.filter (fun y => !decide (y.pid = id))) hs e w' :=
  (rdrop_own cp ao n c1 ao2 n2 c2 bl hs id w h1 h2 hn).mono fun e w' ⟨a1, k1, he, ho, hb⟩ => ⟨a1, k1, ao2, c2, by rw [Sl.lenE h2]; exact he, own_Sl pc_len (by omega) ho, by rw [Sl.lenE h2]; exact h2.stays hb, hb⟩

end Go.Proofs.Ytcgajlobbjoefaa
