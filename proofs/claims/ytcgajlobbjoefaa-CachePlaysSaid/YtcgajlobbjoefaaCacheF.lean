/- This text proves the walks of the predicates of package cache, of end, and of mark and covers of the reference. Conditions: those that each theorem names. -/
import Derived.Test.YtcgajlobbjoefaaCacheE
namespace Go.Proofs.Ytcgajlobbjoefaa
open Go.ChangeShapes Go.WideShapes Go.ChangeAt Go.RowKit
set_option linter.unusedVariables false
set_option linter.unusedSimpArgs false

def isE (id : Int) (y : Pc) : Bool := decide (y.pid = id) && decide (y.data.size = 0)
def isC (id at' : Int) (y : Pc) : Bool := decide (y.pid = id) && (decide (y.pos ≤ at') && decide (at' < endP y))
def endI (id : Int) (bl : List Pc) : Int := fstI (isE id) bl
def covI (id at' : Int) (bl : List Pc) : Int := fstI (isC id at') bl

set_option maxHeartbeats 4000000 in
theorem pred_end (id : Int) (bl : List Pc) (B : Nat) (w : World) (hB : B < w.heap.size) (cB : w.cell? ⟨B, 0, none⟩ = some (.int .i64 id)) : PcPredM Try.prog 56 #[.pointer (some ⟨B, 0, none⟩)] (isE id) bl w := fun W y _ hW => by
  have HB : B < W.heap.size := Nat.lt_of_lt_of_le hB hW.size
  have CB : W.cell? ⟨B, 0, none⟩ = some (.int .i64 id) := (hW.cell (p := ⟨B, 0, none⟩) hB).trans cB
  clear cB hW
  obtain ⟨y1, y2, y3, y4⟩ := y
  show Calls Try.prog 56 #[.agg #[.int .i64 y1, .int .i64 y2, .int .i64 y3, .string y4], .pointer (some ⟨B, 0, none⟩)] W fun e w' => e = .returned (.bool (decide (y1 = id) && decide (y4.size = 0))) ∧ Below W.heap.size W w'
  by_cases hq : y1 = id
  · have hf : (y1 == id) = true := by simp [hq]
    have hd : decide (y1 = id) = true := decide_eq_true hq
    rw [hd]
    clear hq hd
    by_cases e4 : y4.size = 0
    · have e41 : y4.toList = [] := (emp_iff y4).2 e4
      have hd2 : decide (y4.size = 0) = true := decide_eq_true e4
      rw [hd2]
      clear e4 hd2
      go_enter Try.func56, Try.ntmps56
      go_wp2
      all_goals go_ret
      all_goals refine ⟨ret_bool (by first | rfl | (simp [*]; done) | (rw [Bool.eq_iff_iff]; simp [*]; done) | (rw [Bool.eq_iff_iff]; simp [*]; omega) | (simp [*]; omega)), ?_⟩
      all_goals try (
        repeat (first | (with_reducible exact Below.refl _ _) | (with_reducible assumption) | (with_reducible refine below_to_plus ?_ ?_ _) | (with_reducible refine below_holds ?_ ?_ _ _) | (with_reducible refine Below.alloc ?_ ?_ _) | (with_reducible refine Below.drew ?_) | (with_reducible refine below_drewN ?_ _) | (with_reducible refine Below.setCell ?_ ?_ _))
        all_goals first | omega | (simp; done) | (simp [go_sem]; done) | (simp [go_sem]; omega))
    · have e41 : ¬ y4.toList = [] := fun e => e4 ((emp_iff y4).1 e)
      have e42 : (y4.toList == []) = false := by simpa using e41
      have hd2 : decide (y4.size = 0) = false := decide_eq_false e4
      rw [hd2]
      clear e4 hd2
      go_enter Try.func56, Try.ntmps56
      go_wp2
      all_goals go_ret
      all_goals refine ⟨ret_bool (by first | rfl | (simp [*]; done) | (rw [Bool.eq_iff_iff]; simp [*]; done) | (rw [Bool.eq_iff_iff]; simp [*]; omega) | (simp [*]; omega)), ?_⟩
      all_goals try (
        repeat (first | (with_reducible exact Below.refl _ _) | (with_reducible assumption) | (with_reducible refine below_to_plus ?_ ?_ _) | (with_reducible refine below_holds ?_ ?_ _ _) | (with_reducible refine Below.alloc ?_ ?_ _) | (with_reducible refine Below.drew ?_) | (with_reducible refine below_drewN ?_ _) | (with_reducible refine Below.setCell ?_ ?_ _))
        all_goals first | omega | (simp; done) | (simp [go_sem]; done) | (simp [go_sem]; omega))
  · have hf : (y1 == id) = false := by simp [hq]
    have hd : decide (y1 = id) = false := decide_eq_false hq
    rw [hd]
    clear hq hd
    go_enter Try.func56, Try.ntmps56
    go_wp2
    all_goals go_ret
    all_goals refine ⟨ret_bool (by first | rfl | (simp [*]; done) | (rw [Bool.eq_iff_iff]; simp [*]; done) | (rw [Bool.eq_iff_iff]; simp [*]; omega) | (simp [*]; omega)), ?_⟩
    all_goals try (
      repeat (first | (with_reducible exact Below.refl _ _) | (with_reducible assumption) | (with_reducible refine below_to_plus ?_ ?_ _) | (with_reducible refine below_holds ?_ ?_ _ _) | (with_reducible refine Below.alloc ?_ ?_ _) | (with_reducible refine Below.drew ?_) | (with_reducible refine below_drewN ?_ _) | (with_reducible refine Below.setCell ?_ ?_ _))
      all_goals first | omega | (simp; done) | (simp [go_sem]; done) | (simp [go_sem]; omega))

set_option maxHeartbeats 4000000 in
theorem pred_get (id at' : Int) (bl : List Pc) (ok : ∀ y ∈ bl, OkP y) (B B2 : Nat) (w : World) (hB : B < w.heap.size) (cB : w.cell? ⟨B, 0, none⟩ = some (.int .i64 id)) (hB2 : B2 < w.heap.size) (cB2 : w.cell? ⟨B2, 0, none⟩ = some (.int .i64 at')) : PcPredM Try.prog 36 #[.pointer (some ⟨B, 0, none⟩), .pointer (some ⟨B2, 0, none⟩)] (isC id at') bl w := fun W y hy hW => by
  have HB : B < W.heap.size := Nat.lt_of_lt_of_le hB hW.size
  have CB : W.cell? ⟨B, 0, none⟩ = some (.int .i64 id) := (hW.cell (p := ⟨B, 0, none⟩) hB).trans cB
  have HB2 : B2 < W.heap.size := Nat.lt_of_lt_of_le hB2 hW.size
  have CB2 : W.cell? ⟨B2, 0, none⟩ = some (.int .i64 at') := (hW.cell (p := ⟨B2, 0, none⟩) hB2).trans cB2
  obtain ⟨⟨o1, o2⟩, o3⟩ := ok y hy
  clear cB cB2 hW hy ok
  obtain ⟨y1, y2, y3, y4⟩ := y
  simp only [] at o1 o2 o3
  show Calls Try.prog 36 #[.agg #[.int .i64 y1, .int .i64 y2, .int .i64 y3, .string y4], .pointer (some ⟨B, 0, none⟩), .pointer (some ⟨B2, 0, none⟩)] W fun e w' => e = .returned (.bool (decide (y1 = id) && (decide (y3 ≤ at') && decide (at' < y3 + (y4.size : Int))))) ∧ Below W.heap.size W w'
  by_cases hq : y1 = id
  · have hf : (y1 == id) = true := by simp [hq]
    have hd : decide (y1 = id) = true := decide_eq_true hq
    rw [hd]
    clear hq hd
    by_cases g1 : y3 ≤ at'
    · have g2 : decide (y3 ≤ at') = true := decide_eq_true g1
      by_cases g3 : at' < y3 + (y4.size : Int)
      · have g4 : decide (at' < y3 + (y4.size : Int)) = true := decide_eq_true g3
        go_enter Try.func36, Try.ntmps36
        go_wp2
        all_goals go_ret
        all_goals refine ⟨ret_bool (by first | rfl | (simp [*]; done) | (rw [Bool.eq_iff_iff]; simp [*]; done) | (rw [Bool.eq_iff_iff]; simp [*]; omega) | (simp [*]; omega)), ?_⟩
        all_goals try (
          repeat (first | (with_reducible exact Below.refl _ _) | (with_reducible assumption) | (with_reducible refine below_to_plus ?_ ?_ _) | (with_reducible refine below_holds ?_ ?_ _ _) | (with_reducible refine Below.alloc ?_ ?_ _) | (with_reducible refine Below.drew ?_) | (with_reducible refine below_drewN ?_ _) | (with_reducible refine Below.setCell ?_ ?_ _))
          all_goals first | omega | (simp; done) | (simp [go_sem]; done) | (simp [go_sem]; omega))
      · have g4 : decide (at' < y3 + (y4.size : Int)) = false := decide_eq_false g3
        go_enter Try.func36, Try.ntmps36
        go_wp2
        all_goals go_ret
        all_goals refine ⟨ret_bool (by first | rfl | (simp [*]; done) | (rw [Bool.eq_iff_iff]; simp [*]; done) | (rw [Bool.eq_iff_iff]; simp [*]; omega) | (simp [*]; omega)), ?_⟩
        all_goals try (
          repeat (first | (with_reducible exact Below.refl _ _) | (with_reducible assumption) | (with_reducible refine below_to_plus ?_ ?_ _) | (with_reducible refine below_holds ?_ ?_ _ _) | (with_reducible refine Below.alloc ?_ ?_ _) | (with_reducible refine Below.drew ?_) | (with_reducible refine below_drewN ?_ _) | (with_reducible refine Below.setCell ?_ ?_ _))
          all_goals first | omega | (simp; done) | (simp [go_sem]; done) | (simp [go_sem]; omega))
    · have g2 : decide (y3 ≤ at') = false := decide_eq_false g1
      go_enter Try.func36, Try.ntmps36
      go_wp2
      all_goals go_ret
      all_goals refine ⟨ret_bool (by first | rfl | (simp [*]; done) | (rw [Bool.eq_iff_iff]; simp [*]; done) | (rw [Bool.eq_iff_iff]; simp [*]; omega) | (simp [*]; omega)), ?_⟩
      all_goals try (
        repeat (first | (with_reducible exact Below.refl _ _) | (with_reducible assumption) | (with_reducible refine below_to_plus ?_ ?_ _) | (with_reducible refine below_holds ?_ ?_ _ _) | (with_reducible refine Below.alloc ?_ ?_ _) | (with_reducible refine Below.drew ?_) | (with_reducible refine below_drewN ?_ _) | (with_reducible refine Below.setCell ?_ ?_ _))
        all_goals first | omega | (simp; done) | (simp [go_sem]; done) | (simp [go_sem]; omega))
  · have hf : (y1 == id) = false := by simp [hq]
    have hd : decide (y1 = id) = false := decide_eq_false hq
    rw [hd]
    clear hq hd
    go_enter Try.func36, Try.ntmps36
    go_wp2
    all_goals go_ret
    all_goals refine ⟨ret_bool (by first | rfl | (simp [*]; done) | (rw [Bool.eq_iff_iff]; simp [*]; done) | (rw [Bool.eq_iff_iff]; simp [*]; omega) | (simp [*]; omega)), ?_⟩
    all_goals try (
      repeat (first | (with_reducible exact Below.refl _ _) | (with_reducible assumption) | (with_reducible refine below_to_plus ?_ ?_ _) | (with_reducible refine below_holds ?_ ?_ _ _) | (with_reducible refine Below.alloc ?_ ?_ _) | (with_reducible refine Below.drew ?_) | (with_reducible refine below_drewN ?_ _) | (with_reducible refine Below.setCell ?_ ?_ _))
      all_goals first | omega | (simp; done) | (simp [go_sem]; done) | (simp [go_sem]; omega))

/-- A block that is not the row stays as it was. -/
theorem grown_cell {w W : World} {r : Option Nat} {B i : Nat} {v : Value} (h : w.grownBy W r) (hB : B < w.heap.size) (hr : r ≠ some B) (c : w.cell? ⟨B, i, none⟩ = some v) : W.cell? ⟨B, i, none⟩ = some v := by
  have := h.block B hB (fun e => hr e.symm)
  unfold World.cell? at c ⊢
  rwa [this]
theorem grown_lt {w W : World} {r : Option Nat} {B : Nat} (h : w.grownBy W r) (hB : B < w.heap.size) : B < W.heap.size := Nat.lt_of_lt_of_le hB h.size
set_option maxHeartbeats 4000000 in
theorem pred_without (id : Int) (bl : List Pc) (B : Nat) (w : World) (r : Option Nat) (hB : B < w.heap.size) (hr : r ≠ some B) (cB : w.cell? ⟨B, 0, none⟩ = some (.int .i64 id)) : PcPredG Try.prog 62 #[.pointer (some ⟨B, 0, none⟩)] (fun y => decide (y.pid = id)) bl w r := fun W y _ hW => by
  have HB := grown_lt hW hB
  have CB := grown_cell hW hB hr cB
  clear cB hW
  obtain ⟨y1, y2, y3, y4⟩ := y
  show Calls Try.prog 62 #[.agg #[.int .i64 y1, .int .i64 y2, .int .i64 y3, .string y4], .pointer (some ⟨B, 0, none⟩)] W fun e w' => e = .returned (.bool (decide (y1 = id))) ∧ Below W.heap.size W w'
  go_enter Try.func62, Try.ntmps62
  go_wp2
  all_goals go_ret
  all_goals refine ⟨ret_bool (by first | rfl | (simp [*]; done) | (rw [Bool.eq_iff_iff]; simp [*]; done) | (rw [Bool.eq_iff_iff]; simp [*]; omega) | (simp [*]; omega)), ?_⟩
  all_goals try (
    repeat (first | (with_reducible exact Below.refl _ _) | (with_reducible assumption) | (with_reducible refine below_to_plus ?_ ?_ _) | (with_reducible refine below_holds ?_ ?_ _ _) | (with_reducible refine Below.alloc ?_ ?_ _) | (with_reducible refine Below.drew ?_) | (with_reducible refine below_drewN ?_ _) | (with_reducible refine Below.setCell ?_ ?_ _))
    all_goals first | omega | (simp; done) | (simp [go_sem]; done) | (simp [go_sem]; omega))

set_option maxHeartbeats 4000000 in
theorem pred_put (a1 : Int) (a2 : Int) (a3 : Int) (a4 : ByteArray) (bl : List Pc) (oa : OkP ⟨a1, a2, a3, a4⟩) (ok : ∀ y ∈ bl, OkP y) (B : Nat) (w : World) (r : Option Nat) (hB : B < w.heap.size) (hr : r ≠ some B) (cB : w.heap[B]? = some (.cells #[.int .i64 a1, .int .i64 a2, .int .i64 a3, .string a4] 47 (0, 0))) : PcPredG Try.prog 38 #[.pointer (some ⟨B, 0, none⟩)] (fun y => clashB ⟨a1, a2, a3, a4⟩ y) bl w r := fun W y hy hW => by
  have HB := grown_lt hW hB
  have C0 := grown_cell hW hB hr (cell_heap cB 0 _ rfl)
  have C1 := grown_cell hW hB hr (cell_heap cB 1 _ rfl)
  have C2 := grown_cell hW hB hr (cell_heap cB 2 _ rfl)
  have C3 := grown_cell hW hB hr (cell_heap cB 3 _ rfl)
  have oy := ok y hy
  clear cB hW hy
  obtain ⟨b1, b2, b3, b4⟩ := y
  have cc := fun U => clash_calls a1 a2 a3 a4 b1 b2 b3 b4 U oa oy
  show Calls Try.prog 38 #[.agg #[.int .i64 b1, .int .i64 b2, .int .i64 b3, .string b4], .pointer (some ⟨B, 0, none⟩)] W fun e w' => e = .returned (.bool (clashB ⟨a1, a2, a3, a4⟩ ⟨b1, b2, b3, b4⟩)) ∧ Below W.heap.size W w'
  generalize clashB ⟨a1, a2, a3, a4⟩ ⟨b1, b2, b3, b4⟩ = cl at cc ⊢
  go_enter Try.func38, Try.ntmps38
  go_wp2_with (go_at_call 27; (with_reducible refine (cc _).mono ?_); (rintro e w1 ⟨rfl, hb⟩; obtain ⟨x, hx⟩ := plus_of_below hb; subst hx); clear hb)
  go_ret
  refine ⟨rfl, ?_⟩
  repeat (first | (with_reducible exact Below.refl _ _) | (with_reducible assumption) | (with_reducible refine below_to_plus ?_ ?_ _) | (with_reducible refine below_holds ?_ ?_ _ _) | (with_reducible refine Below.alloc ?_ ?_ _) | (with_reducible refine Below.drew ?_) | (with_reducible refine below_drewN ?_ _) | (with_reducible refine Below.setCell ?_ ?_ _))
  all_goals first | omega | (simp; done) | (simp [go_sem]; done) | (simp [go_sem]; omega)

set_option maxHeartbeats 4000000 in
theorem end_calls (cp : Int) (ao : Option Addr) (n c1 : Nat) (ao2 : Option Addr) (n2 c2 : Nat) (bl : List Pc) (id : Int) (w : World) (h1 : Sl w 4 ao n c1 (bl.map Pc.enc)) :
    Calls Try.prog 33 #[.agg #[.int .i64 cp, .slice ao n c1, .slice ao2 n2 c2], .int .i64 id] w fun e w' => e = .returned (.int .i64 (endI id bl)) ∧ Below w.heap.size w w' := by
  have eg : ∀ args w, (callFunc 56 args).run Try.prog w = .ok (.enter 56 args) w := enters_of Try.func56 (by kernel_rfl) rfl
  have hb0 : Below w.heap.size w ((w.alloc (.cells #[.int .i64 cp, .slice ao n c1, .slice ao2 n2 c2] 25)).alloc (.cells #[.int .i64 id] 3)) := ((Below.refl _ w).alloc (Nat.le_refl _) _).alloc (by simp) _
  have c := pcIndexFunc_calls (isE id) 56 #[.pointer (some ⟨w.heap.size + 1, 0, none⟩)] eg ao n c1 bl ((w.alloc (.cells #[.int .i64 cp, .slice ao n c1, .slice ao2 n2 c2] 25)).alloc (.cells #[.int .i64 id] 3)) (h1.stays hb0) (pred_end id bl (w.heap.size + 1) _ (by simp) (by simp [go_sem]))
  rw [show Lib.idxBy (fun _ (y : Pc) => isE id y) bl default = endI id bl from idx_fst (isE id) bl] at c
  clear h1
  generalize endI id bl = r at c ⊢
  go_enter Try.func33, Try.ntmps33
  go_wp2_with fail
  refine c.mono ?_
  rintro e w1 ⟨rfl, hb⟩
  have HB : Aside (Below w.heap.size w w1) := hb0.trans (hb.mono hb0.size)
  clear hb hb0 c
  go_wp2
  go_ret
  exact ⟨rfl, HB.out⟩

set_option maxHeartbeats 4000000 in
theorem mark_calls (cp : Int) (ao : Option Addr) (n c1 : Nat) (ao2 : Option Addr) (n2 c2 : Nat) (bl : List Pc) (id : Int) (w : World) (h1 : Sl w 4 ao n c1 (bl.map Pc.enc)) :
    Calls Try.prog 57 #[.agg #[.int .i64 cp, .slice ao n c1, .slice ao2 n2 c2], .int .i64 id] w fun e w' => e = .returned (.int .i64 (endI id bl)) ∧ Below w.heap.size w w' := by
  have hb0 : Below w.heap.size w (w.alloc (.cells #[.int .i64 cp, .slice ao n c1, .slice ao2 n2 c2] 25)) := (Below.refl _ w).alloc (Nat.le_refl _) _
  have HL : Aside (bl.length = n) := Sl.lenE h1
  have hbig : n ≤ 9223372036854775807 := Nat.le_trans h1.hcap h1.hmax
  have HC : Aside (CellsPc w ao bl) := cellsPc h1
  have HH : Aside (∀ k, k < bl.length → isE id bl[k]! = true → (∀ j, j < k → isE id bl[j]! = false) → endI id bl = (k : Int)) := fun k hk he h => fstI_hit hk he h
  have HM : Aside ((∀ j, j < bl.length → isE id bl[j]! = false) → endI id bl = -1) := fun h => fstI_miss h
  generalize endI id bl = r at HH HM ⊢
  clear h1
  go_enter Try.func57, Try.ntmps57
  go_wp2
  go_loopg [9] n (fun k s9 wr => ∃ idx : Nat, s9 = .int .i64 (idx : Int) ∧ Aside (Below (w.alloc (.cells #[.int .i64 cp, .slice ao n c1, .slice ao2 n2 c2] 25)).heap.size (w.alloc (.cells #[.int .i64 cp, .slice ao n c1, .slice ao2 n2 c2] 25)) wr) ∧ k + idx = n ∧ Aside (∀ j, j < idx → isE id bl[j]! = false))
  case atStart => exact ⟨0, rfl, Below.refl _ _, by omega, fun j hj => absurd hj (Nat.not_lt_zero _)⟩
  case round =>
    obtain ⟨idx, rfl, BW, hk, A⟩ := hrel
    have bx : w.heap.size < wr.heap.size := Nat.lt_of_lt_of_le (by simp) BW.out.size
    have bx0 := (BW.out.cell (p := ⟨w.heap.size, 0, none⟩) (by simp)).trans (cell_heap (hp_new rfl) 0 _ rfl)
    have bx1 := (BW.out.cell (p := ⟨w.heap.size, 1, none⟩) (by simp)).trans (cell_heap (hp_new rfl) 1 _ rfl)
    have bx2 := (BW.out.cell (p := ⟨w.heap.size, 2, none⟩) (by simp)).trans (cell_heap (hp_new rfl) 2 _ rfl)
    have HB2 : Aside (Below w.heap.size w wr) := hb0.trans (BW.out.mono hb0.size)
    by_cases hi : idx < n
    · have hiz : (idx : Int) < (n : Int) := by omega
      have hix : idx < bl.length := by have := HL.out; omega
      obtain ⟨b, off, rfl, hbw, q0, q1, q2, q3⟩ := HC.out idx hix
      have l0 := (HB2.out.cell (p := ⟨b, off + idx * 4, none⟩) hbw).trans q0
      have l1 := (HB2.out.cell (p := ⟨b, off + idx * 4 + 1, none⟩) hbw).trans q1
      have l2 := (HB2.out.cell (p := ⟨b, off + idx * 4 + 2, none⟩) hbw).trans q2
      have l3 := (HB2.out.cell (p := ⟨b, off + idx * 4 + 3, none⟩) hbw).trans q3
      have hbw1 : b < wr.heap.size := Nat.lt_of_lt_of_le hbw HB2.out.size
      have AH : Aside (isE id bl[idx]! = true → r = (idx : Int)) := fun e => HH.out idx hix e A.out
      have AS : Aside (isE id bl[idx]! = false → ∀ j, j < idx + 1 → isE id bl[j]! = false) := fun e j hj => by
        rcases (by omega : j < idx ∨ j = idx) with h' | h'
        · exact A.out j h'
        · rw [h']; exact e
      clear q0 q1 q2 q3 HC HH HM A
      generalize bl[idx]! = y at l0 l1 l2 l3 AH AS
      obtain ⟨y1, y2, y3, y4⟩ := y
      simp only [] at l0 l1 l2 l3
      have AH : Aside ((decide (y1 = id) && decide (y4.size = 0)) = true → r = (idx : Int)) := AH
      have AS : Aside ((decide (y1 = id) && decide (y4.size = 0)) = false → ∀ j, j < idx + 1 → isE id bl[j]! = false) := AS
      by_cases hq : y1 = id
      · have hf : (y1 == id) = true := by simp [hq]
        rw [decide_eq_true hq, Bool.true_and] at AH AS
        clear hq
        by_cases e4 : y4.size = 0
        · have e41 : y4.toList = [] := (emp_iff y4).2 e4
          rw [decide_eq_true e4] at AH AS
          clear e4
          have e1 := AH.out rfl
          subst e1
          clear AH AS
          go_wp2
          go_ret
          refine ⟨rfl, ?_⟩
          have hHB := HB2.out
          repeat (first | (with_reducible exact Below.refl _ _) | (with_reducible assumption) | (with_reducible refine below_to_plus ?_ ?_ _) | (with_reducible refine below_holds ?_ ?_ _ _) | (with_reducible refine Below.alloc ?_ ?_ _) | (with_reducible refine Below.drew ?_) | (with_reducible refine below_drewN ?_ _) | (with_reducible refine Below.setCell ?_ ?_ _))
          all_goals first | omega | (simp; done) | (simp [go_sem]; done) | (simp [go_sem]; omega)
        · have e41 : ¬ y4.toList = [] := fun e => e4 ((emp_iff y4).1 e)
          have e42 : (y4.toList == []) = false := by simpa using e41
          rw [decide_eq_false e4] at AH AS
          clear e4
          have A3 : Aside (∀ j, j < idx + 1 → isE id bl[j]! = false) := AS.out rfl
          clear AH AS
          go_wp2
          go_roundg (n - (idx + 1))
          case measure => omega
          case rel => exact ⟨idx + 1, by simp, (by
            show Below _ _ _
            have hBW := BW.out
            repeat (first | (with_reducible exact Below.refl _ _) | (with_reducible assumption) | (with_reducible refine below_to_plus ?_ ?_ _) | (with_reducible refine below_holds ?_ ?_ _ _) | (with_reducible refine Below.alloc ?_ ?_ _) | (with_reducible refine Below.drew ?_) | (with_reducible refine below_drewN ?_ _) | (with_reducible refine Below.setCell ?_ ?_ _))
            all_goals first | omega | (simp; done) | (simp [go_sem]; done) | (simp [go_sem]; omega)), by omega, A3⟩
      · have hf : (y1 == id) = false := by simp [hq]
        rw [decide_eq_false hq, Bool.false_and] at AH AS
        clear hq
        have A3 : Aside (∀ j, j < idx + 1 → isE id bl[j]! = false) := AS.out rfl
        clear AH AS
        go_wp2
        go_roundg (n - (idx + 1))
        case measure => omega
        case rel => exact ⟨idx + 1, by simp, (by
          show Below _ _ _
          have hBW := BW.out
          repeat (first | (with_reducible exact Below.refl _ _) | (with_reducible assumption) | (with_reducible refine below_to_plus ?_ ?_ _) | (with_reducible refine below_holds ?_ ?_ _ _) | (with_reducible refine Below.alloc ?_ ?_ _) | (with_reducible refine Below.drew ?_) | (with_reducible refine below_drewN ?_ _) | (with_reducible refine Below.setCell ?_ ?_ _))
          all_goals first | omega | (simp; done) | (simp [go_sem]; done) | (simp [go_sem]; omega)), by omega, A3⟩
    · have hiz : ¬ (idx : Int) < (n : Int) := by omega
      have e1 := HM.out (fun j hj => A.out j (by have := HL.out; omega))
      subst e1
      clear HC HH A
      go_wp2
      go_ret
      exact ⟨rfl, HB2.out⟩

set_option maxHeartbeats 4000000 in
theorem covers_calls (cp : Int) (ao : Option Addr) (n c1 : Nat) (ao2 : Option Addr) (n2 c2 : Nat) (bl : List Pc) (id : Int) (at' : Int) (w : World) (h1 : Sl w 4 ao n c1 (bl.map Pc.enc)) (ok : ∀ y ∈ bl, OkP y) :
    Calls Try.prog 58 #[.agg #[.int .i64 cp, .slice ao n c1, .slice ao2 n2 c2], .int .i64 id, .int .i64 at'] w fun e w' => e = .returned (.int .i64 (covI id at' bl)) ∧ Below w.heap.size w w' := by
  have hb0 : Below w.heap.size w (w.alloc (.cells #[.int .i64 cp, .slice ao n c1, .slice ao2 n2 c2] 25)) := (Below.refl _ w).alloc (Nat.le_refl _) _
  have HL : Aside (bl.length = n) := Sl.lenE h1
  have hbig : n ≤ 9223372036854775807 := Nat.le_trans h1.hcap h1.hmax
  have HC : Aside (CellsPc w ao bl) := cellsPc h1
  have HH : Aside (∀ k, k < bl.length → isC id at' bl[k]! = true → (∀ j, j < k → isC id at' bl[j]! = false) → covI id at' bl = (k : Int)) := fun k hk he h => fstI_hit hk he h
  have HM : Aside ((∀ j, j < bl.length → isC id at' bl[j]! = false) → covI id at' bl = -1) := fun h => fstI_miss h
  have OK : Aside (∀ y ∈ bl, OkP y) := ok
  clear ok
  generalize covI id at' bl = r at HH HM ⊢
  clear h1
  go_enter Try.func58, Try.ntmps58
  go_wp2
  go_loopg [12] n (fun k s12 wr => ∃ idx : Nat, s12 = .int .i64 (idx : Int) ∧ Aside (Below (w.alloc (.cells #[.int .i64 cp, .slice ao n c1, .slice ao2 n2 c2] 25)).heap.size (w.alloc (.cells #[.int .i64 cp, .slice ao n c1, .slice ao2 n2 c2] 25)) wr) ∧ k + idx = n ∧ Aside (∀ j, j < idx → isC id at' bl[j]! = false))
  case atStart => exact ⟨0, rfl, Below.refl _ _, by omega, fun j hj => absurd hj (Nat.not_lt_zero _)⟩
  case round =>
    obtain ⟨idx, rfl, BW, hk, A⟩ := hrel
    have bx : w.heap.size < wr.heap.size := Nat.lt_of_lt_of_le (by simp) BW.out.size
    have bx0 := (BW.out.cell (p := ⟨w.heap.size, 0, none⟩) (by simp)).trans (cell_heap (hp_new rfl) 0 _ rfl)
    have bx1 := (BW.out.cell (p := ⟨w.heap.size, 1, none⟩) (by simp)).trans (cell_heap (hp_new rfl) 1 _ rfl)
    have bx2 := (BW.out.cell (p := ⟨w.heap.size, 2, none⟩) (by simp)).trans (cell_heap (hp_new rfl) 2 _ rfl)
    have HB2 : Aside (Below w.heap.size w wr) := hb0.trans (BW.out.mono hb0.size)
    by_cases hi : idx < n
    · have hiz : (idx : Int) < (n : Int) := by omega
      have hix : idx < bl.length := by have := HL.out; omega
      obtain ⟨b, off, rfl, hbw, q0, q1, q2, q3⟩ := HC.out idx hix
      have l0 := (HB2.out.cell (p := ⟨b, off + idx * 4, none⟩) hbw).trans q0
      have l1 := (HB2.out.cell (p := ⟨b, off + idx * 4 + 1, none⟩) hbw).trans q1
      have l2 := (HB2.out.cell (p := ⟨b, off + idx * 4 + 2, none⟩) hbw).trans q2
      have l3 := (HB2.out.cell (p := ⟨b, off + idx * 4 + 3, none⟩) hbw).trans q3
      have hbw1 : b < wr.heap.size := Nat.lt_of_lt_of_le hbw HB2.out.size
      have AH : Aside (isC id at' bl[idx]! = true → r = (idx : Int)) := fun e => HH.out idx hix e A.out
      have AS : Aside (isC id at' bl[idx]! = false → ∀ j, j < idx + 1 → isC id at' bl[j]! = false) := fun e j hj => by
        rcases (by omega : j < idx ∨ j = idx) with h' | h'
        · exact A.out j h'
        · rw [h']; exact e
      have oy : OkP bl[idx]! := OK.out _ (by rw [getElem!_pos bl idx hix]; exact List.getElem_mem _)
      clear q0 q1 q2 q3 HC HH HM A
      generalize bl[idx]! = y at l0 l1 l2 l3 AH AS oy
      obtain ⟨y1, y2, y3, y4⟩ := y
      have ce := fun U => ends_calls y1 y2 y3 y4 U oy
      simp only [] at l0 l1 l2 l3
      have AH : Aside ((decide (y1 = id) && (decide (y3 ≤ at') && decide (at' < y3 + (y4.size : Int)))) = true → r = (idx : Int)) := AH
      have AS : Aside ((decide (y1 = id) && (decide (y3 ≤ at') && decide (at' < y3 + (y4.size : Int)))) = false → ∀ j, j < idx + 1 → isC id at' bl[j]! = false) := AS
      clear oy
      by_cases hq : y1 = id
      · have hf : (y1 == id) = true := by simp [hq]
        rw [decide_eq_true hq, Bool.true_and] at AH AS
        clear hq
        by_cases g1 : y3 ≤ at'
        · have g2 : decide (y3 ≤ at') = true := decide_eq_true g1
          rw [g2, Bool.true_and] at AH AS
          by_cases g3 : at' < y3 + (y4.size : Int)
          · have g4 : decide (at' < y3 + (y4.size : Int)) = true := decide_eq_true g3
            rw [g4] at AH AS
            have e1 := AH.out rfl
            subst e1
            clear AH AS
            go_wp2_with (go_at_call 53; (with_reducible refine (ce _).mono ?_); (rintro e w1 ⟨rfl, hb⟩; obtain ⟨x, hx⟩ := plus_of_below hb; subst hx); clear hb)
            go_ret
            refine ⟨rfl, ?_⟩
            have hHB := HB2.out
            repeat (first | (with_reducible exact Below.refl _ _) | (with_reducible assumption) | (with_reducible refine below_to_plus ?_ ?_ _) | (with_reducible refine below_holds ?_ ?_ _ _) | (with_reducible refine Below.alloc ?_ ?_ _) | (with_reducible refine Below.drew ?_) | (with_reducible refine below_drewN ?_ _) | (with_reducible refine Below.setCell ?_ ?_ _))
            all_goals first | omega | (simp; done) | (simp [go_sem]; done) | (simp [go_sem]; omega)
          · have g4 : decide (at' < y3 + (y4.size : Int)) = false := decide_eq_false g3
            rw [g4] at AH AS
            have A3 : Aside (∀ j, j < idx + 1 → isC id at' bl[j]! = false) := AS.out rfl
            clear AH AS
            go_wp2_with (go_at_call 53; (with_reducible refine (ce _).mono ?_); (rintro e w1 ⟨rfl, hb⟩; obtain ⟨x, hx⟩ := plus_of_below hb; subst hx); clear hb)
            go_roundg (n - (idx + 1))
            case measure => omega
            case rel => exact ⟨idx + 1, by simp, (by
              show Below _ _ _
              have hBW := BW.out
              repeat (first | (with_reducible exact Below.refl _ _) | (with_reducible assumption) | (with_reducible refine below_to_plus ?_ ?_ _) | (with_reducible refine below_holds ?_ ?_ _ _) | (with_reducible refine Below.alloc ?_ ?_ _) | (with_reducible refine Below.drew ?_) | (with_reducible refine below_drewN ?_ _) | (with_reducible refine Below.setCell ?_ ?_ _))
              all_goals first | omega | (simp; done) | (simp [go_sem]; done) | (simp [go_sem]; omega)), by omega, A3⟩
        · have g2 : decide (y3 ≤ at') = false := decide_eq_false g1
          rw [g2, Bool.false_and] at AH AS
          have A3 : Aside (∀ j, j < idx + 1 → isC id at' bl[j]! = false) := AS.out rfl
          clear AH AS
          go_wp2_with (go_at_call 53; (with_reducible refine (ce _).mono ?_); (rintro e w1 ⟨rfl, hb⟩; obtain ⟨x, hx⟩ := plus_of_below hb; subst hx); clear hb)
          go_roundg (n - (idx + 1))
          case measure => omega
          case rel => exact ⟨idx + 1, by simp, (by
            show Below _ _ _
            have hBW := BW.out
            repeat (first | (with_reducible exact Below.refl _ _) | (with_reducible assumption) | (with_reducible refine below_to_plus ?_ ?_ _) | (with_reducible refine below_holds ?_ ?_ _ _) | (with_reducible refine Below.alloc ?_ ?_ _) | (with_reducible refine Below.drew ?_) | (with_reducible refine below_drewN ?_ _) | (with_reducible refine Below.setCell ?_ ?_ _))
            all_goals first | omega | (simp; done) | (simp [go_sem]; done) | (simp [go_sem]; omega)), by omega, A3⟩
      · have hf : (y1 == id) = false := by simp [hq]
        rw [decide_eq_false hq, Bool.false_and] at AH AS
        clear hq
        have A3 : Aside (∀ j, j < idx + 1 → isC id at' bl[j]! = false) := AS.out rfl
        clear AH AS
        go_wp2_with (go_at_call 53; (with_reducible refine (ce _).mono ?_); (rintro e w1 ⟨rfl, hb⟩; obtain ⟨x, hx⟩ := plus_of_below hb; subst hx); clear hb)
        go_roundg (n - (idx + 1))
        case measure => omega
        case rel => exact ⟨idx + 1, by simp, (by
          show Below _ _ _
          have hBW := BW.out
          repeat (first | (with_reducible exact Below.refl _ _) | (with_reducible assumption) | (with_reducible refine below_to_plus ?_ ?_ _) | (with_reducible refine below_holds ?_ ?_ _ _) | (with_reducible refine Below.alloc ?_ ?_ _) | (with_reducible refine Below.drew ?_) | (with_reducible refine below_drewN ?_ _) | (with_reducible refine Below.setCell ?_ ?_ _))
          all_goals first | omega | (simp; done) | (simp [go_sem]; done) | (simp [go_sem]; omega)), by omega, A3⟩
    · have hiz : ¬ (idx : Int) < (n : Int) := by omega
      have e1 := HM.out (fun j hj => A.out j (by have := HL.out; omega))
      subst e1
      clear HC HH A
      go_wp2
      go_ret
      exact ⟨rfl, HB2.out⟩

end Go.Proofs.Ytcgajlobbjoefaa
