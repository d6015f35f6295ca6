/- This text proves the walk of permitted of the reference of package cache. Conditions: those that each theorem names. -/
import Derived.Test.YtcgajlobbjoefaaCacheP
namespace Go.Proofs.Ytcgajlobbjoefaa
open Go.ChangeShapes Go.WideShapes Go.ChangeAt Go.RowKit
set_option linter.unusedVariables false
set_option linter.unusedSimpArgs false

theorem clashB_comm (a b : Pc) : clashB a b = clashB b a := by
  unfold clashB ovB
  rw [show decide (a.pid = b.pid) = decide (b.pid = a.pid) from decide_eq_decide.2 eq_comm]
  congr 1
  by_cases ha : a.data.size = 0
  · by_cases hb : b.data.size = 0
    · rw [if_pos ha, if_pos hb, decide_eq_true ha, decide_eq_true hb, Bool.true_or, Bool.true_or]
    · rw [if_pos ha, if_neg hb, if_pos ha, decide_eq_false hb, Bool.false_or]
  · by_cases hb : b.data.size = 0
    · rw [if_neg ha, if_pos hb, if_pos hb, decide_eq_false ha, Bool.false_or]
    · rw [if_neg ha, if_neg hb, if_neg hb, if_neg ha, Bool.and_comm]

set_option maxRecDepth 20000 in
set_option maxHeartbeats 16000000 in
theorem permitted_calls (cp : Int) (ao : Option Addr) (n c1 : Nat) (ao2 : Option Addr) (n2 c2 : Nat) (hs : List Hd) (y1 : Int) (y2 : Int) (y3 : Int) (y4 : ByteArray) (w : World) (h2 : Sl w 3 ao2 n2 c2 (hs.map Hd.enc)) :
    Calls Try.prog 29 #[.agg #[.int .i64 cp, .slice ao n c1, .slice ao2 n2 c2], .agg #[.int .i64 y1, .int .i64 y2, .int .i64 y3, .string y4]] w fun e w' => e = .returned (.bool (permB hs ⟨y1, y2, y3, y4⟩)) ∧ Below w.heap.size w w' := by
  have hbig : n2 ≤ 9223372036854775807 := Nat.le_trans h2.hcap h2.hmax
  have hb0 : Below w.heap.size w ((w.alloc (.cells #[.int .i64 cp, .slice ao n c1, .slice ao2 n2 c2] 25)).alloc (.cells #[.int .i64 y1, .int .i64 y2, .int .i64 y3, .string y4] 47)) := by
    repeat (first | (with_reducible exact Below.refl _ _) | (with_reducible assumption) | (with_reducible refine below_to_plus ?_ ?_ _) | (with_reducible refine below_holds ?_ ?_ _ _) | (with_reducible refine Below.alloc ?_ ?_ _) | (with_reducible refine Below.drew ?_) | (with_reducible refine below_drewN ?_ _) | (with_reducible refine Below.setCell ?_ ?_ _))
    all_goals first | omega | (simp; done) | (simp [go_sem]; done) | (simp [go_sem]; omega)
  have HL2 : Aside (hs.length = n2) := Sl.lenE h2
  have HC2 : Aside (CellsHd w ao2 hs) := cellsHd h2
  have c := rhold_calls cp ao n c1 ao2 n2 c2 hs y1 ((w.alloc (.cells #[.int .i64 cp, .slice ao n c1, .slice ao2 n2 c2] 25)).alloc (.cells #[.int .i64 y1, .int .i64 y2, .int .i64 y3, .string y4] 47)) (h2.stays hb0)
  have PN : Aside (holdI y1 hs = -1 → permB hs ⟨y1, y2, y3, y4⟩ = false) := fun e => perm_no (p := ⟨y1, y2, y3, y4⟩) e
  have PY : Aside (∀ k : Nat, holdI y1 hs = (k : Int) → permB hs ⟨y1, y2, y3, y4⟩ = (decide (hs[k]!.vers = y2) && decide (0 ≤ y3 ∧ y3 ≤ 9007199254740991 ∧ y4.size ≤ 65536))) := fun k e => perm_of (p := ⟨y1, y2, y3, y4⟩) e
  generalize permB hs ⟨y1, y2, y3, y4⟩ = r at PN PY ⊢
  have hcs := hold_cases y1 hs
  clear h2
  rcases hcs with ⟨e1, _⟩ | ⟨k, hk, e1, _, _⟩
  · have er := PN.out e1
    subst er
    rw [e1] at c
    clear e1
    clear PN PY HC2 HL2
    go_enter Try.func29, Try.ntmps29
    go_wp2_with fail
    refine c.mono ?_
    rintro e w1 ⟨rfl, hb⟩
    have HB : Aside (Below w.heap.size w w1) := hb0.trans (hb.mono hb0.size)
    have b0 := (hb.cell (p := ⟨w.heap.size, 0, none⟩) (by simp; omega)).trans (cell_heap (hp_old (hp_new rfl)) 0 _ rfl)
    have b1 := (hb.cell (p := ⟨w.heap.size, 1, none⟩) (by simp; omega)).trans (cell_heap (hp_old (hp_new rfl)) 1 _ rfl)
    have b2 := (hb.cell (p := ⟨w.heap.size, 2, none⟩) (by simp; omega)).trans (cell_heap (hp_old (hp_new rfl)) 2 _ rfl)
    have p0 := (hb.cell (p := ⟨w.heap.size + 1, 0, none⟩) (by simp)).trans (cell_heap (hp_new (by simp)) 0 _ rfl)
    have p1 := (hb.cell (p := ⟨w.heap.size + 1, 1, none⟩) (by simp)).trans (cell_heap (hp_new (by simp)) 1 _ rfl)
    have p2 := (hb.cell (p := ⟨w.heap.size + 1, 2, none⟩) (by simp)).trans (cell_heap (hp_new (by simp)) 2 _ rfl)
    have p3 := (hb.cell (p := ⟨w.heap.size + 1, 3, none⟩) (by simp)).trans (cell_heap (hp_new (by simp)) 3 _ rfl)
    have hs0 : w.heap.size + 1 < w1.heap.size := Nat.lt_of_lt_of_le (by simp) hb.size
    clear hb hb0 c
    have hHB := HB.out
    have hsz := HB.out.size
    go_wp2
    refine wp_region_plus (by kernel_rfl) (by kernel_rfl) ?_
    repeat (go_big_quiet_step (fail))
    refine wpQuiet_nil ?_
    rintro _ ⟨x1, rfl⟩
    go_wp2
    go_ret
    refine ⟨ret_bool (by first | rfl | (simp [*]; done) | (rw [Bool.eq_iff_iff]; simp [*]; done) | (rw [Bool.eq_iff_iff]; simp [*]; omega) | (simp [*]; omega)), ?_⟩
    repeat (first | (with_reducible exact Below.refl _ _) | (with_reducible assumption) | (with_reducible refine below_to_plus ?_ ?_ _) | (with_reducible refine below_holds ?_ ?_ _ _) | (with_reducible refine Below.alloc ?_ ?_ _) | (with_reducible refine Below.drew ?_) | (with_reducible refine below_drewN ?_ _) | (with_reducible refine Below.setCell ?_ ?_ _))
    all_goals first | omega | (simp; done) | (simp [go_sem]; done) | (simp [go_sem]; omega)
  · have PD := PY.out k e1
    rw [e1] at c
    obtain ⟨gb, off2, ea2, hbw2, m0, m1, m2⟩ := HC2.out k hk
    subst ea2
    have hkn : k < n2 := by have := HL2.out; omega
    have hkz : (k : Int) < (n2 : Int) := by omega
    have hk0 : decide ((0 : Int) ≤ (k : Int)) = true := decide_eq_true (by omega)
    have PDa : Aside (r = (decide (hs[k]!.vers = y2) && decide (0 ≤ y3 ∧ y3 ≤ 9007199254740991 ∧ y4.size ≤ 65536))) := PD
    clear PN PY HC2 HL2 e1 hk PD m0 m2
    generalize hs[k]!.vers = z at m1 PDa
    by_cases v1 : z = y2
    rotate_left
    · have v1f : (z == y2) = false := by simpa using v1
      have er : r = false := by rw [PDa.out, decide_eq_false v1]; rfl
      subst er
      clear PDa v1
      go_enter Try.func29, Try.ntmps29
      go_wp2_with fail
      refine c.mono ?_
      rintro e w1 ⟨rfl, hb⟩
      have HB : Aside (Below w.heap.size w w1) := hb0.trans (hb.mono hb0.size)
      have b0 := (hb.cell (p := ⟨w.heap.size, 0, none⟩) (by simp; omega)).trans (cell_heap (hp_old (hp_new rfl)) 0 _ rfl)
      have b1 := (hb.cell (p := ⟨w.heap.size, 1, none⟩) (by simp; omega)).trans (cell_heap (hp_old (hp_new rfl)) 1 _ rfl)
      have b2 := (hb.cell (p := ⟨w.heap.size, 2, none⟩) (by simp; omega)).trans (cell_heap (hp_old (hp_new rfl)) 2 _ rfl)
      have p0 := (hb.cell (p := ⟨w.heap.size + 1, 0, none⟩) (by simp)).trans (cell_heap (hp_new (by simp)) 0 _ rfl)
      have p1 := (hb.cell (p := ⟨w.heap.size + 1, 1, none⟩) (by simp)).trans (cell_heap (hp_new (by simp)) 1 _ rfl)
      have p2 := (hb.cell (p := ⟨w.heap.size + 1, 2, none⟩) (by simp)).trans (cell_heap (hp_new (by simp)) 2 _ rfl)
      have p3 := (hb.cell (p := ⟨w.heap.size + 1, 3, none⟩) (by simp)).trans (cell_heap (hp_new (by simp)) 3 _ rfl)
      have hs0 : w.heap.size + 1 < w1.heap.size := Nat.lt_of_lt_of_le (by simp) hb.size
      have g1 := (HB.out.cell (p := ⟨gb, off2 + k * 3 + 1, none⟩) hbw2).trans m1
      have hbb : gb < w1.heap.size := Nat.lt_of_lt_of_le hbw2 HB.out.size
      clear m1
      clear hb hb0 c
      have hHB := HB.out
      have hsz := HB.out.size
      go_wp2
      refine wp_region_plus (by kernel_rfl) (by kernel_rfl) ?_
      repeat (go_big_quiet_step (fail))
      refine wpQuiet_nil ?_
      rintro _ ⟨x1, rfl⟩
      go_wp2
      go_ret
      refine ⟨ret_bool (by first | rfl | (simp [*]; done) | (rw [Bool.eq_iff_iff]; simp [*]; done) | (rw [Bool.eq_iff_iff]; simp [*]; omega) | (simp [*]; omega)), ?_⟩
      repeat (first | (with_reducible exact Below.refl _ _) | (with_reducible assumption) | (with_reducible refine below_to_plus ?_ ?_ _) | (with_reducible refine below_holds ?_ ?_ _ _) | (with_reducible refine Below.alloc ?_ ?_ _) | (with_reducible refine Below.drew ?_) | (with_reducible refine below_drewN ?_ _) | (with_reducible refine Below.setCell ?_ ?_ _))
      all_goals first | omega | (simp; done) | (simp [go_sem]; done) | (simp [go_sem]; omega)
    have v1t : (z == y2) = true := by simp [v1]
    rw [decide_eq_true v1, Bool.true_and] at PDa
    clear v1
    by_cases v2 : 0 ≤ y3
    rotate_left
    · have v2f : decide (0 ≤ y3) = false := decide_eq_false v2
      have er : r = false := by rw [PDa.out]; exact decide_eq_false (by omega)
      subst er
      clear PDa
      go_enter Try.func29, Try.ntmps29
      go_wp2_with fail
      refine c.mono ?_
      rintro e w1 ⟨rfl, hb⟩
      have HB : Aside (Below w.heap.size w w1) := hb0.trans (hb.mono hb0.size)
      have b0 := (hb.cell (p := ⟨w.heap.size, 0, none⟩) (by simp; omega)).trans (cell_heap (hp_old (hp_new rfl)) 0 _ rfl)
      have b1 := (hb.cell (p := ⟨w.heap.size, 1, none⟩) (by simp; omega)).trans (cell_heap (hp_old (hp_new rfl)) 1 _ rfl)
      have b2 := (hb.cell (p := ⟨w.heap.size, 2, none⟩) (by simp; omega)).trans (cell_heap (hp_old (hp_new rfl)) 2 _ rfl)
      have p0 := (hb.cell (p := ⟨w.heap.size + 1, 0, none⟩) (by simp)).trans (cell_heap (hp_new (by simp)) 0 _ rfl)
      have p1 := (hb.cell (p := ⟨w.heap.size + 1, 1, none⟩) (by simp)).trans (cell_heap (hp_new (by simp)) 1 _ rfl)
      have p2 := (hb.cell (p := ⟨w.heap.size + 1, 2, none⟩) (by simp)).trans (cell_heap (hp_new (by simp)) 2 _ rfl)
      have p3 := (hb.cell (p := ⟨w.heap.size + 1, 3, none⟩) (by simp)).trans (cell_heap (hp_new (by simp)) 3 _ rfl)
      have hs0 : w.heap.size + 1 < w1.heap.size := Nat.lt_of_lt_of_le (by simp) hb.size
      have g1 := (HB.out.cell (p := ⟨gb, off2 + k * 3 + 1, none⟩) hbw2).trans m1
      have hbb : gb < w1.heap.size := Nat.lt_of_lt_of_le hbw2 HB.out.size
      clear m1
      clear hb hb0 c
      have hHB := HB.out
      have hsz := HB.out.size
      go_wp2
      refine wp_region_plus (by kernel_rfl) (by kernel_rfl) ?_
      repeat (go_big_quiet_step (fail))
      refine wpQuiet_nil ?_
      rintro _ ⟨x1, rfl⟩
      go_wp2
      go_ret
      refine ⟨ret_bool (by first | rfl | (simp [*]; done) | (rw [Bool.eq_iff_iff]; simp [*]; done) | (rw [Bool.eq_iff_iff]; simp [*]; omega) | (simp [*]; omega)), ?_⟩
      repeat (first | (with_reducible exact Below.refl _ _) | (with_reducible assumption) | (with_reducible refine below_to_plus ?_ ?_ _) | (with_reducible refine below_holds ?_ ?_ _ _) | (with_reducible refine Below.alloc ?_ ?_ _) | (with_reducible refine Below.drew ?_) | (with_reducible refine below_drewN ?_ _) | (with_reducible refine Below.setCell ?_ ?_ _))
      all_goals first | omega | (simp; done) | (simp [go_sem]; done) | (simp [go_sem]; omega)
    have v2t : decide (0 ≤ y3) = true := decide_eq_true v2
    by_cases v3 : y3 ≤ 9007199254740991
    rotate_left
    · have v3f : decide (y3 ≤ 9007199254740991) = false := decide_eq_false v3
      have er : r = false := by rw [PDa.out]; exact decide_eq_false (by omega)
      subst er
      clear PDa
      go_enter Try.func29, Try.ntmps29
      go_wp2_with fail
      refine c.mono ?_
      rintro e w1 ⟨rfl, hb⟩
      have HB : Aside (Below w.heap.size w w1) := hb0.trans (hb.mono hb0.size)
      have b0 := (hb.cell (p := ⟨w.heap.size, 0, none⟩) (by simp; omega)).trans (cell_heap (hp_old (hp_new rfl)) 0 _ rfl)
      have b1 := (hb.cell (p := ⟨w.heap.size, 1, none⟩) (by simp; omega)).trans (cell_heap (hp_old (hp_new rfl)) 1 _ rfl)
      have b2 := (hb.cell (p := ⟨w.heap.size, 2, none⟩) (by simp; omega)).trans (cell_heap (hp_old (hp_new rfl)) 2 _ rfl)
      have p0 := (hb.cell (p := ⟨w.heap.size + 1, 0, none⟩) (by simp)).trans (cell_heap (hp_new (by simp)) 0 _ rfl)
      have p1 := (hb.cell (p := ⟨w.heap.size + 1, 1, none⟩) (by simp)).trans (cell_heap (hp_new (by simp)) 1 _ rfl)
      have p2 := (hb.cell (p := ⟨w.heap.size + 1, 2, none⟩) (by simp)).trans (cell_heap (hp_new (by simp)) 2 _ rfl)
      have p3 := (hb.cell (p := ⟨w.heap.size + 1, 3, none⟩) (by simp)).trans (cell_heap (hp_new (by simp)) 3 _ rfl)
      have hs0 : w.heap.size + 1 < w1.heap.size := Nat.lt_of_lt_of_le (by simp) hb.size
      have g1 := (HB.out.cell (p := ⟨gb, off2 + k * 3 + 1, none⟩) hbw2).trans m1
      have hbb : gb < w1.heap.size := Nat.lt_of_lt_of_le hbw2 HB.out.size
      clear m1
      clear hb hb0 c
      have hHB := HB.out
      have hsz := HB.out.size
      go_wp2
      refine wp_region_plus (by kernel_rfl) (by kernel_rfl) ?_
      repeat (go_big_quiet_step (fail))
      refine wpQuiet_nil ?_
      rintro _ ⟨x1, rfl⟩
      go_wp2
      go_ret
      refine ⟨ret_bool (by first | rfl | (simp [*]; done) | (rw [Bool.eq_iff_iff]; simp [*]; done) | (rw [Bool.eq_iff_iff]; simp [*]; omega) | (simp [*]; omega)), ?_⟩
      repeat (first | (with_reducible exact Below.refl _ _) | (with_reducible assumption) | (with_reducible refine below_to_plus ?_ ?_ _) | (with_reducible refine below_holds ?_ ?_ _ _) | (with_reducible refine Below.alloc ?_ ?_ _) | (with_reducible refine Below.drew ?_) | (with_reducible refine below_drewN ?_ _) | (with_reducible refine Below.setCell ?_ ?_ _))
      all_goals first | omega | (simp; done) | (simp [go_sem]; done) | (simp [go_sem]; omega)
    have v3t : decide (y3 ≤ 9007199254740991) = true := decide_eq_true v3
    by_cases v4 : (y4.size : Int) ≤ 65536
    rotate_left
    · have v4f : decide ((y4.size : Int) ≤ 65536) = false := decide_eq_false v4
      have er : r = false := by rw [PDa.out]; exact decide_eq_false (by omega)
      subst er
      clear PDa
      go_enter Try.func29, Try.ntmps29
      go_wp2_with fail
      refine c.mono ?_
      rintro e w1 ⟨rfl, hb⟩
      have HB : Aside (Below w.heap.size w w1) := hb0.trans (hb.mono hb0.size)
      have b0 := (hb.cell (p := ⟨w.heap.size, 0, none⟩) (by simp; omega)).trans (cell_heap (hp_old (hp_new rfl)) 0 _ rfl)
      have b1 := (hb.cell (p := ⟨w.heap.size, 1, none⟩) (by simp; omega)).trans (cell_heap (hp_old (hp_new rfl)) 1 _ rfl)
      have b2 := (hb.cell (p := ⟨w.heap.size, 2, none⟩) (by simp; omega)).trans (cell_heap (hp_old (hp_new rfl)) 2 _ rfl)
      have p0 := (hb.cell (p := ⟨w.heap.size + 1, 0, none⟩) (by simp)).trans (cell_heap (hp_new (by simp)) 0 _ rfl)
      have p1 := (hb.cell (p := ⟨w.heap.size + 1, 1, none⟩) (by simp)).trans (cell_heap (hp_new (by simp)) 1 _ rfl)
      have p2 := (hb.cell (p := ⟨w.heap.size + 1, 2, none⟩) (by simp)).trans (cell_heap (hp_new (by simp)) 2 _ rfl)
      have p3 := (hb.cell (p := ⟨w.heap.size + 1, 3, none⟩) (by simp)).trans (cell_heap (hp_new (by simp)) 3 _ rfl)
      have hs0 : w.heap.size + 1 < w1.heap.size := Nat.lt_of_lt_of_le (by simp) hb.size
      have g1 := (HB.out.cell (p := ⟨gb, off2 + k * 3 + 1, none⟩) hbw2).trans m1
      have hbb : gb < w1.heap.size := Nat.lt_of_lt_of_le hbw2 HB.out.size
      clear m1
      clear hb hb0 c
      have hHB := HB.out
      have hsz := HB.out.size
      go_wp2
      refine wp_region_plus (by kernel_rfl) (by kernel_rfl) ?_
      repeat (go_big_quiet_step (fail))
      refine wpQuiet_nil ?_
      rintro _ ⟨x1, rfl⟩
      go_wp2
      go_ret
      refine ⟨ret_bool (by first | rfl | (simp [*]; done) | (rw [Bool.eq_iff_iff]; simp [*]; done) | (rw [Bool.eq_iff_iff]; simp [*]; omega) | (simp [*]; omega)), ?_⟩
      repeat (first | (with_reducible exact Below.refl _ _) | (with_reducible assumption) | (with_reducible refine below_to_plus ?_ ?_ _) | (with_reducible refine below_holds ?_ ?_ _ _) | (with_reducible refine Below.alloc ?_ ?_ _) | (with_reducible refine Below.drew ?_) | (with_reducible refine below_drewN ?_ _) | (with_reducible refine Below.setCell ?_ ?_ _))
      all_goals first | omega | (simp; done) | (simp [go_sem]; done) | (simp [go_sem]; omega)
    have v4t : decide ((y4.size : Int) ≤ 65536) = true := decide_eq_true v4
    have er : r = true := by rw [PDa.out]; exact decide_eq_true (by omega)
    subst er
    clear PDa
    go_enter Try.func29, Try.ntmps29
    go_wp2_with fail
    refine c.mono ?_
    rintro e w1 ⟨rfl, hb⟩
    have HB : Aside (Below w.heap.size w w1) := hb0.trans (hb.mono hb0.size)
    have b0 := (hb.cell (p := ⟨w.heap.size, 0, none⟩) (by simp; omega)).trans (cell_heap (hp_old (hp_new rfl)) 0 _ rfl)
    have b1 := (hb.cell (p := ⟨w.heap.size, 1, none⟩) (by simp; omega)).trans (cell_heap (hp_old (hp_new rfl)) 1 _ rfl)
    have b2 := (hb.cell (p := ⟨w.heap.size, 2, none⟩) (by simp; omega)).trans (cell_heap (hp_old (hp_new rfl)) 2 _ rfl)
    have p0 := (hb.cell (p := ⟨w.heap.size + 1, 0, none⟩) (by simp)).trans (cell_heap (hp_new (by simp)) 0 _ rfl)
    have p1 := (hb.cell (p := ⟨w.heap.size + 1, 1, none⟩) (by simp)).trans (cell_heap (hp_new (by simp)) 1 _ rfl)
    have p2 := (hb.cell (p := ⟨w.heap.size + 1, 2, none⟩) (by simp)).trans (cell_heap (hp_new (by simp)) 2 _ rfl)
    have p3 := (hb.cell (p := ⟨w.heap.size + 1, 3, none⟩) (by simp)).trans (cell_heap (hp_new (by simp)) 3 _ rfl)
    have hs0 : w.heap.size + 1 < w1.heap.size := Nat.lt_of_lt_of_le (by simp) hb.size
    have g1 := (HB.out.cell (p := ⟨gb, off2 + k * 3 + 1, none⟩) hbw2).trans m1
    have hbb : gb < w1.heap.size := Nat.lt_of_lt_of_le hbw2 HB.out.size
    clear m1
    clear hb hb0 c
    have hHB := HB.out
    have hsz := HB.out.size
    go_wp2
    refine wp_region_plus (by kernel_rfl) (by kernel_rfl) ?_
    repeat (go_big_quiet_step (fail))
    refine wpQuiet_nil ?_
    rintro _ ⟨x1, rfl⟩
    go_wp2
    go_ret
    refine ⟨ret_bool (by first | rfl | (simp [*]; done) | (rw [Bool.eq_iff_iff]; simp [*]; done) | (rw [Bool.eq_iff_iff]; simp [*]; omega) | (simp [*]; omega)), ?_⟩
    repeat (first | (with_reducible exact Below.refl _ _) | (with_reducible assumption) | (with_reducible refine below_to_plus ?_ ?_ _) | (with_reducible refine below_holds ?_ ?_ _ _) | (with_reducible refine Below.alloc ?_ ?_ _) | (with_reducible refine Below.drew ?_) | (with_reducible refine below_drewN ?_ _) | (with_reducible refine Below.setCell ?_ ?_ _))
    all_goals first | omega | (simp; done) | (simp [go_sem]; done) | (simp [go_sem]; omega)

end Go.Proofs.Ytcgajlobbjoefaa
