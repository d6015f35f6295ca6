/- This text proves the walk of Close of package fds. Conditions: those that each theorem names. -/
import Derived.Test.YtbifanenoejjgaaFdsF
import Derived.Test.YtbifanenoejjgaaFdsG
namespace Go.Proofs.Ytbifanenoejjgaa
open Go.ChangeShapes Go.WideShapes Go.ChangeAt Go.RowKit
set_option linter.unusedVariables false
set_option linter.unusedSimpArgs false

set_option maxHeartbeats 1000000 in
theorem pred_close (c : Int) (B : Nat) (w : World) (hB : B < w.heap.size) (cB : w.cell? ⟨B, 8, none⟩ = some (.int .i64 c)) :
    PredE Try.prog 43 #[.pointer (some ⟨B, 0, none⟩)] Fd.val (fun y => decide (y.copy = c)) w := fun W y hW => by
  have HB : B < W.heap.size := Nat.lt_of_lt_of_le hB hW.size
  have CB : W.cell? ⟨B, 8, none⟩ = some (.int .i64 c) := (hW.cell (p := ⟨B, 8, none⟩) hB).trans cB
  clear cB hW
  obtain ⟨y1, y2, y3, y4, y5, y6, y7, y8, y9⟩ := y
  show Calls Try.prog 43 #[.agg #[.int .i64 y1, .int .i64 y2, .int .i64 y3, .int .i64 y4, .string y5, .string y6, .int .i64 y7, .int .i64 y8, .int .i64 y9], .pointer (some ⟨B, 0, none⟩)] W _
  go_enter Try.func43, Try.ntmps43
  go_wp2
  all_goals go_ret
  all_goals refine ⟨ret_bool (by first | (simp [*]; done) | (rw [Bool.eq_iff_iff]; simp [*]; done) | (rw [Bool.eq_iff_iff]; simp)), ?_⟩
  all_goals try (
    repeat (first | (with_reducible exact Below.refl _ _) | (with_reducible assumption) | (with_reducible refine below_to_plus ?_ ?_ _) | (with_reducible refine below_holds ?_ ?_ _ _) | (with_reducible refine Below.alloc ?_ ?_ _) | (with_reducible refine Below.drew ?_) | (with_reducible refine below_drewN ?_ _) | (with_reducible refine Below.setCell ?_ ?_ _))
    all_goals first | omega | (simp; done) | (simp [go_sem]; done) | (simp [go_sem]; omega))

/-- The list without its element k. -/
def dropAt (k : Nat) (xs : List Fd) : List Fd := xs.take k ++ xs.drop (k + 1)
/-- What Close returns: the list, the descriptor, whether it was the last copy, the error. -/
def closeF (num : Int) (xs : List Fd) : List Fd × Fd × Bool × Int :=
  if findI num xs < 0 then (xs, default, false, 44)
  else (dropAt (findI num xs).toNat xs, xs[(findI num xs).toNat]!, !((dropAt (findI num xs).toNat xs).any fun y => decide (y.copy = xs[(findI num xs).toNat]!.copy)), 0)
def ClosePost (w : World) (id : Int) (r : List Fd × Fd × Bool × Int) (e : Ending) (w' : World) : Prop :=
  ∃ ao cap, e = .returned (.tuple #[.agg #[.int .i64 id, .slice ao r.1.length cap], Fd.val r.2.1, .bool r.2.2.1, .int .i64 r.2.2.2]) ∧ w'.ownsRow w.heap.size 30 9 (.slice ao r.1.length cap) r.1.length (flatE Fd.enc r.1) ∧ Below w.heap.size w w'

set_option maxHeartbeats 4000000 in
theorem close_calls (id num : Int) (ao : Option Addr) (n cap : Nat) (xs : List Fd) (w : World) (h : Sl w 9 ao n cap (xs.map Fd.enc)) (hn : n ≤ 1000) :
    Calls Try.prog 23 #[.agg #[.int .i64 id, .slice ao n cap], .int .i64 num] w fun e w' => ClosePost w id (closeF num xs) e w' := by
  have hln := Sl.lenE h
  have HL : Aside (xs.length = n) := hln
  have hb0 : Below w.heap.size w (((w.alloc (.cells #[.int .i64 id, .slice ao n cap] 24)).alloc (.cells #[.int .i64 0, .slice none 0 0] 24)).alloc (.cells #[.int .i64 0, .int .i64 0, .int .i64 0, .int .i64 0, .string ⟨#[]⟩, .string ⟨#[]⟩, .int .i64 0, .int .i64 0, .int .i64 0] 30)) := by
    repeat (first | (with_reducible exact Below.refl _ _) | (with_reducible assumption) | (with_reducible refine below_to_plus ?_ ?_ _) | (with_reducible refine below_holds ?_ ?_ _ _) | (with_reducible refine Below.alloc ?_ ?_ _) | (with_reducible refine Below.drew ?_) | (with_reducible refine below_drewN ?_ _) | (with_reducible refine Below.setCell ?_ ?_ _))
    all_goals first | omega | (simp; done) | (simp [go_sem]; done) | (simp [go_sem]; omega)
  have HB0 : Aside (Below w.heap.size w (((w.alloc (.cells #[.int .i64 id, .slice ao n cap] 24)).alloc (.cells #[.int .i64 0, .slice none 0 0] 24)).alloc (.cells #[.int .i64 0, .int .i64 0, .int .i64 0, .int .i64 0, .string ⟨#[]⟩, .string ⟨#[]⟩, .int .i64 0, .int .i64 0, .int .i64 0] 30))) := hb0
  have c1 := copy_calls id id ao n cap xs _ (h.stays hb0) (by omega)
  have H : Aside (Sl w 9 ao n cap (xs.map Fd.enc)) := h
  have HC : Aside (CellsFd w ao xs) := cellsFd h
  clear h hb0
  generalize hr : closeF num xs = r
  have HR : Aside (r = closeF num xs) := hr.symm
  clear hr
  rcases findI_spec num xs with ⟨e1, _⟩ | ⟨k, hk, e1, _⟩
  · have HF : Aside (r = (xs, default, false, 44)) := by show _ = _; rw [HR.out]; unfold closeF; rw [e1]; rfl
    have E1 : Aside (findI num xs = -1) := e1
    clear e1 HC
    go_enter Try.func23, Try.ntmps23
    go_wp2_with fail
    refine c1.mono ?_
    rintro e w1 ⟨ao2, cap2, rfl, hown, hb⟩
    rw [HL.out] at hown ⊢
    have HO : Aside (w1.ownsRow (((w.alloc (.cells #[.int .i64 id, .slice ao n cap] 24)).alloc (.cells #[.int .i64 0, .slice none 0 0] 24)).alloc (.cells #[.int .i64 0, .int .i64 0, .int .i64 0, .int .i64 0, .string ⟨#[]⟩, .string ⟨#[]⟩, .int .i64 0, .int .i64 0, .int .i64 0] 30)).heap.size 30 9 (.slice ao2 n cap2) n (flatE Fd.enc xs)) := hown
    obtain ⟨x, rfl⟩ := plus_of_below hb
    clear hb c1 hown
    have c2 := find_calls id num ao n cap xs ((plus (((w.alloc (.cells #[.int .i64 id, .slice ao n cap] 24)).alloc (.cells #[.int .i64 0, .slice none 0 0] 24)).alloc (.cells #[.int .i64 0, .int .i64 0, .int .i64 0, .int .i64 0, .string ⟨#[]⟩, .string ⟨#[]⟩, .int .i64 0, .int .i64 0, .int .i64 0] 30)) x).alloc (.cells #[.int .i64 id, .slice ao2 n cap2] 24)) (H.out.stays (by
      repeat (first | (with_reducible exact Below.refl _ _) | (with_reducible assumption) | (with_reducible refine below_to_plus ?_ ?_ _) | (with_reducible refine below_holds ?_ ?_ _ _) | (with_reducible refine Below.alloc ?_ ?_ _) | (with_reducible refine Below.drew ?_) | (with_reducible refine below_drewN ?_ _) | (with_reducible refine Below.setCell ?_ ?_ _))
      all_goals first | omega | (simp; done) | (simp [go_sem]; done) | (simp [go_sem]; omega)))
    rw [E1.out] at c2
    go_wp2_with fail
    refine c2.mono ?_
    rintro e w2 ⟨rfl, hb⟩
    obtain ⟨y, rfl⟩ := plus_of_below hb
    clear hb c2
    go_wp2
    refine bodyPost_ret (v := .tuple #[.agg #[.int .i64 id, .slice ao2 n cap2], .agg #[.int .i64 0, .int .i64 0, .int .i64 0, .int .i64 0, .string ⟨#[]⟩, .string ⟨#[]⟩, .int .i64 0, .int .i64 0, .int .i64 0], .bool false, .int .i64 44]) (by simp [results, Try.results23, go_sem, ↓IntWalk.iteOmega]) rfl ⟨ao2, cap2, by rw [HF.out, HL.out]; rfl, ?_, ?_⟩
    · rw [HF.out]
      show World.ownsRow _ _ _ _ (.slice ao2 xs.length cap2) xs.length (flatE Fd.enc xs)
      rw [HL.out]
      exact own_lower (own_plus (x := y) (own_alloc (o := (.cells #[.int .i64 id, .slice ao2 n cap2] 24)) (own_past (W' := ((((w.alloc (.cells #[.int .i64 id, .slice ao n cap] 24)).alloc (.cells #[.int .i64 id, .slice ao2 n cap2] 24)).alloc (.cells #[.int .i64 0, .int .i64 0, .int .i64 0, .int .i64 0, .string ⟨#[]⟩, .string ⟨#[]⟩, .int .i64 0, .int .i64 0, .int .i64 0] 30)))) HO.out (Nat.le_refl _) (by simp)))) (by simp; omega)
    · repeat (first | (with_reducible exact Below.refl _ _) | (with_reducible assumption) | (with_reducible refine below_to_plus ?_ ?_ _) | (with_reducible refine below_holds ?_ ?_ _ _) | (with_reducible refine Below.alloc ?_ ?_ _) | (with_reducible refine Below.drew ?_) | (with_reducible refine below_drewN ?_ _) | (with_reducible refine Below.setCell ?_ ?_ _))
      all_goals first | omega | (simp; done) | (simp [go_sem]; done) | (simp [go_sem]; omega)
  · obtain ⟨b, off, rfl, hbw, l0, l1, l2, l3, l4, l5, l6, l7, l8⟩ := HC.out k hk
    have HF : Aside (r = (dropAt k xs, xs[k]!, !((dropAt k xs).any fun y => decide (y.copy = xs[k]!.copy)), 0)) := by show _ = _; rw [HR.out]; unfold closeF; rw [e1, if_neg (by omega)]; rfl
    have E1 : Aside (findI num xs = (k : Int)) := e1
    have hkn : k < n := by omega
    have hbig : n ≤ 9223372036854775807 := by omega
    clear e1 HC
    generalize xs[k]! = d at HF l0 l1 l2 l3 l4 l5 l6 l7 l8
    obtain ⟨d1, d2, d3, d4, d5, d6, d7, d8, d9⟩ := d
    simp only [] at l0 l1 l2 l3 l4 l5 l6 l7 l8 HF
    go_enter Try.func23, Try.ntmps23
    go_wp2_with fail
    refine c1.mono ?_
    rintro e w1 ⟨ao2, cap2, rfl, hown, hb⟩
    rw [HL.out] at hown ⊢
    have HO : Aside (w1.ownsRow (((w.alloc (.cells #[.int .i64 id, .slice (some ⟨b, off, none⟩) n cap] 24)).alloc (.cells #[.int .i64 0, .slice none 0 0] 24)).alloc (.cells #[.int .i64 0, .int .i64 0, .int .i64 0, .int .i64 0, .string ⟨#[]⟩, .string ⟨#[]⟩, .int .i64 0, .int .i64 0, .int .i64 0] 30)).heap.size 30 9 (.slice ao2 n cap2) n (flatE Fd.enc xs)) := hown
    obtain ⟨x, rfl⟩ := plus_of_below hb
    clear hb c1 hown
    have c2 := find_calls id num _ n cap xs ((plus (((w.alloc (.cells #[.int .i64 id, .slice (some ⟨b, off, none⟩) n cap] 24)).alloc (.cells #[.int .i64 0, .slice none 0 0] 24)).alloc (.cells #[.int .i64 0, .int .i64 0, .int .i64 0, .int .i64 0, .string ⟨#[]⟩, .string ⟨#[]⟩, .int .i64 0, .int .i64 0, .int .i64 0] 30)) x).alloc (.cells #[.int .i64 id, .slice ao2 n cap2] 24)) (H.out.stays (by
      repeat (first | (with_reducible exact Below.refl _ _) | (with_reducible assumption) | (with_reducible refine below_to_plus ?_ ?_ _) | (with_reducible refine below_holds ?_ ?_ _ _) | (with_reducible refine Below.alloc ?_ ?_ _) | (with_reducible refine Below.drew ?_) | (with_reducible refine below_drewN ?_ _) | (with_reducible refine Below.setCell ?_ ?_ _))
      all_goals first | omega | (simp; done) | (simp [go_sem]; done) | (simp [go_sem]; omega)))
    rw [E1.out] at c2
    go_wp2_with fail
    refine c2.mono ?_
    rintro e w2 ⟨rfl, hb⟩
    obtain ⟨y, rfl⟩ := plus_of_below hb
    clear hb c2
    go_wp2_with fail
    have hO2 : (plus ((plus (((w.alloc (.cells #[.int .i64 id, .slice (some ⟨b, off, none⟩) n cap] 24)).alloc (.cells #[.int .i64 0, .slice none 0 0] 24)).alloc (.cells #[.int .i64 0, .int .i64 0, .int .i64 0, .int .i64 0, .string ⟨#[]⟩, .string ⟨#[]⟩, .int .i64 0, .int .i64 0, .int .i64 0] 30)) x).alloc (.cells #[.int .i64 id, .slice ao2 n cap2] 24)) y).ownsRow (w.heap.size + 3) 30 9 (.slice ao2 n cap2) n (flatE Fd.enc xs) := own_plus (own_alloc (own_lower HO.out (by simp)))
    have hO3 : ((plus ((plus (((w.alloc (.cells #[.int .i64 id, .slice (some ⟨b, off, none⟩) n cap] 24)).alloc (.cells #[.int .i64 0, .slice none 0 0] 24)).alloc (.cells #[.int .i64 0, .int .i64 0, .int .i64 0, .int .i64 0, .string ⟨#[]⟩, .string ⟨#[]⟩, .int .i64 0, .int .i64 0, .int .i64 0] 30)) x).alloc (.cells #[.int .i64 id, .slice ao2 n cap2] 24)) y).alloc (.cells #[.int .i64 d1, .int .i64 d2, .int .i64 d3, .int .i64 d4, .string d5, .string d6, .int .i64 d7, .int .i64 d8, .int .i64 d9] 30)).ownsRow (w.heap.size + 3) 30 9 (.slice ao2 n cap2) n (flatE Fd.enc xs) := own_alloc hO2
    have hb3 : Below w.heap.size w ((plus ((plus (((w.alloc (.cells #[.int .i64 id, .slice (some ⟨b, off, none⟩) n cap] 24)).alloc (.cells #[.int .i64 0, .slice none 0 0] 24)).alloc (.cells #[.int .i64 0, .int .i64 0, .int .i64 0, .int .i64 0, .string ⟨#[]⟩, .string ⟨#[]⟩, .int .i64 0, .int .i64 0, .int .i64 0] 30)) x).alloc (.cells #[.int .i64 id, .slice ao2 n cap2] 24)) y).alloc (.cells #[.int .i64 d1, .int .i64 d2, .int .i64 d3, .int .i64 d4, .string d5, .string d6, .int .i64 d7, .int .i64 d8, .int .i64 d9] 30)) := by
      repeat (first | (with_reducible exact Below.refl _ _) | (with_reducible assumption) | (with_reducible refine below_to_plus ?_ ?_ _) | (with_reducible refine below_holds ?_ ?_ _ _) | (with_reducible refine Below.alloc ?_ ?_ _) | (with_reducible refine Below.drew ?_) | (with_reducible refine below_drewN ?_ _) | (with_reducible refine Below.setCell ?_ ?_ _))
      all_goals first | omega | (simp; done) | (simp [go_sem]; done) | (simp [go_sem]; omega)
    have hob : ((plus ((plus (((w.alloc (.cells #[.int .i64 id, .slice (some ⟨b, off, none⟩) n cap] 24)).alloc (.cells #[.int .i64 0, .slice none 0 0] 24)).alloc (.cells #[.int .i64 0, .int .i64 0, .int .i64 0, .int .i64 0, .string ⟨#[]⟩, .string ⟨#[]⟩, .int .i64 0, .int .i64 0, .int .i64 0] 30)) x).alloc (.cells #[.int .i64 id, .slice ao2 n cap2] 24)) y).alloc (.cells #[.int .i64 d1, .int .i64 d2, .int .i64 d3, .int .i64 d4, .string d5, .string d6, .int .i64 d7, .int .i64 d8, .int .i64 d9] 30)).heap[(w.heap.size + 1 + 1 + 1 + x.heap.size)]? = some (.cells #[.int .i64 id, .slice ao2 n cap2] 24 (0, 0)) := hp_old (hp_plus (hp_new (by simp [size_plus])))
    have hr1 : ((plus ((plus (((w.alloc (.cells #[.int .i64 id, .slice (some ⟨b, off, none⟩) n cap] 24)).alloc (.cells #[.int .i64 0, .slice none 0 0] 24)).alloc (.cells #[.int .i64 0, .int .i64 0, .int .i64 0, .int .i64 0, .string ⟨#[]⟩, .string ⟨#[]⟩, .int .i64 0, .int .i64 0, .int .i64 0] 30)) x).alloc (.cells #[.int .i64 id, .slice ao2 n cap2] 24)) y).alloc (.cells #[.int .i64 d1, .int .i64 d2, .int .i64 d3, .int .i64 d4, .string d5, .string d6, .int .i64 d7, .int .i64 d8, .int .i64 d9] 30)).heap[(w.heap.size + 1)]? = some (.cells #[.int .i64 0, .slice none 0 0] 24 (0, 0)) := hp_old (hp_plus (hp_old (hp_plus (hp_old (hp_new (by simp))))))
    have hr2 : ((plus ((plus (((w.alloc (.cells #[.int .i64 id, .slice (some ⟨b, off, none⟩) n cap] 24)).alloc (.cells #[.int .i64 0, .slice none 0 0] 24)).alloc (.cells #[.int .i64 0, .int .i64 0, .int .i64 0, .int .i64 0, .string ⟨#[]⟩, .string ⟨#[]⟩, .int .i64 0, .int .i64 0, .int .i64 0] 30)) x).alloc (.cells #[.int .i64 id, .slice ao2 n cap2] 24)) y).alloc (.cells #[.int .i64 d1, .int .i64 d2, .int .i64 d3, .int .i64 d4, .string d5, .string d6, .int .i64 d7, .int .i64 d8, .int .i64 d9] 30)).heap[(w.heap.size + 1 + 1)]? = some (.cells #[.int .i64 0, .int .i64 0, .int .i64 0, .int .i64 0, .string ⟨#[]⟩, .string ⟨#[]⟩, .int .i64 0, .int .i64 0, .int .i64 0] 30 (0, 0)) := hp_old (hp_plus (hp_old (hp_plus (hp_new (by simp)))))
    have hdb : ((plus ((plus (((w.alloc (.cells #[.int .i64 id, .slice (some ⟨b, off, none⟩) n cap] 24)).alloc (.cells #[.int .i64 0, .slice none 0 0] 24)).alloc (.cells #[.int .i64 0, .int .i64 0, .int .i64 0, .int .i64 0, .string ⟨#[]⟩, .string ⟨#[]⟩, .int .i64 0, .int .i64 0, .int .i64 0] 30)) x).alloc (.cells #[.int .i64 id, .slice ao2 n cap2] 24)) y).alloc (.cells #[.int .i64 d1, .int .i64 d2, .int .i64 d3, .int .i64 d4, .string d5, .string d6, .int .i64 d7, .int .i64 d8, .int .i64 d9] 30)).heap[(w.heap.size + 1 + 1 + 1 + x.heap.size + 1 + y.heap.size)]? = some (.cells #[.int .i64 d1, .int .i64 d2, .int .i64 d3, .int .i64 d4, .string d5, .string d6, .int .i64 d7, .int .i64 d8, .int .i64 d9] 30 (0, 0)) := hp_new (by simp [size_plus])
    have nob := own_ne hO3 hob (by decide)
    have nr1 : (Value.slice ao2 n cap2).ownBlock ≠ some (w.heap.size + 1) := fun e => by have := (hO3.lt _ e).1; omega
    have nr2 : (Value.slice ao2 n cap2).ownBlock ≠ some (w.heap.size + 1 + 1) := fun e => by have := (hO3.lt _ e).1; omega
    have ndb : (Value.slice ao2 n cap2).ownBlock ≠ some (w.heap.size + 1 + 1 + 1 + x.heap.size + 1 + y.heap.size) := fun e => by have := (hO2.lt _ e).2; simp [size_plus] at this
    refine (fdDelete_calls (.slice ao2 n cap2) n k (w.heap.size + 3) xs _ hO3 hkn (by omega)).mono ?_
    rintro e w5 ⟨v', rfl, hown, hg, hv'⟩
    have hob5 := (hg.block (w.heap.size + 1 + 1 + 1 + x.heap.size) (by simp [size_plus]; omega) (fun e => nob e.symm)).trans hob
    have hr15 := (hg.block (w.heap.size + 1) (by simp [size_plus]; omega) (fun e => nr1 e.symm)).trans hr1
    have hr25 := (hg.block (w.heap.size + 1 + 1) (by simp [size_plus]; omega) (fun e => nr2 e.symm)).trans hr2
    have hdb5 := (hg.block (w.heap.size + 1 + 1 + 1 + x.heap.size + 1 + y.heap.size) (by simp [size_plus]) (fun e => ndb e.symm)).trans hdb
    have hb5 : Below w.heap.size w w5 := hb3.grown hg hb3.size (fun k hk => by have := (hO3.lt _ hk).1; omega)
    have hown2 : w5.ownsRow (w.heap.size + 3) 30 9 v' (n - 1) (flatE Fd.enc (dropAt k xs)) := hown
    obtain ⟨ao3, cap3, rfl, hsl⟩ := ownE_sl fd_len (by omega) hown2
    rw [← hv'] at nob nr1 nr2 ndb
    have hle : w.heap.size ≤ (w.heap.size + 1 + 1 + 1 + x.heap.size) ∧ w.heap.size ≤ (w.heap.size + 1) ∧ w.heap.size ≤ (w.heap.size + 1 + 1) ∧ w.heap.size ≤ (w.heap.size + 1 + 1 + 1 + x.heap.size + 1 + y.heap.size) := by omega
    have hd : ¬ (w.heap.size + 1) = (w.heap.size + 1 + 1 + 1 + x.heap.size) ∧ ¬ (w.heap.size + 1 + 1 + 1 + x.heap.size) = (w.heap.size + 1) ∧ ¬ (w.heap.size + 1 + 1) = (w.heap.size + 1 + 1 + 1 + x.heap.size) ∧ ¬ (w.heap.size + 1 + 1 + 1 + x.heap.size) = (w.heap.size + 1 + 1) ∧ ¬ (w.heap.size + 1 + 1 + 1 + x.heap.size + 1 + y.heap.size) = (w.heap.size + 1 + 1 + 1 + x.heap.size) ∧ ¬ (w.heap.size + 1 + 1 + 1 + x.heap.size) = (w.heap.size + 1 + 1 + 1 + x.heap.size + 1 + y.heap.size) ∧ ¬ (w.heap.size + 1) = (w.heap.size + 1 + 1) ∧ ¬ (w.heap.size + 1 + 1) = (w.heap.size + 1) ∧ ¬ (w.heap.size + 1) = (w.heap.size + 1 + 1 + 1 + x.heap.size + 1 + y.heap.size) ∧ ¬ (w.heap.size + 1 + 1 + 1 + x.heap.size + 1 + y.heap.size) = (w.heap.size + 1) ∧ ¬ (w.heap.size + 1 + 1) = (w.heap.size + 1 + 1 + 1 + x.heap.size + 1 + y.heap.size) ∧ ¬ (w.heap.size + 1 + 1 + 1 + x.heap.size + 1 + y.heap.size) = (w.heap.size + 1 + 1) := by omega
    obtain ⟨db, edb⟩ : ∃ db, (w.heap.size + 1 + 1 + 1 + x.heap.size + 1 + y.heap.size) = db := ⟨_, rfl⟩
    rw [edb] at hdb5 ndb hle hd ⊢
    obtain ⟨ob, eob⟩ : ∃ ob, (w.heap.size + 1 + 1 + 1 + x.heap.size) = ob := ⟨_, rfl⟩
    rw [eob] at hob5 nob hle hd ⊢
    obtain ⟨r2, er2⟩ : ∃ r2, (w.heap.size + 1 + 1) = r2 := ⟨_, rfl⟩
    rw [er2] at hr25 nr2 hle hd ⊢
    obtain ⟨r1, er1⟩ : ∃ r1, (w.heap.size + 1) = r1 := ⟨_, rfl⟩
    rw [er1] at hr15 nr1 hle hd ⊢
    have hs1 : r1 < w5.heap.size := (Array.getElem?_eq_some_iff.1 hr15).1
    have hs2 : r2 < w5.heap.size := (Array.getElem?_eq_some_iff.1 hr25).1
    have hso : ob < w5.heap.size := (Array.getElem?_eq_some_iff.1 hob5).1
    have hsd : db < w5.heap.size := (Array.getElem?_eq_some_iff.1 hdb5).1
    obtain ⟨n1, n2, n3, n4, n5, n6, n7, n8, n9, n10, n11, n12⟩ := hd
    have H5 : Aside (Below w.heap.size w w5 ∧ w5.ownsRow (w.heap.size + 3) 30 9 (.slice ao3 (n - 1) cap3) (n - 1) (flatE Fd.enc (dropAt k xs)) ∧ (w.heap.size ≤ ob ∧ w.heap.size ≤ r1 ∧ w.heap.size ≤ r2 ∧ w.heap.size ≤ db) ∧ (Value.slice ao3 (n - 1) cap3).ownBlock ≠ some ob ∧ (Value.slice ao3 (n - 1) cap3).ownBlock ≠ some r1 ∧ (Value.slice ao3 (n - 1) cap3).ownBlock ≠ some r2 ∧ (Value.slice ao3 (n - 1) cap3).ownBlock ≠ some db) := ⟨hb5, hown2, hle, nob, nr1, nr2, ndb⟩
    rw [holds_add (holds_add (holds_add (holds_self hob5) hr15) hr25) hdb5]
    clear hb5 hown hown2 hle nob nr1 nr2 ndb hob5 hr15 hr25 hdb5 hg hob hr1 hr2 hdb hO2 hO3 hb3 HO hsl hv' HB0 H
    go_wp2_with fail
    have q7 : (holds (holds (holds (holds w5 ob #[.int .i64 id, .slice ao3 (n - 1) cap3] 24) r1 #[.int .i64 0, .slice none 0 0] 24) r2 #[.int .i64 0, .int .i64 0, .int .i64 0, .int .i64 0, .string ⟨#[]⟩, .string ⟨#[]⟩, .int .i64 0, .int .i64 0, .int .i64 0] 30) db #[.int .i64 d1, .int .i64 d2, .int .i64 d3, .int .i64 d4, .string d5, .string d6, .int .i64 d7, .int .i64 d8, .int .i64 d9] 30).ownsRow (w.heap.size + 3) 30 9 (.slice ao3 (n - 1) cap3) (n - 1) (flatE Fd.enc (dropAt k xs)) := own_holds (own_holds (own_holds (own_holds H5.out.2.1 H5.out.2.2.2.1) H5.out.2.2.2.2.1) H5.out.2.2.2.2.2.1) H5.out.2.2.2.2.2.2
    have Q7 : Aside ((holds (holds (holds (holds w5 ob #[.int .i64 id, .slice ao3 (n - 1) cap3] 24) r1 #[.int .i64 0, .slice none 0 0] 24) r2 #[.int .i64 0, .int .i64 0, .int .i64 0, .int .i64 0, .string ⟨#[]⟩, .string ⟨#[]⟩, .int .i64 0, .int .i64 0, .int .i64 0] 30) db #[.int .i64 d1, .int .i64 d2, .int .i64 d3, .int .i64 d4, .string d5, .string d6, .int .i64 d7, .int .i64 d8, .int .i64 d9] 30).ownsRow (w.heap.size + 3) 30 9 (.slice ao3 (n - 1) cap3) (n - 1) (flatE Fd.enc (dropAt k xs))) := q7
    have c3 : Calls Try.prog 42 #[.slice ao3 (n - 1) cap3, .func (.func 43) #[] #[.pointer (some ⟨db, 0, none⟩)]] (holds (holds (holds (holds w5 ob #[.int .i64 id, .slice ao3 (n - 1) cap3] 24) r1 #[.int .i64 0, .slice none 0 0] 24) r2 #[.int .i64 0, .int .i64 0, .int .i64 0, .int .i64 0, .string ⟨#[]⟩, .string ⟨#[]⟩, .int .i64 0, .int .i64 0, .int .i64 0] 30) db #[.int .i64 d1, .int .i64 d2, .int .i64 d3, .int .i64 d4, .string d5, .string d6, .int .i64 d7, .int .i64 d8, .int .i64 d9] 30) fun e w' => e = .returned (.bool ((dropAt k xs).any fun y => decide (y.copy = d9))) ∧ Below (holds (holds (holds (holds w5 ob #[.int .i64 id, .slice ao3 (n - 1) cap3] 24) r1 #[.int .i64 0, .slice none 0 0] 24) r2 #[.int .i64 0, .int .i64 0, .int .i64 0, .int .i64 0, .string ⟨#[]⟩, .string ⟨#[]⟩, .int .i64 0, .int .i64 0, .int .i64 0] 30) db #[.int .i64 d1, .int .i64 d2, .int .i64 d3, .int .i64 d4, .string d5, .string d6, .int .i64 d7, .int .i64 d8, .int .i64 d9] 30).heap.size (holds (holds (holds (holds w5 ob #[.int .i64 id, .slice ao3 (n - 1) cap3] 24) r1 #[.int .i64 0, .slice none 0 0] 24) r2 #[.int .i64 0, .int .i64 0, .int .i64 0, .int .i64 0, .string ⟨#[]⟩, .string ⟨#[]⟩, .int .i64 0, .int .i64 0, .int .i64 0] 30) db #[.int .i64 d1, .int .i64 d2, .int .i64 d3, .int .i64 d4, .string d5, .string d6, .int .i64 d7, .int .i64 d8, .int .i64 d9] 30) w' := by
      obtain ⟨ao4, cap4, hv, hsl⟩ := ownE_sl fd_len (by omega) q7
      cases hv
      exact fdContainsFunc_calls (fun y => decide (y.copy = d9)) 43 _ (enters_of Try.func43 (by kernel_rfl) rfl) _ _ _ _ _ hsl (pred_close d9 db _ (by simp [size_holds]; omega) (by simp [go_sem, hsd]))
    clear q7
    generalize hbn : (dropAt k xs).any (fun y => decide (y.copy = d9)) = bn at c3 HF
    clear hbn
    refine c3.mono ?_
    rintro e w6 ⟨rfl, hb⟩
    obtain ⟨z, rfl⟩ := plus_of_below hb
    clear hb c3
    go_wp2
    go_region
    all_goals go_wp2
    all_goals refine bodyPost_ret (v := .tuple #[.agg #[.int .i64 id, .slice ao3 (n - 1) cap3], .agg #[.int .i64 d1, .int .i64 d2, .int .i64 d3, .int .i64 d4, .string d5, .string d6, .int .i64 d7, .int .i64 d8, .int .i64 d9], .bool (!bn), .int .i64 0]) (by simp [results, Try.results23, go_sem, ↓IntWalk.iteOmega, hs1, hs2, hso, hsd, n1, n2, n3, n4, n5, n6, n7, n8, n9, n10, n11, n12]) rfl ⟨ao3, cap3, by rw [HF.out]; show _ = Ending.returned (.tuple #[.agg #[_, .slice _ (dropAt k xs).length _], _, _, _]); rw [show (dropAt k xs).length = n - 1 by simp [dropAt]; have := HL.out; omega]; rfl, ?_, ?_⟩
    · rw [HF.out]
      show World.ownsRow _ _ _ _ (.slice ao3 (dropAt k xs).length cap3) (dropAt k xs).length (flatE Fd.enc (dropAt k xs))
      rw [show (dropAt k xs).length = n - 1 by simp [dropAt]; have := HL.out; omega]
      exact own_lower (own_plus (x := z.drew) (own_holds (c := #[.int .i64 d1, .int .i64 d2, .int .i64 d3, .int .i64 d4, .string d5, .string d6, .int .i64 d7, .int .i64 d8, .int .i64 d9]) (T := 30) (own_holds (c := #[.int .i64 d1, .int .i64 d2, .int .i64 d3, .int .i64 d4, .string d5, .string d6, .int .i64 d7, .int .i64 d8, .int .i64 d9]) (T := 30) (own_holds (c := #[.int .i64 id, .slice ao3 (n - 1) cap3]) (T := 24) (own_holds (c := #[.int .i64 id, .slice ao3 (n - 1) cap3]) (T := 24) H5.out.2.1 H5.out.2.2.2.1) H5.out.2.2.2.2.1) H5.out.2.2.2.2.2.1) H5.out.2.2.2.2.2.2)) (by omega)
    · obtain ⟨p1, p2, ⟨p3, p4, p5, p6⟩, _⟩ := H5.out
      have p7 := below_holds (below_holds (below_holds (below_holds p1 p3 #[.int .i64 id, .slice ao3 (n - 1) cap3] 24) p4 #[.int .i64 id, .slice ao3 (n - 1) cap3] 24) p5 #[.int .i64 d1, .int .i64 d2, .int .i64 d3, .int .i64 d4, .string d5, .string d6, .int .i64 d7, .int .i64 d8, .int .i64 d9] 30) p6 #[.int .i64 d1, .int .i64 d2, .int .i64 d3, .int .i64 d4, .string d5, .string d6, .int .i64 d7, .int .i64 d8, .int .i64 d9] 30
      exact below_to_plus p7 p7.size _

end Go.Proofs.Ytbifanenoejjgaa
