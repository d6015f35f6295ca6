/- This text proves the walk of Right. Conditions: those that each theorem names. -/
import Derived.Test.YtfhccmegobbnaaaRegexP
namespace Go.Proofs.Ytfhccmegobbnaaa
open Go.ChangeShapes Go.WideShapes Go.ChangeAt Go.RowKit
set_option linter.unusedVariables false
set_option linter.unusedSimpArgs false

/-- A program is valid. -/
def rightF (L : List In) (g : Int) : Bool :=
  if g < 1 then false else if 10 < g then false else if (L.length : Int) < 1 then false else if 1024 < (L.length : Int) then false
  else if L[L.length - 1]!.op ≠ 9 ∧ L[L.length - 1]!.op ≠ 7 then false else L.all (soundF L.length g)
/-- The program in memory. -/
structure Prg (L : List In) (ao : Option Addr) (w : World) : Prop where
  c : CellsIn w ao L
  f : ∀ x ∈ L, x.set.size ≤ maxLen
theorem Prg.later {L : List In} {ao : Option Addr} {w w' : World} (h : Prg L ao w) (hb : Below w.heap.size w w') : Prg L ao w' := ⟨h.c.later hb, h.f⟩

set_option maxRecDepth 20000 in
set_option maxHeartbeats 32000000 in
theorem right_calls (L : List In) (ao : Option Addr) (cap : Nat) (g : Int) (w : World) (h : Prg L ao w) (hl : L.length ≤ 9223372036854775807) :
    Calls Try.prog 18 #[.agg #[.slice ao L.length cap, .int .i64 g]] w fun e w' => e = .returned (.bool (rightF L g)) ∧ Below w.heap.size w w' := by
  obtain ⟨n, hn⟩ : ∃ n, L.length = n := ⟨_, rfl⟩
  have HP : Aside (Prg L ao w) := h
  have HN : Aside (L.length = n) := hn
  have EQ : Aside (rightF L g = if g < 1 then false else if 10 < g then false else if (n : Int) < 1 then false else if 1024 < (n : Int) then false
      else if L[n - 1]!.op ≠ 9 ∧ L[n - 1]!.op ≠ 7 then false else L.all (soundF n g)) := by show _ = _; rw [← hn]; rfl
  rw [hn] at hl ⊢
  clear h hn
  by_cases ah : g < 1
  · have a : decide (g < 1) = true := decide_eq_true ah
    rw [if_pos ah] at EQ
    rw [EQ.out]
    go_enter Try.func18, Try.ntmps18
    go_wp2
    all_goals refine bodyPost_ret (v := .bool (false)) (by simp [results, Try.results18, go_sem, ↓IntWalk.iteOmega, *]) rfl ⟨rfl, ?_⟩
    all_goals
      repeat (first | (with_reducible exact Below.refl _ _) | (with_reducible assumption) | (with_reducible refine below_to_plus ?_ ?_ _) | (with_reducible refine below_holds ?_ ?_ _ _) | (with_reducible refine Below.alloc ?_ ?_ _) | (with_reducible refine Below.drew ?_) | (with_reducible refine below_drewN ?_ _) | (with_reducible refine Below.setCell ?_ ?_ _))
      all_goals first | omega | (simp; done) | (simp [go_sem]; done) | (simp [go_sem]; omega)
  have a : decide (g < 1) = false := decide_eq_false ah
  by_cases bh : 10 < g
  · have b : decide (10 < g) = true := decide_eq_true bh
    rw [if_neg ah, if_pos bh] at EQ
    rw [EQ.out]
    go_enter Try.func18, Try.ntmps18
    go_wp2
    all_goals refine bodyPost_ret (v := .bool (false)) (by simp [results, Try.results18, go_sem, ↓IntWalk.iteOmega, *]) rfl ⟨rfl, ?_⟩
    all_goals
      repeat (first | (with_reducible exact Below.refl _ _) | (with_reducible assumption) | (with_reducible refine below_to_plus ?_ ?_ _) | (with_reducible refine below_holds ?_ ?_ _ _) | (with_reducible refine Below.alloc ?_ ?_ _) | (with_reducible refine Below.drew ?_) | (with_reducible refine below_drewN ?_ _) | (with_reducible refine Below.setCell ?_ ?_ _))
      all_goals first | omega | (simp; done) | (simp [go_sem]; done) | (simp [go_sem]; omega)
  have b : decide (10 < g) = false := decide_eq_false bh
  by_cases ch : (n : Int) < 1
  · have c : decide ((n : Int) < 1) = true := decide_eq_true ch
    rw [if_neg ah, if_neg bh, if_pos ch] at EQ
    rw [EQ.out]
    go_enter Try.func18, Try.ntmps18
    go_wp2
    all_goals refine bodyPost_ret (v := .bool (false)) (by simp [results, Try.results18, go_sem, ↓IntWalk.iteOmega, *]) rfl ⟨rfl, ?_⟩
    all_goals
      repeat (first | (with_reducible exact Below.refl _ _) | (with_reducible assumption) | (with_reducible refine below_to_plus ?_ ?_ _) | (with_reducible refine below_holds ?_ ?_ _ _) | (with_reducible refine Below.alloc ?_ ?_ _) | (with_reducible refine Below.drew ?_) | (with_reducible refine below_drewN ?_ _) | (with_reducible refine Below.setCell ?_ ?_ _))
      all_goals first | omega | (simp; done) | (simp [go_sem]; done) | (simp [go_sem]; omega)
  have c : decide ((n : Int) < 1) = false := decide_eq_false ch
  by_cases dh : 1024 < (n : Int)
  · have d : decide (1024 < (n : Int)) = true := decide_eq_true dh
    rw [if_neg ah, if_neg bh, if_neg ch, if_pos dh] at EQ
    rw [EQ.out]
    go_enter Try.func18, Try.ntmps18
    go_wp2
    all_goals refine bodyPost_ret (v := .bool (false)) (by simp [results, Try.results18, go_sem, ↓IntWalk.iteOmega, *]) rfl ⟨rfl, ?_⟩
    all_goals
      repeat (first | (with_reducible exact Below.refl _ _) | (with_reducible assumption) | (with_reducible refine below_to_plus ?_ ?_ _) | (with_reducible refine below_holds ?_ ?_ _ _) | (with_reducible refine Below.alloc ?_ ?_ _) | (with_reducible refine Below.drew ?_) | (with_reducible refine below_drewN ?_ _) | (with_reducible refine Below.setCell ?_ ?_ _))
      all_goals first | omega | (simp; done) | (simp [go_sem]; done) | (simp [go_sem]; omega)
  have d : decide (1024 < (n : Int)) = false := decide_eq_false dh
  rw [if_neg ah, if_neg bh, if_neg ch, if_neg dh] at EQ
  obtain ⟨hb, hoff, hao, hblt, l0, l1, l2, l3, l4, l5⟩ := HP.out.c (n - 1) (by rw [HN.out]; omega)
  subst hao
  have hw : IntKind.i64.wrap ((n : Int) - 1) = ((n - 1 : Nat) : Int) := by rw [IntKind.wrap_i64]; omega
  obtain ⟨q, hq⟩ : ∃ q, L[n - 1]!.op = q := ⟨_, rfl⟩
  rw [hq] at l0 EQ
  clear l1 l2 l3 l4 l5
  by_cases q9 : q = 9
  · rw [if_neg (fun h => h.1 q9)] at EQ
    subst q9
    obtain ⟨R, hR⟩ : ∃ R, L.all (soundF n g) = R := ⟨_, rfl⟩
    rw [EQ.out, hR]
    have HR : Aside ((L.drop 0).all (soundF n g) = R) := by show _ = _; rw [List.drop_zero]; exact hR
    have SV : Aside (¬ g < 1 ∧ ¬ 10 < g) := ⟨ah, bh⟩
    clear hR EQ
    go_enter Try.func18, Try.ntmps18
    go_wp2
    go_loopg [42] (n + 1) (fun gk s42 wr => ∃ k : Nat, s42 = .int .i64 (k : Int) ∧ k + gk = n + 1 ∧ k ≤ n ∧ Aside ((L.drop k).all (soundF n g) = R) ∧ Aside (Below (w.alloc (.cells #[.slice (some ⟨hb, hoff, none⟩) n cap, .int .i64 g] 24)).heap.size (w.alloc (.cells #[.slice (some ⟨hb, hoff, none⟩) n cap, .int .i64 g] 24)) wr))
    case atStart => exact ⟨0, rfl, by omega, by omega, HR.out, Below.refl _ _⟩
    case round =>
      obtain ⟨k, rfl, hk, hkl, HR2, HB⟩ := hrel
      clear HR
      by_cases hkn : k < n
      rotate_left
      · have rr : R = true := by rw [← HR2.out, List.drop_of_length_le (by rw [HN.out]; omega)]; rfl
        subst rr
        go_wp2
        all_goals refine bodyPost_ret (v := .bool (true)) (by simp [results, Try.results18, go_sem, ↓IntWalk.iteOmega, *]) rfl ⟨rfl, ?_⟩
        all_goals exact (Below.alloc (Below.refl _ _) (Nat.le_refl _) _).trans (HB.out.mono (by simp))
      have BW : Aside (Below w.heap.size w (w.alloc (.cells #[.slice (some ⟨hb, hoff, none⟩) n cap, .int .i64 g] 24))) := Below.alloc (Below.refl _ _) (Nat.le_refl _) _
      have c0 : wr.cell? ⟨w.heap.size, 0, none⟩ = some (.slice (some ⟨hb, hoff, none⟩) n cap) := (HB.out.cell (p := ⟨w.heap.size, 0, none⟩) (by simp)).trans (cell_heap (hp_new rfl) 0 _ rfl)
      have c1 : wr.cell? ⟨w.heap.size, 1, none⟩ = some (.int .i64 g) := (HB.out.cell (p := ⟨w.heap.size, 1, none⟩) (by simp)).trans (cell_heap (hp_new rfl) 1 _ rfl)
      obtain ⟨b', off', hao, hblt', l0, l1, l2, l3, l4, l5⟩ := ((HP.out.later BW.out).later HB.out).c k (by rw [HN.out]; omega)
      simp only [Option.some.injEq, Addr.mk.injEq] at hao
      obtain ⟨rfl, rfl, -⟩ := hao
      have hlk : k < L.length := by rw [HN.out]; omega
      have SL : (L.drop k).all (soundF n g) = (soundF n g L[k]! && (L.drop (k + 1)).all (soundF n g)) := by rw [List.drop_eq_getElem_cons hlk, List.all_cons, getElem!_pos L k hlk]
      have hsz : L[k]!.set.size ≤ maxLen := HP.out.f _ (by rw [getElem!_pos L k hlk]; exact List.getElem_mem _)
      rw [SL] at HR2
      obtain ⟨x, hx⟩ : ∃ x, L[k]! = x := ⟨_, rfl⟩
      rw [hx] at l0 l1 l2 l3 l4 l5 HR2 hsz
      obtain ⟨y1, y2, y3, y4, y5, y6⟩ := x
      simp only [] at l0 l1 l2 l3 l4 l5 hsz
      have cs := fun W => sound_calls y1 y2 y3 y4 y5 y6 (some ⟨hb, hoff, none⟩) n cap g W hsz (by have := SV.out; omega)
      obtain ⟨sd, hsd⟩ : ∃ sd, soundF n g ⟨y1, y2, y3, y4, y5, y6⟩ = sd := ⟨_, rfl⟩
      rw [hsd] at cs HR2
      have hwk : IntKind.i64.wrap ((k : Int) + 1) = ((k + 1 : Nat) : Int) := by rw [IntKind.wrap_i64]; omega
      have hsw : w.heap.size < wr.heap.size := by have := HB.out.size; simp at this; omega
      have nw1 : ¬ w.heap.size = wr.heap.size := by omega
      have nw2 : ¬ wr.heap.size = w.heap.size := by omega
      clear SL hx hsd
      go_wp2_with fail
      refine (cs _).mono ?_
      rintro e w9 ⟨rfl, hb9⟩
      have HB9 : Aside (Below (w.alloc (.cells #[.slice (some ⟨hb, hoff, none⟩) n cap, .int .i64 g] 24)).heap.size (w.alloc (.cells #[.slice (some ⟨hb, hoff, none⟩) n cap, .int .i64 g] 24)) w9) := HB.out.trans ((Below.alloc (Below.refl _ _) HB.out.size _).trans (hb9.mono (by simp; omega)))
      clear hb9 cs
      cases sd with
      | false =>
        have rr : R = false := by rw [← HR2.out]; rfl
        subst rr
        go_wp2
        all_goals refine bodyPost_ret (v := .bool (false)) (by simp [results, Try.results18, go_sem, ↓IntWalk.iteOmega, *]) rfl ⟨rfl, ?_⟩
        all_goals exact BW.out.trans (HB9.out.mono (by simp))
      | true =>
        have HR3 : Aside ((L.drop (k + 1)).all (soundF n g) = R) := by show _ = _; rw [← HR2.out]; rfl
        go_wp2
        go_roundg (n - k)
        case measure => omega
        case rel => exact ⟨k + 1, rfl, by omega, by omega, HR3.out, HB9.out⟩
  have g9 : (q != 9) = true := by simpa using q9
  by_cases q7 : q = 7
  · rw [if_neg (fun h => h.2 q7)] at EQ
    subst q7
    obtain ⟨R, hR⟩ : ∃ R, L.all (soundF n g) = R := ⟨_, rfl⟩
    rw [EQ.out, hR]
    have HR : Aside ((L.drop 0).all (soundF n g) = R) := by show _ = _; rw [List.drop_zero]; exact hR
    have SV : Aside (¬ g < 1 ∧ ¬ 10 < g) := ⟨ah, bh⟩
    clear hR EQ
    go_enter Try.func18, Try.ntmps18
    go_wp2
    go_loopg [42] (n + 1) (fun gk s42 wr => ∃ k : Nat, s42 = .int .i64 (k : Int) ∧ k + gk = n + 1 ∧ k ≤ n ∧ Aside ((L.drop k).all (soundF n g) = R) ∧ Aside (Below (w.alloc (.cells #[.slice (some ⟨hb, hoff, none⟩) n cap, .int .i64 g] 24)).heap.size (w.alloc (.cells #[.slice (some ⟨hb, hoff, none⟩) n cap, .int .i64 g] 24)) wr))
    case atStart => exact ⟨0, rfl, by omega, by omega, HR.out, Below.refl _ _⟩
    case round =>
      obtain ⟨k, rfl, hk, hkl, HR2, HB⟩ := hrel
      clear HR
      by_cases hkn : k < n
      rotate_left
      · have rr : R = true := by rw [← HR2.out, List.drop_of_length_le (by rw [HN.out]; omega)]; rfl
        subst rr
        go_wp2
        all_goals refine bodyPost_ret (v := .bool (true)) (by simp [results, Try.results18, go_sem, ↓IntWalk.iteOmega, *]) rfl ⟨rfl, ?_⟩
        all_goals exact (Below.alloc (Below.refl _ _) (Nat.le_refl _) _).trans (HB.out.mono (by simp))
      have BW : Aside (Below w.heap.size w (w.alloc (.cells #[.slice (some ⟨hb, hoff, none⟩) n cap, .int .i64 g] 24))) := Below.alloc (Below.refl _ _) (Nat.le_refl _) _
      have c0 : wr.cell? ⟨w.heap.size, 0, none⟩ = some (.slice (some ⟨hb, hoff, none⟩) n cap) := (HB.out.cell (p := ⟨w.heap.size, 0, none⟩) (by simp)).trans (cell_heap (hp_new rfl) 0 _ rfl)
      have c1 : wr.cell? ⟨w.heap.size, 1, none⟩ = some (.int .i64 g) := (HB.out.cell (p := ⟨w.heap.size, 1, none⟩) (by simp)).trans (cell_heap (hp_new rfl) 1 _ rfl)
      obtain ⟨b', off', hao, hblt', l0, l1, l2, l3, l4, l5⟩ := ((HP.out.later BW.out).later HB.out).c k (by rw [HN.out]; omega)
      simp only [Option.some.injEq, Addr.mk.injEq] at hao
      obtain ⟨rfl, rfl, -⟩ := hao
      have hlk : k < L.length := by rw [HN.out]; omega
      have SL : (L.drop k).all (soundF n g) = (soundF n g L[k]! && (L.drop (k + 1)).all (soundF n g)) := by rw [List.drop_eq_getElem_cons hlk, List.all_cons, getElem!_pos L k hlk]
      have hsz : L[k]!.set.size ≤ maxLen := HP.out.f _ (by rw [getElem!_pos L k hlk]; exact List.getElem_mem _)
      rw [SL] at HR2
      obtain ⟨x, hx⟩ : ∃ x, L[k]! = x := ⟨_, rfl⟩
      rw [hx] at l0 l1 l2 l3 l4 l5 HR2 hsz
      obtain ⟨y1, y2, y3, y4, y5, y6⟩ := x
      simp only [] at l0 l1 l2 l3 l4 l5 hsz
      have cs := fun W => sound_calls y1 y2 y3 y4 y5 y6 (some ⟨hb, hoff, none⟩) n cap g W hsz (by have := SV.out; omega)
      obtain ⟨sd, hsd⟩ : ∃ sd, soundF n g ⟨y1, y2, y3, y4, y5, y6⟩ = sd := ⟨_, rfl⟩
      rw [hsd] at cs HR2
      have hwk : IntKind.i64.wrap ((k : Int) + 1) = ((k + 1 : Nat) : Int) := by rw [IntKind.wrap_i64]; omega
      have hsw : w.heap.size < wr.heap.size := by have := HB.out.size; simp at this; omega
      have nw1 : ¬ w.heap.size = wr.heap.size := by omega
      have nw2 : ¬ wr.heap.size = w.heap.size := by omega
      clear SL hx hsd
      go_wp2_with fail
      refine (cs _).mono ?_
      rintro e w9 ⟨rfl, hb9⟩
      have HB9 : Aside (Below (w.alloc (.cells #[.slice (some ⟨hb, hoff, none⟩) n cap, .int .i64 g] 24)).heap.size (w.alloc (.cells #[.slice (some ⟨hb, hoff, none⟩) n cap, .int .i64 g] 24)) w9) := HB.out.trans ((Below.alloc (Below.refl _ _) HB.out.size _).trans (hb9.mono (by simp; omega)))
      clear hb9 cs
      cases sd with
      | false =>
        have rr : R = false := by rw [← HR2.out]; rfl
        subst rr
        go_wp2
        all_goals refine bodyPost_ret (v := .bool (false)) (by simp [results, Try.results18, go_sem, ↓IntWalk.iteOmega, *]) rfl ⟨rfl, ?_⟩
        all_goals exact BW.out.trans (HB9.out.mono (by simp))
      | true =>
        have HR3 : Aside ((L.drop (k + 1)).all (soundF n g) = R) := by show _ = _; rw [← HR2.out]; rfl
        go_wp2
        go_roundg (n - k)
        case measure => omega
        case rel => exact ⟨k + 1, rfl, by omega, by omega, HR3.out, HB9.out⟩
  have g7 : (q != 7) = true := by simpa using q7
  rw [if_pos ⟨q9, q7⟩] at EQ
  rw [EQ.out]
  go_enter Try.func18, Try.ntmps18
  go_wp2
  all_goals refine bodyPost_ret (v := .bool (false)) (by simp [results, Try.results18, go_sem, ↓IntWalk.iteOmega, *]) rfl ⟨rfl, ?_⟩
  all_goals
    repeat (first | (with_reducible exact Below.refl _ _) | (with_reducible assumption) | (with_reducible refine below_to_plus ?_ ?_ _) | (with_reducible refine below_holds ?_ ?_ _ _) | (with_reducible refine Below.alloc ?_ ?_ _) | (with_reducible refine Below.drew ?_) | (with_reducible refine below_drewN ?_ _) | (with_reducible refine Below.setCell ?_ ?_ _))
    all_goals first | omega | (simp; done) | (simp [go_sem]; done) | (simp [go_sem]; omega)

end Go.Proofs.Ytfhccmegobbnaaa
