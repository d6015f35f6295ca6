/- This text proves the walk of Right of the reference: it answers as the package's. Conditions: those that each theorem names. -/
import Derived.Test.YtfhccmegobbnaaaRegexRC
namespace Go.Proofs.Ytfhccmegobbnaaa
open Go.ChangeShapes Go.WideShapes Go.ChangeAt Go.RowKit
set_option linter.unusedVariables false
set_option linter.unusedSimpArgs false

/-- An instruction is valid, as the reference asks it. -/
def rsoundF (n : Nat) (g : Int) (i : In) : Bool :=
  if i.op < 1 then false else if 9 < i.op then false else if restF i = false then false else if i.x < 0 then false else if i.y < 0 then false
  else if i.op = 8 then (if 2 * g ≤ i.x then false else if (n : Int) ≤ i.y then false else true)
  else if (n : Int) ≤ i.x then false else if (n : Int) ≤ i.y then false else if i.op = 3 then setOk i.set else true
theorem rest_true {i : In} (h : restF i = true) : (i.op = 6 ∨ i.y = 0) ∧ (i.op = 6 ∨ i.op = 7 ∨ i.op = 8 ∨ i.x = 0) := by
  unfold restF at h
  split at h; · cases h
  split at h; · cases h
  split at h; · cases h
  rename_i h1 h2 h3
  refine ⟨by omega, by simpa using h⟩
theorem rsound_eq {n : Nat} {g : Int} (i : In) (hn : 1 ≤ n) (hg : 1 ≤ g) : rsoundF n g i = soundF n g i := by
  unfold rsoundF soundF
  rw [← rest_only]
  by_cases h1 : i.op < 1
  · rw [if_pos h1, if_pos h1]
  rw [if_neg h1, if_neg h1]
  by_cases h9 : 9 < i.op
  · rw [if_pos h9, if_pos h9]
  rw [if_neg h9, if_neg h9]
  cases hr : restF i with
  | false => rfl
  | true =>
  rw [if_neg (show ¬ (true = false) by simp), if_neg (show ¬ (true = false) by simp)]
  obtain ⟨hy, hx⟩ := rest_true hr
  by_cases h7 : i.op = 7
  · rw [if_pos h7]
    have hy : i.y = 0 := by omega
    unfold inF
    by_cases a : i.x < 0
    · rw [if_pos a]; simp; omega
    by_cases b : (n : Int) ≤ i.x
    · rw [if_neg a, if_neg (by omega), if_neg (by omega), if_pos b]; simp; omega
    · rw [if_neg a, if_neg (by omega), if_neg (by omega), if_neg b, if_neg (by omega), if_neg (by omega)]; simp; omega
  rw [if_neg h7]
  by_cases h6 : i.op = 6
  · rw [if_pos h6]
    unfold inF
    by_cases a : i.x < 0
    · rw [if_pos a]; simp; omega
    by_cases a2 : i.y < 0
    · rw [if_neg a, if_pos a2]; simp; omega
    rw [if_neg a, if_neg a2, if_neg (by omega)]
    by_cases b : (n : Int) ≤ i.x
    · rw [if_pos b]; simp; omega
    by_cases b2 : (n : Int) ≤ i.y
    · rw [if_neg b, if_pos b2]; simp; omega
    · rw [if_neg b, if_neg b2, if_neg (by omega)]; simp; omega
  rw [if_neg h6]
  have hy : i.y = 0 := by omega
  by_cases h8 : i.op = 8
  · rw [if_pos h8, if_pos h8]
    by_cases a : i.x < 0
    · rw [if_pos a]; simp; omega
    rw [if_neg a, if_neg (by omega)]
    by_cases b : 2 * g ≤ i.x
    · rw [if_pos b]; simp; omega
    · rw [if_neg b, if_neg (by omega)]; simp; omega
  rw [if_neg h8, if_neg h8]
  have hx : i.x = 0 := by omega
  rw [if_neg (by omega), if_neg (by omega), if_neg (by omega), if_neg (by omega)]
theorem rright_all {L : List In} {g : Int} (hL : 1 ≤ L.length) (hg : 1 ≤ g) : L.all (soundF L.length g) = L.all (rsoundF L.length g) := by
  congr 1
  funext i
  exact (rsound_eq i hL hg).symm

set_option maxRecDepth 20000 in
set_option maxHeartbeats 64000000 in
theorem rright_calls (L : List In) (ao : Option Addr) (cap : Nat) (g : Int) (w : World) (h : Prg L ao w) (hl : L.length ≤ 9223372036854775807) :
    Calls Try.prog 19 #[.agg #[.slice ao L.length cap, .int .i64 g]] w fun e w' => e = .returned (.bool (rightF L g)) ∧ Below w.heap.size w w' := by
  obtain ⟨n, hn⟩ : ∃ n, L.length = n := ⟨_, rfl⟩
  have HP : Aside (Prg L ao w) := h
  have HN : Aside (L.length = n) := hn
  have EQ : Aside (rightF L g = if g < 1 then false else if 10 < g then false else if (n : Int) < 1 then false else if 1024 < (n : Int) then false
      else if L[n - 1]!.op ≠ 9 ∧ L[n - 1]!.op ≠ 7 then false else L.all (soundF n g)) := by show _ = _; rw [← hn]; rfl
  rw [hn] at hl ⊢
  clear h hn
  by_cases ah : g < 1
  · have a : decide (g < 1) = true := decide_eq_true ah
    rw [if_pos ah] at EQ
    rw [EQ.out]
    go_enter Try.func19, Try.ntmps19
    go_wp2
    all_goals refine bodyPost_ret (v := .bool (false)) (by simp [results, Try.results19, go_sem, ↓IntWalk.iteOmega, *]) rfl ⟨rfl, ?_⟩
    all_goals
      repeat (first | (with_reducible exact Below.refl _ _) | (with_reducible assumption) | (with_reducible refine below_to_plus ?_ ?_ _) | (with_reducible refine below_holds ?_ ?_ _ _) | (with_reducible refine Below.alloc ?_ ?_ _) | (with_reducible refine Below.drew ?_) | (with_reducible refine below_drewN ?_ _) | (with_reducible refine Below.setCell ?_ ?_ _))
      all_goals first | omega | (simp; done) | (simp [go_sem]; done) | (simp [go_sem]; omega)
  have a : decide (g < 1) = false := decide_eq_false ah
  by_cases bh : 10 < g
  · have b : decide (10 < g) = true := decide_eq_true bh
    rw [if_neg ah, if_pos bh] at EQ
    rw [EQ.out]
    go_enter Try.func19, Try.ntmps19
    go_wp2
    all_goals refine bodyPost_ret (v := .bool (false)) (by simp [results, Try.results19, go_sem, ↓IntWalk.iteOmega, *]) rfl ⟨rfl, ?_⟩
    all_goals
      repeat (first | (with_reducible exact Below.refl _ _) | (with_reducible assumption) | (with_reducible refine below_to_plus ?_ ?_ _) | (with_reducible refine below_holds ?_ ?_ _ _) | (with_reducible refine Below.alloc ?_ ?_ _) | (with_reducible refine Below.drew ?_) | (with_reducible refine below_drewN ?_ _) | (with_reducible refine Below.setCell ?_ ?_ _))
      all_goals first | omega | (simp; done) | (simp [go_sem]; done) | (simp [go_sem]; omega)
  have b : decide (10 < g) = false := decide_eq_false bh
  by_cases ch : (n : Int) < 1
  · have c : decide ((n : Int) < 1) = true := decide_eq_true ch
    rw [if_neg ah, if_neg bh, if_pos ch] at EQ
    rw [EQ.out]
    go_enter Try.func19, Try.ntmps19
    go_wp2
    all_goals refine bodyPost_ret (v := .bool (false)) (by simp [results, Try.results19, go_sem, ↓IntWalk.iteOmega, *]) rfl ⟨rfl, ?_⟩
    all_goals
      repeat (first | (with_reducible exact Below.refl _ _) | (with_reducible assumption) | (with_reducible refine below_to_plus ?_ ?_ _) | (with_reducible refine below_holds ?_ ?_ _ _) | (with_reducible refine Below.alloc ?_ ?_ _) | (with_reducible refine Below.drew ?_) | (with_reducible refine below_drewN ?_ _) | (with_reducible refine Below.setCell ?_ ?_ _))
      all_goals first | omega | (simp; done) | (simp [go_sem]; done) | (simp [go_sem]; omega)
  have c : decide ((n : Int) < 1) = false := decide_eq_false ch
  by_cases dh : 1024 < (n : Int)
  · have d : decide (1024 < (n : Int)) = true := decide_eq_true dh
    rw [if_neg ah, if_neg bh, if_neg ch, if_pos dh] at EQ
    rw [EQ.out]
    go_enter Try.func19, Try.ntmps19
    go_wp2
    all_goals refine bodyPost_ret (v := .bool (false)) (by simp [results, Try.results19, go_sem, ↓IntWalk.iteOmega, *]) rfl ⟨rfl, ?_⟩
    all_goals
      repeat (first | (with_reducible exact Below.refl _ _) | (with_reducible assumption) | (with_reducible refine below_to_plus ?_ ?_ _) | (with_reducible refine below_holds ?_ ?_ _ _) | (with_reducible refine Below.alloc ?_ ?_ _) | (with_reducible refine Below.drew ?_) | (with_reducible refine below_drewN ?_ _) | (with_reducible refine Below.setCell ?_ ?_ _))
      all_goals first | omega | (simp; done) | (simp [go_sem]; done) | (simp [go_sem]; omega)
  have d : decide (1024 < (n : Int)) = false := decide_eq_false dh
  rw [if_neg ah, if_neg bh, if_neg ch, if_neg dh] at EQ
  have EQ : Aside (rightF L g = if L[n - 1]!.op ≠ 9 ∧ L[n - 1]!.op ≠ 7 then false else L.all (rsoundF n g)) := by
    have h1 := EQ.out
    have h2 := rright_all (L := L) (g := g) (by rw [HN.out]; omega) (by omega)
    rw [HN.out] at h2
    show _ = _
    rw [h1, h2]
  obtain ⟨hb, hoff, hao, hblt, l0, l1, l2, l3, l4, l5⟩ := HP.out.c (n - 1) (by rw [HN.out]; omega)
  subst hao
  have hw : IntKind.i64.wrap ((n : Int) - 1) = ((n - 1 : Nat) : Int) := by rw [IntKind.wrap_i64]; omega
  obtain ⟨q, hq⟩ : ∃ q, L[n - 1]!.op = q := ⟨_, rfl⟩
  rw [hq] at l0 EQ
  clear l1 l2 l3 l4 l5
  by_cases q9 : q = 9
  · rw [if_neg (fun h => h.1 q9)] at EQ
    subst q9
    obtain ⟨R, hR⟩ : ∃ R, L.all (rsoundF n g) = R := ⟨_, rfl⟩
    rw [EQ.out, hR]
    have HR : Aside ((L.drop 0).all (rsoundF n g) = R) := by show _ = _; rw [List.drop_zero]; exact hR
    have w2g : IntKind.i64.wrap (2 * g) = 2 * g := by rw [IntKind.wrap_i64]; omega
    clear hR EQ
    go_enter Try.func19, Try.ntmps19
    go_wp2
    go_loopg [4] (n + 1) (fun gk s4 wr => ∃ k : Nat, s4 = .int .i64 (k : Int) ∧ k + gk = n + 1 ∧ k ≤ n ∧ Aside ((L.drop k).all (rsoundF n g) = R) ∧ Aside (Below (w.alloc (.cells #[.slice (some ⟨hb, hoff, none⟩) n cap, .int .i64 g] 24)).heap.size (w.alloc (.cells #[.slice (some ⟨hb, hoff, none⟩) n cap, .int .i64 g] 24)) wr))
    case atStart => exact ⟨0, rfl, by omega, by omega, HR.out, Below.refl _ _⟩
    case round =>
      obtain ⟨k, rfl, hk, hkl, HR2, HB⟩ := hrel
      clear HR
      by_cases hkn : k < n
      rotate_left
      · have rr : R = true := by rw [← HR2.out, List.drop_of_length_le (by rw [HN.out]; omega)]; rfl
        subst rr
        go_wp2
        all_goals refine bodyPost_ret (v := .bool (true)) (by simp [results, Try.results19, go_sem, ↓IntWalk.iteOmega, *]) rfl ⟨rfl, ?_⟩
        all_goals exact (Below.alloc (Below.refl _ _) (Nat.le_refl _) _).trans (HB.out.mono (by simp))
      have BW : Aside (Below w.heap.size w (w.alloc (.cells #[.slice (some ⟨hb, hoff, none⟩) n cap, .int .i64 g] 24))) := Below.alloc (Below.refl _ _) (Nat.le_refl _) _
      have RB : Aside (wr.heap[w.heap.size]? = some (.cells #[.slice (some ⟨hb, hoff, none⟩) n cap, .int .i64 g] 24 (0, 0))) := (HB.out.block _ (by simp)).trans (hp_new rfl)
      have c0 := cell_heap RB.out 0 _ rfl
      have c1 := cell_heap RB.out 1 _ rfl
      obtain ⟨b', off', hao, hblt', l0, l1, l2, l3, l4, l5⟩ := ((HP.out.later BW.out).later HB.out).c k (by rw [HN.out]; omega)
      simp only [Option.some.injEq, Addr.mk.injEq] at hao
      obtain ⟨rfl, rfl, -⟩ := hao
      have hlk : k < L.length := by rw [HN.out]; omega
      have SL : (L.drop k).all (rsoundF n g) = (rsoundF n g L[k]! && (L.drop (k + 1)).all (rsoundF n g)) := by rw [List.drop_eq_getElem_cons hlk, List.all_cons, getElem!_pos L k hlk]
      have hsz : L[k]!.set.size ≤ maxLen := HP.out.f _ (by rw [getElem!_pos L k hlk]; exact List.getElem_mem _)
      rw [SL] at HR2
      obtain ⟨x, hx⟩ : ∃ x, L[k]! = x := ⟨_, rfl⟩
      rw [hx] at l0 l1 l2 l3 l4 l5 HR2 hsz
      obtain ⟨y1, y2, y3, y4, y5, y6⟩ := x
      simp only [] at l0 l1 l2 l3 l4 l5 hsz
      have hsz9 : y3.size ≤ 9223372036854775807 := by unfold maxLen at hsz; exact hsz
      have cs := fun W => rest_calls y1 y2 y3 y4 y5 y6 W
      obtain ⟨sd, hsd⟩ : ∃ sd, restF ⟨y1, y2, y3, y4, y5, y6⟩ = sd := ⟨_, rfl⟩
      rw [hsd] at cs
      have hwk : IntKind.i64.wrap ((k : Int) + 1) = ((k + 1 : Nat) : Int) := by rw [IntKind.wrap_i64]; omega
      have hsw : w.heap.size < wr.heap.size := by have := HB.out.size; simp at this; omega
      have nw1 : ¬ w.heap.size = wr.heap.size := by omega
      have nw2 : ¬ wr.heap.size = w.heap.size := by omega
      have XB : Aside ((wr.alloc (.cells #[.int .i64 y1, .int .u8 y2, .string y3, .bool y4, .int .i64 y5, .int .i64 y6] 34)).heap[wr.heap.size]? = some (.cells #[.int .i64 y1, .int .u8 y2, .string y3, .bool y4, .int .i64 y5, .int .i64 y6] 34 (0, 0))) := hp_new rfl
      clear SL hx
      by_cases t1 : y1 < 1
      · have t1d : decide (y1 < 1) = true := decide_eq_true t1
        have rr : R = false := by
          rw [← HR2.out]
          unfold rsoundF
          simp [t1]
        subst rr
        go_wp2
        all_goals refine bodyPost_ret (v := .bool (false)) (by simp [results, Try.results19, go_sem, ↓IntWalk.iteOmega, *]) rfl ⟨rfl, ?_⟩
        all_goals exact (BW.out.trans (HB.out.mono (by simp))).trans (Below.alloc (Below.refl _ _) (Nat.le_trans BW.out.size HB.out.size) _)
      have t1d : decide (y1 < 1) = false := decide_eq_false t1
      by_cases t2 : 9 < y1
      · have t2d : decide (9 < y1) = true := decide_eq_true t2
        have rr : R = false := by
          rw [← HR2.out]
          unfold rsoundF
          simp [t1, t2]
        subst rr
        go_wp2
        all_goals refine bodyPost_ret (v := .bool (false)) (by simp [results, Try.results19, go_sem, ↓IntWalk.iteOmega, *]) rfl ⟨rfl, ?_⟩
        all_goals exact (BW.out.trans (HB.out.mono (by simp))).trans (Below.alloc (Below.refl _ _) (Nat.le_trans BW.out.size HB.out.size) _)
      have t2d : decide (9 < y1) = false := decide_eq_false t2
      go_wp2_with fail
      refine (cs _).mono ?_
      rintro e w9 ⟨rfl, hb9⟩
      have HB9 : Aside (Below (w.alloc (.cells #[.slice (some ⟨hb, hoff, none⟩) n cap, .int .i64 g] 24)).heap.size (w.alloc (.cells #[.slice (some ⟨hb, hoff, none⟩) n cap, .int .i64 g] 24)) w9) := HB.out.trans ((Below.alloc (Below.refl _ _) HB.out.size _).trans (hb9.mono (by simp; omega)))
      have X9 := heap_later XB.out hb9
      have R9 := heap_later RB.out ((Below.alloc (Below.refl wr.heap.size wr) (Nat.le_refl _) (.cells #[.int .i64 y1, .int .u8 y2, .string y3, .bool y4, .int .i64 y5, .int .i64 y6] 34)).trans (hb9.mono (by simp)))
      clear c0 c1 hb9 cs XB RB
      have c0 := cell_heap R9 0 _ rfl
      have c1 := cell_heap R9 1 _ rfl
      have x0 := cell_heap X9 0 _ rfl
      have x2 := cell_heap X9 2 _ rfl
      have x4 := cell_heap X9 4 _ rfl
      have x5 := cell_heap X9 5 _ rfl
      clear X9 R9
      cases sd with
      | false =>
        have rr : R = false := by
          rw [← HR2.out]
          unfold rsoundF
          simp [t1, t2, hsd]
        subst rr
        go_wp2
        all_goals refine bodyPost_ret (v := .bool (false)) (by simp [results, Try.results19, go_sem, ↓IntWalk.iteOmega, *]) rfl ⟨rfl, ?_⟩
        all_goals exact BW.out.trans (HB9.out.mono (by simp))
      | true =>
        by_cases t3 : y5 < 0
        · have t3d : decide (y5 < 0) = true := decide_eq_true t3
          have rr : R = false := by
            rw [← HR2.out]
            unfold rsoundF
            simp [t1, t2, hsd, t3]
          subst rr
          go_wp2
          all_goals refine bodyPost_ret (v := .bool (false)) (by simp [results, Try.results19, go_sem, ↓IntWalk.iteOmega, *]) rfl ⟨rfl, ?_⟩
          all_goals exact BW.out.trans (HB9.out.mono (by simp))
        have t3d : decide (y5 < 0) = false := decide_eq_false t3
        by_cases t4 : y6 < 0
        · have t4d : decide (y6 < 0) = true := decide_eq_true t4
          have rr : R = false := by
            rw [← HR2.out]
            unfold rsoundF
            simp [t1, t2, hsd, t3, t4]
          subst rr
          go_wp2
          all_goals refine bodyPost_ret (v := .bool (false)) (by simp [results, Try.results19, go_sem, ↓IntWalk.iteOmega, *]) rfl ⟨rfl, ?_⟩
          all_goals exact BW.out.trans (HB9.out.mono (by simp))
        have t4d : decide (y6 < 0) = false := decide_eq_false t4
        by_cases o8 : y1 = 8
        · subst o8
          by_cases t5 : 2 * g ≤ y5
          · have t5d : decide (2 * g ≤ y5) = true := decide_eq_true t5
            have rr : R = false := by
              rw [← HR2.out]
              unfold rsoundF
              simp [t1, t2, hsd, t3, t4, t5]
            subst rr
            go_wp2
            all_goals refine bodyPost_ret (v := .bool (false)) (by simp [results, Try.results19, go_sem, ↓IntWalk.iteOmega, *]) rfl ⟨rfl, ?_⟩
            all_goals exact BW.out.trans (HB9.out.mono (by simp))
          have t5d : decide (2 * g ≤ y5) = false := decide_eq_false t5
          by_cases t6 : (n : Int) ≤ y6
          · have t6d : decide ((n : Int) ≤ y6) = true := decide_eq_true t6
            have rr : R = false := by
              rw [← HR2.out]
              unfold rsoundF
              simp [t1, t2, hsd, t3, t4, t5, t6]
            subst rr
            go_wp2
            all_goals refine bodyPost_ret (v := .bool (false)) (by simp [results, Try.results19, go_sem, ↓IntWalk.iteOmega, *]) rfl ⟨rfl, ?_⟩
            all_goals exact BW.out.trans (HB9.out.mono (by simp))
          have t6d : decide ((n : Int) ≤ y6) = false := decide_eq_false t6
          have HR3 : Aside ((L.drop (k + 1)).all (rsoundF n g) = R) := by
            have hr := HR2.out
            have es : rsoundF n g ⟨8, y2, y3, y4, y5, y6⟩ = true := by
              unfold rsoundF setOk
              simp [t1, t2, hsd, t3, t4, t5, t6]
            rw [es, Bool.true_and] at hr
            exact hr
          go_wp2
          go_roundg (n - k)
          case measure => omega
          case rel => exact ⟨k + 1, rfl, by omega, by omega, HR3.out, HB9.out⟩
        have e8 : (y1 == 8) = false := by simpa using o8
        have n8 : (y1 != 8) = true := by simpa using o8
        have d8 : decide (y1 = 8) = false := decide_eq_false o8
        by_cases t5 : (n : Int) ≤ y5
        · have t5d : decide ((n : Int) ≤ y5) = true := decide_eq_true t5
          have rr : R = false := by
            rw [← HR2.out]
            unfold rsoundF
            simp [t1, t2, hsd, t3, t4, o8, t5]
          subst rr
          go_wp2
          all_goals refine bodyPost_ret (v := .bool (false)) (by simp [results, Try.results19, go_sem, ↓IntWalk.iteOmega, *]) rfl ⟨rfl, ?_⟩
          all_goals exact BW.out.trans (HB9.out.mono (by simp))
        have t5d : decide ((n : Int) ≤ y5) = false := decide_eq_false t5
        by_cases t6 : (n : Int) ≤ y6
        · have t6d : decide ((n : Int) ≤ y6) = true := decide_eq_true t6
          have rr : R = false := by
            rw [← HR2.out]
            unfold rsoundF
            simp [t1, t2, hsd, t3, t4, o8, t5, t6]
          subst rr
          go_wp2
          all_goals refine bodyPost_ret (v := .bool (false)) (by simp [results, Try.results19, go_sem, ↓IntWalk.iteOmega, *]) rfl ⟨rfl, ?_⟩
          all_goals exact BW.out.trans (HB9.out.mono (by simp))
        have t6d : decide ((n : Int) ≤ y6) = false := decide_eq_false t6
        by_cases o3 : y1 = 3
        · subst o3
          have wt : ((y3.size : Int).tmod 2) = ((y3.size % 2 : Nat) : Int) := by rw [Int.tmod_eq_emod_of_nonneg (by omega)]; omega
          by_cases u1 : y3.size % 2 = 0
          rotate_left
          · have u1a : (((y3.size % 2 : Nat) : Int) != 0) = true := by rw [bne_iff_ne]; omega
            have rr : R = false := by
              rw [← HR2.out]
              unfold rsoundF
              simp [t1, t2, hsd, t3, t4, o8, t5, t6, setOk, u1]
            subst rr
            go_wp2
            all_goals refine bodyPost_ret (v := .bool (false)) (by simp [results, Try.results19, go_sem, ↓IntWalk.iteOmega, *]) rfl ⟨rfl, ?_⟩
            all_goals exact BW.out.trans (HB9.out.mono (by simp))
          have u1a : (((y3.size % 2 : Nat) : Int) != 0) = false := by rw [u1]; rfl
          by_cases u2 : y3.size < 2
          · have u2d : decide ((y3.size : Int) < 2) = true := decide_eq_true (by omega)
            have u2i : (y3.size : Int) < 2 := by omega
            have u2m : ¬ (2 ≤ y3.size) := by omega
            have rr : R = false := by
              rw [← HR2.out]
              unfold rsoundF
              simp [t1, t2, hsd, t3, t4, o8, t5, t6, u1, setOk, u2m]
            subst rr
            go_wp2
            all_goals refine bodyPost_ret (v := .bool (false)) (by simp [results, Try.results19, go_sem, ↓IntWalk.iteOmega, *]) rfl ⟨rfl, ?_⟩
            all_goals exact BW.out.trans (HB9.out.mono (by simp))
          have u2d : decide ((y3.size : Int) < 2) = false := decide_eq_false (by omega)
          have u2i : ¬ ((y3.size : Int) < 2) := by omega
          have u2m : 2 ≤ y3.size := by omega
          by_cases u3 : 512 < y3.size
          · have u3d : decide (512 < (y3.size : Int)) = true := decide_eq_true (by omega)
            have u3i : 512 < (y3.size : Int) := by omega
            have u3m : ¬ (y3.size ≤ 512) := by omega
            have rr : R = false := by
              rw [← HR2.out]
              unfold rsoundF
              simp [t1, t2, hsd, t3, t4, o8, t5, t6, u1, u2m, setOk, u3m]
            subst rr
            go_wp2
            all_goals refine bodyPost_ret (v := .bool (false)) (by simp [results, Try.results19, go_sem, ↓IntWalk.iteOmega, *]) rfl ⟨rfl, ?_⟩
            all_goals exact BW.out.trans (HB9.out.mono (by simp))
          have u3d : decide (512 < (y3.size : Int)) = false := decide_eq_false (by omega)
          have u3i : ¬ (512 < (y3.size : Int)) := by omega
          have u3m : y3.size ≤ 512 := by omega
          have HR3 : Aside ((L.drop (k + 1)).all (rsoundF n g) = R) := by
            have hr := HR2.out
            have es : rsoundF n g ⟨3, y2, y3, y4, y5, y6⟩ = true := by
              unfold rsoundF setOk
              simp [t1, t2, hsd, t3, t4, o8, t5, t6, u1, u2m, u3m]
            rw [es, Bool.true_and] at hr
            exact hr
          go_wp2
          go_roundg (n - k)
          case measure => omega
          case rel => exact ⟨k + 1, rfl, by omega, by omega, HR3.out, HB9.out⟩
        have e3 : (y1 == 3) = false := by simpa using o3
        have n3 : (y1 != 3) = true := by simpa using o3
        have d3 : decide (y1 = 3) = false := decide_eq_false o3
        have HR3 : Aside ((L.drop (k + 1)).all (rsoundF n g) = R) := by
          have hr := HR2.out
          have es : rsoundF n g ⟨y1, y2, y3, y4, y5, y6⟩ = true := by
            unfold rsoundF setOk
            simp [t1, t2, hsd, t3, t4, o8, t5, t6, o3]
          rw [es, Bool.true_and] at hr
          exact hr
        go_wp2
        go_roundg (n - k)
        case measure => omega
        case rel => exact ⟨k + 1, rfl, by omega, by omega, HR3.out, HB9.out⟩
  have g9 : (q != 9) = true := by simpa using q9
  by_cases q7 : q = 7
  · rw [if_neg (fun h => h.2 q7)] at EQ
    subst q7
    obtain ⟨R, hR⟩ : ∃ R, L.all (rsoundF n g) = R := ⟨_, rfl⟩
    rw [EQ.out, hR]
    have HR : Aside ((L.drop 0).all (rsoundF n g) = R) := by show _ = _; rw [List.drop_zero]; exact hR
    have w2g : IntKind.i64.wrap (2 * g) = 2 * g := by rw [IntKind.wrap_i64]; omega
    clear hR EQ
    go_enter Try.func19, Try.ntmps19
    go_wp2
    go_loopg [4] (n + 1) (fun gk s4 wr => ∃ k : Nat, s4 = .int .i64 (k : Int) ∧ k + gk = n + 1 ∧ k ≤ n ∧ Aside ((L.drop k).all (rsoundF n g) = R) ∧ Aside (Below (w.alloc (.cells #[.slice (some ⟨hb, hoff, none⟩) n cap, .int .i64 g] 24)).heap.size (w.alloc (.cells #[.slice (some ⟨hb, hoff, none⟩) n cap, .int .i64 g] 24)) wr))
    case atStart => exact ⟨0, rfl, by omega, by omega, HR.out, Below.refl _ _⟩
    case round =>
      obtain ⟨k, rfl, hk, hkl, HR2, HB⟩ := hrel
      clear HR
      by_cases hkn : k < n
      rotate_left
      · have rr : R = true := by rw [← HR2.out, List.drop_of_length_le (by rw [HN.out]; omega)]; rfl
        subst rr
        go_wp2
        all_goals refine bodyPost_ret (v := .bool (true)) (by simp [results, Try.results19, go_sem, ↓IntWalk.iteOmega, *]) rfl ⟨rfl, ?_⟩
        all_goals exact (Below.alloc (Below.refl _ _) (Nat.le_refl _) _).trans (HB.out.mono (by simp))
      have BW : Aside (Below w.heap.size w (w.alloc (.cells #[.slice (some ⟨hb, hoff, none⟩) n cap, .int .i64 g] 24))) := Below.alloc (Below.refl _ _) (Nat.le_refl _) _
      have RB : Aside (wr.heap[w.heap.size]? = some (.cells #[.slice (some ⟨hb, hoff, none⟩) n cap, .int .i64 g] 24 (0, 0))) := (HB.out.block _ (by simp)).trans (hp_new rfl)
      have c0 := cell_heap RB.out 0 _ rfl
      have c1 := cell_heap RB.out 1 _ rfl
      obtain ⟨b', off', hao, hblt', l0, l1, l2, l3, l4, l5⟩ := ((HP.out.later BW.out).later HB.out).c k (by rw [HN.out]; omega)
      simp only [Option.some.injEq, Addr.mk.injEq] at hao
      obtain ⟨rfl, rfl, -⟩ := hao
      have hlk : k < L.length := by rw [HN.out]; omega
      have SL : (L.drop k).all (rsoundF n g) = (rsoundF n g L[k]! && (L.drop (k + 1)).all (rsoundF n g)) := by rw [List.drop_eq_getElem_cons hlk, List.all_cons, getElem!_pos L k hlk]
      have hsz : L[k]!.set.size ≤ maxLen := HP.out.f _ (by rw [getElem!_pos L k hlk]; exact List.getElem_mem _)
      rw [SL] at HR2
      obtain ⟨x, hx⟩ : ∃ x, L[k]! = x := ⟨_, rfl⟩
      rw [hx] at l0 l1 l2 l3 l4 l5 HR2 hsz
      obtain ⟨y1, y2, y3, y4, y5, y6⟩ := x
      simp only [] at l0 l1 l2 l3 l4 l5 hsz
      have hsz9 : y3.size ≤ 9223372036854775807 := by unfold maxLen at hsz; exact hsz
      have cs := fun W => rest_calls y1 y2 y3 y4 y5 y6 W
      obtain ⟨sd, hsd⟩ : ∃ sd, restF ⟨y1, y2, y3, y4, y5, y6⟩ = sd := ⟨_, rfl⟩
      rw [hsd] at cs
      have hwk : IntKind.i64.wrap ((k : Int) + 1) = ((k + 1 : Nat) : Int) := by rw [IntKind.wrap_i64]; omega
      have hsw : w.heap.size < wr.heap.size := by have := HB.out.size; simp at this; omega
      have nw1 : ¬ w.heap.size = wr.heap.size := by omega
      have nw2 : ¬ wr.heap.size = w.heap.size := by omega
      have XB : Aside ((wr.alloc (.cells #[.int .i64 y1, .int .u8 y2, .string y3, .bool y4, .int .i64 y5, .int .i64 y6] 34)).heap[wr.heap.size]? = some (.cells #[.int .i64 y1, .int .u8 y2, .string y3, .bool y4, .int .i64 y5, .int .i64 y6] 34 (0, 0))) := hp_new rfl
      clear SL hx
      by_cases t1 : y1 < 1
      · have t1d : decide (y1 < 1) = true := decide_eq_true t1
        have rr : R = false := by
          rw [← HR2.out]
          unfold rsoundF
          simp [t1]
        subst rr
        go_wp2
        all_goals refine bodyPost_ret (v := .bool (false)) (by simp [results, Try.results19, go_sem, ↓IntWalk.iteOmega, *]) rfl ⟨rfl, ?_⟩
        all_goals exact (BW.out.trans (HB.out.mono (by simp))).trans (Below.alloc (Below.refl _ _) (Nat.le_trans BW.out.size HB.out.size) _)
      have t1d : decide (y1 < 1) = false := decide_eq_false t1
      by_cases t2 : 9 < y1
      · have t2d : decide (9 < y1) = true := decide_eq_true t2
        have rr : R = false := by
          rw [← HR2.out]
          unfold rsoundF
          simp [t1, t2]
        subst rr
        go_wp2
        all_goals refine bodyPost_ret (v := .bool (false)) (by simp [results, Try.results19, go_sem, ↓IntWalk.iteOmega, *]) rfl ⟨rfl, ?_⟩
        all_goals exact (BW.out.trans (HB.out.mono (by simp))).trans (Below.alloc (Below.refl _ _) (Nat.le_trans BW.out.size HB.out.size) _)
      have t2d : decide (9 < y1) = false := decide_eq_false t2
      go_wp2_with fail
      refine (cs _).mono ?_
      rintro e w9 ⟨rfl, hb9⟩
      have HB9 : Aside (Below (w.alloc (.cells #[.slice (some ⟨hb, hoff, none⟩) n cap, .int .i64 g] 24)).heap.size (w.alloc (.cells #[.slice (some ⟨hb, hoff, none⟩) n cap, .int .i64 g] 24)) w9) := HB.out.trans ((Below.alloc (Below.refl _ _) HB.out.size _).trans (hb9.mono (by simp; omega)))
      have X9 := heap_later XB.out hb9
      have R9 := heap_later RB.out ((Below.alloc (Below.refl wr.heap.size wr) (Nat.le_refl _) (.cells #[.int .i64 y1, .int .u8 y2, .string y3, .bool y4, .int .i64 y5, .int .i64 y6] 34)).trans (hb9.mono (by simp)))
      clear c0 c1 hb9 cs XB RB
      have c0 := cell_heap R9 0 _ rfl
      have c1 := cell_heap R9 1 _ rfl
      have x0 := cell_heap X9 0 _ rfl
      have x2 := cell_heap X9 2 _ rfl
      have x4 := cell_heap X9 4 _ rfl
      have x5 := cell_heap X9 5 _ rfl
      clear X9 R9
      cases sd with
      | false =>
        have rr : R = false := by
          rw [← HR2.out]
          unfold rsoundF
          simp [t1, t2, hsd]
        subst rr
        go_wp2
        all_goals refine bodyPost_ret (v := .bool (false)) (by simp [results, Try.results19, go_sem, ↓IntWalk.iteOmega, *]) rfl ⟨rfl, ?_⟩
        all_goals exact BW.out.trans (HB9.out.mono (by simp))
      | true =>
        by_cases t3 : y5 < 0
        · have t3d : decide (y5 < 0) = true := decide_eq_true t3
          have rr : R = false := by
            rw [← HR2.out]
            unfold rsoundF
            simp [t1, t2, hsd, t3]
          subst rr
          go_wp2
          all_goals refine bodyPost_ret (v := .bool (false)) (by simp [results, Try.results19, go_sem, ↓IntWalk.iteOmega, *]) rfl ⟨rfl, ?_⟩
          all_goals exact BW.out.trans (HB9.out.mono (by simp))
        have t3d : decide (y5 < 0) = false := decide_eq_false t3
        by_cases t4 : y6 < 0
        · have t4d : decide (y6 < 0) = true := decide_eq_true t4
          have rr : R = false := by
            rw [← HR2.out]
            unfold rsoundF
            simp [t1, t2, hsd, t3, t4]
          subst rr
          go_wp2
          all_goals refine bodyPost_ret (v := .bool (false)) (by simp [results, Try.results19, go_sem, ↓IntWalk.iteOmega, *]) rfl ⟨rfl, ?_⟩
          all_goals exact BW.out.trans (HB9.out.mono (by simp))
        have t4d : decide (y6 < 0) = false := decide_eq_false t4
        by_cases o8 : y1 = 8
        · subst o8
          by_cases t5 : 2 * g ≤ y5
          · have t5d : decide (2 * g ≤ y5) = true := decide_eq_true t5
            have rr : R = false := by
              rw [← HR2.out]
              unfold rsoundF
              simp [t1, t2, hsd, t3, t4, t5]
            subst rr
            go_wp2
            all_goals refine bodyPost_ret (v := .bool (false)) (by simp [results, Try.results19, go_sem, ↓IntWalk.iteOmega, *]) rfl ⟨rfl, ?_⟩
            all_goals exact BW.out.trans (HB9.out.mono (by simp))
          have t5d : decide (2 * g ≤ y5) = false := decide_eq_false t5
          by_cases t6 : (n : Int) ≤ y6
          · have t6d : decide ((n : Int) ≤ y6) = true := decide_eq_true t6
            have rr : R = false := by
              rw [← HR2.out]
              unfold rsoundF
              simp [t1, t2, hsd, t3, t4, t5, t6]
            subst rr
            go_wp2
            all_goals refine bodyPost_ret (v := .bool (false)) (by simp [results, Try.results19, go_sem, ↓IntWalk.iteOmega, *]) rfl ⟨rfl, ?_⟩
            all_goals exact BW.out.trans (HB9.out.mono (by simp))
          have t6d : decide ((n : Int) ≤ y6) = false := decide_eq_false t6
          have HR3 : Aside ((L.drop (k + 1)).all (rsoundF n g) = R) := by
            have hr := HR2.out
            have es : rsoundF n g ⟨8, y2, y3, y4, y5, y6⟩ = true := by
              unfold rsoundF setOk
              simp [t1, t2, hsd, t3, t4, t5, t6]
            rw [es, Bool.true_and] at hr
            exact hr
          go_wp2
          go_roundg (n - k)
          case measure => omega
          case rel => exact ⟨k + 1, rfl, by omega, by omega, HR3.out, HB9.out⟩
        have e8 : (y1 == 8) = false := by simpa using o8
        have n8 : (y1 != 8) = true := by simpa using o8
        have d8 : decide (y1 = 8) = false := decide_eq_false o8
        by_cases t5 : (n : Int) ≤ y5
        · have t5d : decide ((n : Int) ≤ y5) = true := decide_eq_true t5
          have rr : R = false := by
            rw [← HR2.out]
            unfold rsoundF
            simp [t1, t2, hsd, t3, t4, o8, t5]
          subst rr
          go_wp2
          all_goals refine bodyPost_ret (v := .bool (false)) (by simp [results, Try.results19, go_sem, ↓IntWalk.iteOmega, *]) rfl ⟨rfl, ?_⟩
          all_goals exact BW.out.trans (HB9.out.mono (by simp))
        have t5d : decide ((n : Int) ≤ y5) = false := decide_eq_false t5
        by_cases t6 : (n : Int) ≤ y6
        · have t6d : decide ((n : Int) ≤ y6) = true := decide_eq_true t6
          have rr : R = false := by
            rw [← HR2.out]
            unfold rsoundF
            simp [t1, t2, hsd, t3, t4, o8, t5, t6]
          subst rr
          go_wp2
          all_goals refine bodyPost_ret (v := .bool (false)) (by simp [results, Try.results19, go_sem, ↓IntWalk.iteOmega, *]) rfl ⟨rfl, ?_⟩
          all_goals exact BW.out.trans (HB9.out.mono (by simp))
        have t6d : decide ((n : Int) ≤ y6) = false := decide_eq_false t6
        by_cases o3 : y1 = 3
        · subst o3
          have wt : ((y3.size : Int).tmod 2) = ((y3.size % 2 : Nat) : Int) := by rw [Int.tmod_eq_emod_of_nonneg (by omega)]; omega
          by_cases u1 : y3.size % 2 = 0
          rotate_left
          · have u1a : (((y3.size % 2 : Nat) : Int) != 0) = true := by rw [bne_iff_ne]; omega
            have rr : R = false := by
              rw [← HR2.out]
              unfold rsoundF
              simp [t1, t2, hsd, t3, t4, o8, t5, t6, setOk, u1]
            subst rr
            go_wp2
            all_goals refine bodyPost_ret (v := .bool (false)) (by simp [results, Try.results19, go_sem, ↓IntWalk.iteOmega, *]) rfl ⟨rfl, ?_⟩
            all_goals exact BW.out.trans (HB9.out.mono (by simp))
          have u1a : (((y3.size % 2 : Nat) : Int) != 0) = false := by rw [u1]; rfl
          by_cases u2 : y3.size < 2
          · have u2d : decide ((y3.size : Int) < 2) = true := decide_eq_true (by omega)
            have u2i : (y3.size : Int) < 2 := by omega
            have u2m : ¬ (2 ≤ y3.size) := by omega
            have rr : R = false := by
              rw [← HR2.out]
              unfold rsoundF
              simp [t1, t2, hsd, t3, t4, o8, t5, t6, u1, setOk, u2m]
            subst rr
            go_wp2
            all_goals refine bodyPost_ret (v := .bool (false)) (by simp [results, Try.results19, go_sem, ↓IntWalk.iteOmega, *]) rfl ⟨rfl, ?_⟩
            all_goals exact BW.out.trans (HB9.out.mono (by simp))
          have u2d : decide ((y3.size : Int) < 2) = false := decide_eq_false (by omega)
          have u2i : ¬ ((y3.size : Int) < 2) := by omega
          have u2m : 2 ≤ y3.size := by omega
          by_cases u3 : 512 < y3.size
          · have u3d : decide (512 < (y3.size : Int)) = true := decide_eq_true (by omega)
            have u3i : 512 < (y3.size : Int) := by omega
            have u3m : ¬ (y3.size ≤ 512) := by omega
            have rr : R = false := by
              rw [← HR2.out]
              unfold rsoundF
              simp [t1, t2, hsd, t3, t4, o8, t5, t6, u1, u2m, setOk, u3m]
            subst rr
            go_wp2
            all_goals refine bodyPost_ret (v := .bool (false)) (by simp [results, Try.results19, go_sem, ↓IntWalk.iteOmega, *]) rfl ⟨rfl, ?_⟩
            all_goals exact BW.out.trans (HB9.out.mono (by simp))
          have u3d : decide (512 < (y3.size : Int)) = false := decide_eq_false (by omega)
          have u3i : ¬ (512 < (y3.size : Int)) := by omega
          have u3m : y3.size ≤ 512 := by omega
          have HR3 : Aside ((L.drop (k + 1)).all (rsoundF n g) = R) := by
            have hr := HR2.out
            have es : rsoundF n g ⟨3, y2, y3, y4, y5, y6⟩ = true := by
              unfold rsoundF setOk
              simp [t1, t2, hsd, t3, t4, o8, t5, t6, u1, u2m, u3m]
            rw [es, Bool.true_and] at hr
            exact hr
          go_wp2
          go_roundg (n - k)
          case measure => omega
          case rel => exact ⟨k + 1, rfl, by omega, by omega, HR3.out, HB9.out⟩
        have e3 : (y1 == 3) = false := by simpa using o3
        have n3 : (y1 != 3) = true := by simpa using o3
        have d3 : decide (y1 = 3) = false := decide_eq_false o3
        have HR3 : Aside ((L.drop (k + 1)).all (rsoundF n g) = R) := by
          have hr := HR2.out
          have es : rsoundF n g ⟨y1, y2, y3, y4, y5, y6⟩ = true := by
            unfold rsoundF setOk
            simp [t1, t2, hsd, t3, t4, o8, t5, t6, o3]
          rw [es, Bool.true_and] at hr
          exact hr
        go_wp2
        go_roundg (n - k)
        case measure => omega
        case rel => exact ⟨k + 1, rfl, by omega, by omega, HR3.out, HB9.out⟩
  have g7 : (q != 7) = true := by simpa using q7
  rw [if_pos ⟨q9, q7⟩] at EQ
  rw [EQ.out]
  go_enter Try.func19, Try.ntmps19
  go_wp2
  all_goals refine bodyPost_ret (v := .bool (false)) (by simp [results, Try.results19, go_sem, ↓IntWalk.iteOmega, *]) rfl ⟨rfl, ?_⟩
  all_goals
    repeat (first | (with_reducible exact Below.refl _ _) | (with_reducible assumption) | (with_reducible refine below_to_plus ?_ ?_ _) | (with_reducible refine below_holds ?_ ?_ _ _) | (with_reducible refine Below.alloc ?_ ?_ _) | (with_reducible refine Below.drew ?_) | (with_reducible refine below_drewN ?_ _) | (with_reducible refine Below.setCell ?_ ?_ _))
    all_goals first | omega | (simp; done) | (simp [go_sem]; done) | (simp [go_sem]; omega)

end Go.Proofs.Ytfhccmegobbnaaa
