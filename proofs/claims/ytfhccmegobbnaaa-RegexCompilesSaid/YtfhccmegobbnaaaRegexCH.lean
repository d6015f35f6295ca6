/- This text proves the walk of Compile of the reference: it answers as the package's; and of the statement RegexCompiles. Conditions: those that each theorem names. -/
import Derived.Test.YtfhccmegobbnaaaRegexCG
import Derived.Test.YtfhccmegobbnaaaRegexZL
namespace Go.Proofs.Ytfhccmegobbnaaa
open Go.ChangeShapes Go.WideShapes Go.ChangeAt Go.RowKit
set_option linter.unusedVariables false
set_option linter.unusedSimpArgs false

theorem bra_ends : ∀ (f : Nat) {s : ByteArray} {i g j h : Nat} {acc a : Re}, branchF f s i g acc = .ok (a, j, h) → ¬ (j < s.size ∧ s[j]! ≠ 124 ∧ s[j]! ≠ 41)
  | 0, _, _, _, _, _, _, _, he => by unfold branchF at he; cases he
  | f + 1, s, i, g, j, h, acc, a, he => by
    by_cases hc : i < s.size ∧ s[i]! ≠ 124 ∧ s[i]! ≠ 41
    · cases hp : pieceF f s i g with
      | error k => rw [bra_err hc hp] at he; cases he
      | ok r =>
        obtain ⟨p, m, g2⟩ := r
        rw [bra_go hc hp] at he
        exact bra_ends f he
    · rw [bra_stop hc] at he
      simp only [Except.ok.injEq, Prod.mk.injEq] at he
      obtain ⟨-, rfl, -⟩ := he
      exact hc
theorem reg_ends : ∀ (f : Nat) {s : ByteArray} {i g j h : Nat} {a : Re}, regexF f s i g = .ok (a, j, h) → ¬ j < s.size ∨ isAt s j 41 = true
  | 0, _, _, _, _, _, _, he => by unfold regexF at he; cases he
  | f + 1, s, i, g, j, h, a, he => by
    unfold regexF at he
    cases hb : branchF f s i g .emp with
    | error k => rw [hb] at he; cases he
    | ok r =>
      obtain ⟨b, m, g2⟩ := r
      rw [hb] at he
      simp only [] at he
      by_cases hat : isAt s m 124 = true
      · rw [if_pos hat] at he
        cases hr : regexF f s (m + 1) g2 with
        | error k => rw [hr] at he; cases he
        | ok r2 =>
          obtain ⟨c, m2, g3⟩ := r2
          rw [hr] at he
          simp only [Except.ok.injEq, Prod.mk.injEq] at he
          obtain ⟨-, rfl, -⟩ := he
          exact reg_ends f hr
      · rw [if_neg hat] at he
        simp only [Except.ok.injEq, Prod.mk.injEq] at he
        obtain ⟨-, rfl, -⟩ := he
        have h1 := bra_ends f hb
        by_cases hl : m < s.size
        · right
          unfold isAt at hat ⊢
          rw [decide_eq_true hl] at hat ⊢
          have h2 : s[m]! ≠ 124 := fun e => hat (by rw [decide_eq_true e]; rfl)
          have h3 : s[m]! = 41 := Classical.byContradiction fun e => h1 ⟨hl, h2, e⟩
          rw [decide_eq_true h3]
          rfl
        · exact .inl hl

set_option maxRecDepth 20000 in
set_option maxHeartbeats 64000000 in
theorem rcompile_calls (s : ByteArray) (hs0 : s.size ≤ 9223372036854775807) (w : World) : Calls Try.prog 16 #[.string s] w fun e w' => CompPost w (compF s) e w' := by
  obtain ⟨R, hR⟩ : ∃ R, compF s = R := ⟨_, rfl⟩
  rw [hR]
  have HR : Aside (compF s = R) := hR
  obtain ⟨Q, hQ⟩ : ∃ Q : Ending → World → Prop, (fun e w' => CompPost w R e w') = Q := ⟨_, rfl⟩
  rw [hQ]
  have HQE : Aside (∀ (k c : Nat) W', R = .error (k, c) → Below w.heap.size w W' → Q (.returned (.tuple #[.agg #[.slice none 0 0, .int .i64 0], .int .i64 (k : Int), .int .i64 (c : Int)])) W') := fun k c W' h1 h2 => by rw [← hQ, h1]; exact ⟨rfl, h2⟩
  have HQO : Aside (∀ (code : List In) (g n : Nat) (la : Option Addr) (lc : Nat) W', R = .ok (code, g) → PS w code la n lc W' → Q (.returned (.tuple #[.agg #[.slice la n lc, .int .i64 (g : Int)], .int .i64 0, .int .i64 0])) W') := fun code g n la lc W' h1 h2 => by
    rw [← hQ, h1]
    have hl := h2.len
    subst hl
    exact ⟨_, rfl, h2.row, h2.hb⟩
  clear hQ hR
  by_cases hbig : 256 < s.size
  · have d1 : decide ((256 : Int) < (s.size : Int)) = true := decide_eq_true (by omega)
    have d2 : (256 : Int) < (s.size : Int) := by omega
    have d3 : decide (256 < s.size) = true := decide_eq_true hbig
    have ER : Aside (R = .error (0, 4)) := by
      show _ = _
      rw [← HR.out]
      unfold compF
      rw [if_pos hbig]
    clear HR hbig hs0
    go_enter Try.func16, Try.ntmps16
    go_wp2
    refine bodyPost_ret (v := .tuple #[.agg #[.slice none 0 0, .int .i64 0], .int .i64 0, .int .i64 4]) (by simp [results, Try.results16, go_sem, ↓IntWalk.iteOmega, *]) rfl (HQE.out 0 4 _ ER.out (Below.alloc (Below.refl _ _) (Nat.le_refl _) _))
  have d1 : decide ((256 : Int) < (s.size : Int)) = false := decide_eq_false (by omega)
  have d2 : ¬ (256 : Int) < (s.size : Int) := by omega
  have d3 : decide (256 < s.size) = false := decide_eq_false hbig
  have hs : s.size ≤ 256 := by omega
  have CF : Aside ((match topE 0 s (regexF (4 * s.size + 4) s 0 0) with
    | .error k => (.error (k, 49) : Except (Nat × Nat) (List In × Nat))
    | .ok (a, _, h) => .ok ([iSave 0] ++ a.gen 1 0 ++ [iSave 1] ++ [iOp 9], h + 1)) = R) := by
    show _ = _
    rw [← HR.out]
    unfold compF
    rw [if_neg hbig]
    cases topE 0 s (regexF (4 * s.size + 4) s 0 0) <;> rfl
  clear HR hbig hs0
  have z0 : ((0 : Nat) : Int) = 0 := rfl
  have PV : Aside (PS w [] none 0 0 (w.alloc (.cells #[.slice none 0 0, .int .i64 0] 24))) := ⟨Below.alloc (Below.refl _ _) (Nat.le_refl _) _, ⟨rfl, .inl ⟨rfl, rfl⟩⟩, rfl⟩
  have cq := remit_calls w [] none 0 0 0 0 false 8 0 ⟨#[]⟩ false 0 0 (w.alloc (.cells #[.slice none 0 0, .int .i64 0] 24)) PV.out (by omega)
  rw [z0] at cq
  go_enter Try.func16, Try.ntmps16
  go_wp2_with fail
  refine cq.mono ?_
  rintro e w1 ⟨la1, lc1, rfl, hp, hk⟩
  have H0 : Aside (w1.heap[w.heap.size]? = some (.cells #[.slice none 0 0, .int .i64 0] 24 (0, 0))) := hk.type PV.out (hp_new rfl) (by decide)
  have HP : Aside (PS w [iSave 0] la1 1 lc1 w1) := hp
  have SM1 : Aside (Sml [iSave 0]) := Sml.one ⟨by decide, by decide, by decide, by decide⟩
  have cr := (rall (4 * s.size + 4)).1 w [iSave 0] la1 1 lc1 0 0 s w1 HP.out ⟨by omega, Nat.zero_le _, by decide, by decide, SM1.out, Nat.zero_le _, by omega⟩ (by omega)
  rw [z0] at cr
  clear cq hp hk PV
  go_wp2_with fail
  refine cr.mono ?_
  rintro e w2 ⟨la2, lc2, n2, code2, j, g2, bad2, rfl, hp, hk, hnn, hsy⟩
  have U0 : Aside (w2.heap[w.heap.size]? = some (.cells #[.slice none 0 0, .int .i64 0] 24 (0, 0))) := hk.type HP.out H0.out (by decide)
  have UP : Aside (PS w code2 la2 n2 lc2 w2) := hp
  have HSY : Aside (Says (regexF (4 * s.size + 4) s 0 0) [iSave 0] 0 code2 j g2 bad2) := hsy
  have l0 : w.heap.size < w2.heap.size := (Array.getElem?_eq_some_iff.1 U0.out).1
  clear hp hk hsy cr H0 HP SM1
  cases bad2 with
  | true =>
    have ER : Aside (R = .error (j, 49)) := by
      show _ = _
      rw [← CF.out, HSY.out.bad]
      rfl
    have hB := UP.out.hb
    have HB : Aside (Below w.heap.size w w2) := hB
    clear CF HSY hB
    rw [holds_self U0.out]
    go_wp2_with fail
    go_region
    all_goals go_wp2
    all_goals refine bodyPost_ret (v := .tuple #[.agg #[.slice none 0 0, .int .i64 0], .int .i64 (j : Int), .int .i64 49]) (by simp [results, Try.results16, go_sem, ↓IntWalk.iteOmega, *]) rfl ?_
    all_goals refine HQE.out j 49 _ ER.out ?_
    all_goals
      have hB := HB.out
      have hz := HB.out.size
      repeat (first | (with_reducible exact Below.refl _ _) | (with_reducible assumption) | (with_reducible refine below_to_plus ?_ ?_ _) | (with_reducible refine below_holds ?_ ?_ _ _) | (with_reducible refine Below.alloc ?_ ?_ _) | (with_reducible refine Below.drew ?_) | (with_reducible refine below_drewN ?_ _) | (with_reducible refine Below.setCell ?_ ?_ _))
      all_goals first | omega | (simp; done) | (simp [go_sem]; done) | (simp [go_sem]; omega)
  | false =>
    obtain ⟨a, hra, hca⟩ := HSY.out.good
    have hgood := (good_all (4 * s.size + 4)).1 s 0 0 (Nat.zero_le _)
    rw [hra] at hgood
    obtain ⟨aok, -, ajs, agr, acl, agm⟩ := hgood
    have hca : code2 = [iSave 0] ++ a.gen 1 0 := hca
    by_cases hjs : j < s.size
    · have hat : isAt s j 41 = true := by
        rcases reg_ends _ hra with h | h
        · exact absurd hjs h
        · exact h
      have ER : Aside (R = .error (j, 49)) := by
        show _ = _
        have ht : topE 0 s (.ok (a, j, g2)) = .error j := by
          unfold topE
          simp [hat]
        rw [← CF.out, hra, ht]
      have j1 : decide ((j : Int) < (s.size : Int)) = true := decide_eq_true (by omega)
      have j2 : (j : Int) < (s.size : Int) := by omega
      have hB := UP.out.hb
      have HB : Aside (Below w.heap.size w w2) := hB
      clear CF HSY hB hra hca aok agr acl agm hat
      rw [holds_self U0.out]
      go_wp2_with fail
      go_region
      all_goals go_wp2
      all_goals refine bodyPost_ret (v := .tuple #[.agg #[.slice none 0 0, .int .i64 0], .int .i64 (j : Int), .int .i64 49]) (by simp [results, Try.results16, go_sem, ↓IntWalk.iteOmega, *]) rfl ?_
      all_goals refine HQE.out j 49 _ ER.out ?_
      all_goals
        have hB := HB.out
        have hz := HB.out.size
        repeat (first | (with_reducible exact Below.refl _ _) | (with_reducible assumption) | (with_reducible refine below_to_plus ?_ ?_ _) | (with_reducible refine below_holds ?_ ?_ _ _) | (with_reducible refine Below.alloc ?_ ?_ _) | (with_reducible refine Below.drew ?_) | (with_reducible refine below_drewN ?_ _) | (with_reducible refine Below.setCell ?_ ?_ _))
        all_goals first | omega | (simp; done) | (simp [go_sem]; done) | (simp [go_sem]; omega)
    have j1 : decide ((j : Int) < (s.size : Int)) = false := decide_eq_false (by omega)
    have j2 : ¬ (j : Int) < (s.size : Int) := by omega
    obtain ⟨gp, hgp⟩ : ∃ x, g2 + 1 = x := ⟨_, rfl⟩
    have wg : IntKind.i64.wrap ((g2 : Int) + 1) = (gp : Int) := by rw [IntKind.wrap_i64]; omega
    have EO : Aside (R = .ok (code2 ++ [iSave 1] ++ [iOp 9], gp)) := by
      show _ = _
      have hat : isAt s j 41 = false := by
        cases h : isAt s j 41 with
        | false => rfl
        | true => exact absurd (isAt_lt h).1 hjs
      have ht : topE 0 s (.ok (a, j, g2)) = .ok (a, j, g2) := by
        unfold topE
        simp [hat]
      rw [← CF.out, hra, ht, hca, ← hgp]
    have hn2 : n2 ≤ 90000 := by
      have h1 := UP.out.len
      rw [hca, List.length_append, Re.gen_len] at h1
      simp at h1
      omega
    clear CF HSY hra hca aok agr acl agm
    have V0 : Aside ((w2.alloc (.cells #[.slice la2 n2 lc2, .int .i64 (j : Int), .int .i64 (g2 : Int), .bool false] 58)).heap[w.heap.size]? = some (.cells #[.slice none 0 0, .int .i64 0] 24 (0, 0))) := hp_old U0.out
    have V1 : Aside ((w2.alloc (.cells #[.slice la2 n2 lc2, .int .i64 (j : Int), .int .i64 (g2 : Int), .bool false] 58)).heap[w2.heap.size]? = some (.cells #[.slice la2 n2 lc2, .int .i64 (j : Int), .int .i64 (g2 : Int), .bool false] 58 (0, 0))) := hp_new rfl
    have VP : Aside (PS w code2 la2 n2 lc2 (w2.alloc (.cells #[.slice la2 n2 lc2, .int .i64 (j : Int), .int .i64 (g2 : Int), .bool false] 58))) := UP.out.later (Below.alloc (Below.refl _ _) (Nat.le_refl _) _)
    have cq := remit_calls w code2 la2 n2 lc2 j g2 false 8 0 ⟨#[]⟩ false 1 0 (w2.alloc (.cells #[.slice la2 n2 lc2, .int .i64 (j : Int), .int .i64 (g2 : Int), .bool false] 58)) VP.out (by omega)
    obtain ⟨pb, hpb⟩ : ∃ b, w2.heap.size = b := ⟨_, rfl⟩
    rw [hpb] at V1
    go_wp2_with fail
    refine cq.mono ?_
    rintro e w3 ⟨la3, lc3, rfl, hp, hk⟩
    have X0 : Aside (w3.heap[w.heap.size]? = some (.cells #[.slice none 0 0, .int .i64 0] 24 (0, 0))) := hk.type VP.out V0.out (by decide)
    have X1 : Aside (w3.heap[pb]? = some (.cells #[.slice la2 n2 lc2, .int .i64 (j : Int), .int .i64 (g2 : Int), .bool false] 58 (0, 0))) := hk.type VP.out V1.out (by decide)
    obtain ⟨n3, hn3⟩ : ∃ x, n2 + 1 = x := ⟨_, rfl⟩
    rw [hn3] at hp
    have XP : Aside (PS w (code2 ++ [iSave 1]) la3 n3 lc3 w3) := hp
    clear hp hk V0 V1 VP cq U0 UP
    have cq := remit_calls w (code2 ++ [iSave 1]) la3 n3 lc3 j g2 false 9 0 ⟨#[]⟩ false 0 0 w3 XP.out (by omega)
    try rw [hn3]
    go_wp2_with fail
    refine cq.mono ?_
    rintro e w4 ⟨la4, lc4, rfl, hp, hk⟩
    have Y0 : Aside (w4.heap[w.heap.size]? = some (.cells #[.slice none 0 0, .int .i64 0] 24 (0, 0))) := hk.type XP.out X0.out (by decide)
    have Y1 : Aside (w4.heap[pb]? = some (.cells #[.slice la2 n2 lc2, .int .i64 (j : Int), .int .i64 (g2 : Int), .bool false] 58 (0, 0))) := hk.type XP.out X1.out (by decide)
    have YP : Aside (PS w (code2 ++ [iSave 1] ++ [iOp 9]) la4 (n3 + 1) lc4 w4) := hp
    have hpw : w.heap.size ≤ pb := by omega
    have n01 : ¬ w.heap.size = pb := by omega
    have n10 : ¬ pb = w.heap.size := by omega
    have m0 : w.heap.size < w4.heap.size := (Array.getElem?_eq_some_iff.1 Y0.out).1
    have m1 : pb < w4.heap.size := (Array.getElem?_eq_some_iff.1 Y1.out).1
    clear hp hk X0 X1 XP cq hpb
    rw [holds_add (holds_self Y1.out) Y0.out]
    go_wp2
    refine bodyPost_ret (v := .tuple #[.agg #[.slice la4 (n3 + 1) lc4, .int .i64 (gp : Int)], .int .i64 0, .int .i64 0]) (by simp [results, Try.results16, go_sem, ↓IntWalk.iteOmega, *]) rfl (HQO.out _ _ _ _ _ _ EO.out ((YP.out.other Y1.out (by omega) (by decide)).other (hh_ne n01 Y0.out) (Nat.le_refl _) (by decide)))


theorem rcompile_ok (s : ByteArray) (hs : s.size ≤ 9223372036854775807) (L : List In) (G : Nat) (h : compF s = .ok (L, G)) (w : World) :
    Calls Try.prog 16 #[.string s] w fun e w' => ∃ ao cap, e = .returned (.tuple #[.agg #[.slice ao L.length cap, .int .i64 (G : Int)], .int .i64 0, .int .i64 0]) ∧ Prg L ao w' ∧ Below w.heap.size w w' := by
  refine (rcompile_calls s hs w).mono ?_
  intro e w' hp
  rw [h] at hp
  obtain ⟨v, he, hown, hb⟩ := hp
  obtain ⟨ao, cap, rfl, hprg⟩ := own_prg hown (comp_fit h)
  exact ⟨ao, cap, he, hprg, hb⟩
theorem rcompile_no (s : ByteArray) (hs : s.size ≤ 9223372036854775807) (k c : Nat) (h : compF s = .error (k, c)) (w : World) :
    Calls Try.prog 16 #[.string s] w fun e w' => e = .returned (.tuple #[.agg #[.slice none 0 0, .int .i64 0], .int .i64 (k : Int), .int .i64 (c : Int)]) ∧ Below w.heap.size w w' := by
  refine (rcompile_calls s hs w).mono ?_
  intro e w' hp
  rw [h] at hp
  exact hp

set_option maxRecDepth 20000 in
set_option maxHeartbeats 64000000 in
theorem lawCompiles_calls (s : ByteArray) (hs0 : s.size ≤ maxLen) (w : World) :
    Calls Try.prog 5 #[.string s] w fun e W => e = .returned (.bool true) ∧ Below w.heap.size w W := by
  have HW : Aside (Below w.heap.size w w) := Below.refl _ _
  have hs : s.size ≤ 9223372036854775807 := by unfold maxLen at hs0; exact hs0
  have HS : Aside (s.size ≤ 9223372036854775807) := hs
  clear hs hs0
  by_cases hbig : 300 < s.size
  · have d1 : decide ((300 : Int) < (s.size : Int)) = true := decide_eq_true (by omega)
    have d2 : (300 : Int) < (s.size : Int) := by omega
    have d3 : decide (300 < s.size) = true := decide_eq_true hbig
    clear hbig
    go_enter Try.func5, Try.ntmps5
    go_wp2_with fail
    refine (alive_calls _).mono ?_
    rintro e w1 ⟨rfl, hb⟩
    have HBn : Aside (Below w.heap.size w w1) := Below.trans (by first | exact Below.refl _ _ | exact Below.alloc (Below.refl _ _) (Nat.le_refl _) _ | exact below_drewN (Below.refl _ _) _ | exact below_drewN (Below.alloc (Below.refl _ _) (Nat.le_refl _) _) _ | exact Below.alloc (Below.alloc (Below.refl _ _) (Nat.le_refl _) _) (by simp) _) (hb.mono (by first | exact Nat.le_refl _ | (simp; done) | (simp; omega)))
    have HW' : Aside (Below w.heap.size w w1) := HW.out.trans (HBn.out.mono HW.out.size)
    clear HW
    have HW : Aside (Below w.heap.size w w1) := HW'.out
    clear HW' HBn hb
    go_wp2_with fail
    refine bodyPost_ret (v := .bool true) (by simp [results, Try.results5, go_sem, ↓IntWalk.iteOmega]) rfl ⟨rfl, HW.out⟩
  have d1 : decide ((300 : Int) < (s.size : Int)) = false := decide_eq_false (by omega)
  have d2 : ¬ (300 : Int) < (s.size : Int) := by omega
  have d3 : decide (300 < s.size) = false := decide_eq_false hbig
  clear hbig
  cases hc : compF s with
  | error kc =>
    obtain ⟨k, c⟩ := kc
    have hc9 := comp_err hc
    have c1 := compile_no s HS.out k c hc
    have c2 := rcompile_no s HS.out k c hc
    have n0 : ((c : Int) != 0) = true := by rw [bne_iff_ne]; omega
    have cs := fun W => same_calls [] none none 0 0 0 W (fun j hj => absurd hj (Nat.not_lt_zero _)) (fun j hj => absurd hj (Nat.not_lt_zero _)) (Nat.zero_le _)
    clear hc hc9
    go_enter Try.func5, Try.ntmps5
    go_wp2_with fail
    refine (c1 _).mono ?_
    rintro e w1 ⟨rfl, hb⟩
    have HBn : Aside (Below w.heap.size w w1) := Below.trans (by first | exact Below.refl _ _ | exact Below.alloc (Below.refl _ _) (Nat.le_refl _) _ | exact below_drewN (Below.refl _ _) _ | exact below_drewN (Below.alloc (Below.refl _ _) (Nat.le_refl _) _) _ | exact Below.alloc (Below.alloc (Below.refl _ _) (Nat.le_refl _) _) (by simp) _) (hb.mono (by first | exact Nat.le_refl _ | (simp; done) | (simp; omega)))
    have HW' : Aside (Below w.heap.size w w1) := HW.out.trans (HBn.out.mono HW.out.size)
    clear HW
    have HW : Aside (Below w.heap.size w w1) := HW'.out
    clear HW' HBn hb
    obtain ⟨ra, hra⟩ : ∃ b, w1.heap.size = b := ⟨_, rfl⟩
    have RA0 : Aside ((w1.alloc (.cells #[.slice none 0 0, .int .i64 0] 24)).heap[ra]? = some (.cells #[.slice none 0 0, .int .i64 0] 24 (0, 0))) := hp_new hra.symm
    go_wp2_with fail
    refine (c2 _).mono ?_
    rintro e w2 ⟨rfl, hb⟩
    have RA : Aside (w2.heap[ra]? = some (.cells #[.slice none 0 0, .int .i64 0] 24 (0, 0))) := heap_later RA0.out hb
    have HBn : Aside (Below w1.heap.size w1 w2) := Below.trans (by first | exact Below.refl _ _ | exact Below.alloc (Below.refl _ _) (Nat.le_refl _) _ | exact below_drewN (Below.refl _ _) _ | exact below_drewN (Below.alloc (Below.refl _ _) (Nat.le_refl _) _) _ | exact Below.alloc (Below.alloc (Below.refl _ _) (Nat.le_refl _) _) (by simp) _) (hb.mono (by first | exact Nat.le_refl _ | (simp; done) | (simp; omega)))
    have HW' : Aside (Below w.heap.size w w2) := HW.out.trans (HBn.out.mono HW.out.size)
    clear HW
    have HW : Aside (Below w.heap.size w w2) := HW'.out
    clear HW' HBn hb
    clear RA0 c1 c2 hra
    have ca0 := cell_heap RA.out 0 _ rfl
    have ca1 := cell_heap RA.out 1 _ rfl
    have lra : ra < w2.heap.size := (Array.getElem?_eq_some_iff.1 RA.out).1
    have nra : ¬ ra = w2.heap.size := by omega
    go_wp2_with fail
    refine (cs _).mono ?_
    rintro e w3 ⟨rfl, hb⟩
    have HBn : Aside (Below w2.heap.size w2 w3) := Below.trans (by first | exact Below.refl _ _ | exact Below.alloc (Below.refl _ _) (Nat.le_refl _) _ | exact below_drewN (Below.refl _ _) _ | exact below_drewN (Below.alloc (Below.refl _ _) (Nat.le_refl _) _) _ | exact Below.alloc (Below.alloc (Below.refl _ _) (Nat.le_refl _) _) (by simp) _) (hb.mono (by first | exact Nat.le_refl _ | (simp; done) | (simp; omega)))
    have RA' : Aside (w3.heap[ra]? = some (.cells #[.slice none 0 0, .int .i64 0] 24 (0, 0))) := heap_later RA.out HBn.out
    have HW' : Aside (Below w.heap.size w w3) := HW.out.trans (HBn.out.mono HW.out.size)
    clear HW RA
    have RA : Aside (w3.heap[ra]? = some (.cells #[.slice none 0 0, .int .i64 0] 24 (0, 0))) := RA'.out
    have HW : Aside (Below w.heap.size w w3) := HW'.out
    clear HW' HBn hb RA'
    clear ca0 ca1 lra nra cs
    go_wp2_with fail
    refine (alive_calls _).mono ?_
    rintro e w4 ⟨rfl, hb⟩
    have HBn : Aside (Below w3.heap.size w3 w4) := Below.trans (by first | exact Below.refl _ _ | exact Below.alloc (Below.refl _ _) (Nat.le_refl _) _ | exact below_drewN (Below.refl _ _) _ | exact below_drewN (Below.alloc (Below.refl _ _) (Nat.le_refl _) _) _ | exact Below.alloc (Below.alloc (Below.refl _ _) (Nat.le_refl _) _) (by simp) _) (hb.mono (by first | exact Nat.le_refl _ | (simp; done) | (simp; omega)))
    have RA' : Aside (w4.heap[ra]? = some (.cells #[.slice none 0 0, .int .i64 0] 24 (0, 0))) := heap_later RA.out HBn.out
    have HW' : Aside (Below w.heap.size w w4) := HW.out.trans (HBn.out.mono HW.out.size)
    clear HW RA
    have RA : Aside (w4.heap[ra]? = some (.cells #[.slice none 0 0, .int .i64 0] 24 (0, 0))) := RA'.out
    have HW : Aside (Below w.heap.size w w4) := HW'.out
    clear HW' HBn hb RA'
    go_wp2_with fail
    refine bodyPost_ret (v := .bool true) (by simp [results, Try.results5, go_sem, ↓IntWalk.iteOmega]) rfl ⟨rfl, HW.out⟩
  | ok lg =>
    obtain ⟨L, G⟩ := lg
    have HRT : Aside (rightF L (G : Int) = true) := comp_right hc
    have HLL : Aside (L.length ≤ 1024) := (right_parts HRT.out).2.2.2.1
    have c1 := compile_ok s HS.out L G hc
    have c2 := rcompile_ok s HS.out L G hc
    clear hc
    go_enter Try.func5, Try.ntmps5
    go_wp2_with fail
    refine (c1 _).mono ?_
    rintro e w1 ⟨ao, cap, rfl, hprg, hb⟩
    have HBn : Aside (Below w.heap.size w w1) := Below.trans (by first | exact Below.refl _ _ | exact Below.alloc (Below.refl _ _) (Nat.le_refl _) _ | exact below_drewN (Below.refl _ _) _ | exact below_drewN (Below.alloc (Below.refl _ _) (Nat.le_refl _) _) _ | exact Below.alloc (Below.alloc (Below.refl _ _) (Nat.le_refl _) _) (by simp) _) (hb.mono (by first | exact Nat.le_refl _ | (simp; done) | (simp; omega)))
    have HW' : Aside (Below w.heap.size w w1) := HW.out.trans (HBn.out.mono HW.out.size)
    clear HW
    have HW : Aside (Below w.heap.size w w1) := HW'.out
    clear HW' HBn hb
    have PA : Aside (Prg L ao w1) := hprg
    obtain ⟨ra, hra⟩ : ∃ b, w1.heap.size = b := ⟨_, rfl⟩
    have RA0 : Aside ((w1.alloc (.cells #[.slice ao L.length cap, .int .i64 (G : Int)] 24)).heap[ra]? = some (.cells #[.slice ao L.length cap, .int .i64 (G : Int)] 24 (0, 0))) := hp_new hra.symm
    clear hprg
    go_wp2_with fail
    refine (c2 _).mono ?_
    rintro e w2 ⟨bo, bcap, rfl, hprg2, hb⟩
    have RA : Aside (w2.heap[ra]? = some (.cells #[.slice ao L.length cap, .int .i64 (G : Int)] 24 (0, 0))) := heap_later RA0.out hb
    have HBn : Aside (Below w1.heap.size w1 w2) := Below.trans (by first | exact Below.refl _ _ | exact Below.alloc (Below.refl _ _) (Nat.le_refl _) _ | exact below_drewN (Below.refl _ _) _ | exact below_drewN (Below.alloc (Below.refl _ _) (Nat.le_refl _) _) _ | exact Below.alloc (Below.alloc (Below.refl _ _) (Nat.le_refl _) _) (by simp) _) (hb.mono (by first | exact Nat.le_refl _ | (simp; done) | (simp; omega)))
    have PA' : Aside (Prg L ao w2) := PA.out.later HBn.out
    have HW' : Aside (Below w.heap.size w w2) := HW.out.trans (HBn.out.mono HW.out.size)
    clear HW PA
    have PA : Aside (Prg L ao w2) := PA'.out
    have HW : Aside (Below w.heap.size w w2) := HW'.out
    clear HW' HBn hb PA'
    have PB : Aside (Prg L bo w2) := hprg2
    clear RA0 c1 c2 hra hprg2
    have ca0 := cell_heap RA.out 0 _ rfl
    have ca1 := cell_heap RA.out 1 _ rfl
    have lra : ra < w2.heap.size := (Array.getElem?_eq_some_iff.1 RA.out).1
    have nra : ¬ ra = w2.heap.size := by omega
    have cs := same_calls L ao bo cap bcap (G : Int) (w2.alloc (.cells #[.slice bo L.length bcap, .int .i64 (G : Int)] 24)) (PA.out.c.later (Below.alloc (Below.refl _ _) (Nat.le_refl _) _)) (PB.out.c.later (Below.alloc (Below.refl _ _) (Nat.le_refl _) _)) (by have := HLL.out; omega)
    go_wp2_with fail
    refine (cs).mono ?_
    rintro e w3 ⟨rfl, hb⟩
    have HBn : Aside (Below w2.heap.size w2 w3) := Below.trans (by first | exact Below.refl _ _ | exact Below.alloc (Below.refl _ _) (Nat.le_refl _) _ | exact below_drewN (Below.refl _ _) _ | exact below_drewN (Below.alloc (Below.refl _ _) (Nat.le_refl _) _) _ | exact Below.alloc (Below.alloc (Below.refl _ _) (Nat.le_refl _) _) (by simp) _) (hb.mono (by first | exact Nat.le_refl _ | (simp; done) | (simp; omega)))
    have PA' : Aside (Prg L ao w3) := PA.out.later HBn.out
    have RA' : Aside (w3.heap[ra]? = some (.cells #[.slice ao L.length cap, .int .i64 (G : Int)] 24 (0, 0))) := heap_later RA.out HBn.out
    have PB' : Aside (Prg L bo w3) := PB.out.later HBn.out
    have HW' : Aside (Below w.heap.size w w3) := HW.out.trans (HBn.out.mono HW.out.size)
    clear HW PA RA PB
    have PA : Aside (Prg L ao w3) := PA'.out
    have RA : Aside (w3.heap[ra]? = some (.cells #[.slice ao L.length cap, .int .i64 (G : Int)] 24 (0, 0))) := RA'.out
    have PB : Aside (Prg L bo w3) := PB'.out
    have HW : Aside (Below w.heap.size w w3) := HW'.out
    clear HW' HBn hb PA' RA' PB'
    clear ca0 ca1 lra nra cs
    have ca0 := cell_heap RA.out 0 _ rfl
    have ca1 := cell_heap RA.out 1 _ rfl
    have cR := right_calls L ao cap (G : Int) w3 PA.out (by have := HLL.out; omega)
    rw [HRT.out] at cR
    go_wp2_with fail
    refine (cR).mono ?_
    rintro e w4 ⟨rfl, hb⟩
    have HBn : Aside (Below w3.heap.size w3 w4) := Below.trans (by first | exact Below.refl _ _ | exact Below.alloc (Below.refl _ _) (Nat.le_refl _) _ | exact below_drewN (Below.refl _ _) _ | exact below_drewN (Below.alloc (Below.refl _ _) (Nat.le_refl _) _) _ | exact Below.alloc (Below.alloc (Below.refl _ _) (Nat.le_refl _) _) (by simp) _) (hb.mono (by first | exact Nat.le_refl _ | (simp; done) | (simp; omega)))
    have PA' : Aside (Prg L ao w4) := PA.out.later HBn.out
    have RA' : Aside (w4.heap[ra]? = some (.cells #[.slice ao L.length cap, .int .i64 (G : Int)] 24 (0, 0))) := heap_later RA.out HBn.out
    have PB' : Aside (Prg L bo w4) := PB.out.later HBn.out
    have HW' : Aside (Below w.heap.size w w4) := HW.out.trans (HBn.out.mono HW.out.size)
    clear HW PA RA PB
    have PA : Aside (Prg L ao w4) := PA'.out
    have RA : Aside (w4.heap[ra]? = some (.cells #[.slice ao L.length cap, .int .i64 (G : Int)] 24 (0, 0))) := RA'.out
    have PB : Aside (Prg L bo w4) := PB'.out
    have HW : Aside (Below w.heap.size w w4) := HW'.out
    clear HW' HBn hb PA' RA' PB'
    clear ca0 ca1 cR
    go_wp2_with fail
    refine (alive_calls _).mono ?_
    rintro e w5 ⟨rfl, hb⟩
    have HBn : Aside (Below w4.heap.size w4 w5) := Below.trans (by first | exact Below.refl _ _ | exact Below.alloc (Below.refl _ _) (Nat.le_refl _) _ | exact below_drewN (Below.refl _ _) _ | exact below_drewN (Below.alloc (Below.refl _ _) (Nat.le_refl _) _) _ | exact Below.alloc (Below.alloc (Below.refl _ _) (Nat.le_refl _) _) (by simp) _) (hb.mono (by first | exact Nat.le_refl _ | (simp; done) | (simp; omega)))
    have PA' : Aside (Prg L ao w5) := PA.out.later HBn.out
    have RA' : Aside (w5.heap[ra]? = some (.cells #[.slice ao L.length cap, .int .i64 (G : Int)] 24 (0, 0))) := heap_later RA.out HBn.out
    have PB' : Aside (Prg L bo w5) := PB.out.later HBn.out
    have HW' : Aside (Below w.heap.size w w5) := HW.out.trans (HBn.out.mono HW.out.size)
    clear HW PA RA PB
    have PA : Aside (Prg L ao w5) := PA'.out
    have RA : Aside (w5.heap[ra]? = some (.cells #[.slice ao L.length cap, .int .i64 (G : Int)] 24 (0, 0))) := RA'.out
    have PB : Aside (Prg L bo w5) := PB'.out
    have HW : Aside (Below w.heap.size w w5) := HW'.out
    clear HW' HBn hb PA' RA' PB'
    go_wp2_with fail
    refine bodyPost_ret (v := .bool true) (by simp [results, Try.results5, go_sem, ↓IntWalk.iteOmega]) rfl ⟨rfl, HW.out⟩

end Go.Proofs.Ytfhccmegobbnaaa
