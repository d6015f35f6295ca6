/- This text proves the walk of the statements' fixed examples. Conditions: those that each theorem names. -/
import Derived.Test.YtfhccmegobbnaaaRegexZI
namespace Go.Proofs.Ytfhccmegobbnaaa
open Go.ChangeShapes Go.WideShapes Go.ChangeAt Go.RowKit
set_option linter.unusedVariables false
set_option linter.unusedSimpArgs false

set_option maxRecDepth 20000 in
set_option maxHeartbeats 64000000 in
theorem alive_calls (w : World) : Calls Try.prog 11 #[] w fun e W => e = .returned (.bool true) ∧ Below w.heap.size w W := by
  go_enter Try.func11, Try.ntmps11
  have HW : Aside (Below w.heap.size w w) := Below.refl _ _
  go_wp2_with fail
  refine (compile_ok ⟨#[97, 42]⟩ (by decide) wantL 1 ex1 _).mono ?_
  rintro e w1 ⟨ao1, cap1, rfl, hp, hb⟩
  have HBn : Aside (Below w.heap.size w w1) := Below.trans (by first | exact Below.refl _ _ | exact Below.alloc (Below.refl _ _) (Nat.le_refl _) _ | exact Below.alloc (Below.alloc (Below.refl _ _) (Nat.le_refl _) _) (by simp) _) (hb.mono (by first | exact Nat.le_refl _ | (simp; done) | (simp; omega)))
  have HW' : Aside (Below w.heap.size w w1) := HW.out.trans (HBn.out.mono HW.out.size)
  clear HW
  have HW : Aside (Below w.heap.size w w1) := HW'.out
  clear HW' HBn
  have P1 : Aside (Prg wantL ao1 w1) := hp
  clear hp hb
  go_wp2_with fail
  refine (compile_no ⟨#[97, 40, 98]⟩ (by decide) 3 49 ex2 _).mono ?_
  rintro e w2 ⟨rfl, hb⟩
  have hbx : w2.heap[w1.heap.size]? = some (.cells #[.slice ao1 wantL.length cap1, .int .i64 1] 24 (0, 0)) := (hb.block _ (by simp)).trans (hp_new rfl)
  have HBn : Aside (Below w1.heap.size w1 w2) := Below.trans (by first | exact Below.refl _ _ | exact Below.alloc (Below.refl _ _) (Nat.le_refl _) _ | exact Below.alloc (Below.alloc (Below.refl _ _) (Nat.le_refl _) _) (by simp) _) (hb.mono (by first | exact Nat.le_refl _ | (simp; done) | (simp; omega)))
  have P1' : Aside (Prg wantL ao1 w2) := P1.out.later HBn.out
  have HW' : Aside (Below w.heap.size w w2) := HW.out.trans (HBn.out.mono HW.out.size)
  clear HW P1
  have P1 : Aside (Prg wantL ao1 w2) := P1'.out
  have HW : Aside (Below w.heap.size w w2) := HW'.out
  clear HW' HBn P1'
  have RB : Aside (w2.heap[w1.heap.size]? = some (.cells #[.slice ao1 wantL.length cap1, .int .i64 1] 24 (0, 0))) := by show _ = _; exact hbx
  clear hb
  obtain ⟨rb, hrb⟩ : ∃ b, w1.heap.size = b := ⟨_, rfl⟩
  rw [hrb] at RB
  clear hbx
  go_wp2_with fail
  refine (compile_no ⟨#[91, 98, 45, 97, 93]⟩ (by decide) 3 49 ex3 _).mono ?_
  rintro e w3 ⟨rfl, hb⟩
  have HBn : Aside (Below w2.heap.size w2 w3) := Below.trans (by first | exact Below.refl _ _ | exact Below.alloc (Below.refl _ _) (Nat.le_refl _) _ | exact Below.alloc (Below.alloc (Below.refl _ _) (Nat.le_refl _) _) (by simp) _) (hb.mono (by first | exact Nat.le_refl _ | (simp; done) | (simp; omega)))
  have P1' : Aside (Prg wantL ao1 w3) := P1.out.later HBn.out
  have RB' : Aside (w3.heap[rb]? = some (.cells #[.slice ao1 wantL.length cap1, .int .i64 1] 24 (0, 0))) := heap_later RB.out HBn.out
  have HW' : Aside (Below w.heap.size w w3) := HW.out.trans (HBn.out.mono HW.out.size)
  clear HW P1 RB
  have P1 : Aside (Prg wantL ao1 w3) := P1'.out
  have RB : Aside (w3.heap[rb]? = some (.cells #[.slice ao1 wantL.length cap1, .int .i64 1] 24 (0, 0))) := RB'.out
  have HW : Aside (Below w.heap.size w w3) := HW'.out
  clear HW' HBn P1' RB'
  clear hb
  obtain ⟨L4, G4, h4, m4⟩ := ex4
  go_wp2_with fail
  refine (compiled_calls ⟨#[97, 124, 97, 98]⟩ (by decide) L4 G4 h4 _).mono ?_
  rintro e w4 ⟨ao4, cap4, rfl, hp, hb⟩
  have HBn : Aside (Below w3.heap.size w3 w4) := Below.trans (by first | exact Below.refl _ _ | exact Below.alloc (Below.refl _ _) (Nat.le_refl _) _ | exact Below.alloc (Below.alloc (Below.refl _ _) (Nat.le_refl _) _) (by simp) _) (hb.mono (by first | exact Nat.le_refl _ | (simp; done) | (simp; omega)))
  have P1' : Aside (Prg wantL ao1 w4) := P1.out.later HBn.out
  have RB' : Aside (w4.heap[rb]? = some (.cells #[.slice ao1 wantL.length cap1, .int .i64 1] 24 (0, 0))) := heap_later RB.out HBn.out
  have HW' : Aside (Below w.heap.size w w4) := HW.out.trans (HBn.out.mono HW.out.size)
  clear HW P1 RB
  have P1 : Aside (Prg wantL ao1 w4) := P1'.out
  have RB : Aside (w4.heap[rb]? = some (.cells #[.slice ao1 wantL.length cap1, .int .i64 1] 24 (0, 0))) := RB'.out
  have HW : Aside (Below w.heap.size w w4) := HW'.out
  clear HW' HBn P1' RB'
  have E4 : Aside (AEnv w4 L4 ao4 (G4 : Int) ⟨#[120, 97, 98]⟩) := ⟨hp, comp_right h4, by decide⟩
  clear hp hb
  have cm := match_calls L4 ao4 cap4 G4 ⟨#[120, 97, 98]⟩ w4 E4.out
  rw [m4] at cm
  go_wp2_with fail
  refine (cm).mono ?_
  rintro e w5 ⟨⟨v4, rfl, hrow⟩, hb⟩
  have HBn : Aside (Below w4.heap.size w4 w5) := Below.trans (by first | exact Below.refl _ _ | exact Below.alloc (Below.refl _ _) (Nat.le_refl _) _ | exact Below.alloc (Below.alloc (Below.refl _ _) (Nat.le_refl _) _) (by simp) _) (hb.mono (by first | exact Nat.le_refl _ | (simp; done) | (simp; omega)))
  have P1' : Aside (Prg wantL ao1 w5) := P1.out.later HBn.out
  have RB' : Aside (w5.heap[rb]? = some (.cells #[.slice ao1 wantL.length cap1, .int .i64 1] 24 (0, 0))) := heap_later RB.out HBn.out
  have HW' : Aside (Below w.heap.size w w5) := HW.out.trans (HBn.out.mono HW.out.size)
  clear HW P1 RB
  have P1 : Aside (Prg wantL ao1 w5) := P1'.out
  have RB : Aside (w5.heap[rb]? = some (.cells #[.slice ao1 wantL.length cap1, .int .i64 1] 24 (0, 0))) := RB'.out
  have HW : Aside (Below w.heap.size w w5) := HW'.out
  clear HW' HBn P1' RB'
  have V4 : Aside (Row 0 v4 [1, 3] w5) := hrow.lower (Nat.zero_le _)
  clear hrow hb cm E4 h4 m4
  obtain ⟨L5, G5, h5, m5⟩ := ex5
  go_wp2_with fail
  refine (compiled_calls ⟨#[40, 97, 42, 41, 40, 98, 41, 63]⟩ (by decide) L5 G5 h5 _).mono ?_
  rintro e w6 ⟨ao5, cap5, rfl, hp, hb⟩
  have HBn : Aside (Below w5.heap.size w5 w6) := Below.trans (by first | exact Below.refl _ _ | exact Below.alloc (Below.refl _ _) (Nat.le_refl _) _ | exact Below.alloc (Below.alloc (Below.refl _ _) (Nat.le_refl _) _) (by simp) _) (hb.mono (by first | exact Nat.le_refl _ | (simp; done) | (simp; omega)))
  have P1' : Aside (Prg wantL ao1 w6) := P1.out.later HBn.out
  have RB' : Aside (w6.heap[rb]? = some (.cells #[.slice ao1 wantL.length cap1, .int .i64 1] 24 (0, 0))) := heap_later RB.out HBn.out
  have V4' : Aside (Row 0 v4 [1, 3] w6) := V4.out.later HBn.out
  have HW' : Aside (Below w.heap.size w w6) := HW.out.trans (HBn.out.mono HW.out.size)
  clear HW P1 RB V4
  have P1 : Aside (Prg wantL ao1 w6) := P1'.out
  have RB : Aside (w6.heap[rb]? = some (.cells #[.slice ao1 wantL.length cap1, .int .i64 1] 24 (0, 0))) := RB'.out
  have V4 : Aside (Row 0 v4 [1, 3] w6) := V4'.out
  have HW : Aside (Below w.heap.size w w6) := HW'.out
  clear HW' HBn P1' RB' V4'
  have E5 : Aside (AEnv w6 L5 ao5 (G5 : Int) ⟨#[97, 97, 98]⟩) := ⟨hp, comp_right h5, by decide⟩
  clear hp hb
  have cm := match_calls L5 ao5 cap5 G5 ⟨#[97, 97, 98]⟩ w6 E5.out
  rw [m5] at cm
  go_wp2_with fail
  refine (cm).mono ?_
  rintro e w7 ⟨⟨v5, rfl, hrow⟩, hb⟩
  have HBn : Aside (Below w6.heap.size w6 w7) := Below.trans (by first | exact Below.refl _ _ | exact Below.alloc (Below.refl _ _) (Nat.le_refl _) _ | exact Below.alloc (Below.alloc (Below.refl _ _) (Nat.le_refl _) _) (by simp) _) (hb.mono (by first | exact Nat.le_refl _ | (simp; done) | (simp; omega)))
  have P1' : Aside (Prg wantL ao1 w7) := P1.out.later HBn.out
  have RB' : Aside (w7.heap[rb]? = some (.cells #[.slice ao1 wantL.length cap1, .int .i64 1] 24 (0, 0))) := heap_later RB.out HBn.out
  have V4' : Aside (Row 0 v4 [1, 3] w7) := V4.out.later HBn.out
  have HW' : Aside (Below w.heap.size w w7) := HW.out.trans (HBn.out.mono HW.out.size)
  clear HW P1 RB V4
  have P1 : Aside (Prg wantL ao1 w7) := P1'.out
  have RB : Aside (w7.heap[rb]? = some (.cells #[.slice ao1 wantL.length cap1, .int .i64 1] 24 (0, 0))) := RB'.out
  have V4 : Aside (Row 0 v4 [1, 3] w7) := V4'.out
  have HW : Aside (Below w.heap.size w w7) := HW'.out
  clear HW' HBn P1' RB' V4'
  have V5 : Aside (Row 0 v5 [0, 3, 0, 2, 2, 3] w7) := hrow.lower (Nat.zero_le _)
  clear hrow hb cm E5 h5 m5
  obtain ⟨L6, G6, h6, m6⟩ := ex6
  go_wp2_with fail
  refine (compiled_calls ⟨#[97, 46, 99]⟩ (by decide) L6 G6 h6 _).mono ?_
  rintro e w8 ⟨ao6, cap6, rfl, hp, hb⟩
  have HBn : Aside (Below w7.heap.size w7 w8) := Below.trans (by first | exact Below.refl _ _ | exact Below.alloc (Below.refl _ _) (Nat.le_refl _) _ | exact Below.alloc (Below.alloc (Below.refl _ _) (Nat.le_refl _) _) (by simp) _) (hb.mono (by first | exact Nat.le_refl _ | (simp; done) | (simp; omega)))
  have P1' : Aside (Prg wantL ao1 w8) := P1.out.later HBn.out
  have RB' : Aside (w8.heap[rb]? = some (.cells #[.slice ao1 wantL.length cap1, .int .i64 1] 24 (0, 0))) := heap_later RB.out HBn.out
  have V4' : Aside (Row 0 v4 [1, 3] w8) := V4.out.later HBn.out
  have V5' : Aside (Row 0 v5 [0, 3, 0, 2, 2, 3] w8) := V5.out.later HBn.out
  have HW' : Aside (Below w.heap.size w w8) := HW.out.trans (HBn.out.mono HW.out.size)
  clear HW P1 RB V4 V5
  have P1 : Aside (Prg wantL ao1 w8) := P1'.out
  have RB : Aside (w8.heap[rb]? = some (.cells #[.slice ao1 wantL.length cap1, .int .i64 1] 24 (0, 0))) := RB'.out
  have V4 : Aside (Row 0 v4 [1, 3] w8) := V4'.out
  have V5 : Aside (Row 0 v5 [0, 3, 0, 2, 2, 3] w8) := V5'.out
  have HW : Aside (Below w.heap.size w w8) := HW'.out
  clear HW' HBn P1' RB' V4' V5'
  have E6 : Aside (AEnv w8 L6 ao6 (G6 : Int) ⟨#[97, 10, 99]⟩) := ⟨hp, comp_right h6, by decide⟩
  clear hp hb
  have cm := match_calls L6 ao6 cap6 G6 ⟨#[97, 10, 99]⟩ w8 E6.out
  rw [m6] at cm
  go_wp2_with fail
  refine (cm).mono ?_
  rintro e w9 ⟨he, hb⟩
  have HBn : Aside (Below w8.heap.size w8 w9) := Below.trans (by first | exact Below.refl _ _ | exact Below.alloc (Below.refl _ _) (Nat.le_refl _) _ | exact Below.alloc (Below.alloc (Below.refl _ _) (Nat.le_refl _) _) (by simp) _) (hb.mono (by first | exact Nat.le_refl _ | (simp; done) | (simp; omega)))
  have P1' : Aside (Prg wantL ao1 w9) := P1.out.later HBn.out
  have RB' : Aside (w9.heap[rb]? = some (.cells #[.slice ao1 wantL.length cap1, .int .i64 1] 24 (0, 0))) := heap_later RB.out HBn.out
  have V4' : Aside (Row 0 v4 [1, 3] w9) := V4.out.later HBn.out
  have V5' : Aside (Row 0 v5 [0, 3, 0, 2, 2, 3] w9) := V5.out.later HBn.out
  have HW' : Aside (Below w.heap.size w w9) := HW.out.trans (HBn.out.mono HW.out.size)
  clear HW P1 RB V4 V5
  have P1 : Aside (Prg wantL ao1 w9) := P1'.out
  have RB : Aside (w9.heap[rb]? = some (.cells #[.slice ao1 wantL.length cap1, .int .i64 1] 24 (0, 0))) := RB'.out
  have V4 : Aside (Row 0 v4 [1, 3] w9) := V4'.out
  have V5 : Aside (Row 0 v5 [0, 3, 0, 2, 2, 3] w9) := V5'.out
  have HW : Aside (Below w.heap.size w w9) := HW'.out
  clear HW' HBn P1' RB' V4' V5'
  have he : e = .returned (.tuple #[.slice none 0 0, .bool false]) := he
  subst he
  clear hb cm E6 h6 m6
  obtain ⟨L7, G7, h7, m7, k7⟩ := ex7
  go_wp2_with fail
  refine (compiled_calls ⟨#[98, 42]⟩ (by decide) L7 G7 h7 _).mono ?_
  rintro e w10 ⟨ao7, cap7, rfl, hp, hb⟩
  have HBn : Aside (Below w9.heap.size w9 w10) := Below.trans (by first | exact Below.refl _ _ | exact Below.alloc (Below.refl _ _) (Nat.le_refl _) _ | exact Below.alloc (Below.alloc (Below.refl _ _) (Nat.le_refl _) _) (by simp) _) (hb.mono (by first | exact Nat.le_refl _ | (simp; done) | (simp; omega)))
  have P1' : Aside (Prg wantL ao1 w10) := P1.out.later HBn.out
  have RB' : Aside (w10.heap[rb]? = some (.cells #[.slice ao1 wantL.length cap1, .int .i64 1] 24 (0, 0))) := heap_later RB.out HBn.out
  have V4' : Aside (Row 0 v4 [1, 3] w10) := V4.out.later HBn.out
  have V5' : Aside (Row 0 v5 [0, 3, 0, 2, 2, 3] w10) := V5.out.later HBn.out
  have HW' : Aside (Below w.heap.size w w10) := HW.out.trans (HBn.out.mono HW.out.size)
  clear HW P1 RB V4 V5
  have P1 : Aside (Prg wantL ao1 w10) := P1'.out
  have RB : Aside (w10.heap[rb]? = some (.cells #[.slice ao1 wantL.length cap1, .int .i64 1] 24 (0, 0))) := RB'.out
  have V4 : Aside (Row 0 v4 [1, 3] w10) := V4'.out
  have V5 : Aside (Row 0 v5 [0, 3, 0, 2, 2, 3] w10) := V5'.out
  have HW : Aside (Below w.heap.size w w10) := HW'.out
  clear HW' HBn P1' RB' V4' V5'
  have E7 : Aside (AEnv w10 L7 ao7 (G7 : Int) ⟨#[97, 98, 99]⟩) := ⟨hp, comp_right h7, by decide⟩
  clear hp hb
  have cm := replace_calls L7 ao7 cap7 G7 ⟨#[97, 98, 99]⟩ ⟨#[45]⟩ (by decide) (by decide) w10 E7.out
  rw [k7, m7] at cm
  go_wp2_with fail
  refine (cm).mono ?_
  rintro e w11 ⟨rfl, hb⟩
  have HBn : Aside (Below w10.heap.size w10 w11) := Below.trans (by first | exact Below.refl _ _ | exact Below.alloc (Below.refl _ _) (Nat.le_refl _) _ | exact Below.alloc (Below.alloc (Below.refl _ _) (Nat.le_refl _) _) (by simp) _) (hb.mono (by first | exact Nat.le_refl _ | (simp; done) | (simp; omega)))
  have P1' : Aside (Prg wantL ao1 w11) := P1.out.later HBn.out
  have RB' : Aside (w11.heap[rb]? = some (.cells #[.slice ao1 wantL.length cap1, .int .i64 1] 24 (0, 0))) := heap_later RB.out HBn.out
  have V4' : Aside (Row 0 v4 [1, 3] w11) := V4.out.later HBn.out
  have V5' : Aside (Row 0 v5 [0, 3, 0, 2, 2, 3] w11) := V5.out.later HBn.out
  have HW' : Aside (Below w.heap.size w w11) := HW.out.trans (HBn.out.mono HW.out.size)
  clear HW P1 RB V4 V5
  have P1 : Aside (Prg wantL ao1 w11) := P1'.out
  have RB : Aside (w11.heap[rb]? = some (.cells #[.slice ao1 wantL.length cap1, .int .i64 1] 24 (0, 0))) := RB'.out
  have V4 : Aside (Row 0 v4 [1, 3] w11) := V4'.out
  have V5 : Aside (Row 0 v5 [0, 3, 0, 2, 2, 3] w11) := V5'.out
  have HW : Aside (Below w.heap.size w w11) := HW'.out
  clear HW' HBn P1' RB' V4' V5'
  clear hb cm E7 h7 k7 m7
  obtain ⟨L8, G8, h8, m8, k8⟩ := ex8
  go_wp2_with fail
  refine (compiled_calls ⟨#[40, 97, 41, 40, 120, 41, 63]⟩ (by decide) L8 G8 h8 _).mono ?_
  rintro e w12 ⟨ao8, cap8, rfl, hp, hb⟩
  have HBn : Aside (Below w11.heap.size w11 w12) := Below.trans (by first | exact Below.refl _ _ | exact Below.alloc (Below.refl _ _) (Nat.le_refl _) _ | exact Below.alloc (Below.alloc (Below.refl _ _) (Nat.le_refl _) _) (by simp) _) (hb.mono (by first | exact Nat.le_refl _ | (simp; done) | (simp; omega)))
  have P1' : Aside (Prg wantL ao1 w12) := P1.out.later HBn.out
  have RB' : Aside (w12.heap[rb]? = some (.cells #[.slice ao1 wantL.length cap1, .int .i64 1] 24 (0, 0))) := heap_later RB.out HBn.out
  have V4' : Aside (Row 0 v4 [1, 3] w12) := V4.out.later HBn.out
  have V5' : Aside (Row 0 v5 [0, 3, 0, 2, 2, 3] w12) := V5.out.later HBn.out
  have HW' : Aside (Below w.heap.size w w12) := HW.out.trans (HBn.out.mono HW.out.size)
  clear HW P1 RB V4 V5
  have P1 : Aside (Prg wantL ao1 w12) := P1'.out
  have RB : Aside (w12.heap[rb]? = some (.cells #[.slice ao1 wantL.length cap1, .int .i64 1] 24 (0, 0))) := RB'.out
  have V4 : Aside (Row 0 v4 [1, 3] w12) := V4'.out
  have V5 : Aside (Row 0 v5 [0, 3, 0, 2, 2, 3] w12) := V5'.out
  have HW : Aside (Below w.heap.size w w12) := HW'.out
  clear HW' HBn P1' RB' V4' V5'
  have E8 : Aside (AEnv w12 L8 ao8 (G8 : Int) ⟨#[98, 97, 98]⟩) := ⟨hp, comp_right h8, by decide⟩
  clear hp hb
  have cm := replace_calls L8 ao8 cap8 G8 ⟨#[98, 97, 98]⟩ ⟨#[60, 92, 49, 92, 50, 38, 62]⟩ (by decide) (by decide) w12 E8.out
  rw [k8, m8] at cm
  go_wp2_with fail
  refine (cm).mono ?_
  rintro e w13 ⟨rfl, hb⟩
  have HBn : Aside (Below w12.heap.size w12 w13) := Below.trans (by first | exact Below.refl _ _ | exact Below.alloc (Below.refl _ _) (Nat.le_refl _) _ | exact Below.alloc (Below.alloc (Below.refl _ _) (Nat.le_refl _) _) (by simp) _) (hb.mono (by first | exact Nat.le_refl _ | (simp; done) | (simp; omega)))
  have P1' : Aside (Prg wantL ao1 w13) := P1.out.later HBn.out
  have RB' : Aside (w13.heap[rb]? = some (.cells #[.slice ao1 wantL.length cap1, .int .i64 1] 24 (0, 0))) := heap_later RB.out HBn.out
  have V4' : Aside (Row 0 v4 [1, 3] w13) := V4.out.later HBn.out
  have V5' : Aside (Row 0 v5 [0, 3, 0, 2, 2, 3] w13) := V5.out.later HBn.out
  have HW' : Aside (Below w.heap.size w w13) := HW.out.trans (HBn.out.mono HW.out.size)
  clear HW P1 RB V4 V5
  have P1 : Aside (Prg wantL ao1 w13) := P1'.out
  have RB : Aside (w13.heap[rb]? = some (.cells #[.slice ao1 wantL.length cap1, .int .i64 1] 24 (0, 0))) := RB'.out
  have V4 : Aside (Row 0 v4 [1, 3] w13) := V4'.out
  have V5 : Aside (Row 0 v5 [0, 3, 0, 2, 2, 3] w13) := V5'.out
  have HW : Aside (Below w.heap.size w w13) := HW'.out
  clear HW' HBn P1' RB' V4' V5'
  clear hb cm E8 h8 k8 m8
  obtain ⟨L9, G9, h9, k9⟩ := ex9
  go_wp2_with fail
  refine (compiled_calls ⟨#[97]⟩ (by decide) L9 G9 h9 _).mono ?_
  rintro e w14 ⟨ao9, cap9, rfl, hp, hb⟩
  have HBn : Aside (Below w13.heap.size w13 w14) := Below.trans (by first | exact Below.refl _ _ | exact Below.alloc (Below.refl _ _) (Nat.le_refl _) _ | exact Below.alloc (Below.alloc (Below.refl _ _) (Nat.le_refl _) _) (by simp) _) (hb.mono (by first | exact Nat.le_refl _ | (simp; done) | (simp; omega)))
  have P1' : Aside (Prg wantL ao1 w14) := P1.out.later HBn.out
  have RB' : Aside (w14.heap[rb]? = some (.cells #[.slice ao1 wantL.length cap1, .int .i64 1] 24 (0, 0))) := heap_later RB.out HBn.out
  have V4' : Aside (Row 0 v4 [1, 3] w14) := V4.out.later HBn.out
  have V5' : Aside (Row 0 v5 [0, 3, 0, 2, 2, 3] w14) := V5.out.later HBn.out
  have HW' : Aside (Below w.heap.size w w14) := HW.out.trans (HBn.out.mono HW.out.size)
  clear HW P1 RB V4 V5
  have P1 : Aside (Prg wantL ao1 w14) := P1'.out
  have RB : Aside (w14.heap[rb]? = some (.cells #[.slice ao1 wantL.length cap1, .int .i64 1] 24 (0, 0))) := RB'.out
  have V4 : Aside (Row 0 v4 [1, 3] w14) := V4'.out
  have V5 : Aside (Row 0 v5 [0, 3, 0, 2, 2, 3] w14) := V5'.out
  have HW : Aside (Below w.heap.size w w14) := HW'.out
  clear HW' HBn P1' RB' V4' V5'
  have E9 : Aside (AEnv w14 L9 ao9 (G9 : Int) ⟨#[98]⟩) := ⟨hp, comp_right h9, by decide⟩
  clear hp hb
  have cm := replace_calls L9 ao9 cap9 G9 ⟨#[98]⟩ ⟨#[92]⟩ (by decide) (by decide) w14 E9.out
  rw [k9] at cm
  obtain ⟨x9, hx9⟩ : ∃ x, (replTop L9 G9 ⟨#[98]⟩ ⟨#[92]⟩).1 = x := ⟨_, rfl⟩
  rw [hx9] at cm
  clear hx9
  go_wp2_with fail
  refine (cm).mono ?_
  rintro e w15 ⟨rfl, hb⟩
  have HBn : Aside (Below w14.heap.size w14 w15) := Below.trans (by first | exact Below.refl _ _ | exact Below.alloc (Below.refl _ _) (Nat.le_refl _) _ | exact Below.alloc (Below.alloc (Below.refl _ _) (Nat.le_refl _) _) (by simp) _) (hb.mono (by first | exact Nat.le_refl _ | (simp; done) | (simp; omega)))
  have P1' : Aside (Prg wantL ao1 w15) := P1.out.later HBn.out
  have RB' : Aside (w15.heap[rb]? = some (.cells #[.slice ao1 wantL.length cap1, .int .i64 1] 24 (0, 0))) := heap_later RB.out HBn.out
  have V4' : Aside (Row 0 v4 [1, 3] w15) := V4.out.later HBn.out
  have V5' : Aside (Row 0 v5 [0, 3, 0, 2, 2, 3] w15) := V5.out.later HBn.out
  have HW' : Aside (Below w.heap.size w w15) := HW.out.trans (HBn.out.mono HW.out.size)
  clear HW P1 RB V4 V5
  have P1 : Aside (Prg wantL ao1 w15) := P1'.out
  have RB : Aside (w15.heap[rb]? = some (.cells #[.slice ao1 wantL.length cap1, .int .i64 1] 24 (0, 0))) := RB'.out
  have V4 : Aside (Row 0 v4 [1, 3] w15) := V4'.out
  have V5 : Aside (Row 0 v5 [0, 3, 0, 2, 2, 3] w15) := V5'.out
  have HW : Aside (Below w.heap.size w w15) := HW'.out
  clear HW' HBn P1' RB' V4' V5'
  clear hb cm E9 h9 k9
  have c0 := cell_heap RB.out 0 _ rfl
  have c1 := cell_heap RB.out 1 _ rfl
  have lrb : rb < w15.heap.size := (Array.getElem?_eq_some_iff.1 RB.out).1
  have nrb : ¬ rb = w15.heap.size := by omega
  have nrb2 : ¬ w15.heap.size = rb := by omega
  have CW : CellsIn (w15.alloc (.cells #[.int .i64 8, .int .u8 0, .string ⟨#[]⟩, .bool false, .int .i64 0, .int .i64 0, .int .i64 6, .int .u8 0, .string ⟨#[]⟩, .bool false, .int .i64 2, .int .i64 4, .int .i64 1, .int .u8 97, .string ⟨#[]⟩, .bool false, .int .i64 0, .int .i64 0, .int .i64 7, .int .u8 0, .string ⟨#[]⟩, .bool false, .int .i64 1, .int .i64 0, .int .i64 8, .int .u8 0, .string ⟨#[]⟩, .bool false, .int .i64 1, .int .i64 0, .int .i64 9, .int .u8 0, .string ⟨#[]⟩, .bool false, .int .i64 0, .int .i64 0] 34)) (some ⟨w15.heap.size, 0, none⟩) wantL := by
    intro j hj
    have hh : (w15.alloc (.cells #[.int .i64 8, .int .u8 0, .string ⟨#[]⟩, .bool false, .int .i64 0, .int .i64 0, .int .i64 6, .int .u8 0, .string ⟨#[]⟩, .bool false, .int .i64 2, .int .i64 4, .int .i64 1, .int .u8 97, .string ⟨#[]⟩, .bool false, .int .i64 0, .int .i64 0, .int .i64 7, .int .u8 0, .string ⟨#[]⟩, .bool false, .int .i64 1, .int .i64 0, .int .i64 8, .int .u8 0, .string ⟨#[]⟩, .bool false, .int .i64 1, .int .i64 0, .int .i64 9, .int .u8 0, .string ⟨#[]⟩, .bool false, .int .i64 0, .int .i64 0] 34)).heap[w15.heap.size]? = some (.cells #[.int .i64 8, .int .u8 0, .string ⟨#[]⟩, .bool false, .int .i64 0, .int .i64 0, .int .i64 6, .int .u8 0, .string ⟨#[]⟩, .bool false, .int .i64 2, .int .i64 4, .int .i64 1, .int .u8 97, .string ⟨#[]⟩, .bool false, .int .i64 0, .int .i64 0, .int .i64 7, .int .u8 0, .string ⟨#[]⟩, .bool false, .int .i64 1, .int .i64 0, .int .i64 8, .int .u8 0, .string ⟨#[]⟩, .bool false, .int .i64 1, .int .i64 0, .int .i64 9, .int .u8 0, .string ⟨#[]⟩, .bool false, .int .i64 0, .int .i64 0] 34 (0, 0)) := hp_new rfl
    have hj6 : j < 6 := hj
    clear hj
    match j, hj6 with
    | 0, _ => exact ⟨_, 0, rfl, by simp, cell_heap hh 0 _ rfl, cell_heap hh 1 _ rfl, cell_heap hh 2 _ rfl, cell_heap hh 3 _ rfl, cell_heap hh 4 _ rfl, cell_heap hh 5 _ rfl⟩
    | 1, _ => exact ⟨_, 0, rfl, by simp, cell_heap hh 6 _ rfl, cell_heap hh 7 _ rfl, cell_heap hh 8 _ rfl, cell_heap hh 9 _ rfl, cell_heap hh 10 _ rfl, cell_heap hh 11 _ rfl⟩
    | 2, _ => exact ⟨_, 0, rfl, by simp, cell_heap hh 12 _ rfl, cell_heap hh 13 _ rfl, cell_heap hh 14 _ rfl, cell_heap hh 15 _ rfl, cell_heap hh 16 _ rfl, cell_heap hh 17 _ rfl⟩
    | 3, _ => exact ⟨_, 0, rfl, by simp, cell_heap hh 18 _ rfl, cell_heap hh 19 _ rfl, cell_heap hh 20 _ rfl, cell_heap hh 21 _ rfl, cell_heap hh 22 _ rfl, cell_heap hh 23 _ rfl⟩
    | 4, _ => exact ⟨_, 0, rfl, by simp, cell_heap hh 24 _ rfl, cell_heap hh 25 _ rfl, cell_heap hh 26 _ rfl, cell_heap hh 27 _ rfl, cell_heap hh 28 _ rfl, cell_heap hh 29 _ rfl⟩
    | 5, _ => exact ⟨_, 0, rfl, by simp, cell_heap hh 30 _ rfl, cell_heap hh 31 _ rfl, cell_heap hh 32 _ rfl, cell_heap hh 33 _ rfl, cell_heap hh 34 _ rfl, cell_heap hh 35 _ rfl⟩
  have cs := same_calls wantL ao1 (some ⟨w15.heap.size, 0, none⟩) cap1 6 1 (w15.alloc (.cells #[.int .i64 8, .int .u8 0, .string ⟨#[]⟩, .bool false, .int .i64 0, .int .i64 0, .int .i64 6, .int .u8 0, .string ⟨#[]⟩, .bool false, .int .i64 2, .int .i64 4, .int .i64 1, .int .u8 97, .string ⟨#[]⟩, .bool false, .int .i64 0, .int .i64 0, .int .i64 7, .int .u8 0, .string ⟨#[]⟩, .bool false, .int .i64 1, .int .i64 0, .int .i64 8, .int .u8 0, .string ⟨#[]⟩, .bool false, .int .i64 1, .int .i64 0, .int .i64 9, .int .u8 0, .string ⟨#[]⟩, .bool false, .int .i64 0, .int .i64 0] 34)) (P1.out.later (Below.alloc (Below.refl _ _) (Nat.le_refl _) _)).c CW (by decide)
  clear CW
  go_wp2_with fail
  refine (cs).mono ?_
  rintro e w16 ⟨rfl, hb⟩
  have HBn : Aside (Below w15.heap.size w15 w16) := Below.trans (by first | exact Below.refl _ _ | exact Below.alloc (Below.refl _ _) (Nat.le_refl _) _ | exact Below.alloc (Below.alloc (Below.refl _ _) (Nat.le_refl _) _) (by simp) _) (hb.mono (by first | exact Nat.le_refl _ | (simp; done) | (simp; omega)))
  have P1' : Aside (Prg wantL ao1 w16) := P1.out.later HBn.out
  have RB' : Aside (w16.heap[rb]? = some (.cells #[.slice ao1 wantL.length cap1, .int .i64 1] 24 (0, 0))) := heap_later RB.out HBn.out
  have V4' : Aside (Row 0 v4 [1, 3] w16) := V4.out.later HBn.out
  have V5' : Aside (Row 0 v5 [0, 3, 0, 2, 2, 3] w16) := V5.out.later HBn.out
  have HW' : Aside (Below w.heap.size w w16) := HW.out.trans (HBn.out.mono HW.out.size)
  clear HW P1 RB V4 V5
  have P1 : Aside (Prg wantL ao1 w16) := P1'.out
  have RB : Aside (w16.heap[rb]? = some (.cells #[.slice ao1 wantL.length cap1, .int .i64 1] 24 (0, 0))) := RB'.out
  have V4 : Aside (Row 0 v4 [1, 3] w16) := V4'.out
  have V5 : Aside (Row 0 v5 [0, 3, 0, 2, 2, 3] w16) := V5'.out
  have HW : Aside (Below w.heap.size w w16) := HW'.out
  clear HW' HBn P1' RB' V4' V5'
  clear hb cs c0 c1 lrb nrb nrb2
  have RW : Row 0 (.slice (some ⟨w16.heap.size, 0, none⟩) 2 2) [1, 3] (w16.alloc (.cells #[.int .i64 1, .int .i64 3] 3)) := ⟨⟨rfl, .inr ⟨w16.heap.size, 2, #[.int .i64 1, .int .i64 3], rfl, Nat.zero_le _, hp_new rfl, by decide, by decide, rfl, rfl⟩⟩, by decide⟩
  have ci := ints_calls v4 _ [1, 3] _ (.inr (V4.out.later (Below.alloc (Below.refl _ _) (Nat.le_refl _) _))) (.inr RW) (by decide)
  go_wp2_with fail
  refine (ci).mono ?_
  rintro e w17 ⟨rfl, hb⟩
  have HBn : Aside (Below w16.heap.size w16 w17) := Below.trans (by first | exact Below.refl _ _ | exact Below.alloc (Below.refl _ _) (Nat.le_refl _) _ | exact Below.alloc (Below.alloc (Below.refl _ _) (Nat.le_refl _) _) (by simp) _) (hb.mono (by first | exact Nat.le_refl _ | (simp; done) | (simp; omega)))
  have P1' : Aside (Prg wantL ao1 w17) := P1.out.later HBn.out
  have RB' : Aside (w17.heap[rb]? = some (.cells #[.slice ao1 wantL.length cap1, .int .i64 1] 24 (0, 0))) := heap_later RB.out HBn.out
  have V4' : Aside (Row 0 v4 [1, 3] w17) := V4.out.later HBn.out
  have V5' : Aside (Row 0 v5 [0, 3, 0, 2, 2, 3] w17) := V5.out.later HBn.out
  have HW' : Aside (Below w.heap.size w w17) := HW.out.trans (HBn.out.mono HW.out.size)
  clear HW P1 RB V4 V5
  have P1 : Aside (Prg wantL ao1 w17) := P1'.out
  have RB : Aside (w17.heap[rb]? = some (.cells #[.slice ao1 wantL.length cap1, .int .i64 1] 24 (0, 0))) := RB'.out
  have V4 : Aside (Row 0 v4 [1, 3] w17) := V4'.out
  have V5 : Aside (Row 0 v5 [0, 3, 0, 2, 2, 3] w17) := V5'.out
  have HW : Aside (Below w.heap.size w w17) := HW'.out
  clear HW' HBn P1' RB' V4' V5'
  clear hb ci RW
  have RW : Row 0 (.slice (some ⟨w17.heap.size, 0, none⟩) 6 6) [0, 3, 0, 2, 2, 3] (w17.alloc (.cells #[.int .i64 0, .int .i64 3, .int .i64 0, .int .i64 2, .int .i64 2, .int .i64 3] 3)) := ⟨⟨rfl, .inr ⟨w17.heap.size, 6, #[.int .i64 0, .int .i64 3, .int .i64 0, .int .i64 2, .int .i64 2, .int .i64 3], rfl, Nat.zero_le _, hp_new rfl, by decide, by decide, rfl, rfl⟩⟩, by decide⟩
  have ci := ints_calls v5 _ [0, 3, 0, 2, 2, 3] _ (.inr (V5.out.later (Below.alloc (Below.refl _ _) (Nat.le_refl _) _))) (.inr RW) (by decide)
  go_wp2_with fail
  refine (ci).mono ?_
  rintro e w18 ⟨rfl, hb⟩
  have HBn : Aside (Below w17.heap.size w17 w18) := Below.trans (by first | exact Below.refl _ _ | exact Below.alloc (Below.refl _ _) (Nat.le_refl _) _ | exact Below.alloc (Below.alloc (Below.refl _ _) (Nat.le_refl _) _) (by simp) _) (hb.mono (by first | exact Nat.le_refl _ | (simp; done) | (simp; omega)))
  have P1' : Aside (Prg wantL ao1 w18) := P1.out.later HBn.out
  have RB' : Aside (w18.heap[rb]? = some (.cells #[.slice ao1 wantL.length cap1, .int .i64 1] 24 (0, 0))) := heap_later RB.out HBn.out
  have V4' : Aside (Row 0 v4 [1, 3] w18) := V4.out.later HBn.out
  have V5' : Aside (Row 0 v5 [0, 3, 0, 2, 2, 3] w18) := V5.out.later HBn.out
  have HW' : Aside (Below w.heap.size w w18) := HW.out.trans (HBn.out.mono HW.out.size)
  clear HW P1 RB V4 V5
  have P1 : Aside (Prg wantL ao1 w18) := P1'.out
  have RB : Aside (w18.heap[rb]? = some (.cells #[.slice ao1 wantL.length cap1, .int .i64 1] 24 (0, 0))) := RB'.out
  have V4 : Aside (Row 0 v4 [1, 3] w18) := V4'.out
  have V5 : Aside (Row 0 v5 [0, 3, 0, 2, 2, 3] w18) := V5'.out
  have HW : Aside (Below w.heap.size w w18) := HW'.out
  clear HW' HBn P1' RB' V4' V5'
  clear hb ci RW
  have c0 := cell_heap RB.out 0 _ rfl
  have c1 := cell_heap RB.out 1 _ rfl
  have lrb : rb < w18.heap.size := (Array.getElem?_eq_some_iff.1 RB.out).1
  have nrb : ¬ rb = w18.heap.size := by omega
  have nrb2 : ¬ w18.heap.size = rb := by omega
  have cr := right_calls wantL ao1 cap1 1 w18 P1.out (by decide)
  rw [show rightF wantL 1 = true from comp_right ex1] at cr
  go_wp2_with fail
  refine (cr).mono ?_
  rintro e w19 ⟨rfl, hb⟩
  have HBn : Aside (Below w18.heap.size w18 w19) := Below.trans (by first | exact Below.refl _ _ | exact Below.alloc (Below.refl _ _) (Nat.le_refl _) _ | exact Below.alloc (Below.alloc (Below.refl _ _) (Nat.le_refl _) _) (by simp) _) (hb.mono (by first | exact Nat.le_refl _ | (simp; done) | (simp; omega)))
  have P1' : Aside (Prg wantL ao1 w19) := P1.out.later HBn.out
  have RB' : Aside (w19.heap[rb]? = some (.cells #[.slice ao1 wantL.length cap1, .int .i64 1] 24 (0, 0))) := heap_later RB.out HBn.out
  have V4' : Aside (Row 0 v4 [1, 3] w19) := V4.out.later HBn.out
  have V5' : Aside (Row 0 v5 [0, 3, 0, 2, 2, 3] w19) := V5.out.later HBn.out
  have HW' : Aside (Below w.heap.size w w19) := HW.out.trans (HBn.out.mono HW.out.size)
  clear HW P1 RB V4 V5
  have P1 : Aside (Prg wantL ao1 w19) := P1'.out
  have RB : Aside (w19.heap[rb]? = some (.cells #[.slice ao1 wantL.length cap1, .int .i64 1] 24 (0, 0))) := RB'.out
  have V4 : Aside (Row 0 v4 [1, 3] w19) := V4'.out
  have V5 : Aside (Row 0 v5 [0, 3, 0, 2, 2, 3] w19) := V5'.out
  have HW : Aside (Below w.heap.size w w19) := HW'.out
  clear HW' HBn P1' RB' V4' V5'
  clear hb cr
  go_wp2_with fail
  refine bodyPost_ret (v := .bool true) (by simp [results, Try.results11, go_sem, ↓IntWalk.iteOmega]) rfl ⟨rfl, HW.out⟩

end Go.Proofs.Ytfhccmegobbnaaa
