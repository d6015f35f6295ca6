/- This text proves the walk of the statement RegexOffsets. Conditions: those that each theorem names. -/
import Derived.Test.YtfhccmegobbnaaaRegexZQ
import Derived.Deep.RegionHeld3
namespace Go.Proofs.Ytfhccmegobbnaaa
open Go.ChangeShapes Go.WideShapes Go.ChangeAt Go.RowKit
set_option linter.unusedVariables false
set_option linter.unusedSimpArgs false

set_option maxRecDepth 20000 in
set_option maxHeartbeats 64000000 in
theorem lawOffsets_calls (p s : ByteArray) (hp : p.size ≤ maxLen) (w : World) :
    Calls Try.prog 3 #[.string p, .string s] w fun e W => e = .returned (.bool true) ∧ Below w.heap.size w W := by
  have HW : Aside (Below w.heap.size w w) := Below.refl _ _
  have hp : p.size ≤ 9223372036854775807 := by unfold maxLen at hp; exact hp
  cases hc : compF p with
  | error kc =>
    obtain ⟨k, c⟩ := kc
    have hc9 := comp_err hc
    have cn := compile_no p hp k c hc w
    have n0 : ((c : Int) != 0) = true := by rw [bne_iff_ne]; omega
    clear hc hc9
    go_enter Try.func3, Try.ntmps3
    go_wp2_with fail
    refine (cn).mono ?_
    rintro e w1 ⟨rfl, hb⟩
    have HBn : Aside (Below w.heap.size w w1) := Below.trans (by first | exact Below.refl _ _ | exact Below.alloc (Below.refl _ _) (Nat.le_refl _) _ | exact below_drewN (Below.refl _ _) _ | exact below_drewN (Below.alloc (Below.refl _ _) (Nat.le_refl _) _) _ | exact Below.alloc (Below.alloc (Below.refl _ _) (Nat.le_refl _) _) (by simp) _) (hb.mono (by first | exact Nat.le_refl _ | (simp; done) | (simp; omega)))
    have HW' : Aside (Below w.heap.size w w1) := HW.out.trans (HBn.out.mono HW.out.size)
    clear HW
    have HW : Aside (Below w.heap.size w w1) := HW'.out
    clear HW' HBn hb
    go_wp2_with fail
    refine (alive_calls _).mono ?_
    rintro e w2 ⟨rfl, hb⟩
    have HBn : Aside (Below w1.heap.size w1 w2) := Below.trans (by first | exact Below.refl _ _ | exact Below.alloc (Below.refl _ _) (Nat.le_refl _) _ | exact below_drewN (Below.refl _ _) _ | exact below_drewN (Below.alloc (Below.refl _ _) (Nat.le_refl _) _) _ | exact Below.alloc (Below.alloc (Below.refl _ _) (Nat.le_refl _) _) (by simp) _) (hb.mono (by first | exact Nat.le_refl _ | (simp; done) | (simp; omega)))
    have HW' : Aside (Below w.heap.size w w2) := HW.out.trans (HBn.out.mono HW.out.size)
    clear HW
    have HW : Aside (Below w.heap.size w w2) := HW'.out
    clear HW' HBn hb
    go_wp2_with fail
    refine bodyPost_ret (v := .bool true) (by simp [results, Try.results3, go_sem, ↓IntWalk.iteOmega]) rfl ⟨rfl, HW.out⟩
  | ok lg =>
    obtain ⟨L, G⟩ := lg
    have HCO : Aside (compF p = .ok (L, G)) := hc
    have HR : Aside (rightF L (G : Int) = true) := comp_right hc
    obtain ⟨m, hS⟩ := comp_shape hc
    have HS : Aside (Shape L m) := hS
    have co := compile_ok p hp L G hc w
    have hg : G ≤ 10 := by have := (right_parts HR.out).2.1; omega
    have hg1 : 1 ≤ G := by have := (right_parts HR.out).1; omega
    clear hc hS
    go_enter Try.func3, Try.ntmps3
    go_wp2_with fail
    refine (co).mono ?_
    rintro e w1 ⟨ao, cap, rfl, hprg, hb⟩
    have HBn : Aside (Below w.heap.size w w1) := Below.trans (by first | exact Below.refl _ _ | exact Below.alloc (Below.refl _ _) (Nat.le_refl _) _ | exact below_drewN (Below.refl _ _) _ | exact below_drewN (Below.alloc (Below.refl _ _) (Nat.le_refl _) _) _ | exact Below.alloc (Below.alloc (Below.refl _ _) (Nat.le_refl _) _) (by simp) _) (hb.mono (by first | exact Nat.le_refl _ | (simp; done) | (simp; omega)))
    have HW' : Aside (Below w.heap.size w w1) := HW.out.trans (HBn.out.mono HW.out.size)
    clear HW
    have HW : Aside (Below w.heap.size w w1) := HW'.out
    clear HW' HBn hb
    have P1 : Aside (Prg L ao w1) := hprg
    obtain ⟨rb, hrb⟩ : ∃ b, w1.heap.size = b := ⟨_, rfl⟩
    have RB0 : Aside ((w1.alloc (.cells #[.slice ao L.length cap, .int .i64 (G : Int)] 24)).heap[rb]? = some (.cells #[.slice ao L.length cap, .int .i64 (G : Int)] 24 (0, 0))) := hp_new hrb.symm
    clear hprg co
    have cw := fun W => few_calls L ao cap G s W hg
    cases hf : fewF L s with
    | false =>
      rw [hf] at cw
      go_wp2_with fail
      refine (cw _).mono ?_
      rintro e w2 ⟨rfl, hb⟩
      have HBn : Aside (Below w1.heap.size w1 w2) := Below.trans (by first | exact Below.refl _ _ | exact Below.alloc (Below.refl _ _) (Nat.le_refl _) _ | exact below_drewN (Below.refl _ _) _ | exact below_drewN (Below.alloc (Below.refl _ _) (Nat.le_refl _) _) _ | exact Below.alloc (Below.alloc (Below.refl _ _) (Nat.le_refl _) _) (by simp) _) (hb.mono (by first | exact Nat.le_refl _ | (simp; done) | (simp; omega)))
      have P1' : Aside (Prg L ao w2) := P1.out.later HBn.out
      have HW' : Aside (Below w.heap.size w w2) := HW.out.trans (HBn.out.mono HW.out.size)
      clear HW P1
      have P1 : Aside (Prg L ao w2) := P1'.out
      have HW : Aside (Below w.heap.size w w2) := HW'.out
      clear HW' HBn hb P1'
      go_wp2_with fail
      refine (alive_calls _).mono ?_
      rintro e w3 ⟨rfl, hb⟩
      have HBn : Aside (Below w2.heap.size w2 w3) := Below.trans (by first | exact Below.refl _ _ | exact Below.alloc (Below.refl _ _) (Nat.le_refl _) _ | exact below_drewN (Below.refl _ _) _ | exact below_drewN (Below.alloc (Below.refl _ _) (Nat.le_refl _) _) _ | exact Below.alloc (Below.alloc (Below.refl _ _) (Nat.le_refl _) _) (by simp) _) (hb.mono (by first | exact Nat.le_refl _ | (simp; done) | (simp; omega)))
      have P1' : Aside (Prg L ao w3) := P1.out.later HBn.out
      have HW' : Aside (Below w.heap.size w w3) := HW.out.trans (HBn.out.mono HW.out.size)
      clear HW P1
      have P1 : Aside (Prg L ao w3) := P1'.out
      have HW : Aside (Below w.heap.size w w3) := HW'.out
      clear HW' HBn hb P1'
      go_wp2_with fail
      refine bodyPost_ret (v := .bool true) (by simp [results, Try.results3, go_sem, ↓IntWalk.iteOmega]) rfl ⟨rfl, HW.out⟩
    | true =>
      rw [hf] at cw
      have hs : s.size ≤ 60 := by unfold fewF at hf; simp at hf; exact hf.2
      go_wp2_with fail
      refine (cw _).mono ?_
      rintro e w2 ⟨rfl, hb⟩
      have RB : Aside (w2.heap[rb]? = some (.cells #[.slice ao L.length cap, .int .i64 (G : Int)] 24 (0, 0))) := heap_later RB0.out hb
      have HBn : Aside (Below w1.heap.size w1 w2) := Below.trans (by first | exact Below.refl _ _ | exact Below.alloc (Below.refl _ _) (Nat.le_refl _) _ | exact below_drewN (Below.refl _ _) _ | exact below_drewN (Below.alloc (Below.refl _ _) (Nat.le_refl _) _) _ | exact Below.alloc (Below.alloc (Below.refl _ _) (Nat.le_refl _) _) (by simp) _) (hb.mono (by first | exact Nat.le_refl _ | (simp; done) | (simp; omega)))
      have P1' : Aside (Prg L ao w2) := P1.out.later HBn.out
      have HW' : Aside (Below w.heap.size w w2) := HW.out.trans (HBn.out.mono HW.out.size)
      clear HW P1
      have P1 : Aside (Prg L ao w2) := P1'.out
      have HW : Aside (Below w.heap.size w w2) := HW'.out
      clear HW' HBn hb P1'
      clear RB0 cw hf
      have c0 := cell_heap RB.out 0 _ rfl
      have c1 := cell_heap RB.out 1 _ rfl
      have lrb : rb < w2.heap.size := (Array.getElem?_eq_some_iff.1 RB.out).1
      have cM := match_calls L ao cap G s w2 ⟨P1.out, HR.out, by omega⟩
      cases hft : firstTop L G s 0 with
      | none =>
        have hmt : matchTop L G s = none := by unfold matchTop; rw [hft]; rfl
        rw [hmt] at cM
        clear hmt hft
        go_wp2_with fail
        refine (cM).mono ?_
        rintro e w3 ⟨he, hb⟩
        have he : e = .returned (.tuple #[.slice none 0 0, .bool false]) := he
        subst he
        have HBn : Aside (Below w2.heap.size w2 w3) := Below.trans (by first | exact Below.refl _ _ | exact Below.alloc (Below.refl _ _) (Nat.le_refl _) _ | exact below_drewN (Below.refl _ _) _ | exact below_drewN (Below.alloc (Below.refl _ _) (Nat.le_refl _) _) _ | exact Below.alloc (Below.alloc (Below.refl _ _) (Nat.le_refl _) _) (by simp) _) (hb.mono (by first | exact Nat.le_refl _ | (simp; done) | (simp; omega)))
        have P1' : Aside (Prg L ao w3) := P1.out.later HBn.out
        have RB' : Aside (w3.heap[rb]? = some (.cells #[.slice ao L.length cap, .int .i64 (G : Int)] 24 (0, 0))) := heap_later RB.out HBn.out
        have HW' : Aside (Below w.heap.size w w3) := HW.out.trans (HBn.out.mono HW.out.size)
        clear HW P1 RB
        have P1 : Aside (Prg L ao w3) := P1'.out
        have RB : Aside (w3.heap[rb]? = some (.cells #[.slice ao L.length cap, .int .i64 (G : Int)] 24 (0, 0))) := RB'.out
        have HW : Aside (Below w.heap.size w w3) := HW'.out
        clear HW' HBn hb P1' RB'
        clear cM c0 c1 lrb
        go_wp2_with fail
        refine (alive_calls _).mono ?_
        rintro e w4 ⟨rfl, hb⟩
        have HBn : Aside (Below w3.heap.size w3 w4) := Below.trans (by first | exact Below.refl _ _ | exact Below.alloc (Below.refl _ _) (Nat.le_refl _) _ | exact below_drewN (Below.refl _ _) _ | exact below_drewN (Below.alloc (Below.refl _ _) (Nat.le_refl _) _) _ | exact Below.alloc (Below.alloc (Below.refl _ _) (Nat.le_refl _) _) (by simp) _) (hb.mono (by first | exact Nat.le_refl _ | (simp; done) | (simp; omega)))
        have P1' : Aside (Prg L ao w4) := P1.out.later HBn.out
        have RB' : Aside (w4.heap[rb]? = some (.cells #[.slice ao L.length cap, .int .i64 (G : Int)] 24 (0, 0))) := heap_later RB.out HBn.out
        have HW' : Aside (Below w.heap.size w w4) := HW.out.trans (HBn.out.mono HW.out.size)
        clear HW P1 RB
        have P1 : Aside (Prg L ao w4) := P1'.out
        have RB : Aside (w4.heap[rb]? = some (.cells #[.slice ao L.length cap, .int .i64 (G : Int)] 24 (0, 0))) := RB'.out
        have HW : Aside (Below w.heap.size w w4) := HW'.out
        clear HW' HBn hb P1' RB'
        go_wp2_with fail
        refine bodyPost_ret (v := .bool true) (by simp [results, Try.results3, go_sem, ↓IntWalk.iteOmega]) rfl ⟨rfl, HW.out⟩
      | some t =>
        obtain ⟨cs, a, z⟩ := t
        have hmt : matchTop L G s = some cs := by unfold matchTop; rw [hft]; rfl
        rw [hmt] at cM
        have HFT : Aside (firstTop L G s 0 = some (cs, a, z)) := hft
        obtain ⟨e2, e0, e1⟩ := firstF_b HS.out hg1 _ _ hft
        obtain ⟨_, -, haz, hzs⟩ := firstF_in _ _ hft
        have HLN : Aside (cs.length = 2 * G) := firstF_len HR.out _ _ hft
        have ORD : Aside (∀ k, k < G → _) := match_order HCO.out hft
        clear hmt hft
        go_wp2_with fail
        refine (cM).mono ?_
        rintro e w3 ⟨⟨v8, rfl, hrow⟩, hb⟩
        have HBn : Aside (Below w2.heap.size w2 w3) := Below.trans (by first | exact Below.refl _ _ | exact Below.alloc (Below.refl _ _) (Nat.le_refl _) _ | exact below_drewN (Below.refl _ _) _ | exact below_drewN (Below.alloc (Below.refl _ _) (Nat.le_refl _) _) _ | exact Below.alloc (Below.alloc (Below.refl _ _) (Nat.le_refl _) _) (by simp) _) (hb.mono (by first | exact Nat.le_refl _ | (simp; done) | (simp; omega)))
        have P1' : Aside (Prg L ao w3) := P1.out.later HBn.out
        have RB' : Aside (w3.heap[rb]? = some (.cells #[.slice ao L.length cap, .int .i64 (G : Int)] 24 (0, 0))) := heap_later RB.out HBn.out
        have HW' : Aside (Below w.heap.size w w3) := HW.out.trans (HBn.out.mono HW.out.size)
        clear HW P1 RB
        have P1 : Aside (Prg L ao w3) := P1'.out
        have RB : Aside (w3.heap[rb]? = some (.cells #[.slice ao L.length cap, .int .i64 (G : Int)] 24 (0, 0))) := RB'.out
        have HW : Aside (Below w.heap.size w w3) := HW'.out
        clear HW' HBn hb P1' RB'
        have V8 : Aside (Row 0 v8 cs w3) := hrow.lower (Nat.zero_le _)
        clear cM c0 c1 lrb hrow
        have c0 := cell_heap RB.out 0 _ rfl
        have c1 := cell_heap RB.out 1 _ rfl
        have lrb : rb < w3.heap.size := (Array.getElem?_eq_some_iff.1 RB.out).1
        obtain ⟨n8, hn8⟩ : ∃ n, cs.length = n := ⟨_, rfl⟩
        obtain ⟨cb, cc, ev, hcb, hcells⟩ := V8.out.form
        rw [hn8] at ev
        subst ev
        have CLS : Aside (∀ j, j < cs.length → w3.cell? ⟨cb, j, none⟩ = some (.int .i64 (cs.getD j 0))) := hcells
        have HN8 : Aside (n8 = 2 * G ∧ cs.length = n8) := ⟨by rw [← hn8]; exact HLN.out, hn8⟩
        have hn8g := HN8.out.1
        have q0 : w3.cell? ⟨cb, 0, none⟩ = some (.int .i64 (a : Int)) := by have h := hcells 0 (by omega); rw [e0] at h; exact h
        have q1 : w3.cell? ⟨cb, 1, none⟩ = some (.int .i64 (z : Int)) := by have h := hcells 1 (by omega); rw [e1] at h; exact h
        have l0 : (0 : Int) < 2 * (G : Int) := by omega
        have l1 : (1 : Int) < 2 * (G : Int) := by omega
        have l0' : (0 : Int) < ((2 * G : Nat) : Int) := by omega
        have l1' : (1 : Int) < ((2 * G : Nat) : Int) := by omega
        have w2g : IntKind.i64.wrap (2 * (G : Int)) = 2 * (G : Int) := by rw [IntKind.wrap_i64]; omega
        have nlen : (((2 * G : Nat) : Int) != 2 * (G : Int)) = false := by simp
        have nlen2 : ((2 * (G : Int)) != 2 * (G : Int)) = false := by simp
        have da : decide ((a : Int) < 0) = false := decide_eq_false (by omega)
        have dz : decide ((z : Int) < (a : Int)) = false := decide_eq_false (by omega)
        have ds : decide ((s.size : Int) < (z : Int)) = false := decide_eq_false (by omega)
        have dzn : decide (z < a) = false := decide_eq_false (by omega)
        have dsn : decide (s.size < z) = false := decide_eq_false (by omega)
        have L3 : Aside (Below w.heap.size w w3 ∧ w3.heap[rb]? = some (.cells #[.slice ao L.length cap, .int .i64 (G : Int)] 24 (0, 0))) := ⟨HW.out, RB.out⟩
        clear hcells hn8 e0 e1
        subst hn8g
        go_wp2_with fail
        go_quiet (fail)
        go_wp2_with fail
        clear q0 q1 c0 c1 lrb
        go_loopg [76] (G + 1) (fun gk s76 wr => ∃ j : Nat, s76 = .int .i64 (j : Int) ∧ j + gk = G + 1 ∧ j ≤ G ∧ Aside (Below w3.heap.size w3 wr))
        case atStart => exact ⟨0, rfl, by omega, by omega, below_drewN (Below.refl _ _) _⟩
        case round =>
          obtain ⟨j, rfl, hgk, hjG, HB⟩ := hrel
          have CW : ∀ i, i < 2 * G → wr.cell? ⟨cb, i, none⟩ = some (.int .i64 (cs.getD i 0)) := fun i hi => (HB.out.cell (p := ⟨cb, i, none⟩) hcb).trans (CLS.out i (by rw [HN8.out.2]; exact hi))
          have E01 : Aside (cs.getD 0 0 = (a : Int) ∧ cs.getD 1 0 = (z : Int)) := ⟨(firstF_b HS.out hg1 _ _ HFT.out).2.1, (firstF_b HS.out hg1 _ _ HFT.out).2.2⟩
          have q0 : wr.cell? ⟨cb, 0, none⟩ = some (.int .i64 (a : Int)) := by have h := CW 0 (by omega); rw [E01.out.1] at h; exact h
          have q1 : wr.cell? ⟨cb, 1, none⟩ = some (.int .i64 (z : Int)) := by have h := CW 1 (by omega); rw [E01.out.2] at h; exact h
          have rbw := heap_later RB.out HB.out
          have c0 := cell_heap rbw 0 _ rfl
          have c1 := cell_heap rbw 1 _ rfl
          have lrb : rb < wr.heap.size := (Array.getElem?_eq_some_iff.1 rbw).1
          by_cases hj : j < G
          · obtain ⟨i2, hi2⟩ : ∃ i, 2 * j = i := ⟨_, rfl⟩
            have hi3 : i2 + 1 < 2 * G := by omega
            have x0 := CW i2 (by omega)
            have y0 := CW (i2 + 1) hi3
            have ORJ := ORD.out j hj
            rw [hi2] at ORJ
            have wj2 : IntKind.i64.wrap (2 * (j : Int)) = (i2 : Int) := by rw [IntKind.wrap_i64]; omega
            have wj3 : IntKind.i64.wrap ((i2 : Int) + 1) = (i2 : Int) + 1 := by rw [IntKind.wrap_i64]; omega
            have wj1 : IntKind.i64.wrap ((j : Int) + 1) = ((j + 1 : Nat) : Int) := by rw [IntKind.wrap_i64]; omega
            have tn : ((i2 : Int) + 1).toNat = i2 + 1 := by omega
            have b0 : (0 : Int) ≤ (i2 : Int) + 1 := by omega
            have b1 : (i2 : Int) < 2 * (G : Int) := by omega
            have b2 : (i2 : Int) + 1 < 2 * (G : Int) := by omega
            have HI2 : Aside (2 * j = i2) := hi2
            generalize cs.getD i2 0 = x at x0 ORJ
            generalize cs.getD (i2 + 1) 0 = y at y0 ORJ
            clear hi2 CW rbw
            rcases ORJ with ⟨rfl, rfl⟩ | ⟨o1, o2, o3⟩
            · go_wp2_with fail
              go_quiet (fail)
              go_wp2_with fail
              go_roundg (G - j)
              case measure => omega
              case rel => exact ⟨j + 1, by first | rfl | simp, by omega, by omega, below_drewN HB.out _⟩
            · obtain ⟨x, rfl⟩ : ∃ n : Nat, x = (n : Int) := ⟨x.toNat, by omega⟩
              obtain ⟨y, rfl⟩ : ∃ n : Nat, y = (n : Int) := ⟨y.toNat, by omega⟩
              have p1 : decide ((x : Int) < 0) = false := decide_eq_false (by omega)
              have p2 : decide ((y : Int) < 0) = false := decide_eq_false (by omega)
              have p3 : decide ((0 : Int) ≤ (x : Int)) = true := decide_eq_true (by omega)
              have p4 : decide ((x : Int) < (a : Int)) = false := decide_eq_false (by omega)
              have p5 : decide ((y : Int) < (x : Int)) = false := decide_eq_false (by omega)
              have p6 : decide ((z : Int) < (y : Int)) = false := decide_eq_false (by omega)
              go_wp2_with fail
              go_quiet (fail)
              go_wp2_with fail
              go_roundg (G - j)
              case measure => omega
              case rel => exact ⟨j + 1, by first | rfl | simp, by omega, by omega, below_drewN HB.out _⟩
          clear q0 q1 CW rbw
          have c0 : wr.cell? ⟨rb, 0, none⟩ = some (.slice ao L.length cap) := c0
          go_wp2_with fail
          have HBL : Aside (Below w3.heap.size w3 wr) := HB.out
          clear c0 c1 lrb
          go_loopg [122] (L.length + 1) (fun gk s122 wi => ∃ i : Nat, s122 = .int .i64 (i : Int) ∧ i + gk = L.length + 1 ∧ i ≤ L.length ∧ Aside (∀ k, k < i → L[k]!.op ≠ 4 ∧ L[k]!.op ≠ 5) ∧ Aside (Below w3.heap.size w3 wi))
          case atStart => exact ⟨0, rfl, by omega, by omega, fun k hk => by omega, HBL.out⟩
          case round =>
            obtain ⟨i, rfl, hgi, hil, FR, HB2⟩ := hrel
            have rbw := heap_later RB.out HB2.out
            have c0 : wr.cell? ⟨rb, 0, none⟩ = some (.slice ao L.length cap) := cell_heap rbw 0 _ rfl
            have c1 : wr.cell? ⟨rb, 1, none⟩ = some (.int .i64 (G : Int)) := cell_heap rbw 1 _ rfl
            have lrb : rb < wr.heap.size := (Array.getElem?_eq_some_iff.1 rbw).1
            have hLn := (right_parts HR.out).2.2.2.1
            by_cases hi : i < L.length
            · obtain ⟨ib, io, eao, hib, lo0, -⟩ := (P1.out.later HB2.out).c i hi
              have FRI : Aside (L[i]!.op ≠ 4 → L[i]!.op ≠ 5 → ∀ k, k < i + 1 → L[k]!.op ≠ 4 ∧ L[k]!.op ≠ 5) := fun h4 h5 k hk => by
                by_cases e : k = i
                · subst e; exact ⟨h4, h5⟩
                · exact FR.out k (by omega)
              rw [eao] at c0
              have wi1 : IntKind.i64.wrap ((i : Int) + 1) = ((i + 1 : Nat) : Int) := by rw [IntKind.wrap_i64]; omega
              have hiz : (i : Int) < (L.length : Int) := by omega
              generalize L[i]!.op = o at lo0 FRI
              clear rbw
              by_cases o4 : o = 4
              · subst o4
                go_wp2_with fail
                refine (alive_calls _).mono ?_
                rintro e wA ⟨rfl, hb⟩
                have HBA : Aside (Below w.heap.size w wA) := (L3.out.1.trans (HB2.out.mono L3.out.1.size)).trans (hb.mono (Nat.le_trans L3.out.1.size HB2.out.size))
                clear hb
                go_wp2_with fail
                refine bodyPost_ret (v := .bool true) (by simp [results, Try.results3, go_sem, ↓IntWalk.iteOmega]) rfl ⟨rfl, HBA.out⟩
              have e4 : (o == 4) = false := by simpa using o4
              by_cases o5 : o = 5
              · subst o5
                go_wp2_with fail
                refine (alive_calls _).mono ?_
                rintro e wA ⟨rfl, hb⟩
                have HBA : Aside (Below w.heap.size w wA) := (L3.out.1.trans (HB2.out.mono L3.out.1.size)).trans (hb.mono (Nat.le_trans L3.out.1.size HB2.out.size))
                clear hb
                go_wp2_with fail
                refine bodyPost_ret (v := .bool true) (by simp [results, Try.results3, go_sem, ↓IntWalk.iteOmega]) rfl ⟨rfl, HBA.out⟩
              have e5 : (o == 5) = false := by simpa using o5
              have FR2 : Aside (∀ k, k < i + 1 → L[k]!.op ≠ 4 ∧ L[k]!.op ≠ 5) := FRI.out o4 o5
              clear FRI o4 o5
              go_wp2_with fail
              go_roundg (L.length - i)
              case measure => omega
              case rel => exact ⟨i + 1, by first | rfl | simp, by omega, by omega, FR2.out, HB2.out⟩
            have hF : Free L := fun k => by
              by_cases hk : k < L.length
              · exact FR.out k (by omega)
              · rw [getElem!_neg L k hk]
                exact ⟨by decide, by decide⟩
            obtain ⟨cw, hcw⟩ := whole_self hF HFT.out
            have q0 : wr.cell? ⟨cb, 0, none⟩ = some (.int .i64 (a : Int)) := by
              have h := (HB2.out.cell (p := ⟨cb, 0, none⟩) hcb).trans (CLS.out 0 (by have := HN8.out.2; omega))
              rw [(firstF_b HS.out hg1 _ _ HFT.out).2.1] at h; exact h
            have q1 : wr.cell? ⟨cb, 1, none⟩ = some (.int .i64 (z : Int)) := by
              have h := (HB2.out.cell (p := ⟨cb, 1, none⟩) hcb).trans (CLS.out 1 (by have := HN8.out.2; omega))
              rw [(firstF_b HS.out hg1 _ _ HFT.out).2.2] at h; exact h
            have cW := fun W (hb : Below wr.heap.size wr W) => whole_calls L ao cap G (s.extract a z) W ⟨(P1.out.later HB2.out).later hb, HR.out, by rw [ByteArray.size_extract]; omega⟩
            rw [hcw] at cW
            have azz : (a : Int) ≤ (z : Int) := by omega
            have zsz : (z : Int) ≤ (s.size : Int) := by omega
            clear hcw hF rbw
            have hcbw : cb < wr.heap.size := Nat.lt_of_lt_of_le hcb HB2.out.size
            have h0b : wr.cell? ⟨rb, 0, none⟩ = some (.slice ao L.length cap) := c0
            go_wp2_with fail
            go_region_held3 (fun w' => w'.cell? ⟨rb, 0, none⟩ = some (.slice ao L.length cap) ∧ w'.cell? ⟨rb, 1, none⟩ = some (.int .i64 (G : Int)) ∧ w'.cell? ⟨cb, 0, none⟩ = some (.int .i64 (a : Int)) ∧ w'.cell? ⟨cb, 1, none⟩ = some (.int .i64 (z : Int))) (first | (simp [go_sem, ↓IntWalk.iteOmega, *]; done)) ((first | (go_at_call 13; refine (cW _ (Below.drew (Below.refl _ _))).mono ?_; rintro e w9 ⟨⟨v9, rfl, hrow9⟩, hb⟩; have HB9 : Aside _ := hb; obtain ⟨x3, hx⟩ := plus_of_below hb; subst hx; clear hb hrow9)))
            all_goals go_wp2_with fail
            all_goals refine (alive_calls _).mono ?_
            all_goals rintro e wA ⟨rfl, hb⟩
            all_goals have HBA : Aside (Below w.heap.size w wA) := (L3.out.1.trans (HB2.out.mono L3.out.1.size)).trans (Below.trans (below_to_plus (Below.drew (Below.refl _ _)) (Nat.le_trans L3.out.1.size HB2.out.size) _) (hb.mono (Nat.le_trans (Nat.le_trans L3.out.1.size HB2.out.size) (below_plus _ _).size)))
            all_goals clear hb
            all_goals go_wp2_with fail
            all_goals refine bodyPost_ret (v := .bool true) (by simp [results, Try.results3, go_sem, ↓IntWalk.iteOmega]) rfl ⟨rfl, HBA.out⟩

end Go.Proofs.Ytfhccmegobbnaaa
