/- This text proves the walk of few, and of the statement RegexWhole. Conditions: those that each theorem names. -/
import Derived.Test.YtfhccmegobbnaaaRegexZK
namespace Go.Proofs.Ytfhccmegobbnaaa
open Go.ChangeShapes Go.WideShapes Go.ChangeAt Go.RowKit
set_option linter.unusedVariables false
set_option linter.unusedSimpArgs false

theorem comp_err {s : ByteArray} {k c : Nat} (h : compF s = .error (k, c)) : c = 4 ∨ c = 49 := by
  unfold compF at h
  split at h
  · cases h; exact .inl rfl
  split at h
  · cases h; exact .inr rfl
  · cases h
def fewF (L : List In) (s : ByteArray) : Bool := decide (L.length ≤ 120) && decide (s.size ≤ 60)
set_option maxRecDepth 20000 in
set_option maxHeartbeats 64000000 in
theorem few_calls (L : List In) (ao : Option Addr) (cap g : Nat) (s : ByteArray) (w : World) (hg : g ≤ 10) :
    Calls Try.prog 10 #[.agg #[.slice ao L.length cap, .int .i64 (g : Int)], .string s] w fun e W => e = .returned (.bool (fewF L s)) ∧ Below w.heap.size w W := by
  obtain ⟨m, hm⟩ : ∃ m, L.length = m := ⟨_, rfl⟩
  have EQ : fewF L s = (decide (m ≤ 120) && decide (s.size ≤ 60)) := by rw [← hm]; rfl
  rw [EQ, hm]
  clear EQ hm
  have g1 : decide ((g : Int) ≤ (20 : Int)) = true := decide_eq_true (by omega)
  have g2 : (g : Int) ≤ (20 : Int) := by omega
  by_cases h1 : m ≤ 120
  · have d1 : decide ((m : Int) ≤ (120 : Int)) = true := decide_eq_true (by omega)
    have z1 : (m : Int) ≤ (120 : Int) := by omega
    have e1 : decide (m ≤ 120) = true := decide_eq_true h1
    by_cases h2 : s.size ≤ 60
    · have d2 : decide ((s.size : Int) ≤ (60 : Int)) = true := decide_eq_true (by omega)
      have z2 : (s.size : Int) ≤ (60 : Int) := by omega
      rw [e1, decide_eq_true h2]
      clear h1 h2 e1
      go_enter Try.func10, Try.ntmps10
      go_wp2
      all_goals refine bodyPost_ret (v := .bool true) (by simp [results, Try.results10, go_sem, ↓IntWalk.iteOmega, *]) rfl ⟨rfl, Below.alloc (Below.refl _ _) (Nat.le_refl _) _⟩
    · have d2 : decide ((s.size : Int) ≤ (60 : Int)) = false := decide_eq_false (by omega)
      have z2 : ¬ (s.size : Int) ≤ (60 : Int) := by omega
      rw [e1, decide_eq_false h2]
      clear h1 h2 e1
      go_enter Try.func10, Try.ntmps10
      go_wp2
      all_goals refine bodyPost_ret (v := .bool false) (by simp [results, Try.results10, go_sem, ↓IntWalk.iteOmega, *]) rfl ⟨rfl, Below.alloc (Below.refl _ _) (Nat.le_refl _) _⟩
  · have d1 : decide ((m : Int) ≤ (120 : Int)) = false := decide_eq_false (by omega)
    have z1 : ¬ (m : Int) ≤ (120 : Int) := by omega
    rw [decide_eq_false h1]
    clear h1
    go_enter Try.func10, Try.ntmps10
    go_wp2
    all_goals refine bodyPost_ret (v := .bool false) (by simp [results, Try.results10, go_sem, ↓IntWalk.iteOmega, *]) rfl ⟨rfl, Below.alloc (Below.refl _ _) (Nat.le_refl _) _⟩

set_option maxRecDepth 20000 in
set_option maxHeartbeats 64000000 in
theorem lawWhole_calls (p s : ByteArray) (hp : p.size ≤ maxLen) (w : World) :
    Calls Try.prog 4 #[.string p, .string s] w fun e W => e = .returned (.bool true) ∧ Below w.heap.size w W := by
  have HW : Aside (Below w.heap.size w w) := Below.refl _ _
  have hp : p.size ≤ 9223372036854775807 := by unfold maxLen at hp; exact hp
  cases hc : compF p with
  | error kc =>
    obtain ⟨k, c⟩ := kc
    have hc9 := comp_err hc
    have cn := compile_no p hp k c hc w
    have n0 : ((c : Int) != 0) = true := by rw [bne_iff_ne]; omega
    clear hc hc9
    go_enter Try.func4, Try.ntmps4
    go_wp2_with fail
    refine (cn).mono ?_
    rintro e w1 ⟨rfl, hb⟩
    have HBn : Aside (Below w.heap.size w w1) := Below.trans (by first | exact Below.refl _ _ | exact Below.alloc (Below.refl _ _) (Nat.le_refl _) _ | exact below_drewN (Below.refl _ _) _ | exact below_drewN (Below.alloc (Below.refl _ _) (Nat.le_refl _) _) _ | exact Below.alloc (Below.alloc (Below.refl _ _) (Nat.le_refl _) _) (by simp) _) (hb.mono (by first | exact Nat.le_refl _ | (simp; done) | (simp; omega)))
    have HW' : Aside (Below w.heap.size w w1) := HW.out.trans (HBn.out.mono HW.out.size)
    clear HW
    have HW : Aside (Below w.heap.size w w1) := HW'.out
    clear HW' HBn hb
    go_wp2_with fail
    refine (alive_calls _).mono ?_
    rintro e w2 ⟨rfl, hb⟩
    have HBn : Aside (Below w1.heap.size w1 w2) := Below.trans (by first | exact Below.refl _ _ | exact Below.alloc (Below.refl _ _) (Nat.le_refl _) _ | exact below_drewN (Below.refl _ _) _ | exact below_drewN (Below.alloc (Below.refl _ _) (Nat.le_refl _) _) _ | exact Below.alloc (Below.alloc (Below.refl _ _) (Nat.le_refl _) _) (by simp) _) (hb.mono (by first | exact Nat.le_refl _ | (simp; done) | (simp; omega)))
    have HW' : Aside (Below w.heap.size w w2) := HW.out.trans (HBn.out.mono HW.out.size)
    clear HW
    have HW : Aside (Below w.heap.size w w2) := HW'.out
    clear HW' HBn hb
    go_wp2_with fail
    refine bodyPost_ret (v := .bool true) (by simp [results, Try.results4, go_sem, ↓IntWalk.iteOmega]) rfl ⟨rfl, HW.out⟩
  | ok lg =>
    obtain ⟨L, G⟩ := lg
    have HR : Aside (rightF L (G : Int) = true) := comp_right hc
    obtain ⟨m, hS⟩ := comp_shape hc
    have HS : Aside (Shape L m) := hS
    have co := compile_ok p hp L G hc w
    have hg : G ≤ 10 := by have := (right_parts HR.out).2.1; omega
    have hg1 : 1 ≤ G := by have := (right_parts HR.out).1; omega
    clear hc hS
    go_enter Try.func4, Try.ntmps4
    go_wp2_with fail
    refine (co).mono ?_
    rintro e w1 ⟨ao, cap, rfl, hprg, hb⟩
    have HBn : Aside (Below w.heap.size w w1) := Below.trans (by first | exact Below.refl _ _ | exact Below.alloc (Below.refl _ _) (Nat.le_refl _) _ | exact below_drewN (Below.refl _ _) _ | exact below_drewN (Below.alloc (Below.refl _ _) (Nat.le_refl _) _) _ | exact Below.alloc (Below.alloc (Below.refl _ _) (Nat.le_refl _) _) (by simp) _) (hb.mono (by first | exact Nat.le_refl _ | (simp; done) | (simp; omega)))
    have HW' : Aside (Below w.heap.size w w1) := HW.out.trans (HBn.out.mono HW.out.size)
    clear HW
    have HW : Aside (Below w.heap.size w w1) := HW'.out
    clear HW' HBn hb
    have P1 : Aside (Prg L ao w1) := hprg
    obtain ⟨rb, hrb⟩ : ∃ b, w1.heap.size = b := ⟨_, rfl⟩
    have RB0 : Aside ((w1.alloc (.cells #[.slice ao L.length cap, .int .i64 (G : Int)] 24)).heap[rb]? = some (.cells #[.slice ao L.length cap, .int .i64 (G : Int)] 24 (0, 0))) := hp_new hrb.symm
    clear hprg co
    have cw := fun W => few_calls L ao cap G s W hg
    cases hf : fewF L s with
    | false =>
      rw [hf] at cw
      go_wp2_with fail
      refine (cw _).mono ?_
      rintro e w2 ⟨rfl, hb⟩
      have HBn : Aside (Below w1.heap.size w1 w2) := Below.trans (by first | exact Below.refl _ _ | exact Below.alloc (Below.refl _ _) (Nat.le_refl _) _ | exact below_drewN (Below.refl _ _) _ | exact below_drewN (Below.alloc (Below.refl _ _) (Nat.le_refl _) _) _ | exact Below.alloc (Below.alloc (Below.refl _ _) (Nat.le_refl _) _) (by simp) _) (hb.mono (by first | exact Nat.le_refl _ | (simp; done) | (simp; omega)))
      have P1' : Aside (Prg L ao w2) := P1.out.later HBn.out
      have HW' : Aside (Below w.heap.size w w2) := HW.out.trans (HBn.out.mono HW.out.size)
      clear HW P1
      have P1 : Aside (Prg L ao w2) := P1'.out
      have HW : Aside (Below w.heap.size w w2) := HW'.out
      clear HW' HBn hb P1'
      go_wp2_with fail
      refine (alive_calls _).mono ?_
      rintro e w3 ⟨rfl, hb⟩
      have HBn : Aside (Below w2.heap.size w2 w3) := Below.trans (by first | exact Below.refl _ _ | exact Below.alloc (Below.refl _ _) (Nat.le_refl _) _ | exact below_drewN (Below.refl _ _) _ | exact below_drewN (Below.alloc (Below.refl _ _) (Nat.le_refl _) _) _ | exact Below.alloc (Below.alloc (Below.refl _ _) (Nat.le_refl _) _) (by simp) _) (hb.mono (by first | exact Nat.le_refl _ | (simp; done) | (simp; omega)))
      have P1' : Aside (Prg L ao w3) := P1.out.later HBn.out
      have HW' : Aside (Below w.heap.size w w3) := HW.out.trans (HBn.out.mono HW.out.size)
      clear HW P1
      have P1 : Aside (Prg L ao w3) := P1'.out
      have HW : Aside (Below w.heap.size w w3) := HW'.out
      clear HW' HBn hb P1'
      go_wp2_with fail
      refine bodyPost_ret (v := .bool true) (by simp [results, Try.results4, go_sem, ↓IntWalk.iteOmega]) rfl ⟨rfl, HW.out⟩
    | true =>
      rw [hf] at cw
      have hs : s.size ≤ 60 := by unfold fewF at hf; simp at hf; exact hf.2
      go_wp2_with fail
      refine (cw _).mono ?_
      rintro e w2 ⟨rfl, hb⟩
      have RB : Aside (w2.heap[rb]? = some (.cells #[.slice ao L.length cap, .int .i64 (G : Int)] 24 (0, 0))) := heap_later RB0.out hb
      have HBn : Aside (Below w1.heap.size w1 w2) := Below.trans (by first | exact Below.refl _ _ | exact Below.alloc (Below.refl _ _) (Nat.le_refl _) _ | exact below_drewN (Below.refl _ _) _ | exact below_drewN (Below.alloc (Below.refl _ _) (Nat.le_refl _) _) _ | exact Below.alloc (Below.alloc (Below.refl _ _) (Nat.le_refl _) _) (by simp) _) (hb.mono (by first | exact Nat.le_refl _ | (simp; done) | (simp; omega)))
      have P1' : Aside (Prg L ao w2) := P1.out.later HBn.out
      have HW' : Aside (Below w.heap.size w w2) := HW.out.trans (HBn.out.mono HW.out.size)
      clear HW P1
      have P1 : Aside (Prg L ao w2) := P1'.out
      have HW : Aside (Below w.heap.size w w2) := HW'.out
      clear HW' HBn hb P1'
      clear RB0 cw hf
      have c0 := cell_heap RB.out 0 _ rfl
      have c1 := cell_heap RB.out 1 _ rfl
      have lrb : rb < w2.heap.size := (Array.getElem?_eq_some_iff.1 RB.out).1
      have cW := whole_calls L ao cap G s w2 ⟨P1.out, HR.out, by omega⟩
      cases hwt : wholeTop L G s with
      | none =>
        rw [hwt] at cW
        go_wp2_with fail
        refine (cW).mono ?_
        rintro e w3 ⟨he, hb⟩
        have he : e = .returned (.tuple #[.slice none 0 0, .bool false]) := he
        subst he
        have HBn : Aside (Below w2.heap.size w2 w3) := Below.trans (by first | exact Below.refl _ _ | exact Below.alloc (Below.refl _ _) (Nat.le_refl _) _ | exact below_drewN (Below.refl _ _) _ | exact below_drewN (Below.alloc (Below.refl _ _) (Nat.le_refl _) _) _ | exact Below.alloc (Below.alloc (Below.refl _ _) (Nat.le_refl _) _) (by simp) _) (hb.mono (by first | exact Nat.le_refl _ | (simp; done) | (simp; omega)))
        have P1' : Aside (Prg L ao w3) := P1.out.later HBn.out
        have RB' : Aside (w3.heap[rb]? = some (.cells #[.slice ao L.length cap, .int .i64 (G : Int)] 24 (0, 0))) := heap_later RB.out HBn.out
        have HW' : Aside (Below w.heap.size w w3) := HW.out.trans (HBn.out.mono HW.out.size)
        clear HW P1 RB
        have P1 : Aside (Prg L ao w3) := P1'.out
        have RB : Aside (w3.heap[rb]? = some (.cells #[.slice ao L.length cap, .int .i64 (G : Int)] 24 (0, 0))) := RB'.out
        have HW : Aside (Below w.heap.size w w3) := HW'.out
        clear HW' HBn hb P1' RB'
        clear cW c0 c1 lrb
        have c0 := cell_heap RB.out 0 _ rfl
        have c1 := cell_heap RB.out 1 _ rfl
        have lrb : rb < w3.heap.size := (Array.getElem?_eq_some_iff.1 RB.out).1
        have cr := replace_calls L ao cap G s ⟨#[38]⟩ hs (by decide) w3 ⟨P1.out, HR.out, by omega⟩
        have er : replTop L G s ⟨#[38]⟩ = (s, 0) := by
          show replF L G s ⟨#[38]⟩ (s.size + 2) ⟨#[]⟩ 0 (-1) = (s, 0)
          have h := repl_self (L := L) (g := G) (s := s) (r := ⟨#[38]⟩) hs (fun cs p a z _ => fill_amp s cs a z) (s.size + 2) 0 (-1) (by omega) (by omega)
          rw [show s.extract 0 0 = (⟨#[]⟩ : ByteArray) from ByteArray.extract_same] at h
          exact h
        rw [er] at cr
        clear er
        go_wp2_with fail
        refine (cr).mono ?_
        rintro e w4 ⟨rfl, hb⟩
        have HBn : Aside (Below w3.heap.size w3 w4) := Below.trans (by first | exact Below.refl _ _ | exact Below.alloc (Below.refl _ _) (Nat.le_refl _) _ | exact below_drewN (Below.refl _ _) _ | exact below_drewN (Below.alloc (Below.refl _ _) (Nat.le_refl _) _) _ | exact Below.alloc (Below.alloc (Below.refl _ _) (Nat.le_refl _) _) (by simp) _) (hb.mono (by first | exact Nat.le_refl _ | (simp; done) | (simp; omega)))
        have P1' : Aside (Prg L ao w4) := P1.out.later HBn.out
        have RB' : Aside (w4.heap[rb]? = some (.cells #[.slice ao L.length cap, .int .i64 (G : Int)] 24 (0, 0))) := heap_later RB.out HBn.out
        have HW' : Aside (Below w.heap.size w w4) := HW.out.trans (HBn.out.mono HW.out.size)
        clear HW P1 RB
        have P1 : Aside (Prg L ao w4) := P1'.out
        have RB : Aside (w4.heap[rb]? = some (.cells #[.slice ao L.length cap, .int .i64 (G : Int)] 24 (0, 0))) := RB'.out
        have HW : Aside (Below w.heap.size w w4) := HW'.out
        clear HW' HBn hb P1' RB'
        clear cr c0 c1 lrb
        have c0 := cell_heap RB.out 0 _ rfl
        have c1 := cell_heap RB.out 1 _ rfl
        have lrb : rb < w4.heap.size := (Array.getElem?_eq_some_iff.1 RB.out).1
        have cr := replace_calls L ao cap G s ⟨#[92, 48]⟩ hs (by decide) w4 ⟨P1.out, HR.out, by omega⟩
        have er : replTop L G s ⟨#[92, 48]⟩ = (s, 0) := by
          show replF L G s ⟨#[92, 48]⟩ (s.size + 2) ⟨#[]⟩ 0 (-1) = (s, 0)
          have h := repl_self (L := L) (g := G) (s := s) (r := ⟨#[92, 48]⟩) hs (fun cs p a z h => fill_zero s cs a z (firstF_b HS.out hg1 _ _ h).1 (firstF_b HS.out hg1 _ _ h).2.1 (firstF_b HS.out hg1 _ _ h).2.2 (firstF_in _ _ h).2.2.1) (s.size + 2) 0 (-1) (by omega) (by omega)
          rw [show s.extract 0 0 = (⟨#[]⟩ : ByteArray) from ByteArray.extract_same] at h
          exact h
        rw [er] at cr
        clear er
        go_wp2_with fail
        refine (cr).mono ?_
        rintro e w5 ⟨rfl, hb⟩
        have HBn : Aside (Below w4.heap.size w4 w5) := Below.trans (by first | exact Below.refl _ _ | exact Below.alloc (Below.refl _ _) (Nat.le_refl _) _ | exact below_drewN (Below.refl _ _) _ | exact below_drewN (Below.alloc (Below.refl _ _) (Nat.le_refl _) _) _ | exact Below.alloc (Below.alloc (Below.refl _ _) (Nat.le_refl _) _) (by simp) _) (hb.mono (by first | exact Nat.le_refl _ | (simp; done) | (simp; omega)))
        have P1' : Aside (Prg L ao w5) := P1.out.later HBn.out
        have RB' : Aside (w5.heap[rb]? = some (.cells #[.slice ao L.length cap, .int .i64 (G : Int)] 24 (0, 0))) := heap_later RB.out HBn.out
        have HW' : Aside (Below w.heap.size w w5) := HW.out.trans (HBn.out.mono HW.out.size)
        clear HW P1 RB
        have P1 : Aside (Prg L ao w5) := P1'.out
        have RB : Aside (w5.heap[rb]? = some (.cells #[.slice ao L.length cap, .int .i64 (G : Int)] 24 (0, 0))) := RB'.out
        have HW : Aside (Below w.heap.size w w5) := HW'.out
        clear HW' HBn hb P1' RB'
        clear cr c0 c1 lrb
        have c0 := cell_heap RB.out 0 _ rfl
        have c1 := cell_heap RB.out 1 _ rfl
        have lrb : rb < w5.heap.size := (Array.getElem?_eq_some_iff.1 RB.out).1
        clear c0 c1 lrb
        go_wp2_with fail
        refine (alive_calls _).mono ?_
        rintro e w6 ⟨rfl, hb⟩
        have HBn : Aside (Below w5.heap.size w5 w6) := Below.trans (by first | exact Below.refl _ _ | exact Below.alloc (Below.refl _ _) (Nat.le_refl _) _ | exact below_drewN (Below.refl _ _) _ | exact below_drewN (Below.alloc (Below.refl _ _) (Nat.le_refl _) _) _ | exact Below.alloc (Below.alloc (Below.refl _ _) (Nat.le_refl _) _) (by simp) _) (hb.mono (by first | exact Nat.le_refl _ | (simp; done) | (simp; omega)))
        have P1' : Aside (Prg L ao w6) := P1.out.later HBn.out
        have RB' : Aside (w6.heap[rb]? = some (.cells #[.slice ao L.length cap, .int .i64 (G : Int)] 24 (0, 0))) := heap_later RB.out HBn.out
        have HW' : Aside (Below w.heap.size w w6) := HW.out.trans (HBn.out.mono HW.out.size)
        clear HW P1 RB
        have P1 : Aside (Prg L ao w6) := P1'.out
        have RB : Aside (w6.heap[rb]? = some (.cells #[.slice ao L.length cap, .int .i64 (G : Int)] 24 (0, 0))) := RB'.out
        have HW : Aside (Below w.heap.size w w6) := HW'.out
        clear HW' HBn hb P1' RB'
        go_wp2_with fail
        refine bodyPost_ret (v := .bool true) (by simp [results, Try.results4, go_sem, ↓IntWalk.iteOmega]) rfl ⟨rfl, HW.out⟩
      | some cs =>
        rw [hwt] at cW
        obtain ⟨hmt, hrt⟩ := whole_match hwt
        obtain ⟨e2, e0, e1⟩ := runTop_b HS.out hg1 _ _ hrt
        have HLN : Aside (cs.length = 2 * G) := runTop_len HR.out hrt
        go_wp2_with fail
        refine (cW).mono ?_
        rintro e w3 ⟨⟨v8, rfl, hrow⟩, hb⟩
        have HBn : Aside (Below w2.heap.size w2 w3) := Below.trans (by first | exact Below.refl _ _ | exact Below.alloc (Below.refl _ _) (Nat.le_refl _) _ | exact below_drewN (Below.refl _ _) _ | exact below_drewN (Below.alloc (Below.refl _ _) (Nat.le_refl _) _) _ | exact Below.alloc (Below.alloc (Below.refl _ _) (Nat.le_refl _) _) (by simp) _) (hb.mono (by first | exact Nat.le_refl _ | (simp; done) | (simp; omega)))
        have P1' : Aside (Prg L ao w3) := P1.out.later HBn.out
        have RB' : Aside (w3.heap[rb]? = some (.cells #[.slice ao L.length cap, .int .i64 (G : Int)] 24 (0, 0))) := heap_later RB.out HBn.out
        have HW' : Aside (Below w.heap.size w w3) := HW.out.trans (HBn.out.mono HW.out.size)
        clear HW P1 RB
        have P1 : Aside (Prg L ao w3) := P1'.out
        have RB : Aside (w3.heap[rb]? = some (.cells #[.slice ao L.length cap, .int .i64 (G : Int)] 24 (0, 0))) := RB'.out
        have HW : Aside (Below w.heap.size w w3) := HW'.out
        clear HW' HBn hb P1' RB'
        have V8 : Aside (Row 0 v8 cs w3) := hrow.lower (Nat.zero_le _)
        clear cW c0 c1 lrb hrow
        have c0 := cell_heap RB.out 0 _ rfl
        have c1 := cell_heap RB.out 1 _ rfl
        have lrb : rb < w3.heap.size := (Array.getElem?_eq_some_iff.1 RB.out).1
        have cm := match_calls L ao cap G s w3 ⟨P1.out, HR.out, by omega⟩
        rw [hmt] at cm
        go_wp2_with fail
        refine (cm).mono ?_
        rintro e w4 ⟨⟨v10, rfl, hrow⟩, hb⟩
        have HBn : Aside (Below w3.heap.size w3 w4) := Below.trans (by first | exact Below.refl _ _ | exact Below.alloc (Below.refl _ _) (Nat.le_refl _) _ | exact below_drewN (Below.refl _ _) _ | exact below_drewN (Below.alloc (Below.refl _ _) (Nat.le_refl _) _) _ | exact Below.alloc (Below.alloc (Below.refl _ _) (Nat.le_refl _) _) (by simp) _) (hb.mono (by first | exact Nat.le_refl _ | (simp; done) | (simp; omega)))
        have P1' : Aside (Prg L ao w4) := P1.out.later HBn.out
        have RB' : Aside (w4.heap[rb]? = some (.cells #[.slice ao L.length cap, .int .i64 (G : Int)] 24 (0, 0))) := heap_later RB.out HBn.out
        have V8' : Aside (Row 0 v8 cs w4) := V8.out.later HBn.out
        have HW' : Aside (Below w.heap.size w w4) := HW.out.trans (HBn.out.mono HW.out.size)
        clear HW P1 RB V8
        have P1 : Aside (Prg L ao w4) := P1'.out
        have RB : Aside (w4.heap[rb]? = some (.cells #[.slice ao L.length cap, .int .i64 (G : Int)] 24 (0, 0))) := RB'.out
        have V8 : Aside (Row 0 v8 cs w4) := V8'.out
        have HW : Aside (Below w.heap.size w w4) := HW'.out
        clear HW' HBn hb P1' RB' V8'
        have V10 : Aside (Row 0 v10 cs w4) := hrow.lower (Nat.zero_le _)
        clear cm c0 c1 lrb hrow hmt hrt hwt
        have ci := ints_calls v8 v10 cs w4 (.inr V8.out) (.inr V10.out) (by have := HLN.out; omega)
        obtain ⟨cb, cc, ev, -, -⟩ := V8.out.form
        subst ev
        go_wp2_with fail
        refine (ci).mono ?_
        rintro e w5 ⟨rfl, hb⟩
        have HBn : Aside (Below w4.heap.size w4 w5) := Below.trans (by first | exact Below.refl _ _ | exact Below.alloc (Below.refl _ _) (Nat.le_refl _) _ | exact below_drewN (Below.refl _ _) _ | exact below_drewN (Below.alloc (Below.refl _ _) (Nat.le_refl _) _) _ | exact Below.alloc (Below.alloc (Below.refl _ _) (Nat.le_refl _) _) (by simp) _) (hb.mono (by first | exact Nat.le_refl _ | (simp; done) | (simp; omega)))
        have P1' : Aside (Prg L ao w5) := P1.out.later HBn.out
        have RB' : Aside (w5.heap[rb]? = some (.cells #[.slice ao L.length cap, .int .i64 (G : Int)] 24 (0, 0))) := heap_later RB.out HBn.out
        have V8' : Aside (Row 0 (.slice (some ⟨cb, 0, none⟩) cs.length cc) cs w5) := V8.out.later HBn.out
        have V10' : Aside (Row 0 v10 cs w5) := V10.out.later HBn.out
        have HW' : Aside (Below w.heap.size w w5) := HW.out.trans (HBn.out.mono HW.out.size)
        clear HW P1 RB V8 V10
        have P1 : Aside (Prg L ao w5) := P1'.out
        have RB : Aside (w5.heap[rb]? = some (.cells #[.slice ao L.length cap, .int .i64 (G : Int)] 24 (0, 0))) := RB'.out
        have V8 : Aside (Row 0 (.slice (some ⟨cb, 0, none⟩) cs.length cc) cs w5) := V8'.out
        have V10 : Aside (Row 0 v10 cs w5) := V10'.out
        have HW : Aside (Below w.heap.size w w5) := HW'.out
        clear HW' HBn hb P1' RB' V8' V10'
        obtain ⟨cb', cc', ev, hcb, hcells⟩ := V8.out.form
        simp only [Value.slice.injEq, Option.some.injEq, Addr.mk.injEq] at ev
        obtain ⟨⟨rfl, -, -⟩, -, rfl⟩ := ev
        have q0 : w5.cell? ⟨cb, 0, none⟩ = some (.int .i64 0) := by have h := hcells 0 (by omega); rw [e0] at h; exact h
        have q1 : w5.cell? ⟨cb, 1, none⟩ = some (.int .i64 (s.size : Int)) := by have h := hcells 1 (by omega); rw [e1] at h; exact h
        have l0 : (0 : Int) < (cs.length : Int) := by omega
        have l1 : (1 : Int) < (cs.length : Int) := by omega
        clear hcells e0 e1 ci
        have c0 := cell_heap RB.out 0 _ rfl
        have c1 := cell_heap RB.out 1 _ rfl
        have lrb : rb < w5.heap.size := (Array.getElem?_eq_some_iff.1 RB.out).1
        have cr := replace_calls L ao cap G s ⟨#[38]⟩ hs (by decide) w5 ⟨P1.out, HR.out, by omega⟩
        have er : replTop L G s ⟨#[38]⟩ = (s, 0) := by
          show replF L G s ⟨#[38]⟩ (s.size + 2) ⟨#[]⟩ 0 (-1) = (s, 0)
          have h := repl_self (L := L) (g := G) (s := s) (r := ⟨#[38]⟩) hs (fun cs p a z _ => fill_amp s cs a z) (s.size + 2) 0 (-1) (by omega) (by omega)
          rw [show s.extract 0 0 = (⟨#[]⟩ : ByteArray) from ByteArray.extract_same] at h
          exact h
        rw [er] at cr
        clear er
        go_wp2_with fail
        refine (cr).mono ?_
        rintro e w6 ⟨rfl, hb⟩
        have HBn : Aside (Below w5.heap.size w5 w6) := Below.trans (by first | exact Below.refl _ _ | exact Below.alloc (Below.refl _ _) (Nat.le_refl _) _ | exact below_drewN (Below.refl _ _) _ | exact below_drewN (Below.alloc (Below.refl _ _) (Nat.le_refl _) _) _ | exact Below.alloc (Below.alloc (Below.refl _ _) (Nat.le_refl _) _) (by simp) _) (hb.mono (by first | exact Nat.le_refl _ | (simp; done) | (simp; omega)))
        have P1' : Aside (Prg L ao w6) := P1.out.later HBn.out
        have RB' : Aside (w6.heap[rb]? = some (.cells #[.slice ao L.length cap, .int .i64 (G : Int)] 24 (0, 0))) := heap_later RB.out HBn.out
        have V8' : Aside (Row 0 (.slice (some ⟨cb, 0, none⟩) cs.length cc) cs w6) := V8.out.later HBn.out
        have V10' : Aside (Row 0 v10 cs w6) := V10.out.later HBn.out
        have HW' : Aside (Below w.heap.size w w6) := HW.out.trans (HBn.out.mono HW.out.size)
        clear HW P1 RB V8 V10
        have P1 : Aside (Prg L ao w6) := P1'.out
        have RB : Aside (w6.heap[rb]? = some (.cells #[.slice ao L.length cap, .int .i64 (G : Int)] 24 (0, 0))) := RB'.out
        have V8 : Aside (Row 0 (.slice (some ⟨cb, 0, none⟩) cs.length cc) cs w6) := V8'.out
        have V10 : Aside (Row 0 v10 cs w6) := V10'.out
        have HW : Aside (Below w.heap.size w w6) := HW'.out
        clear HW' HBn hb P1' RB' V8' V10'
        clear cr c0 c1 lrb
        have c0 := cell_heap RB.out 0 _ rfl
        have c1 := cell_heap RB.out 1 _ rfl
        have lrb : rb < w6.heap.size := (Array.getElem?_eq_some_iff.1 RB.out).1
        have cr := replace_calls L ao cap G s ⟨#[92, 48]⟩ hs (by decide) w6 ⟨P1.out, HR.out, by omega⟩
        have er : replTop L G s ⟨#[92, 48]⟩ = (s, 0) := by
          show replF L G s ⟨#[92, 48]⟩ (s.size + 2) ⟨#[]⟩ 0 (-1) = (s, 0)
          have h := repl_self (L := L) (g := G) (s := s) (r := ⟨#[92, 48]⟩) hs (fun cs p a z h => fill_zero s cs a z (firstF_b HS.out hg1 _ _ h).1 (firstF_b HS.out hg1 _ _ h).2.1 (firstF_b HS.out hg1 _ _ h).2.2 (firstF_in _ _ h).2.2.1) (s.size + 2) 0 (-1) (by omega) (by omega)
          rw [show s.extract 0 0 = (⟨#[]⟩ : ByteArray) from ByteArray.extract_same] at h
          exact h
        rw [er] at cr
        clear er
        go_wp2_with fail
        refine (cr).mono ?_
        rintro e w7 ⟨rfl, hb⟩
        have HBn : Aside (Below w6.heap.size w6 w7) := Below.trans (by first | exact Below.refl _ _ | exact Below.alloc (Below.refl _ _) (Nat.le_refl _) _ | exact below_drewN (Below.refl _ _) _ | exact below_drewN (Below.alloc (Below.refl _ _) (Nat.le_refl _) _) _ | exact Below.alloc (Below.alloc (Below.refl _ _) (Nat.le_refl _) _) (by simp) _) (hb.mono (by first | exact Nat.le_refl _ | (simp; done) | (simp; omega)))
        have P1' : Aside (Prg L ao w7) := P1.out.later HBn.out
        have RB' : Aside (w7.heap[rb]? = some (.cells #[.slice ao L.length cap, .int .i64 (G : Int)] 24 (0, 0))) := heap_later RB.out HBn.out
        have V8' : Aside (Row 0 (.slice (some ⟨cb, 0, none⟩) cs.length cc) cs w7) := V8.out.later HBn.out
        have V10' : Aside (Row 0 v10 cs w7) := V10.out.later HBn.out
        have HW' : Aside (Below w.heap.size w w7) := HW.out.trans (HBn.out.mono HW.out.size)
        clear HW P1 RB V8 V10
        have P1 : Aside (Prg L ao w7) := P1'.out
        have RB : Aside (w7.heap[rb]? = some (.cells #[.slice ao L.length cap, .int .i64 (G : Int)] 24 (0, 0))) := RB'.out
        have V8 : Aside (Row 0 (.slice (some ⟨cb, 0, none⟩) cs.length cc) cs w7) := V8'.out
        have V10 : Aside (Row 0 v10 cs w7) := V10'.out
        have HW : Aside (Below w.heap.size w w7) := HW'.out
        clear HW' HBn hb P1' RB' V8' V10'
        clear cr c0 c1 lrb
        have c0 := cell_heap RB.out 0 _ rfl
        have c1 := cell_heap RB.out 1 _ rfl
        have lrb : rb < w7.heap.size := (Array.getElem?_eq_some_iff.1 RB.out).1
        clear c0 c1 lrb
        go_wp2_with fail
        refine (alive_calls _).mono ?_
        rintro e w8 ⟨rfl, hb⟩
        have HBn : Aside (Below w7.heap.size w7 w8) := Below.trans (by first | exact Below.refl _ _ | exact Below.alloc (Below.refl _ _) (Nat.le_refl _) _ | exact below_drewN (Below.refl _ _) _ | exact below_drewN (Below.alloc (Below.refl _ _) (Nat.le_refl _) _) _ | exact Below.alloc (Below.alloc (Below.refl _ _) (Nat.le_refl _) _) (by simp) _) (hb.mono (by first | exact Nat.le_refl _ | (simp; done) | (simp; omega)))
        have P1' : Aside (Prg L ao w8) := P1.out.later HBn.out
        have RB' : Aside (w8.heap[rb]? = some (.cells #[.slice ao L.length cap, .int .i64 (G : Int)] 24 (0, 0))) := heap_later RB.out HBn.out
        have HW' : Aside (Below w.heap.size w w8) := HW.out.trans (HBn.out.mono HW.out.size)
        clear HW P1 RB
        have P1 : Aside (Prg L ao w8) := P1'.out
        have RB : Aside (w8.heap[rb]? = some (.cells #[.slice ao L.length cap, .int .i64 (G : Int)] 24 (0, 0))) := RB'.out
        have HW : Aside (Below w.heap.size w w8) := HW'.out
        clear HW' HBn hb P1' RB'
        go_wp2_with fail
        refine bodyPost_ret (v := .bool true) (by simp [results, Try.results4, go_sem, ↓IntWalk.iteOmega]) rfl ⟨rfl, HW.out⟩

end Go.Proofs.Ytfhccmegobbnaaa
