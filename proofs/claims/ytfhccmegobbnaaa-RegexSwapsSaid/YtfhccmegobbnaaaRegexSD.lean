/- This text proves the walk of the statement RegexSwaps. Conditions: those that each theorem names. -/
import Derived.Test.YtfhccmegobbnaaaRegexSC
namespace Go.Proofs.Ytfhccmegobbnaaa
open Go.ChangeShapes Go.WideShapes Go.ChangeAt Go.RowKit
set_option linter.unusedVariables false
set_option linter.unusedSimpArgs false

theorem comp_size {s : ByteArray} {L : List In} {G : Nat} (h : compF s = .ok (L, G)) : s.size ≤ 256 := by
  obtain ⟨_, _, _, _, _, _, _, h, _⟩ := comp_tree h
  exact h
theorem pair_add (p q : ByteArray) : (⟨#[40]⟩ : ByteArray) ++ p ++ ⟨#[41, 124, 40]⟩ ++ q ++ ⟨#[41]⟩ = pairS p q := by
  apply str_inj'
  unfold pairS
  simp
/-- Compile of any text. -/
theorem compile_any (s : ByteArray) (hs : s.size ≤ 9223372036854775807) (w : World) :
    Calls Try.prog 9 #[.string s] w fun e w' => ∃ (ao : Option Addr) (n cap : Nat) (G : Int) (k c : Int), e = .returned (.tuple #[.agg #[.slice ao n cap, .int .i64 G], .int .i64 k, .int .i64 c]) ∧ Below w.heap.size w w' ∧ (∀ k' c', compF s = .error (k', c') → c ≠ 0) := by
  cases hc : compF s with
  | error kc =>
    obtain ⟨k, c⟩ := kc
    refine (compile_no s hs k c hc w).mono ?_
    rintro e w' ⟨he, hb⟩
    have := comp_err hc
    exact ⟨none, 0, 0, 0, k, c, he, hb, fun k' c' h => by omega⟩
  | ok lg =>
    obtain ⟨L, G⟩ := lg
    refine (compile_ok s hs L G hc w).mono ?_
    rintro e w' ⟨ao, cap, he, _, hb⟩
    exact ⟨ao, L.length, cap, G, 0, 0, he, hb, fun k' c' h => by cases h⟩

set_option maxRecDepth 20000 in
set_option maxHeartbeats 64000000 in
theorem lawSwaps_calls (p q s : ByteArray) (hp : p.size ≤ maxLen) (hq : q.size ≤ maxLen) (w : World) :
    Calls Try.prog 7 #[.string p, .string q, .string s] w fun e W => e = .returned (.bool true) ∧ Below w.heap.size w W := by
  have HW : Aside (Below w.heap.size w w) := Below.refl _ _
  have hp : p.size ≤ 9223372036854775807 := by unfold maxLen at hp; exact hp
  have hq : q.size ≤ 9223372036854775807 := by unfold maxLen at hq; exact hq
  cases hc : compF p with
  | error kc =>
    have cp := fun W => compile_any p hp W
    have cq := fun W => compile_any q hq W
    rw [hc] at cp
    obtain ⟨k0, c0⟩ := kc
    clear hc
    go_enter Try.func7, Try.ntmps7
    go_wp2_with fail
    refine (cp _).mono ?_
    rintro e w1 ⟨ao, n, cap, G, kk, c, rfl, hb, hne⟩
    have HBn : Aside (Below w.heap.size w w1) := Below.trans (by first | exact Below.refl _ _ | exact Below.alloc (Below.refl _ _) (Nat.le_refl _) _ | exact below_drewN (Below.refl _ _) _ | exact below_drewN (Below.alloc (Below.refl _ _) (Nat.le_refl _) _) _ | exact Below.alloc (Below.alloc (Below.refl _ _) (Nat.le_refl _) _) (by simp) _) (hb.mono (by first | exact Nat.le_refl _ | (simp; done) | (simp; omega)))
    have HW' : Aside (Below w.heap.size w w1) := HW.out.trans (HBn.out.mono HW.out.size)
    clear HW
    have HW : Aside (Below w.heap.size w w1) := HW'.out
    clear HW' HBn hb
    have n0 : (c != 0) = true := by rw [bne_iff_ne]; exact hne k0 c0 rfl
    clear hne
    go_wp2_with fail
    refine (cq _).mono ?_
    rintro e w2 ⟨ao2, n2, cap2, G2, kk2, c2, rfl, hb, -⟩
    have HBn : Aside (Below w1.heap.size w1 w2) := Below.trans (by first | exact Below.refl _ _ | exact Below.alloc (Below.refl _ _) (Nat.le_refl _) _ | exact below_drewN (Below.refl _ _) _ | exact below_drewN (Below.alloc (Below.refl _ _) (Nat.le_refl _) _) _ | exact Below.alloc (Below.alloc (Below.refl _ _) (Nat.le_refl _) _) (by simp) _) (hb.mono (by first | exact Nat.le_refl _ | (simp; done) | (simp; omega)))
    have HW' : Aside (Below w.heap.size w w2) := HW.out.trans (HBn.out.mono HW.out.size)
    clear HW
    have HW : Aside (Below w.heap.size w w2) := HW'.out
    clear HW' HBn hb
    clear cp cq
    go_wp2_with fail
    refine (alive_calls _).mono ?_
    rintro e w3 ⟨rfl, hb⟩
    have HBn : Aside (Below w2.heap.size w2 w3) := Below.trans (by first | exact Below.refl _ _ | exact Below.alloc (Below.refl _ _) (Nat.le_refl _) _ | exact below_drewN (Below.refl _ _) _ | exact below_drewN (Below.alloc (Below.refl _ _) (Nat.le_refl _) _) _ | exact Below.alloc (Below.alloc (Below.refl _ _) (Nat.le_refl _) _) (by simp) _) (hb.mono (by first | exact Nat.le_refl _ | (simp; done) | (simp; omega)))
    have HW' : Aside (Below w.heap.size w w3) := HW.out.trans (HBn.out.mono HW.out.size)
    clear HW
    have HW : Aside (Below w.heap.size w w3) := HW'.out
    clear HW' HBn hb
    go_wp2_with fail
    refine bodyPost_ret (v := .bool true) (by simp [results, Try.results7, go_sem, ↓IntWalk.iteOmega]) rfl ⟨rfl, HW.out⟩
  | ok lg =>
    obtain ⟨Lp, Gp⟩ := lg
    have HCP : Aside (compF p = .ok (Lp, Gp)) := hc
    have cp := fun W => compile_ok p hp Lp Gp hc W
    clear hc
    cases hd : compF q with
    | error kc =>
      have cq := fun W => compile_any q hq W
      rw [hd] at cq
      obtain ⟨k0, c0⟩ := kc
      clear hd
      go_enter Try.func7, Try.ntmps7
      go_wp2_with fail
      refine (cp _).mono ?_
      rintro e w1 ⟨ao, cap, rfl, -, hb⟩
      have HBn : Aside (Below w.heap.size w w1) := Below.trans (by first | exact Below.refl _ _ | exact Below.alloc (Below.refl _ _) (Nat.le_refl _) _ | exact below_drewN (Below.refl _ _) _ | exact below_drewN (Below.alloc (Below.refl _ _) (Nat.le_refl _) _) _ | exact Below.alloc (Below.alloc (Below.refl _ _) (Nat.le_refl _) _) (by simp) _) (hb.mono (by first | exact Nat.le_refl _ | (simp; done) | (simp; omega)))
      have HW' : Aside (Below w.heap.size w w1) := HW.out.trans (HBn.out.mono HW.out.size)
      clear HW
      have HW : Aside (Below w.heap.size w w1) := HW'.out
      clear HW' HBn hb
      go_wp2_with fail
      refine (cq _).mono ?_
      rintro e w2 ⟨ao2, n2, cap2, G2, kk2, c2, rfl, hb, hne⟩
      have HBn : Aside (Below w1.heap.size w1 w2) := Below.trans (by first | exact Below.refl _ _ | exact Below.alloc (Below.refl _ _) (Nat.le_refl _) _ | exact below_drewN (Below.refl _ _) _ | exact below_drewN (Below.alloc (Below.refl _ _) (Nat.le_refl _) _) _ | exact Below.alloc (Below.alloc (Below.refl _ _) (Nat.le_refl _) _) (by simp) _) (hb.mono (by first | exact Nat.le_refl _ | (simp; done) | (simp; omega)))
      have HW' : Aside (Below w.heap.size w w2) := HW.out.trans (HBn.out.mono HW.out.size)
      clear HW
      have HW : Aside (Below w.heap.size w w2) := HW'.out
      clear HW' HBn hb
      have n0 : (c2 != 0) = true := by rw [bne_iff_ne]; exact hne k0 c0 rfl
      clear hne cp cq
      go_wp2_with fail
      refine (alive_calls _).mono ?_
      rintro e w3 ⟨rfl, hb⟩
      have HBn : Aside (Below w2.heap.size w2 w3) := Below.trans (by first | exact Below.refl _ _ | exact Below.alloc (Below.refl _ _) (Nat.le_refl _) _ | exact below_drewN (Below.refl _ _) _ | exact below_drewN (Below.alloc (Below.refl _ _) (Nat.le_refl _) _) _ | exact Below.alloc (Below.alloc (Below.refl _ _) (Nat.le_refl _) _) (by simp) _) (hb.mono (by first | exact Nat.le_refl _ | (simp; done) | (simp; omega)))
      have HW' : Aside (Below w.heap.size w w3) := HW.out.trans (HBn.out.mono HW.out.size)
      clear HW
      have HW : Aside (Below w.heap.size w w3) := HW'.out
      clear HW' HBn hb
      go_wp2_with fail
      refine bodyPost_ret (v := .bool true) (by simp [results, Try.results7, go_sem, ↓IntWalk.iteOmega]) rfl ⟨rfl, HW.out⟩
    | ok lg =>
    obtain ⟨Lq, Gq⟩ := lg
    have HCQ : Aside (compF q = .ok (Lq, Gq)) := hd
    have cq := fun W => compile_ok q hq Lq Gq hd W
    clear hd
    have sp := comp_size HCP.out
    have sq := comp_size HCQ.out
    have wpq : IntKind.i64.wrap ((p.size : Int) + (q.size : Int)) = ((p.size + q.size : Nat) : Int) := by rw [IntKind.wrap_i64]; omega
    by_cases hl : p.size + q.size ≤ 100
    rotate_left
    · have dl : decide ((100 : Int) < ((p.size + q.size : Nat) : Int)) = true := decide_eq_true (by omega)
      go_enter Try.func7, Try.ntmps7
      go_wp2_with fail
      refine (cp _).mono ?_
      rintro e w1 ⟨ao, cap, rfl, -, hb⟩
      have HBn : Aside (Below w.heap.size w w1) := Below.trans (by first | exact Below.refl _ _ | exact Below.alloc (Below.refl _ _) (Nat.le_refl _) _ | exact below_drewN (Below.refl _ _) _ | exact below_drewN (Below.alloc (Below.refl _ _) (Nat.le_refl _) _) _ | exact Below.alloc (Below.alloc (Below.refl _ _) (Nat.le_refl _) _) (by simp) _) (hb.mono (by first | exact Nat.le_refl _ | (simp; done) | (simp; omega)))
      have HW' : Aside (Below w.heap.size w w1) := HW.out.trans (HBn.out.mono HW.out.size)
      clear HW
      have HW : Aside (Below w.heap.size w w1) := HW'.out
      clear HW' HBn hb
      go_wp2_with fail
      refine (cq _).mono ?_
      rintro e w2 ⟨ao2, cap2, rfl, -, hb⟩
      have HBn : Aside (Below w1.heap.size w1 w2) := Below.trans (by first | exact Below.refl _ _ | exact Below.alloc (Below.refl _ _) (Nat.le_refl _) _ | exact below_drewN (Below.refl _ _) _ | exact below_drewN (Below.alloc (Below.refl _ _) (Nat.le_refl _) _) _ | exact Below.alloc (Below.alloc (Below.refl _ _) (Nat.le_refl _) _) (by simp) _) (hb.mono (by first | exact Nat.le_refl _ | (simp; done) | (simp; omega)))
      have HW' : Aside (Below w.heap.size w w2) := HW.out.trans (HBn.out.mono HW.out.size)
      clear HW
      have HW : Aside (Below w.heap.size w w2) := HW'.out
      clear HW' HBn hb
      clear cp cq
      go_wp2_with fail
      refine (alive_calls _).mono ?_
      rintro e w3 ⟨rfl, hb⟩
      have HBn : Aside (Below w2.heap.size w2 w3) := Below.trans (by first | exact Below.refl _ _ | exact Below.alloc (Below.refl _ _) (Nat.le_refl _) _ | exact below_drewN (Below.refl _ _) _ | exact below_drewN (Below.alloc (Below.refl _ _) (Nat.le_refl _) _) _ | exact Below.alloc (Below.alloc (Below.refl _ _) (Nat.le_refl _) _) (by simp) _) (hb.mono (by first | exact Nat.le_refl _ | (simp; done) | (simp; omega)))
      have HW' : Aside (Below w.heap.size w w3) := HW.out.trans (HBn.out.mono HW.out.size)
      clear HW
      have HW : Aside (Below w.heap.size w w3) := HW'.out
      clear HW' HBn hb
      go_wp2_with fail
      refine bodyPost_ret (v := .bool true) (by simp [results, Try.results7, go_sem, ↓IntWalk.iteOmega]) rfl ⟨rfl, HW.out⟩
    have dl : decide ((100 : Int) < ((p.size + q.size : Nat) : Int)) = false := decide_eq_false (by omega)
    have pa := pair_add p q
    have qa := pair_add q p
    rcases swap_law HCP.out HCQ.out hl with ⟨⟨k1, h1⟩, k2, h2⟩ | ⟨L, L', G, h1, h2, hLL, hsame⟩
    · have c1 := fun W => compile_no _ (by have := (pair_is p q).z; omega) k1 49 h1 W
      have c2 := fun W => compile_no _ (by have := (pair_is q p).z; omega) k2 49 h2 W
      rw [← pa] at c1
      rw [← qa] at c2
      clear h1 h2 pa qa
      go_enter Try.func7, Try.ntmps7
      go_wp2_with fail
      refine (cp _).mono ?_
      rintro e w1 ⟨ao, cap, rfl, -, hb⟩
      have HBn : Aside (Below w.heap.size w w1) := Below.trans (by first | exact Below.refl _ _ | exact Below.alloc (Below.refl _ _) (Nat.le_refl _) _ | exact below_drewN (Below.refl _ _) _ | exact below_drewN (Below.alloc (Below.refl _ _) (Nat.le_refl _) _) _ | exact Below.alloc (Below.alloc (Below.refl _ _) (Nat.le_refl _) _) (by simp) _) (hb.mono (by first | exact Nat.le_refl _ | (simp; done) | (simp; omega)))
      have HW' : Aside (Below w.heap.size w w1) := HW.out.trans (HBn.out.mono HW.out.size)
      clear HW
      have HW : Aside (Below w.heap.size w w1) := HW'.out
      clear HW' HBn hb
      go_wp2_with fail
      refine (cq _).mono ?_
      rintro e w2 ⟨ao2, cap2, rfl, -, hb⟩
      have HBn : Aside (Below w1.heap.size w1 w2) := Below.trans (by first | exact Below.refl _ _ | exact Below.alloc (Below.refl _ _) (Nat.le_refl _) _ | exact below_drewN (Below.refl _ _) _ | exact below_drewN (Below.alloc (Below.refl _ _) (Nat.le_refl _) _) _ | exact Below.alloc (Below.alloc (Below.refl _ _) (Nat.le_refl _) _) (by simp) _) (hb.mono (by first | exact Nat.le_refl _ | (simp; done) | (simp; omega)))
      have HW' : Aside (Below w.heap.size w w2) := HW.out.trans (HBn.out.mono HW.out.size)
      clear HW
      have HW : Aside (Below w.heap.size w w2) := HW'.out
      clear HW' HBn hb
      clear cp cq
      go_wp2_with fail
      refine (c1 _).mono ?_
      rintro e w3 ⟨rfl, hb⟩
      have HBn : Aside (Below w2.heap.size w2 w3) := Below.trans (by first | exact Below.refl _ _ | exact Below.alloc (Below.refl _ _) (Nat.le_refl _) _ | exact below_drewN (Below.refl _ _) _ | exact below_drewN (Below.alloc (Below.refl _ _) (Nat.le_refl _) _) _ | exact Below.alloc (Below.alloc (Below.refl _ _) (Nat.le_refl _) _) (by simp) _) (hb.mono (by first | exact Nat.le_refl _ | (simp; done) | (simp; omega)))
      have HW' : Aside (Below w.heap.size w w3) := HW.out.trans (HBn.out.mono HW.out.size)
      clear HW
      have HW : Aside (Below w.heap.size w w3) := HW'.out
      clear HW' HBn hb
      go_wp2_with fail
      refine (c2 _).mono ?_
      rintro e w4 ⟨rfl, hb⟩
      have HBn : Aside (Below w3.heap.size w3 w4) := Below.trans (by first | exact Below.refl _ _ | exact Below.alloc (Below.refl _ _) (Nat.le_refl _) _ | exact below_drewN (Below.refl _ _) _ | exact below_drewN (Below.alloc (Below.refl _ _) (Nat.le_refl _) _) _ | exact Below.alloc (Below.alloc (Below.refl _ _) (Nat.le_refl _) _) (by simp) _) (hb.mono (by first | exact Nat.le_refl _ | (simp; done) | (simp; omega)))
      have HW' : Aside (Below w.heap.size w w4) := HW.out.trans (HBn.out.mono HW.out.size)
      clear HW
      have HW : Aside (Below w.heap.size w w4) := HW'.out
      clear HW' HBn hb
      clear c1 c2
      go_wp2_with fail
      refine (alive_calls _).mono ?_
      rintro e w5 ⟨rfl, hb⟩
      have HBn : Aside (Below w4.heap.size w4 w5) := Below.trans (by first | exact Below.refl _ _ | exact Below.alloc (Below.refl _ _) (Nat.le_refl _) _ | exact below_drewN (Below.refl _ _) _ | exact below_drewN (Below.alloc (Below.refl _ _) (Nat.le_refl _) _) _ | exact Below.alloc (Below.alloc (Below.refl _ _) (Nat.le_refl _) _) (by simp) _) (hb.mono (by first | exact Nat.le_refl _ | (simp; done) | (simp; omega)))
      have HW' : Aside (Below w.heap.size w w5) := HW.out.trans (HBn.out.mono HW.out.size)
      clear HW
      have HW : Aside (Below w.heap.size w w5) := HW'.out
      clear HW' HBn hb
      go_wp2_with fail
      refine bodyPost_ret (v := .bool true) (by simp [results, Try.results7, go_sem, ↓IntWalk.iteOmega]) rfl ⟨rfl, HW.out⟩
    have HR1 : Aside (rightF L (G : Int) = true) := comp_right h1
    have HR2 : Aside (rightF L' (G : Int) = true) := comp_right h2
    obtain ⟨m1, hS1⟩ := comp_shape h1
    obtain ⟨m2, hS2⟩ := comp_shape h2
    have HS1 : Aside (Shape L m1) := hS1
    have HS2 : Aside (Shape L' m2) := hS2
    have c1 := fun W => compile_ok _ (by have := (pair_is p q).z; omega) L G h1 W
    have c2 := fun W => compile_ok _ (by have := (pair_is q p).z; omega) L' G h2 W
    rw [← pa] at c1
    rw [← qa] at c2
    have hg : G ≤ 10 := by have := (right_parts HR1.out).2.1; omega
    have hg1 : 1 ≤ G := by have := (right_parts HR1.out).1; omega
    have HSM : Aside (∀ s : ByteArray, (firstTop L G s 0).map (·.2) = (firstTop L' G s 0).map (·.2)) := hsame
    clear h1 h2 pa qa hsame hS1 hS2 hLL
    go_enter Try.func7, Try.ntmps7
    go_wp2_with fail
    refine (cp _).mono ?_
    rintro e w1 ⟨ao, cap, rfl, -, hb⟩
    have HBn : Aside (Below w.heap.size w w1) := Below.trans (by first | exact Below.refl _ _ | exact Below.alloc (Below.refl _ _) (Nat.le_refl _) _ | exact below_drewN (Below.refl _ _) _ | exact below_drewN (Below.alloc (Below.refl _ _) (Nat.le_refl _) _) _ | exact Below.alloc (Below.alloc (Below.refl _ _) (Nat.le_refl _) _) (by simp) _) (hb.mono (by first | exact Nat.le_refl _ | (simp; done) | (simp; omega)))
    have HW' : Aside (Below w.heap.size w w1) := HW.out.trans (HBn.out.mono HW.out.size)
    clear HW
    have HW : Aside (Below w.heap.size w w1) := HW'.out
    clear HW' HBn hb
    go_wp2_with fail
    refine (cq _).mono ?_
    rintro e w2 ⟨ao2, cap2, rfl, -, hb⟩
    have HBn : Aside (Below w1.heap.size w1 w2) := Below.trans (by first | exact Below.refl _ _ | exact Below.alloc (Below.refl _ _) (Nat.le_refl _) _ | exact below_drewN (Below.refl _ _) _ | exact below_drewN (Below.alloc (Below.refl _ _) (Nat.le_refl _) _) _ | exact Below.alloc (Below.alloc (Below.refl _ _) (Nat.le_refl _) _) (by simp) _) (hb.mono (by first | exact Nat.le_refl _ | (simp; done) | (simp; omega)))
    have HW' : Aside (Below w.heap.size w w2) := HW.out.trans (HBn.out.mono HW.out.size)
    clear HW
    have HW : Aside (Below w.heap.size w w2) := HW'.out
    clear HW' HBn hb
    clear cp cq
    go_wp2_with fail
    refine (c1 _).mono ?_
    rintro e w3 ⟨ao3, cap3, rfl, hprg, hb⟩
    have HBn : Aside (Below w2.heap.size w2 w3) := Below.trans (by first | exact Below.refl _ _ | exact Below.alloc (Below.refl _ _) (Nat.le_refl _) _ | exact below_drewN (Below.refl _ _) _ | exact below_drewN (Below.alloc (Below.refl _ _) (Nat.le_refl _) _) _ | exact Below.alloc (Below.alloc (Below.refl _ _) (Nat.le_refl _) _) (by simp) _) (hb.mono (by first | exact Nat.le_refl _ | (simp; done) | (simp; omega)))
    have HW' : Aside (Below w.heap.size w w3) := HW.out.trans (HBn.out.mono HW.out.size)
    clear HW
    have HW : Aside (Below w.heap.size w w3) := HW'.out
    clear HW' HBn hb
    have P1 : Aside (Prg L ao3 w3) := hprg
    obtain ⟨rb, hrb⟩ : ∃ b, w3.heap.size = b := ⟨_, rfl⟩
    have RB0 : Aside ((w3.alloc (.cells #[.slice ao3 L.length cap3, .int .i64 (G : Int)] 24)).heap[rb]? = some (.cells #[.slice ao3 L.length cap3, .int .i64 (G : Int)] 24 (0, 0))) := hp_new hrb.symm
    clear hprg c1
    go_wp2_with fail
    refine (c2 _).mono ?_
    rintro e w4 ⟨ao4, cap4, rfl, hprg, hb⟩
    have RB : Aside (w4.heap[rb]? = some (.cells #[.slice ao3 L.length cap3, .int .i64 (G : Int)] 24 (0, 0))) := heap_later RB0.out hb
    have HBn : Aside (Below w3.heap.size w3 w4) := Below.trans (by first | exact Below.refl _ _ | exact Below.alloc (Below.refl _ _) (Nat.le_refl _) _ | exact below_drewN (Below.refl _ _) _ | exact below_drewN (Below.alloc (Below.refl _ _) (Nat.le_refl _) _) _ | exact Below.alloc (Below.alloc (Below.refl _ _) (Nat.le_refl _) _) (by simp) _) (hb.mono (by first | exact Nat.le_refl _ | (simp; done) | (simp; omega)))
    have P1' : Aside (Prg L ao3 w4) := P1.out.later HBn.out
    have HW' : Aside (Below w.heap.size w w4) := HW.out.trans (HBn.out.mono HW.out.size)
    clear HW P1
    have P1 : Aside (Prg L ao3 w4) := P1'.out
    have HW : Aside (Below w.heap.size w w4) := HW'.out
    clear HW' HBn hb P1'
    have P2 : Aside (Prg L' ao4 w4) := hprg
    clear RB0
    obtain ⟨rc, hrc⟩ : ∃ b, w4.heap.size = b := ⟨_, rfl⟩
    have RC0 : Aside ((w4.alloc (.cells #[.slice ao4 L'.length cap4, .int .i64 (G : Int)] 24)).heap[rc]? = some (.cells #[.slice ao4 L'.length cap4, .int .i64 (G : Int)] 24 (0, 0))) := hp_new hrc.symm
    clear hprg c2
    have c0 := cell_heap RB.out 0 _ rfl
    have c1 := cell_heap RB.out 1 _ rfl
    have lrb : rb < w4.heap.size := (Array.getElem?_eq_some_iff.1 RB.out).1
    have cw := fun W => few_calls L ao3 cap3 G s W hg
    cases hf : fewF L s with
    | false =>
      rw [hf] at cw
      go_wp2_with fail
      refine (cw _).mono ?_
      rintro e w5 ⟨rfl, hb⟩
      have HBn : Aside (Below w4.heap.size w4 w5) := Below.trans (by first | exact Below.refl _ _ | exact Below.alloc (Below.refl _ _) (Nat.le_refl _) _ | exact below_drewN (Below.refl _ _) _ | exact below_drewN (Below.alloc (Below.refl _ _) (Nat.le_refl _) _) _ | exact Below.alloc (Below.alloc (Below.refl _ _) (Nat.le_refl _) _) (by simp) _) (hb.mono (by first | exact Nat.le_refl _ | (simp; done) | (simp; omega)))
      have P1' : Aside (Prg L ao3 w5) := P1.out.later HBn.out
      have RB' : Aside (w5.heap[rb]? = some (.cells #[.slice ao3 L.length cap3, .int .i64 (G : Int)] 24 (0, 0))) := heap_later RB.out HBn.out
      have P2' : Aside (Prg L' ao4 w5) := P2.out.later HBn.out
      have HW' : Aside (Below w.heap.size w w5) := HW.out.trans (HBn.out.mono HW.out.size)
      clear HW P1 RB P2
      have P1 : Aside (Prg L ao3 w5) := P1'.out
      have RB : Aside (w5.heap[rb]? = some (.cells #[.slice ao3 L.length cap3, .int .i64 (G : Int)] 24 (0, 0))) := RB'.out
      have P2 : Aside (Prg L' ao4 w5) := P2'.out
      have HW : Aside (Below w.heap.size w w5) := HW'.out
      clear HW' HBn hb P1' RB' P2'
      clear c0 c1 lrb cw
      go_wp2_with fail
      refine (alive_calls _).mono ?_
      rintro e w6 ⟨rfl, hb⟩
      have HBn : Aside (Below w5.heap.size w5 w6) := Below.trans (by first | exact Below.refl _ _ | exact Below.alloc (Below.refl _ _) (Nat.le_refl _) _ | exact below_drewN (Below.refl _ _) _ | exact below_drewN (Below.alloc (Below.refl _ _) (Nat.le_refl _) _) _ | exact Below.alloc (Below.alloc (Below.refl _ _) (Nat.le_refl _) _) (by simp) _) (hb.mono (by first | exact Nat.le_refl _ | (simp; done) | (simp; omega)))
      have P1' : Aside (Prg L ao3 w6) := P1.out.later HBn.out
      have RB' : Aside (w6.heap[rb]? = some (.cells #[.slice ao3 L.length cap3, .int .i64 (G : Int)] 24 (0, 0))) := heap_later RB.out HBn.out
      have P2' : Aside (Prg L' ao4 w6) := P2.out.later HBn.out
      have HW' : Aside (Below w.heap.size w w6) := HW.out.trans (HBn.out.mono HW.out.size)
      clear HW P1 RB P2
      have P1 : Aside (Prg L ao3 w6) := P1'.out
      have RB : Aside (w6.heap[rb]? = some (.cells #[.slice ao3 L.length cap3, .int .i64 (G : Int)] 24 (0, 0))) := RB'.out
      have P2 : Aside (Prg L' ao4 w6) := P2'.out
      have HW : Aside (Below w.heap.size w w6) := HW'.out
      clear HW' HBn hb P1' RB' P2'
      go_wp2_with fail
      refine bodyPost_ret (v := .bool true) (by simp [results, Try.results7, go_sem, ↓IntWalk.iteOmega]) rfl ⟨rfl, HW.out⟩
    | true =>
      rw [hf] at cw
      have hs : s.size ≤ 60 := by unfold fewF at hf; simp at hf; exact hf.2
      go_wp2_with fail
      refine (cw _).mono ?_
      rintro e w5 ⟨rfl, hb⟩
      have RC : Aside (w5.heap[rc]? = some (.cells #[.slice ao4 L'.length cap4, .int .i64 (G : Int)] 24 (0, 0))) := heap_later RC0.out hb
      have HBn : Aside (Below w4.heap.size w4 w5) := Below.trans (by first | exact Below.refl _ _ | exact Below.alloc (Below.refl _ _) (Nat.le_refl _) _ | exact below_drewN (Below.refl _ _) _ | exact below_drewN (Below.alloc (Below.refl _ _) (Nat.le_refl _) _) _ | exact Below.alloc (Below.alloc (Below.refl _ _) (Nat.le_refl _) _) (by simp) _) (hb.mono (by first | exact Nat.le_refl _ | (simp; done) | (simp; omega)))
      have P1' : Aside (Prg L ao3 w5) := P1.out.later HBn.out
      have RB' : Aside (w5.heap[rb]? = some (.cells #[.slice ao3 L.length cap3, .int .i64 (G : Int)] 24 (0, 0))) := heap_later RB.out HBn.out
      have P2' : Aside (Prg L' ao4 w5) := P2.out.later HBn.out
      have HW' : Aside (Below w.heap.size w w5) := HW.out.trans (HBn.out.mono HW.out.size)
      clear HW P1 RB P2
      have P1 : Aside (Prg L ao3 w5) := P1'.out
      have RB : Aside (w5.heap[rb]? = some (.cells #[.slice ao3 L.length cap3, .int .i64 (G : Int)] 24 (0, 0))) := RB'.out
      have P2 : Aside (Prg L' ao4 w5) := P2'.out
      have HW : Aside (Below w.heap.size w w5) := HW'.out
      clear HW' HBn hb P1' RB' P2'
      clear RC0 cw hf c0 c1 lrb
      have c0 := cell_heap RB.out 0 _ rfl
      have c1 := cell_heap RB.out 1 _ rfl
      have lrb : rb < w5.heap.size := (Array.getElem?_eq_some_iff.1 RB.out).1
      have ca := fun W => alive_calls W
      have HSS := HSM.out s
      have cM1 := match_calls L ao3 cap3 G s w5 ⟨P1.out, HR1.out, by omega⟩
      have cM2 := fun W (h : Prg L' ao4 W) => match_calls L' ao4 cap4 G s W ⟨h, HR2.out, by omega⟩
      cases hft : firstTop L G s 0 with
      | none =>
        have hmt : matchTop L G s = none := by unfold matchTop; rw [hft]; rfl
        have hmt2 : matchTop L' G s = none := by
          rw [hft] at HSS
          cases hf2 : firstTop L' G s 0 with
          | none => unfold matchTop; rw [hf2]; rfl
          | some t => rw [hf2] at HSS; cases HSS
        rw [hmt] at cM1
        rw [hmt2] at cM2
        clear hmt hmt2 hft HSS
        go_wp2_with fail
        refine (cM1).mono ?_
        rintro e w6 ⟨he, hb⟩
        have he : e = .returned (.tuple #[.slice none 0 0, .bool false]) := he
        subst he
        have HBn : Aside (Below w5.heap.size w5 w6) := Below.trans (by first | exact Below.refl _ _ | exact Below.alloc (Below.refl _ _) (Nat.le_refl _) _ | exact below_drewN (Below.refl _ _) _ | exact below_drewN (Below.alloc (Below.refl _ _) (Nat.le_refl _) _) _ | exact Below.alloc (Below.alloc (Below.refl _ _) (Nat.le_refl _) _) (by simp) _) (hb.mono (by first | exact Nat.le_refl _ | (simp; done) | (simp; omega)))
        have P1' : Aside (Prg L ao3 w6) := P1.out.later HBn.out
        have RB' : Aside (w6.heap[rb]? = some (.cells #[.slice ao3 L.length cap3, .int .i64 (G : Int)] 24 (0, 0))) := heap_later RB.out HBn.out
        have P2' : Aside (Prg L' ao4 w6) := P2.out.later HBn.out
        have RC' : Aside (w6.heap[rc]? = some (.cells #[.slice ao4 L'.length cap4, .int .i64 (G : Int)] 24 (0, 0))) := heap_later RC.out HBn.out
        have HW' : Aside (Below w.heap.size w w6) := HW.out.trans (HBn.out.mono HW.out.size)
        clear HW P1 RB P2 RC
        have P1 : Aside (Prg L ao3 w6) := P1'.out
        have RB : Aside (w6.heap[rb]? = some (.cells #[.slice ao3 L.length cap3, .int .i64 (G : Int)] 24 (0, 0))) := RB'.out
        have P2 : Aside (Prg L' ao4 w6) := P2'.out
        have RC : Aside (w6.heap[rc]? = some (.cells #[.slice ao4 L'.length cap4, .int .i64 (G : Int)] 24 (0, 0))) := RC'.out
        have HW : Aside (Below w.heap.size w w6) := HW'.out
        clear HW' HBn hb P1' RB' P2' RC'
        clear cM1 c0 c1 lrb
        have e0 := cell_heap RC.out 0 _ rfl
        have e1 := cell_heap RC.out 1 _ rfl
        have lrc : rc < w6.heap.size := (Array.getElem?_eq_some_iff.1 RC.out).1
        go_wp2_with fail
        refine (cM2 _ P2.out).mono ?_
        rintro e w7 ⟨he, hb⟩
        have he : e = .returned (.tuple #[.slice none 0 0, .bool false]) := he
        subst he
        have HBn : Aside (Below w6.heap.size w6 w7) := Below.trans (by first | exact Below.refl _ _ | exact Below.alloc (Below.refl _ _) (Nat.le_refl _) _ | exact below_drewN (Below.refl _ _) _ | exact below_drewN (Below.alloc (Below.refl _ _) (Nat.le_refl _) _) _ | exact Below.alloc (Below.alloc (Below.refl _ _) (Nat.le_refl _) _) (by simp) _) (hb.mono (by first | exact Nat.le_refl _ | (simp; done) | (simp; omega)))
        have P1' : Aside (Prg L ao3 w7) := P1.out.later HBn.out
        have RB' : Aside (w7.heap[rb]? = some (.cells #[.slice ao3 L.length cap3, .int .i64 (G : Int)] 24 (0, 0))) := heap_later RB.out HBn.out
        have P2' : Aside (Prg L' ao4 w7) := P2.out.later HBn.out
        have RC' : Aside (w7.heap[rc]? = some (.cells #[.slice ao4 L'.length cap4, .int .i64 (G : Int)] 24 (0, 0))) := heap_later RC.out HBn.out
        have HW' : Aside (Below w.heap.size w w7) := HW.out.trans (HBn.out.mono HW.out.size)
        clear HW P1 RB P2 RC
        have P1 : Aside (Prg L ao3 w7) := P1'.out
        have RB : Aside (w7.heap[rb]? = some (.cells #[.slice ao3 L.length cap3, .int .i64 (G : Int)] 24 (0, 0))) := RB'.out
        have P2 : Aside (Prg L' ao4 w7) := P2'.out
        have RC : Aside (w7.heap[rc]? = some (.cells #[.slice ao4 L'.length cap4, .int .i64 (G : Int)] 24 (0, 0))) := RC'.out
        have HW : Aside (Below w.heap.size w w7) := HW'.out
        clear HW' HBn hb P1' RB' P2' RC'
        clear cM2 e0 e1 lrc
        go_wp2_with fail
        refine wp_region_plus (by kernel_rfl) (by kernel_rfl) ?_
        repeat (go_big_quiet_step (first | (go_at_call 11; exact calls_plus (ca _))))
        refine wpQuiet_nil ?_
        rintro _ ⟨x1, rfl⟩
        go_wp2_with fail
        refine bodyPost_ret (v := .bool true) (by simp [results, Try.results7, go_sem, ↓IntWalk.iteOmega]) rfl ⟨rfl, ?_⟩
        exact below_to_plus (by first | exact HW.out | exact below_drewN HW.out _) (by first | exact HW.out.size | (simp; exact HW.out.size)) _
      | some t =>
        obtain ⟨cs, a, z⟩ := t
        have hmt : matchTop L G s = some cs := by unfold matchTop; rw [hft]; rfl
        obtain ⟨cs2, hf2⟩ : ∃ cs2, firstTop L' G s 0 = some (cs2, a, z) := by
          rw [hft] at HSS
          cases hf2 : firstTop L' G s 0 with
          | none => rw [hf2] at HSS; cases HSS
          | some t =>
            obtain ⟨cs2, a2, z2⟩ := t
            rw [hf2] at HSS
            simp only [Option.map_some, Option.some.injEq, Prod.mk.injEq] at HSS
            obtain ⟨rfl, rfl⟩ := HSS
            exact ⟨cs2, rfl⟩
        have hmt2 : matchTop L' G s = some cs2 := by unfold matchTop; rw [hf2]; rfl
        rw [hmt] at cM1
        rw [hmt2] at cM2
        obtain ⟨e2, x0, x1⟩ := firstF_b HS1.out hg1 _ _ hft
        obtain ⟨f2, y0, y1⟩ := firstF_b HS2.out hg1 _ _ hf2
        have OFF : Aside ((2 ≤ cs.length ∧ cs.getD 0 0 = (a : Int) ∧ cs.getD 1 0 = (z : Int)) ∧ 2 ≤ cs2.length ∧ cs2.getD 0 0 = (a : Int) ∧ cs2.getD 1 0 = (z : Int)) := ⟨⟨e2, x0, x1⟩, f2, y0, y1⟩
        clear hmt hmt2 hft hf2 HSS e2 x0 x1 f2 y0 y1
        go_wp2_with fail
        refine (cM1).mono ?_
        rintro e w6 ⟨⟨v8, rfl, hrow⟩, hb⟩
        have HBn : Aside (Below w5.heap.size w5 w6) := Below.trans (by first | exact Below.refl _ _ | exact Below.alloc (Below.refl _ _) (Nat.le_refl _) _ | exact below_drewN (Below.refl _ _) _ | exact below_drewN (Below.alloc (Below.refl _ _) (Nat.le_refl _) _) _ | exact Below.alloc (Below.alloc (Below.refl _ _) (Nat.le_refl _) _) (by simp) _) (hb.mono (by first | exact Nat.le_refl _ | (simp; done) | (simp; omega)))
        have P1' : Aside (Prg L ao3 w6) := P1.out.later HBn.out
        have RB' : Aside (w6.heap[rb]? = some (.cells #[.slice ao3 L.length cap3, .int .i64 (G : Int)] 24 (0, 0))) := heap_later RB.out HBn.out
        have P2' : Aside (Prg L' ao4 w6) := P2.out.later HBn.out
        have RC' : Aside (w6.heap[rc]? = some (.cells #[.slice ao4 L'.length cap4, .int .i64 (G : Int)] 24 (0, 0))) := heap_later RC.out HBn.out
        have HW' : Aside (Below w.heap.size w w6) := HW.out.trans (HBn.out.mono HW.out.size)
        clear HW P1 RB P2 RC
        have P1 : Aside (Prg L ao3 w6) := P1'.out
        have RB : Aside (w6.heap[rb]? = some (.cells #[.slice ao3 L.length cap3, .int .i64 (G : Int)] 24 (0, 0))) := RB'.out
        have P2 : Aside (Prg L' ao4 w6) := P2'.out
        have RC : Aside (w6.heap[rc]? = some (.cells #[.slice ao4 L'.length cap4, .int .i64 (G : Int)] 24 (0, 0))) := RC'.out
        have HW : Aside (Below w.heap.size w w6) := HW'.out
        clear HW' HBn hb P1' RB' P2' RC'
        have V8 : Aside (Row 0 v8 cs w6) := hrow.lower (Nat.zero_le _)
        clear cM1 c0 c1 lrb hrow
        have e0 := cell_heap RC.out 0 _ rfl
        have e1 := cell_heap RC.out 1 _ rfl
        have lrc : rc < w6.heap.size := (Array.getElem?_eq_some_iff.1 RC.out).1
        go_wp2_with fail
        refine (cM2 _ P2.out).mono ?_
        rintro e w7 ⟨⟨v10, rfl, hrow⟩, hb⟩
        have HBn : Aside (Below w6.heap.size w6 w7) := Below.trans (by first | exact Below.refl _ _ | exact Below.alloc (Below.refl _ _) (Nat.le_refl _) _ | exact below_drewN (Below.refl _ _) _ | exact below_drewN (Below.alloc (Below.refl _ _) (Nat.le_refl _) _) _ | exact Below.alloc (Below.alloc (Below.refl _ _) (Nat.le_refl _) _) (by simp) _) (hb.mono (by first | exact Nat.le_refl _ | (simp; done) | (simp; omega)))
        have P1' : Aside (Prg L ao3 w7) := P1.out.later HBn.out
        have RB' : Aside (w7.heap[rb]? = some (.cells #[.slice ao3 L.length cap3, .int .i64 (G : Int)] 24 (0, 0))) := heap_later RB.out HBn.out
        have P2' : Aside (Prg L' ao4 w7) := P2.out.later HBn.out
        have RC' : Aside (w7.heap[rc]? = some (.cells #[.slice ao4 L'.length cap4, .int .i64 (G : Int)] 24 (0, 0))) := heap_later RC.out HBn.out
        have V8' : Aside (Row 0 v8 cs w7) := V8.out.later HBn.out
        have HW' : Aside (Below w.heap.size w w7) := HW.out.trans (HBn.out.mono HW.out.size)
        clear HW P1 RB P2 RC V8
        have P1 : Aside (Prg L ao3 w7) := P1'.out
        have RB : Aside (w7.heap[rb]? = some (.cells #[.slice ao3 L.length cap3, .int .i64 (G : Int)] 24 (0, 0))) := RB'.out
        have P2 : Aside (Prg L' ao4 w7) := P2'.out
        have RC : Aside (w7.heap[rc]? = some (.cells #[.slice ao4 L'.length cap4, .int .i64 (G : Int)] 24 (0, 0))) := RC'.out
        have V8 : Aside (Row 0 v8 cs w7) := V8'.out
        have HW : Aside (Below w.heap.size w w7) := HW'.out
        clear HW' HBn hb P1' RB' P2' RC' V8'
        have V10 : Aside (Row 0 v10 cs2 w7) := hrow.lower (Nat.zero_le _)
        clear cM2 e0 e1 lrc hrow
        obtain ⟨cb, cc, ev, hcb, hcells⟩ := V8.out.form
        obtain ⟨db, dc, ew, hdb, hdcells⟩ := V10.out.form
        subst ev ew
        have q0 : w7.cell? ⟨cb, 0, none⟩ = some (.int .i64 (a : Int)) := by have h := hcells 0 (by have := OFF.out.1.1; omega); rw [OFF.out.1.2.1] at h; exact h
        have q1 : w7.cell? ⟨cb, 1, none⟩ = some (.int .i64 (z : Int)) := by have h := hcells 1 (by have := OFF.out.1.1; omega); rw [OFF.out.1.2.2] at h; exact h
        have r0 : w7.cell? ⟨db, 0, none⟩ = some (.int .i64 (a : Int)) := by have h := hdcells 0 (by have := OFF.out.2.1; omega); rw [OFF.out.2.2.1] at h; exact h
        have r1 : w7.cell? ⟨db, 1, none⟩ = some (.int .i64 (z : Int)) := by have h := hdcells 1 (by have := OFF.out.2.1; omega); rw [OFF.out.2.2.2] at h; exact h
        have l0 : (0 : Int) < (cs.length : Int) := by have := OFF.out.1.1; omega
        have l1 : (1 : Int) < (cs.length : Int) := by have := OFF.out.1.1; omega
        have n0 : (0 : Int) < (cs2.length : Int) := by have := OFF.out.2.1; omega
        have n1 : (1 : Int) < (cs2.length : Int) := by have := OFF.out.2.1; omega
        have t0 : 0 < cs.length := by have := OFF.out.1.1; omega
        have t1 : 1 < cs.length := by have := OFF.out.1.1; omega
        have u0 : 0 < cs2.length := by have := OFF.out.2.1; omega
        have u1 : 1 < cs2.length := by have := OFF.out.2.1; omega
        clear hcells hdcells
        go_wp2_with fail
        refine wp_region_plus (by kernel_rfl) (by kernel_rfl) ?_
        repeat (go_big_quiet_step (first | (go_at_call 11; exact calls_plus (ca _))))
        refine wpQuiet_nil ?_
        rintro _ ⟨x1, rfl⟩
        go_wp2_with fail
        refine bodyPost_ret (v := .bool true) (by simp [results, Try.results7, go_sem, ↓IntWalk.iteOmega]) rfl ⟨rfl, ?_⟩
        exact below_to_plus (by first | exact HW.out | exact below_drewN HW.out _) (by first | exact HW.out.size | (simp; exact HW.out.size)) _

end Go.Proofs.Ytfhccmegobbnaaa
