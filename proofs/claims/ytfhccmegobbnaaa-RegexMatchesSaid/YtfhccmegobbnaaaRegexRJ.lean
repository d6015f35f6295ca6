/- This text opens a program that came in, and proves the walk of the statement RegexMatches. Conditions: those that each theorem names. -/
import Derived.Test.YtfhccmegobbnaaaRegexRI
import Derived.Test.YtfhccmegobbnaaaRegexRD
namespace Go.Proofs.Ytfhccmegobbnaaa
open Go.ChangeShapes Go.WideShapes Go.ChangeAt Go.RowKit
set_option linter.unusedVariables false
set_option linter.unusedSimpArgs false

theorem intLeaves : leavesOf Try.prog 5 3 = some [some (some .i64)] := by kernel_rfl
theorem one_int {H : Type} {enc : TypeId × Value → H} {w : World} {base : Nat} {spare : Nat → Bool} {held : Bool} {fuel : Nat} {l : List Value} {x : DataW H × List MemPlace} (h : DataW.trod enc Try.prog w base spare held fuel 3 l = some x) : ∃ n, l = [.int .i64 n] := by
  have h1 := leaves_of_trod 5 _ _ intLeaves _ _ _ h
  obtain ⟨a, r1, e1, ⟨n1, rfl, _⟩, h2⟩ := leavesOk_cons h1
  have e2 := leavesOk_nil h2
  exact ⟨n1, by rw [e1, e2]⟩
theorem list2 (l : List Value) (h : l.length = 2) : l = l.take 1 ++ (l.drop 1).take 1 := by
  match l, h with
  | [a, b], _ => rfl
theorem regex_open {H : Type} {enc : TypeId × Value → H} {w : World} {base : Nat} {held : Bool} {v : Value} {d : DataW H} {ps : List MemPlace} (hk : ∃ cs, v = .agg cs)
    (h : DataW.Trod enc Try.prog w base (fun _ => true) held 24 v d ps) : ∃ L ao cap g, v = .agg #[.slice ao (L : List In).length cap, .int .i64 g] ∧ Prg L ao w ∧ L.length ≤ 9223372036854775807 := by
  obtain ⟨cs, rfl⟩ := hk
  obtain ⟨fuel, hf⟩ := h
  obtain ⟨l⟩ := cs
  simp only [Value.cells] at hf
  have hc : Try.prog.cellsOf 24 = 2 := by kernel_rfl
  have hc1 : Try.prog.cellsOf 22 = 1 := by kernel_rfl
  have hc3 : Try.prog.cellsOf 3 = 1 := by kernel_rfl
  obtain ⟨hl, n0, y0, f0⟩ := trod_field Try.underlying24 hf 0 _ rfl
  obtain ⟨_, n1, y1, f1⟩ := trod_field Try.underlying24 hf 1 _ rfl
  have g0 : DataW.trod enc Try.prog w base (fun _ => true) held n0 22 (l.take 1) = some y0 := by rw [← hc1]; exact f0
  have g1 : DataW.trod enc Try.prog w base (fun _ => true) held n1 3 ((l.drop 1).take 1) = some y1 := by
    have h : DataW.trod enc Try.prog w base (fun _ => true) held n1 3 ((l.drop 1).take (Try.prog.cellsOf 3)) = some y1 := f1
    rw [hc3] at h
    exact h
  rw [hc] at hl
  obtain ⟨ao, n, cap, xs, e0, hsl, hlv⟩ := open_rows_l (k := 6) Try.underlying22 inLeaves (by kernel_rfl) (by omega) g0
  obtain ⟨g, e1⟩ := one_int g1
  obtain ⟨ys, rfl, hy⟩ := ins_of xs hlv
  have hn := Sl.lenE hsl
  refine ⟨ys, ao, cap, g, ?_, ⟨cellsIn hsl, fun x hx => (hy x hx).1⟩, Nat.le_trans (Nat.le_of_eq hn) (Nat.le_trans hsl.hcap hsl.hmax)⟩
  have := list2 l hl
  rw [e0, e1] at this
  rw [this, hn]
  rfl
def fewG (L : List In) (g : Int) (s : ByteArray) : Bool := decide (L.length ≤ 120) && decide (g ≤ 20) && decide (s.size ≤ 60)
set_option maxRecDepth 20000 in
set_option maxHeartbeats 64000000 in
theorem fewg_calls (L : List In) (ao : Option Addr) (cap : Nat) (g : Int) (s : ByteArray) (w : World) :
    Calls Try.prog 10 #[.agg #[.slice ao L.length cap, .int .i64 g], .string s] w fun e W => e = .returned (.bool (fewG L g s)) ∧ Below w.heap.size w W := by
  obtain ⟨m, hm⟩ : ∃ m, L.length = m := ⟨_, rfl⟩
  have EQ : fewG L g s = (decide (m ≤ 120) && decide (g ≤ 20) && decide (s.size ≤ 60)) := by rw [← hm]; rfl
  rw [EQ, hm]
  clear EQ hm
  by_cases h1 : m ≤ 120
  · have d1 : decide ((m : Int) ≤ (120 : Int)) = true := decide_eq_true (by omega)
    have z1 : (m : Int) ≤ (120 : Int) := by omega
    by_cases h2 : g ≤ 20
    · have d2 : decide (g ≤ (20 : Int)) = true := decide_eq_true h2
      by_cases h3 : s.size ≤ 60
      · have d3 : decide ((s.size : Int) ≤ (60 : Int)) = true := decide_eq_true (by omega)
        have z3 : (s.size : Int) ≤ (60 : Int) := by omega
        rw [decide_eq_true h1, decide_eq_true h3, d2]
        clear h1 h3
        go_enter Try.func10, Try.ntmps10
        go_wp2
        all_goals refine bodyPost_ret (v := .bool true) (by simp [results, Try.results10, go_sem, ↓IntWalk.iteOmega, *]) rfl ⟨rfl, Below.alloc (Below.refl _ _) (Nat.le_refl _) _⟩
      · have d3 : decide ((s.size : Int) ≤ (60 : Int)) = false := decide_eq_false (by omega)
        have z3 : ¬ (s.size : Int) ≤ (60 : Int) := by omega
        rw [decide_eq_true h1, decide_eq_false h3, d2]
        clear h1 h3
        go_enter Try.func10, Try.ntmps10
        go_wp2
        all_goals refine bodyPost_ret (v := .bool false) (by simp [results, Try.results10, go_sem, ↓IntWalk.iteOmega, *]) rfl ⟨rfl, Below.alloc (Below.refl _ _) (Nat.le_refl _) _⟩
    · have d2 : decide (g ≤ (20 : Int)) = false := decide_eq_false h2
      rw [decide_eq_true h1, d2]
      clear h1
      go_enter Try.func10, Try.ntmps10
      go_wp2
      all_goals refine bodyPost_ret (v := .bool false) (by simp [results, Try.results10, go_sem, ↓IntWalk.iteOmega, *]) rfl ⟨rfl, Below.alloc (Below.refl _ _) (Nat.le_refl _) _⟩
  · have d1 : decide ((m : Int) ≤ (120 : Int)) = false := decide_eq_false (by omega)
    have z1 : ¬ (m : Int) ≤ (120 : Int) := by omega
    rw [decide_eq_false h1]
    clear h1
    go_enter Try.func10, Try.ntmps10
    go_wp2
    all_goals refine bodyPost_ret (v := .bool false) (by simp [results, Try.results10, go_sem, ↓IntWalk.iteOmega, *]) rfl ⟨rfl, Below.alloc (Below.refl _ _) (Nat.le_refl _) _⟩

theorem matchTop_len {L : List In} {G : Nat} (hr : rightF L (G : Int) = true) {s : ByteArray} {cs : List Int} (h : matchTop L G s = some cs) : cs.length = 2 * G := by
  unfold matchTop at h
  cases hf : firstTop L G s 0 with
  | none => rw [hf] at h; cases h
  | some t =>
    obtain ⟨c, a, z⟩ := t
    rw [hf] at h
    injection h with h
    rw [← h]
    exact firstF_len hr _ _ hf
theorem wholeTop_len {L : List In} {G : Nat} (hr : rightF L (G : Int) = true) {s : ByteArray} {cs : List Int} (h : wholeTop L G s = some cs) : cs.length = 2 * G := by
  unfold wholeTop at h
  cases hf : runTop L G s 0 true with
  | none => rw [hf] at h; cases h
  | some t =>
    obtain ⟨c, a⟩ := t
    rw [hf] at h
    injection h with h
    rw [← h]
    exact runTop_len hr hf
/-- The two lists that the package and the reference return for one match are equal. -/
def Pair (va vb : Value) (r : Option (List Int)) (W : World) : Prop :=
  match r with
  | none => va = .slice none 0 0 ∧ ∃ a c, vb = .slice a 0 c
  | some cs => Row 0 va cs W ∧ Row 0 vb cs W
theorem Pair.later {va vb : Value} {r : Option (List Int)} {W W' : World} (h : Pair va vb r W) (hb : Below W.heap.size W W') : Pair va vb r W' := by
  unfold Pair at h ⊢
  split at h
  · exact h
  · exact ⟨h.1.later hb, h.2.later hb⟩
theorem ints_pair (va vb : Value) (r : Option (List Int)) (w : World) (h : Pair va vb r w) (hl : ∀ cs, r = some cs → cs.length ≤ 1000000) :
    Calls Try.prog 14 #[va, vb] w fun e W => e = .returned (.bool true) ∧ Below w.heap.size w W := by
  cases r with
  | none =>
    obtain ⟨rfl, a, c, rfl⟩ := h
    exact ints_none a c w
  | some cs => exact ints_calls va vb cs w (.inr h.1) (.inr h.2) (hl cs rfl)

/-- What the package returns for a match. -/
def Left (va : Value) (r : Option (List Int)) (W : World) : Prop :=
  match r with
  | none => va = .slice none 0 0
  | some cs => Row 0 va cs W
theorem match_pairs {w W : World} {r : Option (List Int)} {e : Ending} (h : MatchPost w r e W) : ∃ v, e = .returned (.tuple #[v, .bool r.isSome]) ∧ Left v r W ∧ Below w.heap.size w W := by
  obtain ⟨h1, h2⟩ := h
  cases r with
  | none => exact ⟨_, h1, rfl, h2⟩
  | some cs =>
    obtain ⟨v, he, hr⟩ := h1
    exact ⟨v, he, hr.lower (Nat.zero_le _), h2⟩
theorem rmatch_pairs {w W W0 : World} {r : Option (List Int)} {e : Ending} {va : Value} (h : RMPost w r e W) (ha : Left va r W0) (hb0 : Below W0.heap.size W0 w) : ∃ v, e = .returned (.tuple #[v, .bool r.isSome]) ∧ Pair va v r W ∧ Below w.heap.size w W := by
  obtain ⟨v, ok, he, hr, hb⟩ := h
  cases r with
  | none =>
    obtain ⟨⟨a, c, rfl⟩, rfl⟩ := hr
    exact ⟨_, he, ⟨ha, a, c, rfl⟩, hb⟩
  | some cs =>
    obtain ⟨hr, rfl⟩ := hr
    exact ⟨v, he, ⟨(ha.later hb0).later hb, hr.lower (Nat.zero_le _)⟩, hb⟩

set_option maxRecDepth 20000 in
set_option maxHeartbeats 64000000 in
theorem lawMatches_calls (L : List In) (ao : Option Addr) (cap : Nat) (g : Int) (s : ByteArray) (w : World) (hpr : Prg L ao w) (hl : L.length ≤ 9223372036854775807) :
    Calls Try.prog 8 #[.agg #[.slice ao L.length cap, .int .i64 g], .string s] w fun e W => e = .returned (.bool true) ∧ Below w.heap.size w W := by
  have HW : Aside (Below w.heap.size w w) := Below.refl _ _
  have P1 : Aside (Prg L ao w) := hpr
  obtain ⟨rb, hrb⟩ : ∃ b, w.heap.size = b := ⟨_, rfl⟩
  have RB0 : Aside ((w.alloc (.cells #[.slice ao L.length cap, .int .i64 g] 24)).heap[rb]? = some (.cells #[.slice ao L.length cap, .int .i64 g] 24 (0, 0))) := hp_new hrb.symm
  clear hpr
  have cw := fun W => fewg_calls L ao cap g s W
  cases hf : fewG L g s with
  | false =>
    rw [hf] at cw
    clear RB0 hf
    go_enter Try.func8, Try.ntmps8
    go_wp2_with fail
    refine (cw _).mono ?_
    rintro e w1 ⟨rfl, hb⟩
    have HBn : Aside (Below w.heap.size w w1) := Below.trans (by first | exact Below.refl _ _ | exact Below.alloc (Below.refl _ _) (Nat.le_refl _) _ | exact below_drewN (Below.refl _ _) _ | exact below_drewN (Below.alloc (Below.refl _ _) (Nat.le_refl _) _) _ | exact Below.alloc (Below.alloc (Below.refl _ _) (Nat.le_refl _) _) (by simp) _) (hb.mono (by first | exact Nat.le_refl _ | (simp; done) | (simp; omega)))
    have P1' : Aside (Prg L ao w1) := P1.out.later HBn.out
    have HW' : Aside (Below w.heap.size w w1) := HW.out.trans (HBn.out.mono HW.out.size)
    clear HW P1
    have P1 : Aside (Prg L ao w1) := P1'.out
    have HW : Aside (Below w.heap.size w w1) := HW'.out
    clear HW' HBn hb P1'
    clear cw
    go_wp2_with fail
    refine (alive_calls _).mono ?_
    rintro e w2 ⟨rfl, hb⟩
    have HBn : Aside (Below w1.heap.size w1 w2) := Below.trans (by first | exact Below.refl _ _ | exact Below.alloc (Below.refl _ _) (Nat.le_refl _) _ | exact below_drewN (Below.refl _ _) _ | exact below_drewN (Below.alloc (Below.refl _ _) (Nat.le_refl _) _) _ | exact Below.alloc (Below.alloc (Below.refl _ _) (Nat.le_refl _) _) (by simp) _) (hb.mono (by first | exact Nat.le_refl _ | (simp; done) | (simp; omega)))
    have P1' : Aside (Prg L ao w2) := P1.out.later HBn.out
    have HW' : Aside (Below w.heap.size w w2) := HW.out.trans (HBn.out.mono HW.out.size)
    clear HW P1
    have P1 : Aside (Prg L ao w2) := P1'.out
    have HW : Aside (Below w.heap.size w w2) := HW'.out
    clear HW' HBn hb P1'
    go_wp2_with fail
    refine bodyPost_ret (v := .bool true) (by simp [results, Try.results8, go_sem, ↓IntWalk.iteOmega]) rfl ⟨rfl, HW.out⟩
  | true =>
    rw [hf] at cw
    have hs : s.size ≤ 60 := by unfold fewG at hf; simp at hf; exact hf.2
    clear hf
    go_enter Try.func8, Try.ntmps8
    go_wp2_with fail
    refine (cw _).mono ?_
    rintro e w1 ⟨rfl, hb⟩
    have RB : Aside (w1.heap[rb]? = some (.cells #[.slice ao L.length cap, .int .i64 g] 24 (0, 0))) := heap_later RB0.out hb
    have HBn : Aside (Below w.heap.size w w1) := Below.trans (by first | exact Below.refl _ _ | exact Below.alloc (Below.refl _ _) (Nat.le_refl _) _ | exact below_drewN (Below.refl _ _) _ | exact below_drewN (Below.alloc (Below.refl _ _) (Nat.le_refl _) _) _ | exact Below.alloc (Below.alloc (Below.refl _ _) (Nat.le_refl _) _) (by simp) _) (hb.mono (by first | exact Nat.le_refl _ | (simp; done) | (simp; omega)))
    have P1' : Aside (Prg L ao w1) := P1.out.later HBn.out
    have HW' : Aside (Below w.heap.size w w1) := HW.out.trans (HBn.out.mono HW.out.size)
    clear HW P1
    have P1 : Aside (Prg L ao w1) := P1'.out
    have HW : Aside (Below w.heap.size w w1) := HW'.out
    clear HW' HBn hb P1'
    clear RB0 cw
    have c0 := cell_heap RB.out 0 _ rfl
    have c1 := cell_heap RB.out 1 _ rfl
    have lrb : rb < w1.heap.size := (Array.getElem?_eq_some_iff.1 RB.out).1
    have cr := rright_calls L ao cap g w1 P1.out hl
    have cR := fun W h => right_calls L ao cap g W h hl
    cases hr : rightF L g with
    | false =>
      rw [hr] at cr cR
      go_wp2_with fail
      refine (cr).mono ?_
      rintro e w2 ⟨rfl, hb⟩
      have HBn : Aside (Below w1.heap.size w1 w2) := Below.trans (by first | exact Below.refl _ _ | exact Below.alloc (Below.refl _ _) (Nat.le_refl _) _ | exact below_drewN (Below.refl _ _) _ | exact below_drewN (Below.alloc (Below.refl _ _) (Nat.le_refl _) _) _ | exact Below.alloc (Below.alloc (Below.refl _ _) (Nat.le_refl _) _) (by simp) _) (hb.mono (by first | exact Nat.le_refl _ | (simp; done) | (simp; omega)))
      have P1' : Aside (Prg L ao w2) := P1.out.later HBn.out
      have RB' : Aside (w2.heap[rb]? = some (.cells #[.slice ao L.length cap, .int .i64 g] 24 (0, 0))) := heap_later RB.out HBn.out
      have HW' : Aside (Below w.heap.size w w2) := HW.out.trans (HBn.out.mono HW.out.size)
      clear HW P1 RB
      have P1 : Aside (Prg L ao w2) := P1'.out
      have RB : Aside (w2.heap[rb]? = some (.cells #[.slice ao L.length cap, .int .i64 g] 24 (0, 0))) := RB'.out
      have HW : Aside (Below w.heap.size w w2) := HW'.out
      clear HW' HBn hb P1' RB'
      clear cr c0 c1 lrb
      have c0 := cell_heap RB.out 0 _ rfl
      have c1 := cell_heap RB.out 1 _ rfl
      have lrb : rb < w2.heap.size := (Array.getElem?_eq_some_iff.1 RB.out).1
      have cR2 := cR w2 P1.out
      clear cR
      go_wp2_with fail
      refine (cR2).mono ?_
      rintro e w3 ⟨rfl, hb⟩
      have HBn : Aside (Below w2.heap.size w2 w3) := Below.trans (by first | exact Below.refl _ _ | exact Below.alloc (Below.refl _ _) (Nat.le_refl _) _ | exact below_drewN (Below.refl _ _) _ | exact below_drewN (Below.alloc (Below.refl _ _) (Nat.le_refl _) _) _ | exact Below.alloc (Below.alloc (Below.refl _ _) (Nat.le_refl _) _) (by simp) _) (hb.mono (by first | exact Nat.le_refl _ | (simp; done) | (simp; omega)))
      have P1' : Aside (Prg L ao w3) := P1.out.later HBn.out
      have RB' : Aside (w3.heap[rb]? = some (.cells #[.slice ao L.length cap, .int .i64 g] 24 (0, 0))) := heap_later RB.out HBn.out
      have HW' : Aside (Below w.heap.size w w3) := HW.out.trans (HBn.out.mono HW.out.size)
      clear HW P1 RB
      have P1 : Aside (Prg L ao w3) := P1'.out
      have RB : Aside (w3.heap[rb]? = some (.cells #[.slice ao L.length cap, .int .i64 g] 24 (0, 0))) := RB'.out
      have HW : Aside (Below w.heap.size w w3) := HW'.out
      clear HW' HBn hb P1' RB'
      clear cR2 c0 c1 lrb
      go_wp2_with fail
      refine (alive_calls _).mono ?_
      rintro e w4 ⟨rfl, hb⟩
      have HBn : Aside (Below w3.heap.size w3 w4) := Below.trans (by first | exact Below.refl _ _ | exact Below.alloc (Below.refl _ _) (Nat.le_refl _) _ | exact below_drewN (Below.refl _ _) _ | exact below_drewN (Below.alloc (Below.refl _ _) (Nat.le_refl _) _) _ | exact Below.alloc (Below.alloc (Below.refl _ _) (Nat.le_refl _) _) (by simp) _) (hb.mono (by first | exact Nat.le_refl _ | (simp; done) | (simp; omega)))
      have P1' : Aside (Prg L ao w4) := P1.out.later HBn.out
      have RB' : Aside (w4.heap[rb]? = some (.cells #[.slice ao L.length cap, .int .i64 g] 24 (0, 0))) := heap_later RB.out HBn.out
      have HW' : Aside (Below w.heap.size w w4) := HW.out.trans (HBn.out.mono HW.out.size)
      clear HW P1 RB
      have P1 : Aside (Prg L ao w4) := P1'.out
      have RB : Aside (w4.heap[rb]? = some (.cells #[.slice ao L.length cap, .int .i64 g] 24 (0, 0))) := RB'.out
      have HW : Aside (Below w.heap.size w w4) := HW'.out
      clear HW' HBn hb P1' RB'
      go_wp2_with fail
      refine bodyPost_ret (v := .bool true) (by simp [results, Try.results8, go_sem, ↓IntWalk.iteOmega]) rfl ⟨rfl, HW.out⟩
    | true =>
      rw [hr] at cr cR
      have HR9 : Aside (rightF L g = true) := hr
      obtain ⟨q1, q2, -⟩ := right_parts hr
      clear hr
      obtain ⟨G, hG⟩ : ∃ G : Nat, g = (G : Int) := ⟨g.toNat, by omega⟩
      subst hG
      have HR : Aside (rightF L (G : Int) = true) := HR9.out
      clear HR9
      go_wp2_with fail
      refine (cr).mono ?_
      rintro e w2 ⟨rfl, hb⟩
      have HBn : Aside (Below w1.heap.size w1 w2) := Below.trans (by first | exact Below.refl _ _ | exact Below.alloc (Below.refl _ _) (Nat.le_refl _) _ | exact below_drewN (Below.refl _ _) _ | exact below_drewN (Below.alloc (Below.refl _ _) (Nat.le_refl _) _) _ | exact Below.alloc (Below.alloc (Below.refl _ _) (Nat.le_refl _) _) (by simp) _) (hb.mono (by first | exact Nat.le_refl _ | (simp; done) | (simp; omega)))
      have P1' : Aside (Prg L ao w2) := P1.out.later HBn.out
      have RB' : Aside (w2.heap[rb]? = some (.cells #[.slice ao L.length cap, .int .i64 (G : Int)] 24 (0, 0))) := heap_later RB.out HBn.out
      have HW' : Aside (Below w.heap.size w w2) := HW.out.trans (HBn.out.mono HW.out.size)
      clear HW P1 RB
      have P1 : Aside (Prg L ao w2) := P1'.out
      have RB : Aside (w2.heap[rb]? = some (.cells #[.slice ao L.length cap, .int .i64 (G : Int)] 24 (0, 0))) := RB'.out
      have HW : Aside (Below w.heap.size w w2) := HW'.out
      clear HW' HBn hb P1' RB'
      clear cr c0 c1 lrb
      have c0 := cell_heap RB.out 0 _ rfl
      have c1 := cell_heap RB.out 1 _ rfl
      have lrb : rb < w2.heap.size := (Array.getElem?_eq_some_iff.1 RB.out).1
      have cm := match_calls L ao cap G s w2 ⟨P1.out, HR.out, by omega⟩
      obtain ⟨rm, hrm⟩ : ∃ r, matchTop L G s = r := ⟨_, rfl⟩
      have LNm : Aside (∀ cs, rm = some cs → cs.length ≤ 1000000) := fun cs h => by have := matchTop_len HR.out (hrm.trans h); omega
      rw [hrm] at cm
      go_wp2_with fail
      refine cm.mono ?_
      intro e w3 hm
      obtain ⟨vam, rfl, hv, hb⟩ := match_pairs hm
      have HBn : Aside (Below w2.heap.size w2 w3) := Below.trans (by first | exact Below.refl _ _ | exact Below.alloc (Below.refl _ _) (Nat.le_refl _) _ | exact below_drewN (Below.refl _ _) _ | exact below_drewN (Below.alloc (Below.refl _ _) (Nat.le_refl _) _) _ | exact Below.alloc (Below.alloc (Below.refl _ _) (Nat.le_refl _) _) (by simp) _) (hb.mono (by first | exact Nat.le_refl _ | (simp; done) | (simp; omega)))
      have P1' : Aside (Prg L ao w3) := P1.out.later HBn.out
      have RB' : Aside (w3.heap[rb]? = some (.cells #[.slice ao L.length cap, .int .i64 (G : Int)] 24 (0, 0))) := heap_later RB.out HBn.out
      have HW' : Aside (Below w.heap.size w w3) := HW.out.trans (HBn.out.mono HW.out.size)
      clear HW P1 RB
      have P1 : Aside (Prg L ao w3) := P1'.out
      have RB : Aside (w3.heap[rb]? = some (.cells #[.slice ao L.length cap, .int .i64 (G : Int)] 24 (0, 0))) := RB'.out
      have HW : Aside (Below w.heap.size w w3) := HW'.out
      clear HW' HBn hb P1' RB'
      have VA : Aside (Left vam rm w3) := hv
      clear cm hm hv c0 c1 lrb
      have c0 := cell_heap RB.out 0 _ rfl
      have c1 := cell_heap RB.out 1 _ rfl
      have lrb : rb < w3.heap.size := (Array.getElem?_eq_some_iff.1 RB.out).1
      have cm := rmatch_calls L ao cap G s w3 ⟨P1.out, HR.out, by omega⟩
      rw [hrm] at cm
      go_wp2_with fail
      refine cm.mono ?_
      intro e w4 hm
      obtain ⟨vbm, rfl, hv, hb⟩ := rmatch_pairs hm VA.out (Below.refl _ _)
      have HBn : Aside (Below w3.heap.size w3 w4) := Below.trans (by first | exact Below.refl _ _ | exact Below.alloc (Below.refl _ _) (Nat.le_refl _) _ | exact below_drewN (Below.refl _ _) _ | exact below_drewN (Below.alloc (Below.refl _ _) (Nat.le_refl _) _) _ | exact Below.alloc (Below.alloc (Below.refl _ _) (Nat.le_refl _) _) (by simp) _) (hb.mono (by first | exact Nat.le_refl _ | (simp; done) | (simp; omega)))
      have P1' : Aside (Prg L ao w4) := P1.out.later HBn.out
      have RB' : Aside (w4.heap[rb]? = some (.cells #[.slice ao L.length cap, .int .i64 (G : Int)] 24 (0, 0))) := heap_later RB.out HBn.out
      have HW' : Aside (Below w.heap.size w w4) := HW.out.trans (HBn.out.mono HW.out.size)
      clear HW P1 RB
      have P1 : Aside (Prg L ao w4) := P1'.out
      have RB : Aside (w4.heap[rb]? = some (.cells #[.slice ao L.length cap, .int .i64 (G : Int)] 24 (0, 0))) := RB'.out
      have HW : Aside (Below w.heap.size w w4) := HW'.out
      clear HW' HBn hb P1' RB'
      have PRm : Aside (Pair vam vbm rm w4) := hv
      clear cm hm hv VA hrm c0 c1 lrb
      have c0 := cell_heap RB.out 0 _ rfl
      have c1 := cell_heap RB.out 1 _ rfl
      have lrb : rb < w4.heap.size := (Array.getElem?_eq_some_iff.1 RB.out).1
      have cm := whole_calls L ao cap G s w4 ⟨P1.out, HR.out, by omega⟩
      obtain ⟨rh, hrh⟩ : ∃ r, wholeTop L G s = r := ⟨_, rfl⟩
      have LNh : Aside (∀ cs, rh = some cs → cs.length ≤ 1000000) := fun cs h => by have := wholeTop_len HR.out (hrh.trans h); omega
      rw [hrh] at cm
      go_wp2_with fail
      refine cm.mono ?_
      intro e w5 hm
      obtain ⟨vah, rfl, hv, hb⟩ := match_pairs hm
      have HBn : Aside (Below w4.heap.size w4 w5) := Below.trans (by first | exact Below.refl _ _ | exact Below.alloc (Below.refl _ _) (Nat.le_refl _) _ | exact below_drewN (Below.refl _ _) _ | exact below_drewN (Below.alloc (Below.refl _ _) (Nat.le_refl _) _) _ | exact Below.alloc (Below.alloc (Below.refl _ _) (Nat.le_refl _) _) (by simp) _) (hb.mono (by first | exact Nat.le_refl _ | (simp; done) | (simp; omega)))
      have P1' : Aside (Prg L ao w5) := P1.out.later HBn.out
      have RB' : Aside (w5.heap[rb]? = some (.cells #[.slice ao L.length cap, .int .i64 (G : Int)] 24 (0, 0))) := heap_later RB.out HBn.out
      have PRm' : Aside (Pair vam vbm rm w5) := PRm.out.later HBn.out
      have HW' : Aside (Below w.heap.size w w5) := HW.out.trans (HBn.out.mono HW.out.size)
      clear HW P1 RB PRm
      have P1 : Aside (Prg L ao w5) := P1'.out
      have RB : Aside (w5.heap[rb]? = some (.cells #[.slice ao L.length cap, .int .i64 (G : Int)] 24 (0, 0))) := RB'.out
      have PRm : Aside (Pair vam vbm rm w5) := PRm'.out
      have HW : Aside (Below w.heap.size w w5) := HW'.out
      clear HW' HBn hb P1' RB' PRm'
      have VA : Aside (Left vah rh w5) := hv
      clear cm hm hv c0 c1 lrb
      have c0 := cell_heap RB.out 0 _ rfl
      have c1 := cell_heap RB.out 1 _ rfl
      have lrb : rb < w5.heap.size := (Array.getElem?_eq_some_iff.1 RB.out).1
      have cm := rwhole_calls L ao cap G s w5 ⟨P1.out, HR.out, by omega⟩
      rw [hrh] at cm
      go_wp2_with fail
      refine cm.mono ?_
      intro e w6 hm
      obtain ⟨vbh, rfl, hv, hb⟩ := rmatch_pairs hm VA.out (Below.refl _ _)
      have HBn : Aside (Below w5.heap.size w5 w6) := Below.trans (by first | exact Below.refl _ _ | exact Below.alloc (Below.refl _ _) (Nat.le_refl _) _ | exact below_drewN (Below.refl _ _) _ | exact below_drewN (Below.alloc (Below.refl _ _) (Nat.le_refl _) _) _ | exact Below.alloc (Below.alloc (Below.refl _ _) (Nat.le_refl _) _) (by simp) _) (hb.mono (by first | exact Nat.le_refl _ | (simp; done) | (simp; omega)))
      have P1' : Aside (Prg L ao w6) := P1.out.later HBn.out
      have RB' : Aside (w6.heap[rb]? = some (.cells #[.slice ao L.length cap, .int .i64 (G : Int)] 24 (0, 0))) := heap_later RB.out HBn.out
      have PRm' : Aside (Pair vam vbm rm w6) := PRm.out.later HBn.out
      have HW' : Aside (Below w.heap.size w w6) := HW.out.trans (HBn.out.mono HW.out.size)
      clear HW P1 RB PRm
      have P1 : Aside (Prg L ao w6) := P1'.out
      have RB : Aside (w6.heap[rb]? = some (.cells #[.slice ao L.length cap, .int .i64 (G : Int)] 24 (0, 0))) := RB'.out
      have PRm : Aside (Pair vam vbm rm w6) := PRm'.out
      have HW : Aside (Below w.heap.size w w6) := HW'.out
      clear HW' HBn hb P1' RB' PRm'
      have PRh : Aside (Pair vah vbh rh w6) := hv
      clear cm hm hv VA hrh c0 c1 lrb
      have c0 := cell_heap RB.out 0 _ rfl
      have c1 := cell_heap RB.out 1 _ rfl
      have lrb : rb < w6.heap.size := (Array.getElem?_eq_some_iff.1 RB.out).1
      have cR2 := cR w6 P1.out
      clear cR
      go_wp2_with fail
      refine (cR2).mono ?_
      rintro e w7 ⟨rfl, hb⟩
      have HBn : Aside (Below w6.heap.size w6 w7) := Below.trans (by first | exact Below.refl _ _ | exact Below.alloc (Below.refl _ _) (Nat.le_refl _) _ | exact below_drewN (Below.refl _ _) _ | exact below_drewN (Below.alloc (Below.refl _ _) (Nat.le_refl _) _) _ | exact Below.alloc (Below.alloc (Below.refl _ _) (Nat.le_refl _) _) (by simp) _) (hb.mono (by first | exact Nat.le_refl _ | (simp; done) | (simp; omega)))
      have P1' : Aside (Prg L ao w7) := P1.out.later HBn.out
      have RB' : Aside (w7.heap[rb]? = some (.cells #[.slice ao L.length cap, .int .i64 (G : Int)] 24 (0, 0))) := heap_later RB.out HBn.out
      have PRm' : Aside (Pair vam vbm rm w7) := PRm.out.later HBn.out
      have PRh' : Aside (Pair vah vbh rh w7) := PRh.out.later HBn.out
      have HW' : Aside (Below w.heap.size w w7) := HW.out.trans (HBn.out.mono HW.out.size)
      clear HW P1 RB PRm PRh
      have P1 : Aside (Prg L ao w7) := P1'.out
      have RB : Aside (w7.heap[rb]? = some (.cells #[.slice ao L.length cap, .int .i64 (G : Int)] 24 (0, 0))) := RB'.out
      have PRm : Aside (Pair vam vbm rm w7) := PRm'.out
      have PRh : Aside (Pair vah vbh rh w7) := PRh'.out
      have HW : Aside (Below w.heap.size w w7) := HW'.out
      clear HW' HBn hb P1' RB' PRm' PRh'
      clear cR2 c0 c1 lrb
      have ci := ints_pair vam vbm rm w7 PRm.out LNm.out
      go_wp2_with fail
      refine (ci).mono ?_
      rintro e w8 ⟨rfl, hb⟩
      have HBn : Aside (Below w7.heap.size w7 w8) := Below.trans (by first | exact Below.refl _ _ | exact Below.alloc (Below.refl _ _) (Nat.le_refl _) _ | exact below_drewN (Below.refl _ _) _ | exact below_drewN (Below.alloc (Below.refl _ _) (Nat.le_refl _) _) _ | exact Below.alloc (Below.alloc (Below.refl _ _) (Nat.le_refl _) _) (by simp) _) (hb.mono (by first | exact Nat.le_refl _ | (simp; done) | (simp; omega)))
      have P1' : Aside (Prg L ao w8) := P1.out.later HBn.out
      have RB' : Aside (w8.heap[rb]? = some (.cells #[.slice ao L.length cap, .int .i64 (G : Int)] 24 (0, 0))) := heap_later RB.out HBn.out
      have PRm' : Aside (Pair vam vbm rm w8) := PRm.out.later HBn.out
      have PRh' : Aside (Pair vah vbh rh w8) := PRh.out.later HBn.out
      have HW' : Aside (Below w.heap.size w w8) := HW.out.trans (HBn.out.mono HW.out.size)
      clear HW P1 RB PRm PRh
      have P1 : Aside (Prg L ao w8) := P1'.out
      have RB : Aside (w8.heap[rb]? = some (.cells #[.slice ao L.length cap, .int .i64 (G : Int)] 24 (0, 0))) := RB'.out
      have PRm : Aside (Pair vam vbm rm w8) := PRm'.out
      have PRh : Aside (Pair vah vbh rh w8) := PRh'.out
      have HW : Aside (Below w.heap.size w w8) := HW'.out
      clear HW' HBn hb P1' RB' PRm' PRh'
      clear ci
      have eo : (rm.isSome == rm.isSome) = true := by simp
      have ci := ints_pair vah vbh rh w8 PRh.out LNh.out
      go_wp2_with fail
      refine (ci).mono ?_
      rintro e w9 ⟨rfl, hb⟩
      have HBn : Aside (Below w8.heap.size w8 w9) := Below.trans (by first | exact Below.refl _ _ | exact Below.alloc (Below.refl _ _) (Nat.le_refl _) _ | exact below_drewN (Below.refl _ _) _ | exact below_drewN (Below.alloc (Below.refl _ _) (Nat.le_refl _) _) _ | exact Below.alloc (Below.alloc (Below.refl _ _) (Nat.le_refl _) _) (by simp) _) (hb.mono (by first | exact Nat.le_refl _ | (simp; done) | (simp; omega)))
      have P1' : Aside (Prg L ao w9) := P1.out.later HBn.out
      have RB' : Aside (w9.heap[rb]? = some (.cells #[.slice ao L.length cap, .int .i64 (G : Int)] 24 (0, 0))) := heap_later RB.out HBn.out
      have PRm' : Aside (Pair vam vbm rm w9) := PRm.out.later HBn.out
      have PRh' : Aside (Pair vah vbh rh w9) := PRh.out.later HBn.out
      have HW' : Aside (Below w.heap.size w w9) := HW.out.trans (HBn.out.mono HW.out.size)
      clear HW P1 RB PRm PRh
      have P1 : Aside (Prg L ao w9) := P1'.out
      have RB : Aside (w9.heap[rb]? = some (.cells #[.slice ao L.length cap, .int .i64 (G : Int)] 24 (0, 0))) := RB'.out
      have PRm : Aside (Pair vam vbm rm w9) := PRm'.out
      have PRh : Aside (Pair vah vbh rh w9) := PRh'.out
      have HW : Aside (Below w.heap.size w w9) := HW'.out
      clear HW' HBn hb P1' RB' PRm' PRh'
      clear ci
      have eo2 : (rh.isSome == rh.isSome) = true := by simp
      go_wp2_with fail
      refine (alive_calls _).mono ?_
      rintro e w10 ⟨rfl, hb⟩
      have HBn : Aside (Below w9.heap.size w9 w10) := Below.trans (by first | exact Below.refl _ _ | exact Below.alloc (Below.refl _ _) (Nat.le_refl _) _ | exact below_drewN (Below.refl _ _) _ | exact below_drewN (Below.alloc (Below.refl _ _) (Nat.le_refl _) _) _ | exact Below.alloc (Below.alloc (Below.refl _ _) (Nat.le_refl _) _) (by simp) _) (hb.mono (by first | exact Nat.le_refl _ | (simp; done) | (simp; omega)))
      have P1' : Aside (Prg L ao w10) := P1.out.later HBn.out
      have RB' : Aside (w10.heap[rb]? = some (.cells #[.slice ao L.length cap, .int .i64 (G : Int)] 24 (0, 0))) := heap_later RB.out HBn.out
      have PRm' : Aside (Pair vam vbm rm w10) := PRm.out.later HBn.out
      have PRh' : Aside (Pair vah vbh rh w10) := PRh.out.later HBn.out
      have HW' : Aside (Below w.heap.size w w10) := HW.out.trans (HBn.out.mono HW.out.size)
      clear HW P1 RB PRm PRh
      have P1 : Aside (Prg L ao w10) := P1'.out
      have RB : Aside (w10.heap[rb]? = some (.cells #[.slice ao L.length cap, .int .i64 (G : Int)] 24 (0, 0))) := RB'.out
      have PRm : Aside (Pair vam vbm rm w10) := PRm'.out
      have PRh : Aside (Pair vah vbh rh w10) := PRh'.out
      have HW : Aside (Below w.heap.size w w10) := HW'.out
      clear HW' HBn hb P1' RB' PRm' PRh'
      go_wp2_with fail
      refine bodyPost_ret (v := .bool true) (by simp [results, Try.results8, go_sem, ↓IntWalk.iteOmega]) rfl ⟨rfl, HW.out⟩

end Go.Proofs.Ytfhccmegobbnaaa
