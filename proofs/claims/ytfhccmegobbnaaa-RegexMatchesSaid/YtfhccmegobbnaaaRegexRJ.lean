/- This text proves the walks of after, Match and Whole of the reference. Conditions: those that each theorem names. This text opens a program that came in, and proves the walk of the statement RegexMatches. Conditions: those that each theorem names. -/
import Derived.Test.YtfhccmegobbnaaaRegexRH
import Derived.Deep.AppendLies
import Derived.Test.YtfhccmegobbnaaaRegexRD
namespace Go.Proofs.Ytfhccmegobbnaaa
open Go.ChangeShapes Go.WideShapes Go.ChangeAt Go.RowKit
set_option linter.unusedVariables false
set_option linter.unusedSimpArgs false

/-- A match from a position on in memory, as the reference has it. -/
def FA (B : Nat) (r : Option (List Int × Nat × Nat)) (v : Value) (b1 b2 : Int) (b3 : Bool) (W : World) : Prop :=
  match r with
  | none => v = .slice none 0 0 ∧ b1 = 0 ∧ b2 = 0 ∧ b3 = false
  | some (cs, a, e) => Row B v cs W ∧ b1 = (a : Int) ∧ b2 = (e : Int) ∧ b3 = true
theorem FA.later {B : Nat} {r : Option (List Int × Nat × Nat)} {v : Value} {b1 b2 : Int} {b3 : Bool} {W W' : World} (h : FA B r v b1 b2 b3 W) (hb : Below W.heap.size W W') : FA B r v b1 b2 b3 W' := by
  unfold FA at h ⊢
  split at h
  · exact h
  · exact ⟨h.1.later hb, h.2⟩
theorem FA.form {B : Nat} {r : Option (List Int × Nat × Nat)} {v : Value} {b1 b2 : Int} {b3 : Bool} {W : World} (h : FA B r v b1 b2 b3 W) : ∃ a n c, v = .slice a n c := by
  unfold FA at h
  split at h
  · exact ⟨_, _, _, h.1⟩
  · obtain ⟨b, c, e, _⟩ := h.1.form
    exact ⟨_, _, _, e⟩
/-- What after leaves. -/
def AfterPost (w : World) (r : Option (List Int × Nat × Nat)) (e : Ending) (W : World) : Prop :=
  ∃ va vn vc b1 b2 b3, e = .returned (.agg #[.slice va vn vc, .int .i64 b1, .int .i64 b2, .bool b3]) ∧ FA w.heap.size r (.slice va vn vc) b1 b2 b3 W ∧ Below w.heap.size w W
set_option maxRecDepth 20000 in
set_option maxHeartbeats 64000000 in
theorem rafter_calls (L : List In) (ao : Option Addr) (cap g : Nat) (s : ByteArray) (p : Nat) (w : World) (E : AEnv w L ao (g : Int) s) (hp : p ≤ s.size) :
    Calls Try.prog 35 #[.agg #[.slice ao L.length cap, .int .i64 (g : Int)], .string s, .int .i64 (p : Int)] w (AfterPost w (firstTop L g s p)) := by
  obtain ⟨R, hR⟩ : ∃ R, firstTop L g s p = R := ⟨_, rfl⟩
  rw [hR]
  have HR : Aside (firstF (s.size + 1 - p) L g s p = R) := hR
  have HE : Aside (AEnv w L ao (g : Int) s) := E
  have hs := E.hs
  obtain ⟨n, hln⟩ : ∃ n, L.length = n := ⟨_, rfl⟩
  have HN : Aside (L.length = n) := hln
  obtain ⟨Q, hQ⟩ : ∃ Q : Ending → World → Prop, AfterPost w R = Q := ⟨_, rfl⟩
  rw [hQ]
  have HQ : Aside (∀ va vn vc b1 b2 b3 W, FA w.heap.size R (.slice va vn vc) b1 b2 b3 W → Below w.heap.size w W → Q (.returned (.agg #[.slice va vn vc, .int .i64 b1, .int .i64 b2, .bool b3])) W) := fun va vn vc b1 b2 b3 W h1 h2 => by rw [← hQ]; exact ⟨_, _, _, _, _, _, rfl, h1, h2⟩
  have Q3 : Aside (((w.alloc (.cells #[.slice ao n cap, .int .i64 (g : Int)] 24)).alloc (.cells #[.slice none 0 0, .int .i64 0, .int .i64 0, .bool false] 65)).heap[w.heap.size]? = some (.cells #[.slice ao n cap, .int .i64 (g : Int)] 24 (0, 0))) := hp_old (hp_new rfl)
  have Q6 : Aside (((w.alloc (.cells #[.slice ao n cap, .int .i64 (g : Int)] 24)).alloc (.cells #[.slice none 0 0, .int .i64 0, .int .i64 0, .bool false] 65)).heap[(w.heap.size + 1)]? = some (.cells #[.slice none 0 0, .int .i64 0, .int .i64 0, .bool false] 65 (0, 0))) := hp_new (by simp)
  have QB : Aside (Below w.heap.size w ((w.alloc (.cells #[.slice ao n cap, .int .i64 (g : Int)] 24)).alloc (.cells #[.slice none 0 0, .int .i64 0, .int .i64 0, .bool false] 65))) := by
    show Below _ _ _
    repeat (first | (with_reducible exact Below.refl _ _) | (with_reducible assumption) | (with_reducible refine below_to_plus ?_ ?_ _) | (with_reducible refine below_holds ?_ ?_ _ _) | (with_reducible refine Below.alloc ?_ ?_ _) | (with_reducible refine Below.drew ?_) | (with_reducible refine below_drewN ?_ _) | (with_reducible refine Below.setCell ?_ ?_ _))
    all_goals first | omega | (simp; done) | (simp [go_sem]; done) | (simp [go_sem]; omega)
  rw [hln]
  clear hln hR hQ E
  go_enter Try.func35, Try.ntmps35
  go_wp2_with fail
  generalize ((w.alloc (.cells #[.slice ao n cap, .int .i64 (g : Int)] 24)).alloc (.cells #[.slice none 0 0, .int .i64 0, .int .i64 0, .bool false] 65)) = W2 at Q3 Q6 QB ⊢
  go_loopg [7] (s.size + 2 - p) (fun gk s7 wr => ∃ q : Nat, s7 = .int .i64 (q : Int) ∧ q + gk = s.size + 2 ∧ q ≤ s.size + 1 ∧ Aside (firstF (s.size + 1 - q) L g s q = R) ∧ Aside (wr.heap[w.heap.size]? = some (.cells #[.slice ao n cap, .int .i64 (g : Int)] 24 (0, 0))) ∧ Aside (wr.heap[(w.heap.size + 1)]? = some (.cells #[.slice none 0 0, .int .i64 0, .int .i64 0, .bool false] 65 (0, 0))) ∧ Aside (Below w.heap.size w wr))
  case atStart => exact ⟨p, rfl, by omega, by omega, HR.out, Q3.out, Q6.out, QB.out⟩
  case round =>
    obtain ⟨q, rfl, hg, hq, HF, R3, R6, HB⟩ := hrel
    clear HR Q3 Q6 QB
    have l6 : (w.heap.size + 1) < wr.heap.size := (Array.getElem?_eq_some_iff.1 R6.out).1
    by_cases hqs : s.size < q
    · have hd : decide ((q : Int) ≤ (s.size : Int)) = false := decide_eq_false (by omega)
      have hz : ¬ (q : Int) ≤ (s.size : Int) := by omega
      have eR : R = none := by
        have h := HF.out
        rw [show s.size + 1 - q = 0 by omega] at h
        exact h.symm
      subst eR
      rw [holds_self R6.out]
      go_wp2
      refine bodyPost_ret (v := .agg #[.slice none 0 0, .int .i64 0, .int .i64 0, .bool false]) (by simp [results, Try.results35, go_sem, ↓IntWalk.iteOmega, *]) rfl ?_
      exact HQ.out _ _ _ _ _ _ _ ⟨rfl, rfl, rfl, rfl⟩ (below_holds HB.out (by omega) _ _)
    have hd : decide ((q : Int) ≤ (s.size : Int)) = true := decide_eq_true (by omega)
    have hz : (q : Int) ≤ (s.size : Int) := by omega
    have HF2 : Aside (R = match runTop L g s q false with | some (cs, e) => some (cs, q, e) | none => firstF (s.size + 1 - (q + 1)) L g s (q + 1)) := by
      show _ = _
      rw [← HF.out, show s.size + 1 - q = (s.size + 1 - (q + 1)) + 1 by omega]
      conv => lhs; unfold firstF
      rw [if_neg hqs]
      cases runTop L g s q false <;> rfl
    have wq1 : IntKind.i64.wrap ((q : Int) + 1) = ((q + 1 : Nat) : Int) := by rw [IntKind.wrap_i64]; omega
    have c0 := cell_heap R3.out 0 _ rfl
    have c1 := cell_heap R3.out 1 _ rfl
    have cr := rfrom_calls L ao cap g s q false wr (HE.out.later HB.out) (by omega)
    rw [HN.out] at cr
    clear HF hqs
    go_wp2_with fail
    refine cr.mono ?_
    rintro e w3 ⟨v, b1, b2, b3, rfl, HV, hb3⟩
    obtain ⟨va, vn, vc, ev⟩ := HV.form
    subst ev
    have B3 : Aside (Below w.heap.size w w3) := HB.out.trans (hb3.mono HB.out.size)
    have T3 : Aside (w3.heap[w.heap.size]? = some (.cells #[.slice ao n cap, .int .i64 (g : Int)] 24 (0, 0))) := heap_later R3.out hb3
    have T6 : Aside (w3.heap[(w.heap.size + 1)]? = some (.cells #[.slice none 0 0, .int .i64 0, .int .i64 0, .bool false] 65 (0, 0))) := heap_later R6.out hb3
    have S3 : Aside (w.heap.size ≤ wr.heap.size) := HB.out.size
    have l6b : (w.heap.size + 1) < w3.heap.size := Nat.lt_of_lt_of_le l6 hb3.size
    clear cr hb3 HB R3 R6 c0 c1 l6
    cases hr : runTop L g s q false with
    | none =>
      rw [hr] at HV HF2
      obtain ⟨ev, rfl, rfl, rfl⟩ := HV
      simp only [Value.slice.injEq] at ev
      obtain ⟨rfl, rfl, rfl⟩ := ev
      have HF3 : Aside (firstF (s.size + 1 - (q + 1)) L g s (q + 1) = R) := HF2.out.symm
      clear HF2 hr
      go_wp2_with fail
      go_roundg (s.size + 1 - q)
      case measure => omega
      case rel => exact ⟨q + 1, rfl, by omega, by omega, HF3.out, hp_old T3.out, hp_old T6.out, B3.out.alloc B3.out.size _⟩
    | some t =>
      obtain ⟨cs, z⟩ := t
      rw [hr] at HV HF2
      obtain ⟨HC, rfl, rfl, rfl⟩ := HV
      have HC : Aside (Row w.heap.size (.slice va vn vc) cs w3) := HC.lower S3.out
      have eR : R = some (cs, q, z) := HF2.out
      subst eR
      clear hr HF2
      rw [holds_self T6.out]
      go_wp2
      refine bodyPost_ret (v := .agg #[.slice va vn vc, .int .i64 (q : Int), .int .i64 (z : Int), .bool true]) (by simp [results, Try.results35, go_sem, ↓IntWalk.iteOmega, *]) rfl ?_
      refine HQ.out _ _ _ _ _ _ _ ⟨(HC.out.other T6.out (by decide)).later (Below.alloc (Below.refl _ _) (Nat.le_refl _) _), rfl, rfl, rfl⟩ ?_
      exact Below.alloc (below_holds B3.out (by omega) _ _) (by rw [size_holds]; exact B3.out.size) _
/-- What Match and Whole of the reference leave. -/
def RMPost (w : World) (r : Option (List Int)) (e : Ending) (W : World) : Prop :=
  ∃ v ok, e = .returned (.tuple #[v, .bool ok]) ∧ (match r with
  | none => (∃ a c, v = .slice a 0 c) ∧ ok = false
  | some cs => Row w.heap.size v cs W ∧ ok = true) ∧ Below w.heap.size w W

set_option maxRecDepth 20000 in
set_option maxHeartbeats 64000000 in
theorem rmatch_calls (L : List In) (ao : Option Addr) (cap g : Nat) (s : ByteArray) (w : World) (E : AEnv w L ao (g : Int) s) :
    Calls Try.prog 21 #[.agg #[.slice ao L.length cap, .int .i64 (g : Int)], .string s] w (RMPost w (matchTop L g s)) := by
  obtain ⟨n, hln⟩ : ∃ n, L.length = n := ⟨_, rfl⟩
  obtain ⟨R, hR⟩ : ∃ R, firstTop L g s 0 = R := ⟨_, rfl⟩
  have ER : matchTop L g s = R.map (·.1) := by rw [← hR]; rfl
  rw [ER]
  clear ER
  have LEN : Aside (∀ cs, (∃ t, R = some (cs, t)) → 0 < cs.length ∧ cs.length ≤ 20) := fun cs ⟨t, ht⟩ => by
    obtain ⟨p1, p2, -⟩ := right_parts E.hr
    have : cs.length = 2 * g := by
      rw [ht] at hR
      obtain ⟨a, z⟩ := t
      exact firstF_len E.hr _ _ hR
    omega
  obtain ⟨Q, hQ⟩ : ∃ Q : Ending → World → Prop, RMPost w (R.map (·.1)) = Q := ⟨_, rfl⟩
  rw [hQ]
  have HQ : Aside (∀ e W, RMPost w (R.map (·.1)) e W → Q e W) := fun e W h1 => by rw [← hQ]; exact h1
  obtain ⟨W1, hW1⟩ : ∃ V, w.alloc (.cells #[.slice ao n cap, .int .i64 (g : Int)] 24) = V := ⟨_, rfl⟩
  have B1 : Aside (Below w.heap.size w W1) := by show Below _ _ _; rw [← hW1]; exact Below.alloc (Below.refl _ _) (Nat.le_refl _) _
  have cf := rafter_calls L ao cap g s 0 W1 (E.later B1.out) (by omega)
  rw [hR, hln] at cf
  have HW : Aside (w.alloc (.cells #[.slice ao n cap, .int .i64 (g : Int)] 24) = W1) := hW1
  have LW1 : w.heap.size ≤ W1.heap.size := B1.out.size
  rw [hln]
  clear hln hR hQ E hW1
  go_enter Try.func21, Try.ntmps21
  go_wp2_with fail
  rw [HW.out]
  refine cf.mono ?_
  rintro e w3 ⟨va, vn, vc, b1, b2, b3, rfl, HV, hb3⟩
  have B3 : Aside (Below w.heap.size w (w3.alloc (.cells #[.slice va vn vc, .int .i64 b1, .int .i64 b2, .bool b3] 65))) := Below.alloc (B1.out.trans (hb3.mono B1.out.size)) (Nat.le_trans LW1 hb3.size) _
  have HV4 : Aside (FA w.heap.size R (.slice va vn vc) b1 b2 b3 (w3.alloc (.cells #[.slice va vn vc, .int .i64 b1, .int .i64 b2, .bool b3] 65))) := by
    have h := HV.later (Below.alloc (Below.refl _ _) (Nat.le_refl _) (.cells #[.slice va vn vc, .int .i64 b1, .int .i64 b2, .bool b3] 65))
    unfold FA at h
    show FA _ _ _ _ _ _ _
    unfold FA
    cases R with
    | none => exact h
    | some t => exact ⟨h.1.lower LW1, h.2⟩
  have R6 : Aside ((w3.alloc (.cells #[.slice va vn vc, .int .i64 b1, .int .i64 b2, .bool b3] 65)).heap[w3.heap.size]? = some (.cells #[.slice va vn vc, .int .i64 b1, .int .i64 b2, .bool b3] 65 (0, 0))) := hp_new rfl
  obtain ⟨a6, h6⟩ : ∃ b, w3.heap.size = b := ⟨_, rfl⟩
  clear cf hb3 HV HW B1
  go_wp2_with fail
  generalize w3.alloc (.cells #[.slice va vn vc, .int .i64 b1, .int .i64 b2, .bool b3] 65) = w4 at B3 HV4 R6 ⊢
  rw [h6] at R6
  try rw [h6]
  clear h6
  have c60 := cell_heap R6.out 0 _ rfl
  have c63 := cell_heap R6.out 3 _ rfl
  have l6 : a6 < w4.heap.size := (Array.getElem?_eq_some_iff.1 R6.out).1
  have n6 : ¬ a6 = w4.heap.size := by omega
  cases R with
  | none =>
    obtain ⟨ev, rfl, rfl, rfl⟩ := HV4.out
    simp only [Value.slice.injEq] at ev
    obtain ⟨rfl, rfl, rfl⟩ := ev
    clear HV4
    go_region_held3 (fun w' => w'.cell? ⟨a6, 0, none⟩ = some (.slice none 0 0) ∧ w'.cell? ⟨a6, 3, none⟩ = some (.bool false)) (first | (simp [go_sem, ↓IntWalk.iteOmega, *]; done)) (fail)
    all_goals go_wp2
    all_goals refine HQ.out _ _ ⟨_, _, rfl, ⟨⟨_, _, rfl⟩, rfl⟩, ?_⟩
    all_goals
      have hb4 := B3.out
      have hz4 := B3.out.size
      repeat (first | (with_reducible exact Below.refl _ _) | (with_reducible assumption) | (with_reducible refine below_to_plus ?_ ?_ _) | (with_reducible refine below_holds ?_ ?_ _ _) | (with_reducible refine Below.alloc ?_ ?_ _) | (with_reducible refine Below.drew ?_) | (with_reducible refine below_drewN ?_ _) | (with_reducible refine Below.setCell ?_ ?_ _))
      all_goals first | omega | (simp; done) | (simp [go_sem]; done) | (simp [go_sem]; omega)
  | some t =>
    obtain ⟨cs, t2⟩ := t
    have HV5 := HV4.out
    obtain ⟨ta, tz⟩ := t2
    obtain ⟨HC, rfl, rfl, rfl⟩ := HV5
    obtain ⟨cb, cc, ecv, hcb, hcc⟩ := HC.form
    simp only [Value.slice.injEq] at ecv
    obtain ⟨rfl, rfl, rfl⟩ := ecv
    obtain ⟨lc0, lc20⟩ := LEN.out cs ⟨_, rfl⟩
    obtain ⟨m, hm⟩ : ∃ m, cs.length = m := ⟨_, rfl⟩
    obtain ⟨i0, hi0, hz0, hs0, hb0⟩ := intInfo
    have HOWN : Aside ((w4.drew.alloc (.cells #[] 3)).ownsRow w4.heap.size 3 1 (.slice (some ⟨w4.heap.size, 0, none⟩) 0 0) 0 []) :=
      ⟨rfl, .inr ⟨w4.heap.size, 0, #[], rfl, Nat.le_refl _, (show (w4.alloc (.cells #[] 3)).heap[w4.heap.size]? = some (.cells #[] 3 (0, 0)) from hp_new rfl), Nat.le_refl _, by unfold maxLen; omega, rfl, rfl⟩⟩
    have HB9 : Aside (Below w4.heap.size w4 (w4.drew.alloc (.cells #[] 3))) := Below.alloc (Below.drew (Below.refl _ _)) (Nat.le_refl _) _
    have CSR : Aside (∀ j u, (cs.map (Value.int .i64))[j]? = some u → (w4.drew.alloc (.cells #[] 3)).cell? ((⟨cb, 0, none⟩ : Addr).add j) = some u) := fun j u hu => by
      rw [Addr.add_lit]
      have hj : j < cs.length := by have := (List.getElem?_eq_some_iff.1 hu).1; simpa using this
      rw [Nat.zero_add]
      refine (HB9.out.cell (p := ⟨cb, j, none⟩) hcb).trans ((hcc j hj).trans ?_)
      rw [← hu, List.getElem?_map, List.getElem?_eq_getElem hj, List.getD_eq_getElem?_getD, List.getElem?_eq_getElem hj]
      rfl
    have CON : Aside (∀ u ∈ cs.map (Value.int .i64), u.oneCell' = true) := by
      intro u hu
      rw [List.mem_map] at hu
      obtain ⟨q, -, rfl⟩ := hu
      rfl
    have CLN : Aside ((cs.map (Value.int .i64)).length = m * 1) := by show _ = _; rw [List.length_map, Nat.mul_one]; exact hm
    have HMM : Aside (cs.length = m) := hm
    rw [hm] at c60 lc0 lc20
    have hz9 : Aside ((w4.drew.alloc (.cells #[] 3)).heap.size = w4.heap.size + 1) := by show _ = _; simp
    clear HV4 hcc HC hm
    go_region_held3 (fun w' => w'.cell? ⟨a6, 0, none⟩ = some (.slice (some ⟨cb, 0, none⟩) m vc) ∧ w'.cell? ⟨a6, 3, none⟩ = some (.bool true)) (first | (simp [go_sem, ↓IntWalk.iteOmega, *]; done)) ((first | (refine step_append_lies _ rfl _ _ 30 rfl w4.heap.size 3 i0 _ 1 8 Try.underlying30 hi0 hz0 hs0 hb0 rfl (by omega) (.slice (some ⟨w4.heap.size, 0, none⟩) 0 0) 0 [] (by simp [Act.eval, Act.put]) HOWN.out ⟨cb, 0, none⟩ m vc (cs.map (Value.int .i64)) (by simp [Act.eval, Act.put]) CLN.out CSR.out CON.out (by omega) (by unfold maxLen; omega) (by omega) (by simp) _ rfl ?_; intro gg cap2 w5 hown hgrow hat hlt; have HGR : Aside _ := hgrow; have HOW : Aside _ := hown; have R6' : w5.heap[a6]? = _ := (hgrow.block a6 (Nat.lt_of_lt_of_le l6 HB9.out.size) (fun e => by simp [Value.ownBlock] at e; omega)).trans (heap_later R6.out HB9.out); have d60 := cell_heap R6' 0 _ rfl; have d63 := cell_heap R6' 3 _ rfl; rw [HMM.out] at d60; clear R6' hown hgrow hat)))
    all_goals go_wp2
    all_goals refine HQ.out _ _ ⟨_, _, rfl, ⟨⟨own_lower (by rw [HMM.out]; have h := HOW.out; rw [Nat.zero_add, List.nil_append] at h; exact h) (by have := B3.out.size; omega), by rw [HMM.out]; omega⟩, rfl⟩, ?_⟩
    all_goals exact (B3.out.trans (HB9.out.mono B3.out.size)).grown HGR.out (Nat.le_trans B3.out.size HB9.out.size) (fun k hk => by simp [Value.ownBlock] at hk; have := B3.out.size; omega)

set_option maxRecDepth 20000 in
set_option maxHeartbeats 64000000 in
theorem rwhole_calls (L : List In) (ao : Option Addr) (cap g : Nat) (s : ByteArray) (w : World) (E : AEnv w L ao (g : Int) s) :
    Calls Try.prog 22 #[.agg #[.slice ao L.length cap, .int .i64 (g : Int)], .string s] w (RMPost w (wholeTop L g s)) := by
  obtain ⟨n, hln⟩ : ∃ n, L.length = n := ⟨_, rfl⟩
  obtain ⟨R, hR⟩ : ∃ R, runTop L g s 0 true = R := ⟨_, rfl⟩
  have ER : wholeTop L g s = R.map (·.1) := by rw [← hR]; rfl
  rw [ER]
  clear ER
  have LEN : Aside (∀ cs, (∃ t, R = some (cs, t)) → 0 < cs.length ∧ cs.length ≤ 20) := fun cs ⟨t, ht⟩ => by
    obtain ⟨p1, p2, -⟩ := right_parts E.hr
    have : cs.length = 2 * g := by
      rw [ht] at hR
      skip
      exact runTop_len E.hr hR
    omega
  obtain ⟨Q, hQ⟩ : ∃ Q : Ending → World → Prop, RMPost w (R.map (·.1)) = Q := ⟨_, rfl⟩
  rw [hQ]
  have HQ : Aside (∀ e W, RMPost w (R.map (·.1)) e W → Q e W) := fun e W h1 => by rw [← hQ]; exact h1
  obtain ⟨W1, hW1⟩ : ∃ V, w.alloc (.cells #[.slice ao n cap, .int .i64 (g : Int)] 24) = V := ⟨_, rfl⟩
  have B1 : Aside (Below w.heap.size w W1) := by show Below _ _ _; rw [← hW1]; exact Below.alloc (Below.refl _ _) (Nat.le_refl _) _
  have cf := rfrom_calls L ao cap g s 0 true W1 (E.later B1.out) (by omega)
  rw [hR, hln] at cf
  have HW : Aside (w.alloc (.cells #[.slice ao n cap, .int .i64 (g : Int)] 24) = W1) := hW1
  have LW1 : w.heap.size ≤ W1.heap.size := B1.out.size
  rw [hln]
  clear hln hR hQ E hW1
  go_enter Try.func22, Try.ntmps22
  go_wp2_with fail
  rw [HW.out]
  refine cf.mono ?_
  rintro e w3 ⟨v, b1, b2, b3, rfl, HV, hb3⟩
  obtain ⟨va, vn, vc, ev⟩ := HV.form
  subst ev
  have B3 : Aside (Below w.heap.size w (w3.alloc (.cells #[.slice va vn vc, .int .i64 b1, .int .i64 b2, .bool b3] 65))) := Below.alloc (B1.out.trans (hb3.mono B1.out.size)) (Nat.le_trans LW1 hb3.size) _
  have HV4 : Aside (FV w.heap.size 0 R (.slice va vn vc) b1 b2 b3 (w3.alloc (.cells #[.slice va vn vc, .int .i64 b1, .int .i64 b2, .bool b3] 65))) := by
    have h := HV.later (Below.alloc (Below.refl _ _) (Nat.le_refl _) (.cells #[.slice va vn vc, .int .i64 b1, .int .i64 b2, .bool b3] 65))
    unfold FV at h
    show FV _ _ _ _ _ _ _ _
    unfold FV
    cases R with
    | none => exact h
    | some t => exact ⟨h.1.lower LW1, h.2⟩
  have R6 : Aside ((w3.alloc (.cells #[.slice va vn vc, .int .i64 b1, .int .i64 b2, .bool b3] 65)).heap[w3.heap.size]? = some (.cells #[.slice va vn vc, .int .i64 b1, .int .i64 b2, .bool b3] 65 (0, 0))) := hp_new rfl
  obtain ⟨a6, h6⟩ : ∃ b, w3.heap.size = b := ⟨_, rfl⟩
  clear cf hb3 HV HW B1
  go_wp2_with fail
  generalize w3.alloc (.cells #[.slice va vn vc, .int .i64 b1, .int .i64 b2, .bool b3] 65) = w4 at B3 HV4 R6 ⊢
  rw [h6] at R6
  try rw [h6]
  clear h6
  have c60 := cell_heap R6.out 0 _ rfl
  have c63 := cell_heap R6.out 3 _ rfl
  have l6 : a6 < w4.heap.size := (Array.getElem?_eq_some_iff.1 R6.out).1
  have n6 : ¬ a6 = w4.heap.size := by omega
  cases R with
  | none =>
    obtain ⟨ev, rfl, rfl, rfl⟩ := HV4.out
    simp only [Value.slice.injEq] at ev
    obtain ⟨rfl, rfl, rfl⟩ := ev
    clear HV4
    go_region_held3 (fun w' => w'.cell? ⟨a6, 0, none⟩ = some (.slice none 0 0) ∧ w'.cell? ⟨a6, 3, none⟩ = some (.bool false)) (first | (simp [go_sem, ↓IntWalk.iteOmega, *]; done)) (fail)
    all_goals go_wp2
    all_goals refine HQ.out _ _ ⟨_, _, rfl, ⟨⟨_, _, rfl⟩, rfl⟩, ?_⟩
    all_goals
      have hb4 := B3.out
      have hz4 := B3.out.size
      repeat (first | (with_reducible exact Below.refl _ _) | (with_reducible assumption) | (with_reducible refine below_to_plus ?_ ?_ _) | (with_reducible refine below_holds ?_ ?_ _ _) | (with_reducible refine Below.alloc ?_ ?_ _) | (with_reducible refine Below.drew ?_) | (with_reducible refine below_drewN ?_ _) | (with_reducible refine Below.setCell ?_ ?_ _))
      all_goals first | omega | (simp; done) | (simp [go_sem]; done) | (simp [go_sem]; omega)
  | some t =>
    obtain ⟨cs, t2⟩ := t
    have HV5 := HV4.out
    skip
    obtain ⟨HC, rfl, rfl, rfl⟩ := HV5
    obtain ⟨cb, cc, ecv, hcb, hcc⟩ := HC.form
    simp only [Value.slice.injEq] at ecv
    obtain ⟨rfl, rfl, rfl⟩ := ecv
    obtain ⟨lc0, lc20⟩ := LEN.out cs ⟨_, rfl⟩
    obtain ⟨m, hm⟩ : ∃ m, cs.length = m := ⟨_, rfl⟩
    obtain ⟨i0, hi0, hz0, hs0, hb0⟩ := intInfo
    have HOWN : Aside ((w4.drew.alloc (.cells #[] 3)).ownsRow w4.heap.size 3 1 (.slice (some ⟨w4.heap.size, 0, none⟩) 0 0) 0 []) :=
      ⟨rfl, .inr ⟨w4.heap.size, 0, #[], rfl, Nat.le_refl _, (show (w4.alloc (.cells #[] 3)).heap[w4.heap.size]? = some (.cells #[] 3 (0, 0)) from hp_new rfl), Nat.le_refl _, by unfold maxLen; omega, rfl, rfl⟩⟩
    have HB9 : Aside (Below w4.heap.size w4 (w4.drew.alloc (.cells #[] 3))) := Below.alloc (Below.drew (Below.refl _ _)) (Nat.le_refl _) _
    have CSR : Aside (∀ j u, (cs.map (Value.int .i64))[j]? = some u → (w4.drew.alloc (.cells #[] 3)).cell? ((⟨cb, 0, none⟩ : Addr).add j) = some u) := fun j u hu => by
      rw [Addr.add_lit]
      have hj : j < cs.length := by have := (List.getElem?_eq_some_iff.1 hu).1; simpa using this
      rw [Nat.zero_add]
      refine (HB9.out.cell (p := ⟨cb, j, none⟩) hcb).trans ((hcc j hj).trans ?_)
      rw [← hu, List.getElem?_map, List.getElem?_eq_getElem hj, List.getD_eq_getElem?_getD, List.getElem?_eq_getElem hj]
      rfl
    have CON : Aside (∀ u ∈ cs.map (Value.int .i64), u.oneCell' = true) := by
      intro u hu
      rw [List.mem_map] at hu
      obtain ⟨q, -, rfl⟩ := hu
      rfl
    have CLN : Aside ((cs.map (Value.int .i64)).length = m * 1) := by show _ = _; rw [List.length_map, Nat.mul_one]; exact hm
    have HMM : Aside (cs.length = m) := hm
    rw [hm] at c60 lc0 lc20
    have hz9 : Aside ((w4.drew.alloc (.cells #[] 3)).heap.size = w4.heap.size + 1) := by show _ = _; simp
    clear HV4 hcc HC hm
    go_region_held3 (fun w' => w'.cell? ⟨a6, 0, none⟩ = some (.slice (some ⟨cb, 0, none⟩) m vc) ∧ w'.cell? ⟨a6, 3, none⟩ = some (.bool true)) (first | (simp [go_sem, ↓IntWalk.iteOmega, *]; done)) ((first | (refine step_append_lies _ rfl _ _ 30 rfl w4.heap.size 3 i0 _ 1 8 Try.underlying30 hi0 hz0 hs0 hb0 rfl (by omega) (.slice (some ⟨w4.heap.size, 0, none⟩) 0 0) 0 [] (by simp [Act.eval, Act.put]) HOWN.out ⟨cb, 0, none⟩ m vc (cs.map (Value.int .i64)) (by simp [Act.eval, Act.put]) CLN.out CSR.out CON.out (by omega) (by unfold maxLen; omega) (by omega) (by simp) _ rfl ?_; intro gg cap2 w5 hown hgrow hat hlt; have HGR : Aside _ := hgrow; have HOW : Aside _ := hown; have R6' : w5.heap[a6]? = _ := (hgrow.block a6 (Nat.lt_of_lt_of_le l6 HB9.out.size) (fun e => by simp [Value.ownBlock] at e; omega)).trans (heap_later R6.out HB9.out); have d60 := cell_heap R6' 0 _ rfl; have d63 := cell_heap R6' 3 _ rfl; rw [HMM.out] at d60; clear R6' hown hgrow hat)))
    all_goals go_wp2
    all_goals refine HQ.out _ _ ⟨_, _, rfl, ⟨⟨own_lower (by rw [HMM.out]; have h := HOW.out; rw [Nat.zero_add, List.nil_append] at h; exact h) (by have := B3.out.size; omega), by rw [HMM.out]; omega⟩, rfl⟩, ?_⟩
    all_goals exact (B3.out.trans (HB9.out.mono B3.out.size)).grown HGR.out (Nat.le_trans B3.out.size HB9.out.size) (fun k hk => by simp [Value.ownBlock] at hk; have := B3.out.size; omega)

/-- Ints of the reference at lists without elements. -/
theorem ints_none (a : Option Addr) (c : Nat) (w : World) : Calls Try.prog 14 #[.slice none 0 0, .slice a 0 c] w fun e W => e = .returned (.bool true) ∧ Below w.heap.size w W := by
  go_enter Try.func14, Try.ntmps14
  go_wp2
  go_loopg [5] 1 (fun gk s5 wr => s5 = .int .i64 0 ∧ gk = 1 ∧ w = wr)
  case atStart => exact ⟨rfl, rfl, rfl⟩
  case round =>
    obtain ⟨rfl, rfl, rfl⟩ := hrel
    go_wp2
    all_goals refine bodyPost_ret (v := .bool (true)) (by simp [results, Try.results14, go_sem, ↓IntWalk.iteOmega, *]) rfl ⟨rfl, Below.refl _ _⟩


theorem intLeaves : leavesOf Try.prog 5 3 = some [some (some .i64)] := by kernel_rfl
theorem one_int {H : Type} {enc : TypeId × Value → H} {w : World} {base : Nat} {spare : Nat → Bool} {held : Bool} {fuel : Nat} {l : List Value} {x : DataW H × List MemPlace} (h : DataW.trod enc Try.prog w base spare held fuel 3 l = some x) : ∃ n, l = [.int .i64 n] := by
  have h1 := leaves_of_trod 5 _ _ intLeaves _ _ _ h
  obtain ⟨a, r1, e1, ⟨n1, rfl, _⟩, h2⟩ := leavesOk_cons h1
  have e2 := leavesOk_nil h2
  exact ⟨n1, by rw [e1, e2]⟩
theorem list2 (l : List Value) (h : l.length = 2) : l = l.take 1 ++ (l.drop 1).take 1 := by
  match l, h with
  | [a, b], _ => rfl
theorem regex_open {H : Type} {enc : TypeId × Value → H} {w : World} {base : Nat} {held : Bool} {v : Value} {d : DataW H} {ps : List MemPlace} (hk : ∃ cs, v = .agg cs)
    (h : DataW.Trod enc Try.prog w base (fun _ => true) held 24 v d ps) : ∃ L ao cap g, v = .agg #[.slice ao (L : List In).length cap, .int .i64 g] ∧ Prg L ao w ∧ L.length ≤ 9223372036854775807 := by
  obtain ⟨cs, rfl⟩ := hk
  obtain ⟨fuel, hf⟩ := h
  obtain ⟨l⟩ := cs
  simp only [Value.cells] at hf
  have hc : Try.prog.cellsOf 24 = 2 := by kernel_rfl
  have hc1 : Try.prog.cellsOf 22 = 1 := by kernel_rfl
  have hc3 : Try.prog.cellsOf 3 = 1 := by kernel_rfl
  obtain ⟨hl, n0, y0, f0⟩ := trod_field Try.underlying24 hf 0 _ rfl
  obtain ⟨_, n1, y1, f1⟩ := trod_field Try.underlying24 hf 1 _ rfl
  have g0 : DataW.trod enc Try.prog w base (fun _ => true) held n0 22 (l.take 1) = some y0 := by rw [← hc1]; exact f0
  have g1 : DataW.trod enc Try.prog w base (fun _ => true) held n1 3 ((l.drop 1).take 1) = some y1 := by
    have h : DataW.trod enc Try.prog w base (fun _ => true) held n1 3 ((l.drop 1).take (Try.prog.cellsOf 3)) = some y1 := f1
    rw [hc3] at h
    exact h
  rw [hc] at hl
  obtain ⟨ao, n, cap, xs, e0, hsl, hlv⟩ := open_rows_l (k := 6) Try.underlying22 inLeaves (by kernel_rfl) (by omega) g0
  obtain ⟨g, e1⟩ := one_int g1
  obtain ⟨ys, rfl, hy⟩ := ins_of xs hlv
  have hn := Sl.lenE hsl
  refine ⟨ys, ao, cap, g, ?_, ⟨cellsIn hsl, fun x hx => (hy x hx).1⟩, Nat.le_trans (Nat.le_of_eq hn) (Nat.le_trans hsl.hcap hsl.hmax)⟩
  have := list2 l hl
  rw [e0, e1] at this
  rw [this, hn]
  rfl
def fewG (L : List In) (g : Int) (s : ByteArray) : Bool := decide (L.length ≤ 120) && decide (g ≤ 20) && decide (s.size ≤ 60)
set_option maxRecDepth 20000 in
set_option maxHeartbeats 64000000 in
theorem fewg_calls (L : List In) (ao : Option Addr) (cap : Nat) (g : Int) (s : ByteArray) (w : World) :
    Calls Try.prog 10 #[.agg #[.slice ao L.length cap, .int .i64 g], .string s] w fun e W => e = .returned (.bool (fewG L g s)) ∧ Below w.heap.size w W := by
  obtain ⟨m, hm⟩ : ∃ m, L.length = m := ⟨_, rfl⟩
  have EQ : fewG L g s = (decide (m ≤ 120) && decide (g ≤ 20) && decide (s.size ≤ 60)) := by rw [← hm]; rfl
  rw [EQ, hm]
  clear EQ hm
  by_cases h1 : m ≤ 120
  · have d1 : decide ((m : Int) ≤ (120 : Int)) = true := decide_eq_true (by omega)
    have z1 : (m : Int) ≤ (120 : Int) := by omega
    by_cases h2 : g ≤ 20
    · have d2 : decide (g ≤ (20 : Int)) = true := decide_eq_true h2
      by_cases h3 : s.size ≤ 60
      · have d3 : decide ((s.size : Int) ≤ (60 : Int)) = true := decide_eq_true (by omega)
        have z3 : (s.size : Int) ≤ (60 : Int) := by omega
        rw [decide_eq_true h1, decide_eq_true h3, d2]
        clear h1 h3
        go_enter Try.func10, Try.ntmps10
        go_wp2
        all_goals refine bodyPost_ret (v := .bool true) (by simp [results, Try.results10, go_sem, ↓IntWalk.iteOmega, *]) rfl ⟨rfl, Below.alloc (Below.refl _ _) (Nat.le_refl _) _⟩
      · have d3 : decide ((s.size : Int) ≤ (60 : Int)) = false := decide_eq_false (by omega)
        have z3 : ¬ (s.size : Int) ≤ (60 : Int) := by omega
        rw [decide_eq_true h1, decide_eq_false h3, d2]
        clear h1 h3
        go_enter Try.func10, Try.ntmps10
        go_wp2
        all_goals refine bodyPost_ret (v := .bool false) (by simp [results, Try.results10, go_sem, ↓IntWalk.iteOmega, *]) rfl ⟨rfl, Below.alloc (Below.refl _ _) (Nat.le_refl _) _⟩
    · have d2 : decide (g ≤ (20 : Int)) = false := decide_eq_false h2
      rw [decide_eq_true h1, d2]
      clear h1
      go_enter Try.func10, Try.ntmps10
      go_wp2
      all_goals refine bodyPost_ret (v := .bool false) (by simp [results, Try.results10, go_sem, ↓IntWalk.iteOmega, *]) rfl ⟨rfl, Below.alloc (Below.refl _ _) (Nat.le_refl _) _⟩
  · have d1 : decide ((m : Int) ≤ (120 : Int)) = false := decide_eq_false (by omega)
    have z1 : ¬ (m : Int) ≤ (120 : Int) := by omega
    rw [decide_eq_false h1]
    clear h1
    go_enter Try.func10, Try.ntmps10
    go_wp2
    all_goals refine bodyPost_ret (v := .bool false) (by simp [results, Try.results10, go_sem, ↓IntWalk.iteOmega, *]) rfl ⟨rfl, Below.alloc (Below.refl _ _) (Nat.le_refl _) _⟩

theorem matchTop_len {L : List In} {G : Nat} (hr : rightF L (G : Int) = true) {s : ByteArray} {cs : List Int} (h : matchTop L G s = some cs) : cs.length = 2 * G := by
  unfold matchTop at h
  cases hf : firstTop L G s 0 with
  | none => rw [hf] at h; cases h
  | some t =>
    obtain ⟨c, a, z⟩ := t
    rw [hf] at h
    injection h with h
    rw [← h]
    exact firstF_len hr _ _ hf
theorem wholeTop_len {L : List In} {G : Nat} (hr : rightF L (G : Int) = true) {s : ByteArray} {cs : List Int} (h : wholeTop L G s = some cs) : cs.length = 2 * G := by
  unfold wholeTop at h
  cases hf : runTop L G s 0 true with
  | none => rw [hf] at h; cases h
  | some t =>
    obtain ⟨c, a⟩ := t
    rw [hf] at h
    injection h with h
    rw [← h]
    exact runTop_len hr hf
/-- The two lists that the package and the reference return for one match are equal. -/
def Pair (va vb : Value) (r : Option (List Int)) (W : World) : Prop :=
  match r with
  | none => va = .slice none 0 0 ∧ ∃ a c, vb = .slice a 0 c
  | some cs => Row 0 va cs W ∧ Row 0 vb cs W
theorem Pair.later {va vb : Value} {r : Option (List Int)} {W W' : World} (h : Pair va vb r W) (hb : Below W.heap.size W W') : Pair va vb r W' := by
  unfold Pair at h ⊢
  split at h
  · exact h
  · exact ⟨h.1.later hb, h.2.later hb⟩
theorem ints_pair (va vb : Value) (r : Option (List Int)) (w : World) (h : Pair va vb r w) (hl : ∀ cs, r = some cs → cs.length ≤ 1000000) :
    Calls Try.prog 14 #[va, vb] w fun e W => e = .returned (.bool true) ∧ Below w.heap.size w W := by
  cases r with
  | none =>
    obtain ⟨rfl, a, c, rfl⟩ := h
    exact ints_none a c w
  | some cs => exact ints_calls va vb cs w (.inr h.1) (.inr h.2) (hl cs rfl)

/-- What the package returns for a match. -/
def Left (va : Value) (r : Option (List Int)) (W : World) : Prop :=
  match r with
  | none => va = .slice none 0 0
  | some cs => Row 0 va cs W
theorem match_pairs {w W : World} {r : Option (List Int)} {e : Ending} (h : MatchPost w r e W) : ∃ v, e = .returned (.tuple #[v, .bool r.isSome]) ∧ Left v r W ∧ Below w.heap.size w W := by
  obtain ⟨h1, h2⟩ := h
  cases r with
  | none => exact ⟨_, h1, rfl, h2⟩
  | some cs =>
    obtain ⟨v, he, hr⟩ := h1
    exact ⟨v, he, hr.lower (Nat.zero_le _), h2⟩
theorem rmatch_pairs {w W W0 : World} {r : Option (List Int)} {e : Ending} {va : Value} (h : RMPost w r e W) (ha : Left va r W0) (hb0 : Below W0.heap.size W0 w) : ∃ v, e = .returned (.tuple #[v, .bool r.isSome]) ∧ Pair va v r W ∧ Below w.heap.size w W := by
  obtain ⟨v, ok, he, hr, hb⟩ := h
  cases r with
  | none =>
    obtain ⟨⟨a, c, rfl⟩, rfl⟩ := hr
    exact ⟨_, he, ⟨ha, a, c, rfl⟩, hb⟩
  | some cs =>
    obtain ⟨hr, rfl⟩ := hr
    exact ⟨v, he, ⟨(ha.later hb0).later hb, hr.lower (Nat.zero_le _)⟩, hb⟩

set_option maxRecDepth 20000 in
set_option maxHeartbeats 64000000 in
theorem lawMatches_calls (L : List In) (ao : Option Addr) (cap : Nat) (g : Int) (s : ByteArray) (w : World) (hpr : Prg L ao w) (hl : L.length ≤ 9223372036854775807) :
    Calls Try.prog 8 #[.agg #[.slice ao L.length cap, .int .i64 g], .string s] w fun e W => e = .returned (.bool true) ∧ Below w.heap.size w W := by
  have HW : Aside (Below w.heap.size w w) := Below.refl _ _
  have P1 : Aside (Prg L ao w) := hpr
  obtain ⟨rb, hrb⟩ : ∃ b, w.heap.size = b := ⟨_, rfl⟩
  have RB0 : Aside ((w.alloc (.cells #[.slice ao L.length cap, .int .i64 g] 24)).heap[rb]? = some (.cells #[.slice ao L.length cap, .int .i64 g] 24 (0, 0))) := hp_new hrb.symm
  clear hpr
  have cw := fun W => fewg_calls L ao cap g s W
  cases hf : fewG L g s with
  | false =>
    rw [hf] at cw
    clear RB0 hf
    go_enter Try.func8, Try.ntmps8
    go_wp2_with fail
    refine (cw _).mono ?_
    rintro e w1 ⟨rfl, hb⟩
    have HBn : Aside (Below w.heap.size w w1) := Below.trans (by first | exact Below.refl _ _ | exact Below.alloc (Below.refl _ _) (Nat.le_refl _) _ | exact below_drewN (Below.refl _ _) _ | exact below_drewN (Below.alloc (Below.refl _ _) (Nat.le_refl _) _) _ | exact Below.alloc (Below.alloc (Below.refl _ _) (Nat.le_refl _) _) (by simp) _) (hb.mono (by first | exact Nat.le_refl _ | (simp; done) | (simp; omega)))
    have P1' : Aside (Prg L ao w1) := P1.out.later HBn.out
    have HW' : Aside (Below w.heap.size w w1) := HW.out.trans (HBn.out.mono HW.out.size)
    clear HW P1
    have P1 : Aside (Prg L ao w1) := P1'.out
    have HW : Aside (Below w.heap.size w w1) := HW'.out
    clear HW' HBn hb P1'
    clear cw
    go_wp2_with fail
    refine (alive_calls _).mono ?_
    rintro e w2 ⟨rfl, hb⟩
    have HBn : Aside (Below w1.heap.size w1 w2) := Below.trans (by first | exact Below.refl _ _ | exact Below.alloc (Below.refl _ _) (Nat.le_refl _) _ | exact below_drewN (Below.refl _ _) _ | exact below_drewN (Below.alloc (Below.refl _ _) (Nat.le_refl _) _) _ | exact Below.alloc (Below.alloc (Below.refl _ _) (Nat.le_refl _) _) (by simp) _) (hb.mono (by first | exact Nat.le_refl _ | (simp; done) | (simp; omega)))
    have P1' : Aside (Prg L ao w2) := P1.out.later HBn.out
    have HW' : Aside (Below w.heap.size w w2) := HW.out.trans (HBn.out.mono HW.out.size)
    clear HW P1
    have P1 : Aside (Prg L ao w2) := P1'.out
    have HW : Aside (Below w.heap.size w w2) := HW'.out
    clear HW' HBn hb P1'
    go_wp2_with fail
    refine bodyPost_ret (v := .bool true) (by simp [results, Try.results8, go_sem, ↓IntWalk.iteOmega]) rfl ⟨rfl, HW.out⟩
  | true =>
    rw [hf] at cw
    have hs : s.size ≤ 60 := by unfold fewG at hf; simp at hf; exact hf.2
    clear hf
    go_enter Try.func8, Try.ntmps8
    go_wp2_with fail
    refine (cw _).mono ?_
    rintro e w1 ⟨rfl, hb⟩
    have RB : Aside (w1.heap[rb]? = some (.cells #[.slice ao L.length cap, .int .i64 g] 24 (0, 0))) := heap_later RB0.out hb
    have HBn : Aside (Below w.heap.size w w1) := Below.trans (by first | exact Below.refl _ _ | exact Below.alloc (Below.refl _ _) (Nat.le_refl _) _ | exact below_drewN (Below.refl _ _) _ | exact below_drewN (Below.alloc (Below.refl _ _) (Nat.le_refl _) _) _ | exact Below.alloc (Below.alloc (Below.refl _ _) (Nat.le_refl _) _) (by simp) _) (hb.mono (by first | exact Nat.le_refl _ | (simp; done) | (simp; omega)))
    have P1' : Aside (Prg L ao w1) := P1.out.later HBn.out
    have HW' : Aside (Below w.heap.size w w1) := HW.out.trans (HBn.out.mono HW.out.size)
    clear HW P1
    have P1 : Aside (Prg L ao w1) := P1'.out
    have HW : Aside (Below w.heap.size w w1) := HW'.out
    clear HW' HBn hb P1'
    clear RB0 cw
    have c0 := cell_heap RB.out 0 _ rfl
    have c1 := cell_heap RB.out 1 _ rfl
    have lrb : rb < w1.heap.size := (Array.getElem?_eq_some_iff.1 RB.out).1
    have cr := rright_calls L ao cap g w1 P1.out hl
    have cR := fun W h => right_calls L ao cap g W h hl
    cases hr : rightF L g with
    | false =>
      rw [hr] at cr cR
      go_wp2_with fail
      refine (cr).mono ?_
      rintro e w2 ⟨rfl, hb⟩
      have HBn : Aside (Below w1.heap.size w1 w2) := Below.trans (by first | exact Below.refl _ _ | exact Below.alloc (Below.refl _ _) (Nat.le_refl _) _ | exact below_drewN (Below.refl _ _) _ | exact below_drewN (Below.alloc (Below.refl _ _) (Nat.le_refl _) _) _ | exact Below.alloc (Below.alloc (Below.refl _ _) (Nat.le_refl _) _) (by simp) _) (hb.mono (by first | exact Nat.le_refl _ | (simp; done) | (simp; omega)))
      have P1' : Aside (Prg L ao w2) := P1.out.later HBn.out
      have RB' : Aside (w2.heap[rb]? = some (.cells #[.slice ao L.length cap, .int .i64 g] 24 (0, 0))) := heap_later RB.out HBn.out
      have HW' : Aside (Below w.heap.size w w2) := HW.out.trans (HBn.out.mono HW.out.size)
      clear HW P1 RB
      have P1 : Aside (Prg L ao w2) := P1'.out
      have RB : Aside (w2.heap[rb]? = some (.cells #[.slice ao L.length cap, .int .i64 g] 24 (0, 0))) := RB'.out
      have HW : Aside (Below w.heap.size w w2) := HW'.out
      clear HW' HBn hb P1' RB'
      clear cr c0 c1 lrb
      have c0 := cell_heap RB.out 0 _ rfl
      have c1 := cell_heap RB.out 1 _ rfl
      have lrb : rb < w2.heap.size := (Array.getElem?_eq_some_iff.1 RB.out).1
      have cR2 := cR w2 P1.out
      clear cR
      go_wp2_with fail
      refine (cR2).mono ?_
      rintro e w3 ⟨rfl, hb⟩
      have HBn : Aside (Below w2.heap.size w2 w3) := Below.trans (by first | exact Below.refl _ _ | exact Below.alloc (Below.refl _ _) (Nat.le_refl _) _ | exact below_drewN (Below.refl _ _) _ | exact below_drewN (Below.alloc (Below.refl _ _) (Nat.le_refl _) _) _ | exact Below.alloc (Below.alloc (Below.refl _ _) (Nat.le_refl _) _) (by simp) _) (hb.mono (by first | exact Nat.le_refl _ | (simp; done) | (simp; omega)))
      have P1' : Aside (Prg L ao w3) := P1.out.later HBn.out
      have RB' : Aside (w3.heap[rb]? = some (.cells #[.slice ao L.length cap, .int .i64 g] 24 (0, 0))) := heap_later RB.out HBn.out
      have HW' : Aside (Below w.heap.size w w3) := HW.out.trans (HBn.out.mono HW.out.size)
      clear HW P1 RB
      have P1 : Aside (Prg L ao w3) := P1'.out
      have RB : Aside (w3.heap[rb]? = some (.cells #[.slice ao L.length cap, .int .i64 g] 24 (0, 0))) := RB'.out
      have HW : Aside (Below w.heap.size w w3) := HW'.out
      clear HW' HBn hb P1' RB'
      clear cR2 c0 c1 lrb
      go_wp2_with fail
      refine (alive_calls _).mono ?_
      rintro e w4 ⟨rfl, hb⟩
      have HBn : Aside (Below w3.heap.size w3 w4) := Below.trans (by first | exact Below.refl _ _ | exact Below.alloc (Below.refl _ _) (Nat.le_refl _) _ | exact below_drewN (Below.refl _ _) _ | exact below_drewN (Below.alloc (Below.refl _ _) (Nat.le_refl _) _) _ | exact Below.alloc (Below.alloc (Below.refl _ _) (Nat.le_refl _) _) (by simp) _) (hb.mono (by first | exact Nat.le_refl _ | (simp; done) | (simp; omega)))
      have P1' : Aside (Prg L ao w4) := P1.out.later HBn.out
      have RB' : Aside (w4.heap[rb]? = some (.cells #[.slice ao L.length cap, .int .i64 g] 24 (0, 0))) := heap_later RB.out HBn.out
      have HW' : Aside (Below w.heap.size w w4) := HW.out.trans (HBn.out.mono HW.out.size)
      clear HW P1 RB
      have P1 : Aside (Prg L ao w4) := P1'.out
      have RB : Aside (w4.heap[rb]? = some (.cells #[.slice ao L.length cap, .int .i64 g] 24 (0, 0))) := RB'.out
      have HW : Aside (Below w.heap.size w w4) := HW'.out
      clear HW' HBn hb P1' RB'
      go_wp2_with fail
      refine bodyPost_ret (v := .bool true) (by simp [results, Try.results8, go_sem, ↓IntWalk.iteOmega]) rfl ⟨rfl, HW.out⟩
    | true =>
      rw [hr] at cr cR
      have HR9 : Aside (rightF L g = true) := hr
      obtain ⟨q1, q2, -⟩ := right_parts hr
      clear hr
      obtain ⟨G, hG⟩ : ∃ G : Nat, g = (G : Int) := ⟨g.toNat, by omega⟩
      subst hG
      have HR : Aside (rightF L (G : Int) = true) := HR9.out
      clear HR9
      go_wp2_with fail
      refine (cr).mono ?_
      rintro e w2 ⟨rfl, hb⟩
      have HBn : Aside (Below w1.heap.size w1 w2) := Below.trans (by first | exact Below.refl _ _ | exact Below.alloc (Below.refl _ _) (Nat.le_refl _) _ | exact below_drewN (Below.refl _ _) _ | exact below_drewN (Below.alloc (Below.refl _ _) (Nat.le_refl _) _) _ | exact Below.alloc (Below.alloc (Below.refl _ _) (Nat.le_refl _) _) (by simp) _) (hb.mono (by first | exact Nat.le_refl _ | (simp; done) | (simp; omega)))
      have P1' : Aside (Prg L ao w2) := P1.out.later HBn.out
      have RB' : Aside (w2.heap[rb]? = some (.cells #[.slice ao L.length cap, .int .i64 (G : Int)] 24 (0, 0))) := heap_later RB.out HBn.out
      have HW' : Aside (Below w.heap.size w w2) := HW.out.trans (HBn.out.mono HW.out.size)
      clear HW P1 RB
      have P1 : Aside (Prg L ao w2) := P1'.out
      have RB : Aside (w2.heap[rb]? = some (.cells #[.slice ao L.length cap, .int .i64 (G : Int)] 24 (0, 0))) := RB'.out
      have HW : Aside (Below w.heap.size w w2) := HW'.out
      clear HW' HBn hb P1' RB'
      clear cr c0 c1 lrb
      have c0 := cell_heap RB.out 0 _ rfl
      have c1 := cell_heap RB.out 1 _ rfl
      have lrb : rb < w2.heap.size := (Array.getElem?_eq_some_iff.1 RB.out).1
      have cm := match_calls L ao cap G s w2 ⟨P1.out, HR.out, by omega⟩
      obtain ⟨rm, hrm⟩ : ∃ r, matchTop L G s = r := ⟨_, rfl⟩
      have LNm : Aside (∀ cs, rm = some cs → cs.length ≤ 1000000) := fun cs h => by have := matchTop_len HR.out (hrm.trans h); omega
      rw [hrm] at cm
      go_wp2_with fail
      refine cm.mono ?_
      intro e w3 hm
      obtain ⟨vam, rfl, hv, hb⟩ := match_pairs hm
      have HBn : Aside (Below w2.heap.size w2 w3) := Below.trans (by first | exact Below.refl _ _ | exact Below.alloc (Below.refl _ _) (Nat.le_refl _) _ | exact below_drewN (Below.refl _ _) _ | exact below_drewN (Below.alloc (Below.refl _ _) (Nat.le_refl _) _) _ | exact Below.alloc (Below.alloc (Below.refl _ _) (Nat.le_refl _) _) (by simp) _) (hb.mono (by first | exact Nat.le_refl _ | (simp; done) | (simp; omega)))
      have P1' : Aside (Prg L ao w3) := P1.out.later HBn.out
      have RB' : Aside (w3.heap[rb]? = some (.cells #[.slice ao L.length cap, .int .i64 (G : Int)] 24 (0, 0))) := heap_later RB.out HBn.out
      have HW' : Aside (Below w.heap.size w w3) := HW.out.trans (HBn.out.mono HW.out.size)
      clear HW P1 RB
      have P1 : Aside (Prg L ao w3) := P1'.out
      have RB : Aside (w3.heap[rb]? = some (.cells #[.slice ao L.length cap, .int .i64 (G : Int)] 24 (0, 0))) := RB'.out
      have HW : Aside (Below w.heap.size w w3) := HW'.out
      clear HW' HBn hb P1' RB'
      have VA : Aside (Left vam rm w3) := hv
      clear cm hm hv c0 c1 lrb
      have c0 := cell_heap RB.out 0 _ rfl
      have c1 := cell_heap RB.out 1 _ rfl
      have lrb : rb < w3.heap.size := (Array.getElem?_eq_some_iff.1 RB.out).1
      have cm := rmatch_calls L ao cap G s w3 ⟨P1.out, HR.out, by omega⟩
      rw [hrm] at cm
      go_wp2_with fail
      refine cm.mono ?_
      intro e w4 hm
      obtain ⟨vbm, rfl, hv, hb⟩ := rmatch_pairs hm VA.out (Below.refl _ _)
      have HBn : Aside (Below w3.heap.size w3 w4) := Below.trans (by first | exact Below.refl _ _ | exact Below.alloc (Below.refl _ _) (Nat.le_refl _) _ | exact below_drewN (Below.refl _ _) _ | exact below_drewN (Below.alloc (Below.refl _ _) (Nat.le_refl _) _) _ | exact Below.alloc (Below.alloc (Below.refl _ _) (Nat.le_refl _) _) (by simp) _) (hb.mono (by first | exact Nat.le_refl _ | (simp; done) | (simp; omega)))
      have P1' : Aside (Prg L ao w4) := P1.out.later HBn.out
      have RB' : Aside (w4.heap[rb]? = some (.cells #[.slice ao L.length cap, .int .i64 (G : Int)] 24 (0, 0))) := heap_later RB.out HBn.out
      have HW' : Aside (Below w.heap.size w w4) := HW.out.trans (HBn.out.mono HW.out.size)
      clear HW P1 RB
      have P1 : Aside (Prg L ao w4) := P1'.out
      have RB : Aside (w4.heap[rb]? = some (.cells #[.slice ao L.length cap, .int .i64 (G : Int)] 24 (0, 0))) := RB'.out
      have HW : Aside (Below w.heap.size w w4) := HW'.out
      clear HW' HBn hb P1' RB'
      have PRm : Aside (Pair vam vbm rm w4) := hv
      clear cm hm hv VA hrm c0 c1 lrb
      have c0 := cell_heap RB.out 0 _ rfl
      have c1 := cell_heap RB.out 1 _ rfl
      have lrb : rb < w4.heap.size := (Array.getElem?_eq_some_iff.1 RB.out).1
      have cm := whole_calls L ao cap G s w4 ⟨P1.out, HR.out, by omega⟩
      obtain ⟨rh, hrh⟩ : ∃ r, wholeTop L G s = r := ⟨_, rfl⟩
      have LNh : Aside (∀ cs, rh = some cs → cs.length ≤ 1000000) := fun cs h => by have := wholeTop_len HR.out (hrh.trans h); omega
      rw [hrh] at cm
      go_wp2_with fail
      refine cm.mono ?_
      intro e w5 hm
      obtain ⟨vah, rfl, hv, hb⟩ := match_pairs hm
      have HBn : Aside (Below w4.heap.size w4 w5) := Below.trans (by first | exact Below.refl _ _ | exact Below.alloc (Below.refl _ _) (Nat.le_refl _) _ | exact below_drewN (Below.refl _ _) _ | exact below_drewN (Below.alloc (Below.refl _ _) (Nat.le_refl _) _) _ | exact Below.alloc (Below.alloc (Below.refl _ _) (Nat.le_refl _) _) (by simp) _) (hb.mono (by first | exact Nat.le_refl _ | (simp; done) | (simp; omega)))
      have P1' : Aside (Prg L ao w5) := P1.out.later HBn.out
      have RB' : Aside (w5.heap[rb]? = some (.cells #[.slice ao L.length cap, .int .i64 (G : Int)] 24 (0, 0))) := heap_later RB.out HBn.out
      have PRm' : Aside (Pair vam vbm rm w5) := PRm.out.later HBn.out
      have HW' : Aside (Below w.heap.size w w5) := HW.out.trans (HBn.out.mono HW.out.size)
      clear HW P1 RB PRm
      have P1 : Aside (Prg L ao w5) := P1'.out
      have RB : Aside (w5.heap[rb]? = some (.cells #[.slice ao L.length cap, .int .i64 (G : Int)] 24 (0, 0))) := RB'.out
      have PRm : Aside (Pair vam vbm rm w5) := PRm'.out
      have HW : Aside (Below w.heap.size w w5) := HW'.out
      clear HW' HBn hb P1' RB' PRm'
      have VA : Aside (Left vah rh w5) := hv
      clear cm hm hv c0 c1 lrb
      have c0 := cell_heap RB.out 0 _ rfl
      have c1 := cell_heap RB.out 1 _ rfl
      have lrb : rb < w5.heap.size := (Array.getElem?_eq_some_iff.1 RB.out).1
      have cm := rwhole_calls L ao cap G s w5 ⟨P1.out, HR.out, by omega⟩
      rw [hrh] at cm
      go_wp2_with fail
      refine cm.mono ?_
      intro e w6 hm
      obtain ⟨vbh, rfl, hv, hb⟩ := rmatch_pairs hm VA.out (Below.refl _ _)
      have HBn : Aside (Below w5.heap.size w5 w6) := Below.trans (by first | exact Below.refl _ _ | exact Below.alloc (Below.refl _ _) (Nat.le_refl _) _ | exact below_drewN (Below.refl _ _) _ | exact below_drewN (Below.alloc (Below.refl _ _) (Nat.le_refl _) _) _ | exact Below.alloc (Below.alloc (Below.refl _ _) (Nat.le_refl _) _) (by simp) _) (hb.mono (by first | exact Nat.le_refl _ | (simp; done) | (simp; omega)))
      have P1' : Aside (Prg L ao w6) := P1.out.later HBn.out
      have RB' : Aside (w6.heap[rb]? = some (.cells #[.slice ao L.length cap, .int .i64 (G : Int)] 24 (0, 0))) := heap_later RB.out HBn.out
      have PRm' : Aside (Pair vam vbm rm w6) := PRm.out.later HBn.out
      have HW' : Aside (Below w.heap.size w w6) := HW.out.trans (HBn.out.mono HW.out.size)
      clear HW P1 RB PRm
      have P1 : Aside (Prg L ao w6) := P1'.out
      have RB : Aside (w6.heap[rb]? = some (.cells #[.slice ao L.length cap, .int .i64 (G : Int)] 24 (0, 0))) := RB'.out
      have PRm : Aside (Pair vam vbm rm w6) := PRm'.out
      have HW : Aside (Below w.heap.size w w6) := HW'.out
      clear HW' HBn hb P1' RB' PRm'
      have PRh : Aside (Pair vah vbh rh w6) := hv
      clear cm hm hv VA hrh c0 c1 lrb
      have c0 := cell_heap RB.out 0 _ rfl
      have c1 := cell_heap RB.out 1 _ rfl
      have lrb : rb < w6.heap.size := (Array.getElem?_eq_some_iff.1 RB.out).1
      have cR2 := cR w6 P1.out
      clear cR
      go_wp2_with fail
      refine (cR2).mono ?_
      rintro e w7 ⟨rfl, hb⟩
      have HBn : Aside (Below w6.heap.size w6 w7) := Below.trans (by first | exact Below.refl _ _ | exact Below.alloc (Below.refl _ _) (Nat.le_refl _) _ | exact below_drewN (Below.refl _ _) _ | exact below_drewN (Below.alloc (Below.refl _ _) (Nat.le_refl _) _) _ | exact Below.alloc (Below.alloc (Below.refl _ _) (Nat.le_refl _) _) (by simp) _) (hb.mono (by first | exact Nat.le_refl _ | (simp; done) | (simp; omega)))
      have P1' : Aside (Prg L ao w7) := P1.out.later HBn.out
      have RB' : Aside (w7.heap[rb]? = some (.cells #[.slice ao L.length cap, .int .i64 (G : Int)] 24 (0, 0))) := heap_later RB.out HBn.out
      have PRm' : Aside (Pair vam vbm rm w7) := PRm.out.later HBn.out
      have PRh' : Aside (Pair vah vbh rh w7) := PRh.out.later HBn.out
      have HW' : Aside (Below w.heap.size w w7) := HW.out.trans (HBn.out.mono HW.out.size)
      clear HW P1 RB PRm PRh
      have P1 : Aside (Prg L ao w7) := P1'.out
      have RB : Aside (w7.heap[rb]? = some (.cells #[.slice ao L.length cap, .int .i64 (G : Int)] 24 (0, 0))) := RB'.out
      have PRm : Aside (Pair vam vbm rm w7) := PRm'.out
      have PRh : Aside (Pair vah vbh rh w7) := PRh'.out
      have HW : Aside (Below w.heap.size w w7) := HW'.out
      clear HW' HBn hb P1' RB' PRm' PRh'
      clear cR2 c0 c1 lrb
      have ci := ints_pair vam vbm rm w7 PRm.out LNm.out
      go_wp2_with fail
      refine (ci).mono ?_
      rintro e w8 ⟨rfl, hb⟩
      have HBn : Aside (Below w7.heap.size w7 w8) := Below.trans (by first | exact Below.refl _ _ | exact Below.alloc (Below.refl _ _) (Nat.le_refl _) _ | exact below_drewN (Below.refl _ _) _ | exact below_drewN (Below.alloc (Below.refl _ _) (Nat.le_refl _) _) _ | exact Below.alloc (Below.alloc (Below.refl _ _) (Nat.le_refl _) _) (by simp) _) (hb.mono (by first | exact Nat.le_refl _ | (simp; done) | (simp; omega)))
      have P1' : Aside (Prg L ao w8) := P1.out.later HBn.out
      have RB' : Aside (w8.heap[rb]? = some (.cells #[.slice ao L.length cap, .int .i64 (G : Int)] 24 (0, 0))) := heap_later RB.out HBn.out
      have PRm' : Aside (Pair vam vbm rm w8) := PRm.out.later HBn.out
      have PRh' : Aside (Pair vah vbh rh w8) := PRh.out.later HBn.out
      have HW' : Aside (Below w.heap.size w w8) := HW.out.trans (HBn.out.mono HW.out.size)
      clear HW P1 RB PRm PRh
      have P1 : Aside (Prg L ao w8) := P1'.out
      have RB : Aside (w8.heap[rb]? = some (.cells #[.slice ao L.length cap, .int .i64 (G : Int)] 24 (0, 0))) := RB'.out
      have PRm : Aside (Pair vam vbm rm w8) := PRm'.out
      have PRh : Aside (Pair vah vbh rh w8) := PRh'.out
      have HW : Aside (Below w.heap.size w w8) := HW'.out
      clear HW' HBn hb P1' RB' PRm' PRh'
      clear ci
      have eo : (rm.isSome == rm.isSome) = true := by simp
      have ci := ints_pair vah vbh rh w8 PRh.out LNh.out
      go_wp2_with fail
      refine (ci).mono ?_
      rintro e w9 ⟨rfl, hb⟩
      have HBn : Aside (Below w8.heap.size w8 w9) := Below.trans (by first | exact Below.refl _ _ | exact Below.alloc (Below.refl _ _) (Nat.le_refl _) _ | exact below_drewN (Below.refl _ _) _ | exact below_drewN (Below.alloc (Below.refl _ _) (Nat.le_refl _) _) _ | exact Below.alloc (Below.alloc (Below.refl _ _) (Nat.le_refl _) _) (by simp) _) (hb.mono (by first | exact Nat.le_refl _ | (simp; done) | (simp; omega)))
      have P1' : Aside (Prg L ao w9) := P1.out.later HBn.out
      have RB' : Aside (w9.heap[rb]? = some (.cells #[.slice ao L.length cap, .int .i64 (G : Int)] 24 (0, 0))) := heap_later RB.out HBn.out
      have PRm' : Aside (Pair vam vbm rm w9) := PRm.out.later HBn.out
      have PRh' : Aside (Pair vah vbh rh w9) := PRh.out.later HBn.out
      have HW' : Aside (Below w.heap.size w w9) := HW.out.trans (HBn.out.mono HW.out.size)
      clear HW P1 RB PRm PRh
      have P1 : Aside (Prg L ao w9) := P1'.out
      have RB : Aside (w9.heap[rb]? = some (.cells #[.slice ao L.length cap, .int .i64 (G : Int)] 24 (0, 0))) := RB'.out
      have PRm : Aside (Pair vam vbm rm w9) := PRm'.out
      have PRh : Aside (Pair vah vbh rh w9) := PRh'.out
      have HW : Aside (Below w.heap.size w w9) := HW'.out
      clear HW' HBn hb P1' RB' PRm' PRh'
      clear ci
      have eo2 : (rh.isSome == rh.isSome) = true := by simp
      go_wp2_with fail
      refine (alive_calls _).mono ?_
      rintro e w10 ⟨rfl, hb⟩
      have HBn : Aside (Below w9.heap.size w9 w10) := Below.trans (by first | exact Below.refl _ _ | exact Below.alloc (Below.refl _ _) (Nat.le_refl _) _ | exact below_drewN (Below.refl _ _) _ | exact below_drewN (Below.alloc (Below.refl _ _) (Nat.le_refl _) _) _ | exact Below.alloc (Below.alloc (Below.refl _ _) (Nat.le_refl _) _) (by simp) _) (hb.mono (by first | exact Nat.le_refl _ | (simp; done) | (simp; omega)))
      have P1' : Aside (Prg L ao w10) := P1.out.later HBn.out
      have RB' : Aside (w10.heap[rb]? = some (.cells #[.slice ao L.length cap, .int .i64 (G : Int)] 24 (0, 0))) := heap_later RB.out HBn.out
      have PRm' : Aside (Pair vam vbm rm w10) := PRm.out.later HBn.out
      have PRh' : Aside (Pair vah vbh rh w10) := PRh.out.later HBn.out
      have HW' : Aside (Below w.heap.size w w10) := HW.out.trans (HBn.out.mono HW.out.size)
      clear HW P1 RB PRm PRh
      have P1 : Aside (Prg L ao w10) := P1'.out
      have RB : Aside (w10.heap[rb]? = some (.cells #[.slice ao L.length cap, .int .i64 (G : Int)] 24 (0, 0))) := RB'.out
      have PRm : Aside (Pair vam vbm rm w10) := PRm'.out
      have PRh : Aside (Pair vah vbh rh w10) := PRh'.out
      have HW : Aside (Below w.heap.size w w10) := HW'.out
      clear HW' HBn hb P1' RB' PRm' PRh'
      go_wp2_with fail
      refine bodyPost_ret (v := .bool true) (by simp [results, Try.results8, go_sem, ↓IntWalk.iteOmega]) rfl ⟨rfl, HW.out⟩

end Go.Proofs.Ytfhccmegobbnaaa
