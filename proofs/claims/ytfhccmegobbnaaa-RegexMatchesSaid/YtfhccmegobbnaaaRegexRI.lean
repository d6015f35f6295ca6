/- This text proves the walks of after, Match and Whole of the reference. Conditions: those that each theorem names. -/
import Derived.Test.YtfhccmegobbnaaaRegexRH
import Derived.Deep.AppendLies
namespace Go.Proofs.Ytfhccmegobbnaaa
open Go.ChangeShapes Go.WideShapes Go.ChangeAt Go.RowKit
set_option linter.unusedVariables false
set_option linter.unusedSimpArgs false

/-- A match from a position on in memory, as the reference has it. -/
def FA (B : Nat) (r : Option (List Int × Nat × Nat)) (v : Value) (b1 b2 : Int) (b3 : Bool) (W : World) : Prop :=
  match r with
  | none => v = .slice none 0 0 ∧ b1 = 0 ∧ b2 = 0 ∧ b3 = false
  | some (cs, a, e) => Row B v cs W ∧ b1 = (a : Int) ∧ b2 = (e : Int) ∧ b3 = true
theorem FA.later {B : Nat} {r : Option (List Int × Nat × Nat)} {v : Value} {b1 b2 : Int} {b3 : Bool} {W W' : World} (h : FA B r v b1 b2 b3 W) (hb : Below W.heap.size W W') : FA B r v b1 b2 b3 W' := by
  unfold FA at h ⊢
  split at h
  · exact h
  · exact ⟨h.1.later hb, h.2⟩
theorem FA.form {B : Nat} {r : Option (List Int × Nat × Nat)} {v : Value} {b1 b2 : Int} {b3 : Bool} {W : World} (h : FA B r v b1 b2 b3 W) : ∃ a n c, v = .slice a n c := by
  unfold FA at h
  split at h
  · exact ⟨_, _, _, h.1⟩
  · obtain ⟨b, c, e, _⟩ := h.1.form
    exact ⟨_, _, _, e⟩
/-- What after leaves. -/
def AfterPost (w : World) (r : Option (List Int × Nat × Nat)) (e : Ending) (W : World) : Prop :=
  ∃ va vn vc b1 b2 b3, e = .returned (.agg #[.slice va vn vc, .int .i64 b1, .int .i64 b2, .bool b3]) ∧ FA w.heap.size r (.slice va vn vc) b1 b2 b3 W ∧ Below w.heap.size w W
set_option maxRecDepth 20000 in
set_option maxHeartbeats 64000000 in
theorem rafter_calls (L : List In) (ao : Option Addr) (cap g : Nat) (s : ByteArray) (p : Nat) (w : World) (E : AEnv w L ao (g : Int) s) (hp : p ≤ s.size) :
    Calls Try.prog 35 #[.agg #[.slice ao L.length cap, .int .i64 (g : Int)], .string s, .int .i64 (p : Int)] w (AfterPost w (firstTop L g s p)) := by
  obtain ⟨R, hR⟩ : ∃ R, firstTop L g s p = R := ⟨_, rfl⟩
  rw [hR]
  have HR : Aside (firstF (s.size + 1 - p) L g s p = R) := hR
  have HE : Aside (AEnv w L ao (g : Int) s) := E
  have hs := E.hs
  obtain ⟨n, hln⟩ : ∃ n, L.length = n := ⟨_, rfl⟩
  have HN : Aside (L.length = n) := hln
  obtain ⟨Q, hQ⟩ : ∃ Q : Ending → World → Prop, AfterPost w R = Q := ⟨_, rfl⟩
  rw [hQ]
  have HQ : Aside (∀ va vn vc b1 b2 b3 W, FA w.heap.size R (.slice va vn vc) b1 b2 b3 W → Below w.heap.size w W → Q (.returned (.agg #[.slice va vn vc, .int .i64 b1, .int .i64 b2, .bool b3])) W) := fun va vn vc b1 b2 b3 W h1 h2 => by rw [← hQ]; exact ⟨_, _, _, _, _, _, rfl, h1, h2⟩
  have Q3 : Aside (((w.alloc (.cells #[.slice ao n cap, .int .i64 (g : Int)] 24)).alloc (.cells #[.slice none 0 0, .int .i64 0, .int .i64 0, .bool false] 65)).heap[w.heap.size]? = some (.cells #[.slice ao n cap, .int .i64 (g : Int)] 24 (0, 0))) := hp_old (hp_new rfl)
  have Q6 : Aside (((w.alloc (.cells #[.slice ao n cap, .int .i64 (g : Int)] 24)).alloc (.cells #[.slice none 0 0, .int .i64 0, .int .i64 0, .bool false] 65)).heap[(w.heap.size + 1)]? = some (.cells #[.slice none 0 0, .int .i64 0, .int .i64 0, .bool false] 65 (0, 0))) := hp_new (by simp)
  have QB : Aside (Below w.heap.size w ((w.alloc (.cells #[.slice ao n cap, .int .i64 (g : Int)] 24)).alloc (.cells #[.slice none 0 0, .int .i64 0, .int .i64 0, .bool false] 65))) := by
    show Below _ _ _
    repeat (first | (with_reducible exact Below.refl _ _) | (with_reducible assumption) | (with_reducible refine below_to_plus ?_ ?_ _) | (with_reducible refine below_holds ?_ ?_ _ _) | (with_reducible refine Below.alloc ?_ ?_ _) | (with_reducible refine Below.drew ?_) | (with_reducible refine below_drewN ?_ _) | (with_reducible refine Below.setCell ?_ ?_ _))
    all_goals first | omega | (simp; done) | (simp [go_sem]; done) | (simp [go_sem]; omega)
  rw [hln]
  clear hln hR hQ E
  go_enter Try.func35, Try.ntmps35
  go_wp2_with fail
  generalize ((w.alloc (.cells #[.slice ao n cap, .int .i64 (g : Int)] 24)).alloc (.cells #[.slice none 0 0, .int .i64 0, .int .i64 0, .bool false] 65)) = W2 at Q3 Q6 QB ⊢
  go_loopg [7] (s.size + 2 - p) (fun gk s7 wr => ∃ q : Nat, s7 = .int .i64 (q : Int) ∧ q + gk = s.size + 2 ∧ q ≤ s.size + 1 ∧ Aside (firstF (s.size + 1 - q) L g s q = R) ∧ Aside (wr.heap[w.heap.size]? = some (.cells #[.slice ao n cap, .int .i64 (g : Int)] 24 (0, 0))) ∧ Aside (wr.heap[(w.heap.size + 1)]? = some (.cells #[.slice none 0 0, .int .i64 0, .int .i64 0, .bool false] 65 (0, 0))) ∧ Aside (Below w.heap.size w wr))
  case atStart => exact ⟨p, rfl, by omega, by omega, HR.out, Q3.out, Q6.out, QB.out⟩
  case round =>
    obtain ⟨q, rfl, hg, hq, HF, R3, R6, HB⟩ := hrel
    clear HR Q3 Q6 QB
    have l6 : (w.heap.size + 1) < wr.heap.size := (Array.getElem?_eq_some_iff.1 R6.out).1
    by_cases hqs : s.size < q
    · have hd : decide ((q : Int) ≤ (s.size : Int)) = false := decide_eq_false (by omega)
      have hz : ¬ (q : Int) ≤ (s.size : Int) := by omega
      have eR : R = none := by
        have h := HF.out
        rw [show s.size + 1 - q = 0 by omega] at h
        exact h.symm
      subst eR
      rw [holds_self R6.out]
      go_wp2
      refine bodyPost_ret (v := .agg #[.slice none 0 0, .int .i64 0, .int .i64 0, .bool false]) (by simp [results, Try.results35, go_sem, ↓IntWalk.iteOmega, *]) rfl ?_
      exact HQ.out _ _ _ _ _ _ _ ⟨rfl, rfl, rfl, rfl⟩ (below_holds HB.out (by omega) _ _)
    have hd : decide ((q : Int) ≤ (s.size : Int)) = true := decide_eq_true (by omega)
    have hz : (q : Int) ≤ (s.size : Int) := by omega
    have HF2 : Aside (R = match runTop L g s q false with | some (cs, e) => some (cs, q, e) | none => firstF (s.size + 1 - (q + 1)) L g s (q + 1)) := by
      show _ = _
      rw [← HF.out, show s.size + 1 - q = (s.size + 1 - (q + 1)) + 1 by omega]
      conv => lhs; unfold firstF
      rw [if_neg hqs]
      cases runTop L g s q false <;> rfl
    have wq1 : IntKind.i64.wrap ((q : Int) + 1) = ((q + 1 : Nat) : Int) := by rw [IntKind.wrap_i64]; omega
    have c0 := cell_heap R3.out 0 _ rfl
    have c1 := cell_heap R3.out 1 _ rfl
    have cr := rfrom_calls L ao cap g s q false wr (HE.out.later HB.out) (by omega)
    rw [HN.out] at cr
    clear HF hqs
    go_wp2_with fail
    refine cr.mono ?_
    rintro e w3 ⟨v, b1, b2, b3, rfl, HV, hb3⟩
    obtain ⟨va, vn, vc, ev⟩ := HV.form
    subst ev
    have B3 : Aside (Below w.heap.size w w3) := HB.out.trans (hb3.mono HB.out.size)
    have T3 : Aside (w3.heap[w.heap.size]? = some (.cells #[.slice ao n cap, .int .i64 (g : Int)] 24 (0, 0))) := heap_later R3.out hb3
    have T6 : Aside (w3.heap[(w.heap.size + 1)]? = some (.cells #[.slice none 0 0, .int .i64 0, .int .i64 0, .bool false] 65 (0, 0))) := heap_later R6.out hb3
    have S3 : Aside (w.heap.size ≤ wr.heap.size) := HB.out.size
    have l6b : (w.heap.size + 1) < w3.heap.size := Nat.lt_of_lt_of_le l6 hb3.size
    clear cr hb3 HB R3 R6 c0 c1 l6
    cases hr : runTop L g s q false with
    | none =>
      rw [hr] at HV HF2
      obtain ⟨ev, rfl, rfl, rfl⟩ := HV
      simp only [Value.slice.injEq] at ev
      obtain ⟨rfl, rfl, rfl⟩ := ev
      have HF3 : Aside (firstF (s.size + 1 - (q + 1)) L g s (q + 1) = R) := HF2.out.symm
      clear HF2 hr
      go_wp2_with fail
      go_roundg (s.size + 1 - q)
      case measure => omega
      case rel => exact ⟨q + 1, rfl, by omega, by omega, HF3.out, hp_old T3.out, hp_old T6.out, B3.out.alloc B3.out.size _⟩
    | some t =>
      obtain ⟨cs, z⟩ := t
      rw [hr] at HV HF2
      obtain ⟨HC, rfl, rfl, rfl⟩ := HV
      have HC : Aside (Row w.heap.size (.slice va vn vc) cs w3) := HC.lower S3.out
      have eR : R = some (cs, q, z) := HF2.out
      subst eR
      clear hr HF2
      rw [holds_self T6.out]
      go_wp2
      refine bodyPost_ret (v := .agg #[.slice va vn vc, .int .i64 (q : Int), .int .i64 (z : Int), .bool true]) (by simp [results, Try.results35, go_sem, ↓IntWalk.iteOmega, *]) rfl ?_
      refine HQ.out _ _ _ _ _ _ _ ⟨(HC.out.other T6.out (by decide)).later (Below.alloc (Below.refl _ _) (Nat.le_refl _) _), rfl, rfl, rfl⟩ ?_
      exact Below.alloc (below_holds B3.out (by omega) _ _) (by rw [size_holds]; exact B3.out.size) _
/-- What Match and Whole of the reference leave. -/
def RMPost (w : World) (r : Option (List Int)) (e : Ending) (W : World) : Prop :=
  ∃ v ok, e = .returned (.tuple #[v, .bool ok]) ∧ (match r with
  | none => (∃ a c, v = .slice a 0 c) ∧ ok = false
  | some cs => Row w.heap.size v cs W ∧ ok = true) ∧ Below w.heap.size w W

set_option maxRecDepth 20000 in
set_option maxHeartbeats 64000000 in
theorem rmatch_calls (L : List In) (ao : Option Addr) (cap g : Nat) (s : ByteArray) (w : World) (E : AEnv w L ao (g : Int) s) :
    Calls Try.prog 21 #[.agg #[.slice ao L.length cap, .int .i64 (g : Int)], .string s] w (RMPost w (matchTop L g s)) := by
  obtain ⟨n, hln⟩ : ∃ n, L.length = n := ⟨_, rfl⟩
  obtain ⟨R, hR⟩ : ∃ R, firstTop L g s 0 = R := ⟨_, rfl⟩
  have ER : matchTop L g s = R.map (·.1) := by rw [← hR]; rfl
  rw [ER]
  clear ER
  have LEN : Aside (∀ cs, (∃ t, R = some (cs, t)) → 0 < cs.length ∧ cs.length ≤ 20) := fun cs ⟨t, ht⟩ => by
    obtain ⟨p1, p2, -⟩ := right_parts E.hr
    have : cs.length = 2 * g := by
      rw [ht] at hR
      obtain ⟨a, z⟩ := t
      exact firstF_len E.hr _ _ hR
    omega
  obtain ⟨Q, hQ⟩ : ∃ Q : Ending → World → Prop, RMPost w (R.map (·.1)) = Q := ⟨_, rfl⟩
  rw [hQ]
  have HQ : Aside (∀ e W, RMPost w (R.map (·.1)) e W → Q e W) := fun e W h1 => by rw [← hQ]; exact h1
  obtain ⟨W1, hW1⟩ : ∃ V, w.alloc (.cells #[.slice ao n cap, .int .i64 (g : Int)] 24) = V := ⟨_, rfl⟩
  have B1 : Aside (Below w.heap.size w W1) := by show Below _ _ _; rw [← hW1]; exact Below.alloc (Below.refl _ _) (Nat.le_refl _) _
  have cf := rafter_calls L ao cap g s 0 W1 (E.later B1.out) (by omega)
  rw [hR, hln] at cf
  have HW : Aside (w.alloc (.cells #[.slice ao n cap, .int .i64 (g : Int)] 24) = W1) := hW1
  have LW1 : w.heap.size ≤ W1.heap.size := B1.out.size
  rw [hln]
  clear hln hR hQ E hW1
  go_enter Try.func21, Try.ntmps21
  go_wp2_with fail
  rw [HW.out]
  refine cf.mono ?_
  rintro e w3 ⟨va, vn, vc, b1, b2, b3, rfl, HV, hb3⟩
  have B3 : Aside (Below w.heap.size w (w3.alloc (.cells #[.slice va vn vc, .int .i64 b1, .int .i64 b2, .bool b3] 65))) := Below.alloc (B1.out.trans (hb3.mono B1.out.size)) (Nat.le_trans LW1 hb3.size) _
  have HV4 : Aside (FA w.heap.size R (.slice va vn vc) b1 b2 b3 (w3.alloc (.cells #[.slice va vn vc, .int .i64 b1, .int .i64 b2, .bool b3] 65))) := by
    have h := HV.later (Below.alloc (Below.refl _ _) (Nat.le_refl _) (.cells #[.slice va vn vc, .int .i64 b1, .int .i64 b2, .bool b3] 65))
    unfold FA at h
    show FA _ _ _ _ _ _ _
    unfold FA
    cases R with
    | none => exact h
    | some t => exact ⟨h.1.lower LW1, h.2⟩
  have R6 : Aside ((w3.alloc (.cells #[.slice va vn vc, .int .i64 b1, .int .i64 b2, .bool b3] 65)).heap[w3.heap.size]? = some (.cells #[.slice va vn vc, .int .i64 b1, .int .i64 b2, .bool b3] 65 (0, 0))) := hp_new rfl
  obtain ⟨a6, h6⟩ : ∃ b, w3.heap.size = b := ⟨_, rfl⟩
  clear cf hb3 HV HW B1
  go_wp2_with fail
  generalize w3.alloc (.cells #[.slice va vn vc, .int .i64 b1, .int .i64 b2, .bool b3] 65) = w4 at B3 HV4 R6 ⊢
  rw [h6] at R6
  try rw [h6]
  clear h6
  have c60 := cell_heap R6.out 0 _ rfl
  have c63 := cell_heap R6.out 3 _ rfl
  have l6 : a6 < w4.heap.size := (Array.getElem?_eq_some_iff.1 R6.out).1
  have n6 : ¬ a6 = w4.heap.size := by omega
  cases R with
  | none =>
    obtain ⟨ev, rfl, rfl, rfl⟩ := HV4.out
    simp only [Value.slice.injEq] at ev
    obtain ⟨rfl, rfl, rfl⟩ := ev
    clear HV4
    go_region_held3 (fun w' => w'.cell? ⟨a6, 0, none⟩ = some (.slice none 0 0) ∧ w'.cell? ⟨a6, 3, none⟩ = some (.bool false)) (first | (simp [go_sem, ↓IntWalk.iteOmega, *]; done)) (fail)
    all_goals go_wp2
    all_goals refine HQ.out _ _ ⟨_, _, rfl, ⟨⟨_, _, rfl⟩, rfl⟩, ?_⟩
    all_goals
      have hb4 := B3.out
      have hz4 := B3.out.size
      repeat (first | (with_reducible exact Below.refl _ _) | (with_reducible assumption) | (with_reducible refine below_to_plus ?_ ?_ _) | (with_reducible refine below_holds ?_ ?_ _ _) | (with_reducible refine Below.alloc ?_ ?_ _) | (with_reducible refine Below.drew ?_) | (with_reducible refine below_drewN ?_ _) | (with_reducible refine Below.setCell ?_ ?_ _))
      all_goals first | omega | (simp; done) | (simp [go_sem]; done) | (simp [go_sem]; omega)
  | some t =>
    obtain ⟨cs, t2⟩ := t
    have HV5 := HV4.out
    obtain ⟨ta, tz⟩ := t2
    obtain ⟨HC, rfl, rfl, rfl⟩ := HV5
    obtain ⟨cb, cc, ecv, hcb, hcc⟩ := HC.form
    simp only [Value.slice.injEq] at ecv
    obtain ⟨rfl, rfl, rfl⟩ := ecv
    obtain ⟨lc0, lc20⟩ := LEN.out cs ⟨_, rfl⟩
    obtain ⟨m, hm⟩ : ∃ m, cs.length = m := ⟨_, rfl⟩
    obtain ⟨i0, hi0, hz0, hs0, hb0⟩ := intInfo
    have HOWN : Aside ((w4.drew.alloc (.cells #[] 3)).ownsRow w4.heap.size 3 1 (.slice (some ⟨w4.heap.size, 0, none⟩) 0 0) 0 []) :=
      ⟨rfl, .inr ⟨w4.heap.size, 0, #[], rfl, Nat.le_refl _, (show (w4.alloc (.cells #[] 3)).heap[w4.heap.size]? = some (.cells #[] 3 (0, 0)) from hp_new rfl), Nat.le_refl _, by unfold maxLen; omega, rfl, rfl⟩⟩
    have HB9 : Aside (Below w4.heap.size w4 (w4.drew.alloc (.cells #[] 3))) := Below.alloc (Below.drew (Below.refl _ _)) (Nat.le_refl _) _
    have CSR : Aside (∀ j u, (cs.map (Value.int .i64))[j]? = some u → (w4.drew.alloc (.cells #[] 3)).cell? ((⟨cb, 0, none⟩ : Addr).add j) = some u) := fun j u hu => by
      rw [Addr.add_lit]
      have hj : j < cs.length := by have := (List.getElem?_eq_some_iff.1 hu).1; simpa using this
      rw [Nat.zero_add]
      refine (HB9.out.cell (p := ⟨cb, j, none⟩) hcb).trans ((hcc j hj).trans ?_)
      rw [← hu, List.getElem?_map, List.getElem?_eq_getElem hj, List.getD_eq_getElem?_getD, List.getElem?_eq_getElem hj]
      rfl
    have CON : Aside (∀ u ∈ cs.map (Value.int .i64), u.oneCell' = true) := by
      intro u hu
      rw [List.mem_map] at hu
      obtain ⟨q, -, rfl⟩ := hu
      rfl
    have CLN : Aside ((cs.map (Value.int .i64)).length = m * 1) := by show _ = _; rw [List.length_map, Nat.mul_one]; exact hm
    have HMM : Aside (cs.length = m) := hm
    rw [hm] at c60 lc0 lc20
    have hz9 : Aside ((w4.drew.alloc (.cells #[] 3)).heap.size = w4.heap.size + 1) := by show _ = _; simp
    clear HV4 hcc HC hm
    go_region_held3 (fun w' => w'.cell? ⟨a6, 0, none⟩ = some (.slice (some ⟨cb, 0, none⟩) m vc) ∧ w'.cell? ⟨a6, 3, none⟩ = some (.bool true)) (first | (simp [go_sem, ↓IntWalk.iteOmega, *]; done)) ((first | (refine step_append_lies _ rfl _ _ 30 rfl w4.heap.size 3 i0 _ 1 8 Try.underlying30 hi0 hz0 hs0 hb0 rfl (by omega) (.slice (some ⟨w4.heap.size, 0, none⟩) 0 0) 0 [] (by simp [Act.eval, Act.put]) HOWN.out ⟨cb, 0, none⟩ m vc (cs.map (Value.int .i64)) (by simp [Act.eval, Act.put]) CLN.out CSR.out CON.out (by omega) (by unfold maxLen; omega) (by omega) (by simp) _ rfl ?_; intro gg cap2 w5 hown hgrow hat hlt; have HGR : Aside _ := hgrow; have HOW : Aside _ := hown; have R6' : w5.heap[a6]? = _ := (hgrow.block a6 (Nat.lt_of_lt_of_le l6 HB9.out.size) (fun e => by simp [Value.ownBlock] at e; omega)).trans (heap_later R6.out HB9.out); have d60 := cell_heap R6' 0 _ rfl; have d63 := cell_heap R6' 3 _ rfl; rw [HMM.out] at d60; clear R6' hown hgrow hat)))
    all_goals go_wp2
    all_goals refine HQ.out _ _ ⟨_, _, rfl, ⟨⟨own_lower (by rw [HMM.out]; have h := HOW.out; rw [Nat.zero_add, List.nil_append] at h; exact h) (by have := B3.out.size; omega), by rw [HMM.out]; omega⟩, rfl⟩, ?_⟩
    all_goals exact (B3.out.trans (HB9.out.mono B3.out.size)).grown HGR.out (Nat.le_trans B3.out.size HB9.out.size) (fun k hk => by simp [Value.ownBlock] at hk; have := B3.out.size; omega)

set_option maxRecDepth 20000 in
set_option maxHeartbeats 64000000 in
theorem rwhole_calls (L : List In) (ao : Option Addr) (cap g : Nat) (s : ByteArray) (w : World) (E : AEnv w L ao (g : Int) s) :
    Calls Try.prog 22 #[.agg #[.slice ao L.length cap, .int .i64 (g : Int)], .string s] w (RMPost w (wholeTop L g s)) := by
  obtain ⟨n, hln⟩ : ∃ n, L.length = n := ⟨_, rfl⟩
  obtain ⟨R, hR⟩ : ∃ R, runTop L g s 0 true = R := ⟨_, rfl⟩
  have ER : wholeTop L g s = R.map (·.1) := by rw [← hR]; rfl
  rw [ER]
  clear ER
  have LEN : Aside (∀ cs, (∃ t, R = some (cs, t)) → 0 < cs.length ∧ cs.length ≤ 20) := fun cs ⟨t, ht⟩ => by
    obtain ⟨p1, p2, -⟩ := right_parts E.hr
    have : cs.length = 2 * g := by
      rw [ht] at hR
      skip
      exact runTop_len E.hr hR
    omega
  obtain ⟨Q, hQ⟩ : ∃ Q : Ending → World → Prop, RMPost w (R.map (·.1)) = Q := ⟨_, rfl⟩
  rw [hQ]
  have HQ : Aside (∀ e W, RMPost w (R.map (·.1)) e W → Q e W) := fun e W h1 => by rw [← hQ]; exact h1
  obtain ⟨W1, hW1⟩ : ∃ V, w.alloc (.cells #[.slice ao n cap, .int .i64 (g : Int)] 24) = V := ⟨_, rfl⟩
  have B1 : Aside (Below w.heap.size w W1) := by show Below _ _ _; rw [← hW1]; exact Below.alloc (Below.refl _ _) (Nat.le_refl _) _
  have cf := rfrom_calls L ao cap g s 0 true W1 (E.later B1.out) (by omega)
  rw [hR, hln] at cf
  have HW : Aside (w.alloc (.cells #[.slice ao n cap, .int .i64 (g : Int)] 24) = W1) := hW1
  have LW1 : w.heap.size ≤ W1.heap.size := B1.out.size
  rw [hln]
  clear hln hR hQ E hW1
  go_enter Try.func22, Try.ntmps22
  go_wp2_with fail
  rw [HW.out]
  refine cf.mono ?_
  rintro e w3 ⟨v, b1, b2, b3, rfl, HV, hb3⟩
  obtain ⟨va, vn, vc, ev⟩ := HV.form
  subst ev
  have B3 : Aside (Below w.heap.size w (w3.alloc (.cells #[.slice va vn vc, .int .i64 b1, .int .i64 b2, .bool b3] 65))) := Below.alloc (B1.out.trans (hb3.mono B1.out.size)) (Nat.le_trans LW1 hb3.size) _
  have HV4 : Aside (FV w.heap.size 0 R (.slice va vn vc) b1 b2 b3 (w3.alloc (.cells #[.slice va vn vc, .int .i64 b1, .int .i64 b2, .bool b3] 65))) := by
    have h := HV.later (Below.alloc (Below.refl _ _) (Nat.le_refl _) (.cells #[.slice va vn vc, .int .i64 b1, .int .i64 b2, .bool b3] 65))
    unfold FV at h
    show FV _ _ _ _ _ _ _ _
    unfold FV
    cases R with
    | none => exact h
    | some t => exact ⟨h.1.lower LW1, h.2⟩
  have R6 : Aside ((w3.alloc (.cells #[.slice va vn vc, .int .i64 b1, .int .i64 b2, .bool b3] 65)).heap[w3.heap.size]? = some (.cells #[.slice va vn vc, .int .i64 b1, .int .i64 b2, .bool b3] 65 (0, 0))) := hp_new rfl
  obtain ⟨a6, h6⟩ : ∃ b, w3.heap.size = b := ⟨_, rfl⟩
  clear cf hb3 HV HW B1
  go_wp2_with fail
  generalize w3.alloc (.cells #[.slice va vn vc, .int .i64 b1, .int .i64 b2, .bool b3] 65) = w4 at B3 HV4 R6 ⊢
  rw [h6] at R6
  try rw [h6]
  clear h6
  have c60 := cell_heap R6.out 0 _ rfl
  have c63 := cell_heap R6.out 3 _ rfl
  have l6 : a6 < w4.heap.size := (Array.getElem?_eq_some_iff.1 R6.out).1
  have n6 : ¬ a6 = w4.heap.size := by omega
  cases R with
  | none =>
    obtain ⟨ev, rfl, rfl, rfl⟩ := HV4.out
    simp only [Value.slice.injEq] at ev
    obtain ⟨rfl, rfl, rfl⟩ := ev
    clear HV4
    go_region_held3 (fun w' => w'.cell? ⟨a6, 0, none⟩ = some (.slice none 0 0) ∧ w'.cell? ⟨a6, 3, none⟩ = some (.bool false)) (first | (simp [go_sem, ↓IntWalk.iteOmega, *]; done)) (fail)
    all_goals go_wp2
    all_goals refine HQ.out _ _ ⟨_, _, rfl, ⟨⟨_, _, rfl⟩, rfl⟩, ?_⟩
    all_goals
      have hb4 := B3.out
      have hz4 := B3.out.size
      repeat (first | (with_reducible exact Below.refl _ _) | (with_reducible assumption) | (with_reducible refine below_to_plus ?_ ?_ _) | (with_reducible refine below_holds ?_ ?_ _ _) | (with_reducible refine Below.alloc ?_ ?_ _) | (with_reducible refine Below.drew ?_) | (with_reducible refine below_drewN ?_ _) | (with_reducible refine Below.setCell ?_ ?_ _))
      all_goals first | omega | (simp; done) | (simp [go_sem]; done) | (simp [go_sem]; omega)
  | some t =>
    obtain ⟨cs, t2⟩ := t
    have HV5 := HV4.out
    skip
    obtain ⟨HC, rfl, rfl, rfl⟩ := HV5
    obtain ⟨cb, cc, ecv, hcb, hcc⟩ := HC.form
    simp only [Value.slice.injEq] at ecv
    obtain ⟨rfl, rfl, rfl⟩ := ecv
    obtain ⟨lc0, lc20⟩ := LEN.out cs ⟨_, rfl⟩
    obtain ⟨m, hm⟩ : ∃ m, cs.length = m := ⟨_, rfl⟩
    obtain ⟨i0, hi0, hz0, hs0, hb0⟩ := intInfo
    have HOWN : Aside ((w4.drew.alloc (.cells #[] 3)).ownsRow w4.heap.size 3 1 (.slice (some ⟨w4.heap.size, 0, none⟩) 0 0) 0 []) :=
      ⟨rfl, .inr ⟨w4.heap.size, 0, #[], rfl, Nat.le_refl _, (show (w4.alloc (.cells #[] 3)).heap[w4.heap.size]? = some (.cells #[] 3 (0, 0)) from hp_new rfl), Nat.le_refl _, by unfold maxLen; omega, rfl, rfl⟩⟩
    have HB9 : Aside (Below w4.heap.size w4 (w4.drew.alloc (.cells #[] 3))) := Below.alloc (Below.drew (Below.refl _ _)) (Nat.le_refl _) _
    have CSR : Aside (∀ j u, (cs.map (Value.int .i64))[j]? = some u → (w4.drew.alloc (.cells #[] 3)).cell? ((⟨cb, 0, none⟩ : Addr).add j) = some u) := fun j u hu => by
      rw [Addr.add_lit]
      have hj : j < cs.length := by have := (List.getElem?_eq_some_iff.1 hu).1; simpa using this
      rw [Nat.zero_add]
      refine (HB9.out.cell (p := ⟨cb, j, none⟩) hcb).trans ((hcc j hj).trans ?_)
      rw [← hu, List.getElem?_map, List.getElem?_eq_getElem hj, List.getD_eq_getElem?_getD, List.getElem?_eq_getElem hj]
      rfl
    have CON : Aside (∀ u ∈ cs.map (Value.int .i64), u.oneCell' = true) := by
      intro u hu
      rw [List.mem_map] at hu
      obtain ⟨q, -, rfl⟩ := hu
      rfl
    have CLN : Aside ((cs.map (Value.int .i64)).length = m * 1) := by show _ = _; rw [List.length_map, Nat.mul_one]; exact hm
    have HMM : Aside (cs.length = m) := hm
    rw [hm] at c60 lc0 lc20
    have hz9 : Aside ((w4.drew.alloc (.cells #[] 3)).heap.size = w4.heap.size + 1) := by show _ = _; simp
    clear HV4 hcc HC hm
    go_region_held3 (fun w' => w'.cell? ⟨a6, 0, none⟩ = some (.slice (some ⟨cb, 0, none⟩) m vc) ∧ w'.cell? ⟨a6, 3, none⟩ = some (.bool true)) (first | (simp [go_sem, ↓IntWalk.iteOmega, *]; done)) ((first | (refine step_append_lies _ rfl _ _ 30 rfl w4.heap.size 3 i0 _ 1 8 Try.underlying30 hi0 hz0 hs0 hb0 rfl (by omega) (.slice (some ⟨w4.heap.size, 0, none⟩) 0 0) 0 [] (by simp [Act.eval, Act.put]) HOWN.out ⟨cb, 0, none⟩ m vc (cs.map (Value.int .i64)) (by simp [Act.eval, Act.put]) CLN.out CSR.out CON.out (by omega) (by unfold maxLen; omega) (by omega) (by simp) _ rfl ?_; intro gg cap2 w5 hown hgrow hat hlt; have HGR : Aside _ := hgrow; have HOW : Aside _ := hown; have R6' : w5.heap[a6]? = _ := (hgrow.block a6 (Nat.lt_of_lt_of_le l6 HB9.out.size) (fun e => by simp [Value.ownBlock] at e; omega)).trans (heap_later R6.out HB9.out); have d60 := cell_heap R6' 0 _ rfl; have d63 := cell_heap R6' 3 _ rfl; rw [HMM.out] at d60; clear R6' hown hgrow hat)))
    all_goals go_wp2
    all_goals refine HQ.out _ _ ⟨_, _, rfl, ⟨⟨own_lower (by rw [HMM.out]; have h := HOW.out; rw [Nat.zero_add, List.nil_append] at h; exact h) (by have := B3.out.size; omega), by rw [HMM.out]; omega⟩, rfl⟩, ?_⟩
    all_goals exact (B3.out.trans (HB9.out.mono B3.out.size)).grown HGR.out (Nat.le_trans B3.out.size HB9.out.size) (fun k hk => by simp [Value.ownBlock] at hk; have := B3.out.size; omega)

/-- Ints of the reference at lists without elements. -/
theorem ints_none (a : Option Addr) (c : Nat) (w : World) : Calls Try.prog 14 #[.slice none 0 0, .slice a 0 c] w fun e W => e = .returned (.bool true) ∧ Below w.heap.size w W := by
  go_enter Try.func14, Try.ntmps14
  go_wp2
  go_loopg [5] 1 (fun gk s5 wr => s5 = .int .i64 0 ∧ gk = 1 ∧ w = wr)
  case atStart => exact ⟨rfl, rfl, rfl⟩
  case round =>
    obtain ⟨rfl, rfl, rfl⟩ := hrel
    go_wp2
    all_goals refine bodyPost_ret (v := .bool (true)) (by simp [results, Try.results14, go_sem, ↓IntWalk.iteOmega, *]) rfl ⟨rfl, Below.refl _ _⟩

end Go.Proofs.Ytfhccmegobbnaaa
