/- This text proves the walk of run. Conditions: those that each theorem names. -/
import Derived.Test.YtfhccmegobbnaaaRegexX
import Derived.Deep.CutRange
namespace Go.Proofs.Ytfhccmegobbnaaa
open Go.ChangeShapes Go.WideShapes Go.ChangeAt Go.RowKit
set_option linter.unusedVariables false
set_option linter.unusedSimpArgs false

/-- What run leaves. -/
def RunPost (w : World) (r : Option (List Int × Nat)) (e : Ending) (W : World) : Prop :=
  ∃ vb bv be, e = .returned (.tuple #[bv, .int .i64 be]) ∧ BestV w.heap.size vb r bv be W ∧ Below w.heap.size w W
set_option maxRecDepth 20000 in
set_option maxHeartbeats 64000000 in
theorem run_calls (L : List In) (ao : Option Addr) (cap g : Nat) (s : ByteArray) (p : Nat) (whole : Bool) (w : World) (E : AEnv w L ao (g : Int) s) (hp : p ≤ s.size) :
    Calls Try.prog 28 #[.agg #[.slice ao L.length cap, .int .i64 (g : Int)], .string s, .int .i64 (p : Int), .bool whole] w (RunPost w (runTop L g s p whole)) := by
  obtain ⟨n, hln⟩ : ∃ n, L.length = n := ⟨_, rfl⟩
  have HN : Aside (L.length = n) := hln
  have HE : Aside (AEnv w L ao (g : Int) s) := E
  obtain ⟨R, hR⟩ : ∃ R, runTop L g s p whole = R := ⟨_, rfl⟩
  rw [hR]
  have HR : Aside (runTop L g s p whole = R) := hR
  obtain ⟨p1, p2, p3, p4, -, -⟩ := right_parts E.hr
  have hs := E.hs
  have w2g : IntKind.i64.wrap (2 * (g : Int)) = ((2 * g : Nat) : Int) := by rw [IntKind.wrap_i64]; omega
  obtain ⟨Q, hQ⟩ : ∃ Q : Ending → World → Prop, RunPost w R = Q := ⟨_, rfl⟩
  rw [hQ]
  have HQ : Aside (∀ vb bv be W, BestV w.heap.size vb R bv be W → Below w.heap.size w W → Q (.returned (.tuple #[bv, .int .i64 be])) W) := fun vb bv be W h1 h2 => by rw [← hQ]; exact ⟨vb, bv, be, rfl, h1, h2⟩
  obtain ⟨W1, hW1⟩ : ∃ V, w.alloc (.cells #[.slice ao n cap, .int .i64 (g : Int)] 24) = V := ⟨_, rfl⟩
  obtain ⟨W2, hW2⟩ : ∃ V, W1.alloc (.cells #[.slice ao n cap, .int .i64 (g : Int), .string s, .int .i64 0, .slice none 0 0, .slice none 0 0] 73) = V := ⟨_, rfl⟩
  obtain ⟨rb, hrb⟩ : ∃ b, w.heap.size = b := ⟨_, rfl⟩
  obtain ⟨mb, hmb⟩ : ∃ b, rb + 1 = b := ⟨_, rfl⟩
  have HRB : Aside (w.heap.size = rb ∧ rb + 1 = mb) := ⟨hrb, hmb⟩
  have hz1 : W1.heap.size = mb := by rw [← hW1, ← hmb, ← hrb]; simp
  have R1 : W1.heap[rb]? = some (.cells #[.slice ao n cap, .int .i64 (g : Int)] 24 (0, 0)) := by rw [← hW1]; exact hp_new hrb.symm
  have R2 : Aside (W2.heap[rb]? = some (.cells #[.slice ao n cap, .int .i64 (g : Int)] 24 (0, 0))) := by show _ = _; rw [← hW2]; exact hp_old R1
  have M2 : Aside (W2.heap[mb]? = some (.cells (mBox L ao cap (g : Int) s ((0 : Nat) : Int) (.slice none 0 0) (.slice none 0 0)) 73 (0, 0))) := by show _ = _; unfold mBox; rw [← hW2, hln]; exact hp_new hz1.symm
  have B2 : Aside (Below w.heap.size w W2) := by show Below _ _ _; rw [← hW2, ← hW1]; exact Below.alloc (Below.alloc (Below.refl _ _) (Nat.le_refl _) _) (by simp) _
  have HW : Aside ((w.alloc (.cells #[.slice ao n cap, .int .i64 (g : Int)] 24)).alloc (.cells #[.slice ao n cap, .int .i64 (g : Int), .string s, .int .i64 0, .slice none 0 0, .slice none 0 0] 73) = W2) := by show _ = _; rw [hW1, hW2]
  have cf := fun W q (hb : Below w.heap.size w W) (hm : w.heap.size ≤ mb) => fresh_calls w L ao cap (g : Int) s mb 0 q none 0 0 none 0 0 W hb hm p4 p3
  rw [hln] at p3 p4 ⊢
  clear hln hR hQ E R1 hz1 hW1 hW2
  go_enter Try.func28, Try.ntmps28
  go_wp2_with fail
  rw [HW.out]
  refine (cf W2 p B2.out (by omega) M2.out).mono ?_
  rintro e w3 ⟨rfl, vb, m3, hv3, g3⟩
  have MS3 : Aside (MS w L ao cap (g : Int) s mb p vb (List.replicate L.length false) (.slice none 0 0) [] w3) := m3
  have R3 : Aside (w3.heap[rb]? = some (.cells #[.slice ao n cap, .int .i64 (g : Int)] 24 (0, 0))) := (g3.block rb (Array.getElem?_eq_some_iff.1 R2.out).1 (by simp; omega)).trans R2.out
  have r1 := cell_heap R3.out 1 _ rfl
  have lrb : rb < w3.heap.size := (Array.getElem?_eq_some_iff.1 R3.out).1
  have lvb := m3.lt.2.1
  have hB3 := m3.hb.size
  have cr := repeat_calls w3.heap.size 1 (2 * g) (w3.alloc (.cells #[.int .i64 (-1)] 3)) (cell_heap (hp_new rfl) 0 _ rfl) (by simp) (by omega) (by omega)
  have B4 : Aside (Below w3.heap.size w3 (w3.alloc (.cells #[.int .i64 (-1)] 3))) := Below.alloc (Below.refl _ _) (Nat.le_refl _) _
  clear m3 g3 cf R2 M2 B2 HW
  go_wp2_with fail
  refine cr.mono ?_
  rintro e w5 ⟨v5, rfl, hown, hb5⟩
  have B5 : Aside (Below w3.heap.size w3 w5) := B4.out.trans (hb5.mono (by simp))
  have CP : Aside (Cap w.heap.size vb v5 (List.replicate (2 * g) (-1)) w5) := ⟨by rw [List.length_replicate, List.map_replicate]; exact own_lower hown (by simp; omega), fun e => by have := (own_block hown e).1; simp at this; omega, by simp; omega⟩
  have ca := add_calls w L ao cap (g : Int) s mb HE.out (L.length + 1) p vb (List.replicate L.length false) (.slice none 0 0) [] 0 (List.replicate (2 * g) (-1)) v5 w5 (MS3.out.later B5.out) CP.out (by rw [HN.out]; omega) (by simp) hp (by simp)
  clear hown hb5 cr B4
  go_wp2_with fail
  refine ca.mono ?_
  rintro e w6 ⟨rfl, lv, m6, k6⟩
  obtain ⟨v6, hv6⟩ : ∃ v, (addF (L.length + 1) L s.size p 0 (List.replicate (2 * g) (-1)) (List.replicate L.length false, [])).1 = v := ⟨_, rfl⟩
  rw [hv6] at m6
  have RS6 : Aside (RS w L ao cap (g : Int) s rb mb p vb v6 lv (beginF L g s.size p) none (.slice none 0 0) (-1) w6) := by
    have M5 := MS3.out.later B5.out
    have hl := M5.lt
    have R5 := heap_later R3.out B5.out
    refine ⟨m6, ?_, by have := HRB.out; omega, ⟨rfl, rfl⟩, addF_ok HE.out.hr _ _ _ _ _ _ (by rw [HN.out]; omega) (by simp) (fun t ht => by cases ht)⟩
    rw [HN.out]
    refine k6.hp R5 (by have := HRB.out; omega) (fun e => ?_) (by simp [Value.ownBlock])
    have h1 := M5.vis
    rw [← e, R5] at h1
    injection h1 with h1
    injection h1 with _ h1
    exact absurd h1 (by decide)
  clear m6 k6 hv6 ca CP MS3 R3 r1 B5 lrb lvb hB3 hv3 w2g
  have HST : Aside (runF (s.size - p + 1) L s whole p (beginF L g s.size p) none = R) := HR.out
  go_wp2_with fail
  go_loopg [11, 12] (s.size - p + 1) (fun gk s11 s12 wr => ∃ (q vb : Nat) (v : List Bool) (lv : Value) (l : List Th) (best : Option (List Int × Nat)) (bv : Value) (be : Int), s11 = bv ∧ s12 = .int .i64 be ∧ q + gk = s.size + 1 ∧ q ≤ s.size ∧ Aside (runF gk L s whole q l best = R) ∧ Aside (RS w L ao cap (g : Int) s rb mb q vb v lv l best bv be wr))
  case atStart => exact ⟨p, vb, v6, lv, _, none, _, _, rfl, rfl, by omega, hp, HST.out, RS6.out⟩
  case round =>
    obtain ⟨q, vb, v, lv, l, best, bv, be, rfl, rfl, hg, hq, HF, RSx⟩ := hrel
    clear HST RS6
    obtain ⟨f, rfl⟩ : ∃ f, gk = f + 1 := ⟨gk - 1, by omega⟩
    obtain ⟨la, m, lc, elv, hlm⟩ : ∃ la m lc, lv = .slice la m lc ∧ l.length = m := by
      obtain ⟨ms, r1, r2⟩ := RSx.out.ms.row
      obtain ⟨_, ⟨h9, h8⟩ | ⟨cb, ccap, _, h9, _⟩⟩ := r1
      · exact ⟨_, _, _, h9, by rw [← r2.len]; exact h8⟩
      · exact ⟨_, _, _, h9, r2.len.symm⟩
    subst elv
    have LM : Aside (l.length = m) := hlm
    have hm9 : m ≤ 1024 := by
      have h1 := RSx.out.ms.cnt
      have h2 := RSx.out.ms.len
      have h3 := HN.out
      omega
    have cf := found_calls w L ao cap (g : Int) s mb q vb v (.slice la m lc) l wr HE.out RSx.out.ms (fun t ht => (RSx.out.th t ht).k)
    obtain ⟨bb, hbb⟩ : ∃ b, ((foundF L l).isSome && (!whole || decide (q = s.size))) = b := ⟨_, rfl⟩
    have BB : Aside (((foundF L l).isSome && (!whole || decide (q = s.size))) = bb) := hbb
    clear hlm hbb
    go_wp2_with fail
    refine cf.mono ?_
    rintro e w1 ⟨⟨fv, rfl, FV⟩, hb1⟩
    have RS1 : Aside (RS w L ao cap (g : Int) s rb mb q vb v (.slice la m lc) l best u11 be w1) := RSx.out.later hb1
    have FVA : Aside (FoundV w.heap.size vb (foundF L l) fv w1) := FV
    have bx := RS1.out.ms.box
    unfold mBox at bx
    rw [HN.out] at bx
    have BX1 : Aside (w1.heap[mb]? = _) := bx
    have c3 := cell_heap bx 3 _ rfl
    have c5 := cell_heap bx 5 _ rfl
    have lmb : mb < w1.heap.size := (Array.getElem?_eq_some_iff.1 bx).1
    clear bx cf FV hb1 RSx
    go_upto_region 7 with fail
    go_cut [48] from 32 to 109 (fun s48 wx => s48 = .bool bb ∧ wx = w1)
    case first =>
      have FV := FVA.out
      have bbe := BB.out
      cases hf : foundF L l with
      | none =>
        rw [hf] at FV bbe
        have FV : fv = .slice none 0 0 := FV
        subst FV
        have bbe : false = bb := bbe
        subst bbe
        go_wp2_with fail
        go_meet
        exact ⟨rfl, rfl⟩
      | some cs =>
        rw [hf] at FV bbe
        obtain ⟨cb, ccap, ecv⟩ : ∃ cb ccap, fv = .slice (some ⟨cb, 0, none⟩) cs.length ccap := by
          obtain ⟨_, ⟨_, h9⟩ | ⟨cb, ccap, _, h9, _⟩⟩ := FV.row
          · have := FV.pos
            omega
          · exact ⟨cb, ccap, h9⟩
        subst ecv
        clear FV hf
        cases whole with
        | false =>
          have bbe : true = bb := bbe
          subst bbe
          go_wp2_with fail
          go_meet
          exact ⟨rfl, rfl⟩
        | true =>
          by_cases hqs : q = s.size
          · have e1 : ((q : Int) == (s.size : Int)) = true := by rw [hqs]; simp
            have e2 : decide ((q : Int) = (s.size : Int)) = true := decide_eq_true (by omega)
            have bbe : decide (q = s.size) = bb := bbe
            rw [decide_eq_true hqs] at bbe
            subst bbe
            clear hqs
            go_wp2_with fail
            go_meet
            exact ⟨by simp, rfl⟩
          · have e1 : ((q : Int) == (s.size : Int)) = false := by rw [beq_eq_false_iff_ne]; omega
            have e2 : decide ((q : Int) = (s.size : Int)) = false := decide_eq_false (by omega)
            have bbe : decide (q = s.size) = bb := bbe
            rw [decide_eq_false hqs] at bbe
            subst bbe
            clear hqs
            go_wp2_with fail
            go_meet
            exact ⟨by simp, rfl⟩
    case rest =>
      obtain ⟨rfl, hw⟩ := hcut
      rw [hw]
      clear hw
      obtain ⟨bv2, hbv2⟩ : ∃ b, (if bb = true then fv else u11) = b := ⟨_, rfl⟩
      obtain ⟨be2, hbe2⟩ : ∃ b, (if bb = true then (q : Int) else be) = b := ⟨_, rfl⟩
      have BN : Aside (BestV w.heap.size vb (bestF L s.size q whole l best) bv2 be2 w1) := by
        have FV := FVA.out
        have bbe := BB.out
        have bo := RS1.out.bst
        show BestV _ _ _ _ _ _
        unfold bestF
        cases hf : foundF L l with
        | none =>
          rw [hf] at bbe
          have bbe : false = bb := bbe
          subst bbe
          rw [← hbv2, ← hbe2]
          exact bo
        | some cs =>
          rw [hf] at bbe FV
          have bbe : (!whole || decide (q = s.size)) = bb := bbe
          cases bb with
          | true =>
            have hc : whole = false ∨ q = s.size := by
              cases whole with
              | false => exact .inl rfl
              | true => exact .inr (by simpa using bbe)
            simp only []
            rw [if_pos hc, ← hbv2, ← hbe2]
            exact ⟨FV, rfl⟩
          | false =>
            have hc : ¬ (whole = false ∨ q = s.size) := by
              intro h
              rcases h with h | h
              · rw [h] at bbe; exact absurd bbe (by simp)
              · rw [decide_eq_true h] at bbe; exact absurd bbe (by simp)
            simp only []
            rw [if_neg hc, ← hbv2, ← hbe2]
            exact bo
      clear FVA BB
      go_upto_if 48 with fail
      go_cut [11, 12] from 32 to 109 (fun s11 s12 wx => s11 = bv2 ∧ s12 = .int .i64 be2 ∧ Aside (Below w1.heap.size w1 wx))
      case first =>
        cases bb with
        | true =>
          have hbv2 : fv = bv2 := hbv2
          have hbe2 : (q : Int) = be2 := hbe2
          subst hbv2 hbe2
          go_wp2_with fail
          go_quiet (fail)
          go_wp2_with fail
          go_meet
          exact ⟨rfl, rfl, below_drewN (Below.refl _ _) _⟩
        | false =>
          have hbv2 : u11 = bv2 := hbv2
          have hbe2 : be = be2 := hbe2
          subst hbv2 hbe2
          go_wp2_with fail
          go_meet
          exact ⟨rfl, rfl, Below.refl _ _⟩
      case rest =>
        obtain ⟨rfl, rfl, HBC⟩ := hcut
        have RS2 : Aside (RS w L ao cap (g : Int) s rb mb q vb v (.slice la m lc) l (bestF L s.size q whole l best) u11 be2 wc) := ⟨RS1.out.ms.later HBC.out, heap_later RS1.out.rbox HBC.out, RS1.out.hr, BN.out.later HBC.out, RS1.out.th⟩
        have bx := heap_later BX1.out HBC.out
        have BX2 : Aside (wc.heap[mb]? = _) := bx
        clear c3 c5 lmb hbv2 hbe2
        have c3 := cell_heap bx 3 _ rfl
        have c5 := cell_heap bx 5 _ rfl
        have lmb : mb < wc.heap.size := (Array.getElem?_eq_some_iff.1 bx).1
        obtain ⟨ba, bn, bc, ebv⟩ := RS2.out.bst.form
        subst ebv
        clear bx BN RS1 BX1 HBC
        by_cases hqs : s.size ≤ q
        · have hd : decide ((s.size : Int) ≤ (q : Int)) = true := decide_eq_true (by omega)
          have hz : (s.size : Int) ≤ (q : Int) := by omega
          have RR : Aside (bestF L s.size q whole l best = R) := (runF_end (.inl hqs)).symm.trans HF.out
          clear hqs HF
          go_wp2
          exact HQ.out _ _ _ _ (by rw [← RR.out]; exact RS2.out.bst) RS2.out.ms.hb
        have hd : decide ((s.size : Int) ≤ (q : Int)) = false := decide_eq_false (by omega)
        have hz : ¬ (s.size : Int) ≤ (q : Int) := by omega
        by_cases hm0 : m = 0
        · have RR : Aside (bestF L s.size q whole l best = R) := (runF_end (.inr (List.eq_nil_of_length_eq_zero (LM.out.trans hm0)))).symm.trans HF.out
          subst hm0
          clear hqs HF
          go_wp2
          exact HQ.out _ _ _ _ (by rw [← RR.out]; exact RS2.out.bst) RS2.out.ms.hb
        have em0 : ((m : Int) == 0) = false := by rw [beq_eq_false_iff_ne]; omega
        have dm0 : decide ((m : Int) = 0) = false := decide_eq_false (by omega)
        have hlq : q < s.size := by omega
        have hlqz : (q : Int) < (s.size : Int) := by omega
        have NX : Aside (runF f L s whole (q + 1) (stepF L s.size (q + 1) (s[q]!.toNat : Int) l (List.replicate L.length false, [])).2 (bestF L s.size q whole l best) = R) := (runF_go (fun h => by
          rcases h with h | h
          · omega
          · rw [h] at LM; exact hm0 LM.out.symm)).symm.trans HF.out
        have wq1 : IntKind.i64.wrap ((q : Int) + 1) = ((q + 1 : Nat) : Int) := by rw [IntKind.wrap_i64]; omega
        clear HF
        go_wp2_with fail
        go_quiet (fail)
        go_wp2_with fail
        have hq1 : (q : Int) + 1 = ((q + 1 : Nat) : Int) := by omega
        rw [hq1]
        clear hq1
        have RS7 : Aside (RS w L ao cap (g : Int) s rb mb q vb v (.slice la m lc) l (bestF L s.size q whole l best) (.slice ba bn bc) be2 (wc.drewN nq)) := RS2.out.later (below_drewN (Below.refl _ _) _)
        clear RS2 BX2 c3 c5 lmb wq1
        generalize wc.drewN nq = w7 at RS7 ⊢
        refine (fresh_calls w L ao cap (g : Int) s mb q (q + 1) (some ⟨vb, 0, none⟩) L.length L.length la m lc w7 RS7.out.ms.hb RS7.out.ms.hm (by rw [HN.out]; exact p4) (by rw [HN.out]; exact p3) RS7.out.ms.box).mono ?_
        rintro e w8 ⟨rfl, vb2, m8, hv8, g8⟩
        have MS8 : Aside (MS w L ao cap (g : Int) s mb (q + 1) vb2 (List.replicate L.length false) (.slice none 0 0) [] w8) := m8
        obtain ⟨ms, r1, r2⟩ := RS7.out.ms.row
        have OR8 : Aside (w8.ownsRow w.heap.size 79 2 (.slice la m lc) ms.length (flatE ThM.enc ms)) := r1.kept g8 (.inr (own_ne r1 RS7.out.ms.box (by decide)))
        have OC8 : Aside (All2 (fun m t => m.k = t.1 ∧ Cap w.heap.size vb2 m.v t.2 w8) ms l) := forall2_imp (fun _ _ h => ⟨h.1, h.2.fresh RS7.out.ms.box g8 hv8⟩) r2
        have R8 : Aside (w8.heap[rb]? = some (.cells #[.slice ao n cap, .int .i64 (g : Int)] 24 (0, 0))) := by
          have h1 := RS7.out.rbox
          rw [HN.out] at h1
          exact (g8.block rb (Array.getElem?_eq_some_iff.1 h1).1 (fun e => by have := HRB.out; have := Option.some.inj e; omega)).trans h1
        have BS8 : Aside (BestV w.heap.size vb2 (bestF L s.size q whole l best) (.slice ba bn bc) be2 w8) := RS7.out.bst.fresh RS7.out.ms.box g8 hv8
        have TL : Aside (∀ t ∈ l, TOk L (g : Int) t) := RS7.out.th
        have MLN : Aside (ms.length = m) := r2.len.trans LM.out
        rw [getElem!_pos s q hlq] at NX
        obtain ⟨FIN, hfin⟩ : ∃ F, stepF L s.size (q + 1) (s[q].toNat : Int) l (List.replicate L.length false, []) = F := ⟨_, rfl⟩
        rw [hfin] at NX
        have hfin0 : Aside (stepF L s.size (q + 1) (s[q].toNat : Int) (l.drop 0) (List.replicate L.length false, []) = FIN) := hfin
        generalize (s[q].toNat : Int) = c at hfin0 ⊢
        clear hfin m8 g8 r1 r2 RS7 hv8
        go_wp2_with fail
        go_loopg [90] (m + 1) (fun gj s90 wi => ∃ (j : Nat) (v2 : List Bool) (lv2 : Value) (l2 : List Th), s90 = .int .i64 (j : Int) ∧ j + gj = m + 1 ∧ j ≤ m ∧ Aside (stepF L s.size (q + 1) c (l.drop j) (v2, l2) = FIN) ∧ Aside (MS w L ao cap (g : Int) s mb (q + 1) vb2 v2 lv2 l2 wi) ∧ Aside (Kept mb vb2 (.slice none 0 0) lv2 w8 wi) ∧ Aside (∀ t ∈ l2, TOk L (g : Int) t))
        case atStart => exact ⟨0, _, _, [], rfl, by omega, by omega, hfin0.out, MS8.out, Kept.of_below (Below.refl _ _), fun t ht => by cases ht⟩
        case round =>
          obtain ⟨j, v2, lv2, l2, rfl, hjg, hjm, ST, MSI, KI, TI⟩ := hrel
          clear hfin0
          have M8 := MS8.out
          have hnil : w8.ownsRow w.heap.size 79 2 (.slice none 0 0) 0 [] := ⟨rfl, .inl ⟨rfl, rfl⟩⟩
          have RI : Aside (wr.heap[rb]? = some (.cells #[.slice ao n cap, .int .i64 (g : Int)] 24 (0, 0))) := KI.out.hp R8.out (by have := HRB.out; omega) (fun e => by
            have h1 := M8.vis
            rw [← e, R8.out] at h1
            injection h1 with h1
            injection h1 with _ h1
            exact absurd h1 (by decide)) (by simp [Value.ownBlock])
          by_cases hj : j < m
          rotate_left
          · have ej : j = m := by omega
            have hST : (v2, l2) = FIN := by
              have h := ST.out
              rw [List.drop_of_length_le (by rw [LM.out]; omega)] at h
              exact h
            rw [← hST] at NX
            have RSN : Aside (RS w L ao cap (g : Int) s rb mb (q + 1) vb2 v2 lv2 l2 (bestF L s.size q whole l best) (.slice ba bn bc) be2 wr) := ⟨MSI.out, by rw [HN.out]; exact RI.out, by have := HRB.out; omega, BS8.out.kept M8.box hnil KI.out, TI.out⟩
            clear M8 hnil hST ST
            go_wp2
            go_roundg f
            case measure => omega
            case rel => exact ⟨q + 1, vb2, v2, lv2, l2, _, _, _, rfl, rfl, by omega, by omega, NX.out, RSN.out⟩
          have hjl : j < l.length := by rw [LM.out]; exact hj
          have hjs : j < ms.length := by rw [MLN.out]; exact hj
          have ORI := own_kept OR8.out KI.out (own_ne OR8.out M8.box (by decide)) (own_ne OR8.out M8.vis (by decide)) (by intro b _ e; cases e)
          obtain ⟨lb, lc', elv, hlb, t0, t1⟩ := thm_cells ORI hjs
          rw [MLN.out] at elv
          simp only [Value.slice.injEq] at elv
          obtain ⟨rfl, -, rfl⟩ := elv
          obtain ⟨q1, q2⟩ := OC8.out.get j hjs
          have q2 := q2.kept M8.box hnil KI.out
          obtain ⟨cb, ccap, ecv⟩ : ∃ cb ccap, ms[j]!.v = .slice (some ⟨cb, 0, none⟩) l[j]!.2.length ccap := by
            obtain ⟨_, ⟨_, h9⟩ | ⟨cb, ccap, _, h9, _⟩⟩ := q2.row
            · have := q2.pos
              omega
            · exact ⟨cb, ccap, h9⟩
          have htok := TL.out _ (show l[j]! ∈ l by rw [getElem!_pos l j hjl]; exact List.getElem_mem _)
          have HS : Aside (stepF L s.size (q + 1) c (l.drop (j + 1)) (if accF L[l[j]!.1]! c then addF (L.length + 1) L s.size (q + 1) (l[j]!.1 + 1) l[j]!.2 (v2, l2) else (v2, l2)) = FIN) := by
            show _ = _
            rw [← ST.out, List.drop_eq_getElem_cons hjl, ← getElem!_pos l j hjl]
            rfl
          rw [q1] at t0
          rw [ecv] at t1 q2
          generalize l[j]! = t at t0 t1 q2 htok HS
          obtain ⟨kj, cs⟩ := t
          have CPV : Aside (Cap w.heap.size vb2 (.slice (some ⟨cb, 0, none⟩) cs.length ccap) cs wr) := q2
          have TK : Aside (TOk L (g : Int) (kj, cs)) := htok
          have hkn : kj < L.length := htok.k
          simp only [] at t0 t1 HS
          obtain ⟨ib, io, eao, hib, -⟩ := HE.out.hp.c kj hkn
          obtain ⟨ib', io', hao, -, l0, l1, l2', l3, l4, l5⟩ := (HE.out.hp.c.later (MSI.out.hb.mono (Nat.le_refl _))) kj hkn
          rw [eao] at hao
          simp only [Option.some.injEq, Addr.mk.injEq] at hao
          obtain ⟨rfl, rfl, -⟩ := hao
          have rc0 : wr.cell? ⟨rb, 0, none⟩ = some (.slice (some ⟨ib, io, none⟩) n cap) := by rw [← eao]; exact cell_heap RI.out 0 _ rfl
          have lrb : rb < wr.heap.size := (Array.getElem?_eq_some_iff.1 RI.out).1
          have hibw : ib < wr.heap.size := Nat.lt_of_lt_of_le hib MSI.out.hb.size
          have nrw : ¬ rb = wr.heap.size := by omega
          have nwr : ¬ wr.heap.size = rb := by omega
          have nib : ¬ ib = wr.heap.size := by omega
          have hset := sound_set ((right_parts HE.out.hr).2.2.2.2.2 kj hkn)
          obtain ⟨x, hx⟩ : ∃ x, L[kj]! = x := ⟨_, rfl⟩
          have HX : Aside (L[kj]! = x) := hx
          rw [hx] at l0 l1 l2' l3 l4 l5 hset HS
          obtain ⟨y1, y2, y3, y4, y5, y6⟩ := x
          simp only [] at l0 l1 l2' l3 l4 l5 hset
          have cac := fun W => accepts_calls y1 y2 y3 y4 y5 y6 c hset W
          obtain ⟨ac, hac⟩ : ∃ b, accF ⟨y1, y2, y3, y4, y5, y6⟩ c = b := ⟨_, rfl⟩
          rw [hac] at cac HS
          have HAC : Aside (accF ⟨y1, y2, y3, y4, y5, y6⟩ c = ac) := hac
          rw [HN.out] at hkn
          have wj1 : IntKind.i64.wrap ((j : Int) + 1) = ((j + 1 : Nat) : Int) := by rw [IntKind.wrap_i64]; omega
          have wk1 : IntKind.i64.wrap ((kj : Int) + 1) = ((kj + 1 : Nat) : Int) := by rw [IntKind.wrap_i64]; omega
          have WT : Aside (Below wr.heap.size wr (wr.alloc (.cells #[.int .i64 (kj : Int), .slice (some ⟨cb, 0, none⟩) cs.length ccap] 79))) := Below.alloc (Below.refl _ _) (Nat.le_refl _) _
          have TB : Aside ((wr.alloc (.cells #[.int .i64 (kj : Int), .slice (some ⟨cb, 0, none⟩) cs.length ccap] 79)).heap[wr.heap.size]? = some (.cells #[.int .i64 (kj : Int), .slice (some ⟨cb, 0, none⟩) cs.length ccap] 79 (0, 0))) := hp_new rfl
          clear M8 hnil ORI q1 q2 htok hx hac ecv ST eao hjs hjl
          go_wp2_with fail
          refine (cac _).mono ?_
          rintro e w9 ⟨rfl, hb9⟩
          have B9 : Aside (Below wr.heap.size wr w9) := WT.out.trans (hb9.mono (by simp))
          have T9 : Aside (w9.heap[wr.heap.size]? = some (.cells #[.int .i64 (kj : Int), .slice (some ⟨cb, 0, none⟩) cs.length ccap] 79 (0, 0))) := heap_later TB.out hb9
          clear hb9 cac TB WT
          cases ac with
          | false =>
            have HS : Aside (stepF L s.size (q + 1) c (l.drop (j + 1)) (v2, l2) = FIN) := HS.out
            go_wp2_with fail
            go_roundg (m - j)
            case measure => omega
            case rel => exact ⟨j + 1, v2, lv2, l2, rfl, by omega, by omega, HS.out, MSI.out.later B9.out, KI.out.trans (Kept.of_below B9.out), TI.out⟩
          | true =>
            have HS : Aside (stepF L s.size (q + 1) c (l.drop (j + 1)) (addF (L.length + 1) L s.size (q + 1) (kj + 1) cs (v2, l2)) = FIN) := HS.out
            have f0 := cell_heap T9.out 0 _ rfl
            have f1 := cell_heap T9.out 1 _ rfl
            have hnx : kj + 1 < L.length := TK.out.next HE.out.hr (by rw [HX.out]; exact HAC.out)
            have ca := add_calls w L ao cap (g : Int) s mb HE.out (L.length + 1) (q + 1) vb2 v2 lv2 l2 (kj + 1) cs (.slice (some ⟨cb, 0, none⟩) cs.length ccap) w9 (MSI.out.later B9.out) (CPV.out.later B9.out) hnx TK.out.n (by omega) (by
              have h1 := MSI.out.len
              have h2 := List.count_le_length (a := false) (l := v2)
              omega)
            go_wp2_with fail
            refine ca.mono ?_
            rintro e w10 ⟨rfl, lv3, m10, k10⟩
            have M10 : Aside (MS w L ao cap (g : Int) s mb (q + 1) vb2 (addF (L.length + 1) L s.size (q + 1) (kj + 1) cs (v2, l2)).1 lv3 (addF (L.length + 1) L s.size (q + 1) (kj + 1) cs (v2, l2)).2 w10) := m10
            have K10 : Aside (Kept mb vb2 (.slice none 0 0) lv3 w8 w10) := KI.out.trans ((Kept.of_below B9.out).trans k10)
            have T10 : Aside (∀ t ∈ (addF (L.length + 1) L s.size (q + 1) (kj + 1) cs (v2, l2)).2, TOk L (g : Int) t) := addF_ok HE.out.hr _ _ _ _ _ _ hnx TK.out.n TI.out
            clear m10 k10 ca f0 f1 hnx
            go_wp2_with fail
            go_roundg (m - j)
            case measure => omega
            case rel => exact ⟨j + 1, _, lv3, _, rfl, by omega, by omega, HS.out, M10.out, K10.out, T10.out⟩

end Go.Proofs.Ytfhccmegobbnaaa
