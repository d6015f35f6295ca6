/- This text proves the walk of from of the reference: it finds what the package's run finds. Conditions: those that each theorem names. -/
import Derived.Test.YtfhccmegobbnaaaRegexRG
import Derived.Test.YtfhccmegobbnaaaRegexRA
import Derived.Deep.CutRange
import Derived.StillTailTactics
namespace Go.Proofs.Ytfhccmegobbnaaa
open Go.ChangeShapes Go.WideShapes Go.ChangeAt Go.RowKit
set_option linter.unusedVariables false
set_option linter.unusedSimpArgs false

theorem best_snoc {L : List In} {n q : Nat} {whole : Bool} {l : List Th} {best : Option (List Int × Nat)} {t : Th} {cd mt hit : Bool} (hcd : (!whole || decide (q = n)) = cd) (hmt : ((foundF L l).isSome && cd) = mt) (hhit : (decide (L[t.1]!.op = 9) && !mt && cd) = hit) :
    bestF L n q whole (l ++ [t]) best = (if hit = true then some (t.2, q) else bestF L n q whole l best) ∧ ((foundF L (l ++ [t])).isSome && cd) = (mt || hit) := by
  have hc : (whole = false ∨ q = n) ↔ cd = true := by
    rw [← hcd]
    cases whole <;> simp
  unfold bestF
  rw [foundF_snoc]
  cases hf : foundF L l with
  | some c =>
    rw [hf] at hmt
    simp only [Option.isSome_some, Bool.true_and] at hmt ⊢
    subst hmt
    have : hit = false := by rw [← hhit]; cases cd <;> simp
    subst this
    cases cd <;> simp
  | none =>
    rw [hf] at hmt
    simp only [Option.isSome_none, Bool.false_and] at hmt
    subst hmt
    by_cases h9 : L[t.1]!.op = 9
    · rw [if_pos h9]
      have : hit = cd := by rw [← hhit, decide_eq_true h9]; simp
      subst this
      cases hit with
      | true => simp only [Option.isSome_some]; rw [if_pos (hc.2 rfl)]; simp
      | false => simp only [Option.isSome_some]; rw [if_neg (fun h => by have := hc.1 h; cases this)]; simp
    · rw [if_neg h9]
      have : hit = false := by rw [← hhit, decide_eq_false h9]; simp
      subst this
      simp
theorem hp_ne {W : World} {a b : Nat} {c c' : Array Value} {T T' : TypeId} (h : W.heap[a]? = some (.cells c T (0, 0))) (h' : W.heap[b]? = some (.cells c' T' (0, 0))) (hT : T ≠ T') : ¬ a = b := fun e => by
  subst e
  rw [h] at h'
  injection h' with h'
  injection h' with _ h'
  exact hT h'

set_option maxRecDepth 20000 in
set_option maxHeartbeats 64000000 in
theorem rfrom_calls (L : List In) (ao : Option Addr) (cap g : Nat) (s : ByteArray) (p : Nat) (whole : Bool) (w : World) (E : AEnv w L ao (g : Int) s) (hp : p ≤ s.size) :
    Calls Try.prog 36 #[.agg #[.slice ao L.length cap, .int .i64 (g : Int)], .string s, .int .i64 (p : Int), .bool whole] w (FromPost w p (runTop L g s p whole)) := by
  obtain ⟨n, hln⟩ : ∃ n, L.length = n := ⟨_, rfl⟩
  have HN : Aside (L.length = n) := hln
  obtain ⟨R, hR⟩ : ∃ R, runTop L g s p whole = R := ⟨_, rfl⟩
  rw [hR]
  have HR : Aside (runTop L g s p whole = R) := hR
  obtain ⟨p1, p2, p3, p4, -, -⟩ := right_parts E.hr
  have hs := E.hs
  obtain ⟨ib, io, rfl, hib, -⟩ := E.hp.c 0 (by omega)
  have HE : Aside (AEnv w L (some ⟨ib, io, none⟩) (g : Int) s) := E
  have ra := fun f => radd_calls w L (some ⟨ib, io, none⟩) cap (g : Int) s E f
  unfold RAddOK at ra
  rw [hln] at ra p3 p4 ⊢
  have RA : Aside (∀ f, ∀ (pos vb : Nat) (v : List Bool) (la : Option Addr) (lc : Nat) (l : List Th) (k : Nat) (cs : List Int) (cv : Value) (W : World), TS w n vb v (.slice la l.length lc) l W → Cap w.heap.size vb cv cs W → k < n → (cs.length : Int) = 2 * (g : Int) → pos ≤ s.size → v.count false < f →
    Calls Try.prog 54 #[.agg #[.slice (some ⟨ib, io, none⟩) n cap, .int .i64 (g : Int)], .string s, .agg #[.slice la l.length lc, .slice (some ⟨vb, 0, none⟩) n n], .int .i64 (k : Int), .int .i64 (pos : Int), cv] W (RAPost w n vb (.slice la l.length lc) W (addF f L s.size pos k cs (v, l)))) := ra
  clear ra
  have w2g : IntKind.i64.wrap (2 * (g : Int)) = 2 * (g : Int) := by rw [IntKind.wrap_i64]; omega
  obtain ⟨Q, hQ⟩ : ∃ Q : Ending → World → Prop, FromPost w p R = Q := ⟨_, rfl⟩
  rw [hQ]
  have HQ : Aside (∀ a n c b1 b2 b3 W, FV w.heap.size p R (.slice a n c) b1 b2 b3 W → Below w.heap.size w W → Q (.returned (.agg #[.slice a n c, .int .i64 b1, .int .i64 b2, .bool b3])) W) := fun a n c b1 b2 b3 W h1 h2 => by rw [← hQ]; exact ⟨_, _, _, _, rfl, h1, h2⟩
  have mk : ∀ U : World, (Instr.makeSlice 30 (.int .i64 (2 * (g : Int))) (.int .i64 (2 * (g : Int)))).run Try.prog U = .ok (.slice (some ⟨U.heap.size, 0, none⟩) (2 * g) (2 * g)) (U.alloc (.cells (encV (List.replicate (2 * g) false)) 3)) := fun U => by
    have h := make_ints (2 * g) (by omega) U
    rw [show ((2 * g : Nat) : Int) = 2 * (g : Int) by omega] at h
    exact h
  have Q4 : Aside ((((w.alloc (.cells #[.slice (some ⟨ib, io, none⟩) n cap, .int .i64 (g : Int)] 24)).alloc (.cells #[.slice none 0 0, .int .i64 0, .int .i64 0, .bool false] 65)).alloc (.cells (encV (List.replicate (2 * g) false)) 3)).heap[w.heap.size]? = some (.cells #[.slice (some ⟨ib, io, none⟩) n cap, .int .i64 (g : Int)] 24 (0, 0))) := hp_old (hp_old (hp_new rfl))
  have Q8 : Aside ((((w.alloc (.cells #[.slice (some ⟨ib, io, none⟩) n cap, .int .i64 (g : Int)] 24)).alloc (.cells #[.slice none 0 0, .int .i64 0, .int .i64 0, .bool false] 65)).alloc (.cells (encV (List.replicate (2 * g) false)) 3)).heap[(w.heap.size + 1)]? = some (.cells #[.slice none 0 0, .int .i64 0, .int .i64 0, .bool false] 65 (0, 0))) := hp_old (hp_new (by simp))
  have Q9 : Aside ((((w.alloc (.cells #[.slice (some ⟨ib, io, none⟩) n cap, .int .i64 (g : Int)] 24)).alloc (.cells #[.slice none 0 0, .int .i64 0, .int .i64 0, .bool false] 65)).alloc (.cells (encV (List.replicate (2 * g) false)) 3)).heap[(w.heap.size + 1 + 1)]? = some (.cells (minusC 0 (2 * g)) 3 (0, 0))) := by
    show _ = _
    rw [← minusC_zero]
    exact hp_new (by simp)
  have QB : Aside (Below w.heap.size w (((w.alloc (.cells #[.slice (some ⟨ib, io, none⟩) n cap, .int .i64 (g : Int)] 24)).alloc (.cells #[.slice none 0 0, .int .i64 0, .int .i64 0, .bool false] 65)).alloc (.cells (encV (List.replicate (2 * g) false)) 3))) := by
    show Below _ _ _
    repeat (first | (with_reducible exact Below.refl _ _) | (with_reducible assumption) | (with_reducible refine below_to_plus ?_ ?_ _) | (with_reducible refine below_holds ?_ ?_ _ _) | (with_reducible refine Below.alloc ?_ ?_ _) | (with_reducible refine Below.drew ?_) | (with_reducible refine below_drewN ?_ _) | (with_reducible refine Below.setCell ?_ ?_ _))
    all_goals first | omega | (simp; done) | (simp [go_sem]; done) | (simp [go_sem]; omega)
  clear hln hR hQ E
  go_enter Try.func36, Try.ntmps36
  go_wp2_with fail
  generalize (((w.alloc (.cells #[.slice (some ⟨ib, io, none⟩) n cap, .int .i64 (g : Int)] 24)).alloc (.cells #[.slice none 0 0, .int .i64 0, .int .i64 0, .bool false] 65)).alloc (.cells (encV (List.replicate (2 * g) false)) 3)) = W3 at Q4 Q8 Q9 QB ⊢
  clear mk w2g
  go_loopg [10] (2 * g + 1) (fun gk s10 wr => ∃ k : Nat, s10 = .int .i64 (k : Int) ∧ k + gk = 2 * g + 1 ∧ k ≤ 2 * g ∧ Aside (wr.heap[(w.heap.size + 1 + 1)]? = some (.cells (minusC k (2 * g)) 3 (0, 0))) ∧ Aside (wr.heap[w.heap.size]? = some (.cells #[.slice (some ⟨ib, io, none⟩) n cap, .int .i64 (g : Int)] 24 (0, 0))) ∧ Aside (wr.heap[(w.heap.size + 1)]? = some (.cells #[.slice none 0 0, .int .i64 0, .int .i64 0, .bool false] 65 (0, 0))) ∧ Aside (Below w.heap.size w wr))
  case atStart => exact ⟨0, rfl, by omega, by omega, Q9.out, Q4.out, Q8.out, QB.out⟩
  case round =>
    obtain ⟨k, rfl, hkg, hkm, H9, H4, H8, HB⟩ := hrel
    clear Q4 Q8 Q9 QB
    have l9 : (w.heap.size + 1 + 1) < wr.heap.size := (Array.getElem?_eq_some_iff.1 H9.out).1
    by_cases hk : k < 2 * g
    · have hkz : (k : Int) < ((2 * g : Nat) : Int) := by omega
      have hkz' : decide ((k : Int) < ((2 * g : Nat) : Int)) = true := decide_eq_true hkz
      have wk : IntKind.i64.wrap ((k : Int) + 1) = ((k + 1 : Nat) : Int) := by rw [IntKind.wrap_i64]; omega
      have hge : (minusC k (2 * g))[k]? = some (.int .i64 0) := by rw [minusC_get, if_neg (by omega), if_pos (by omega)]
      rw [holds_self H9.out]
      go_wp2
      go_roundg (2 * g - k)
      case measure => omega
      case rel => exact ⟨k + 1, rfl, by omega, by omega, by rw [← minusC_set k (2 * g) hk]; exact hh_eq l9, hh_ne (by omega) H4.out, hh_ne (by omega) H8.out, below_holds HB.out (by omega) _ _⟩
    have ek : k = 2 * g := by omega
    subst ek
    have hkz : ¬ ((2 * g : Nat) : Int) < ((2 * g : Nat) : Int) := by omega
    have hkz' : decide (((2 * g : Nat) : Int) < ((2 * g : Nat) : Int)) = false := decide_eq_false hkz
    have CP : Aside (Row w.heap.size (.slice (some ⟨(w.heap.size + 1 + 1), 0, none⟩) (2 * g) (2 * g)) (List.replicate (2 * g) (-1)) wr) := by
      refine ⟨⟨by simp, .inr ⟨(w.heap.size + 1 + 1), 2 * g, minusC (2 * g) (2 * g), by simp, by omega, H9.out, by simp, by unfold maxLen; omega, by rw [minusC_size]; omega, ?_⟩⟩, by simp; omega⟩
      rw [List.length_replicate, Nat.mul_one, minusC_full, List.map_replicate]
    have hwr := HB.out.size
    have b40 := cell_heap H4.out 0 _ rfl
    have b41 := cell_heap H4.out 1 _ rfl
    have SH : Aside (∀ w', Below wr.heap.size wr w' → Below wr.heap.size wr w' ∧ w'.cell? ⟨w.heap.size, 0, none⟩ = some (.slice (some ⟨ib, io, none⟩) n cap) ∧ w'.cell? ⟨w.heap.size, 1, none⟩ = some (.int .i64 (g : Int))) := fun w' hb => ⟨hb, cell_heap (heap_later H4.out hb) 0 _ rfl, cell_heap (heap_later H4.out hb) 1 _ rfl⟩
    obtain ⟨st0, hst0⟩ : ∃ st, addF (L.length + 1) L s.size p 0 (List.replicate (2 * g) (-1)) (List.replicate n false, []) = st := ⟨_, rfl⟩
    have BG : Aside (beginF L g s.size p = st0.2) := by
      have h := hst0
      show _ = _
      rw [← hst0, ← HN.out]
      rfl
    have TH0 : Aside (∀ t ∈ st0.2, TOk L (g : Int) t) := by
      have h := addF_ok HE.out.hr (L.length + 1) s.size p 0 (List.replicate (2 * g) (-1)) (List.replicate n false, []) (by rw [HN.out]; omega) (by simp) (fun t ht => by cases ht)
      rw [hst0] at h
      exact h
    have CA0 : Aside (∀ vb W, TS w n vb (List.replicate n false) (.slice none 0 0) [] W → Row w.heap.size (.slice (some ⟨(w.heap.size + 1 + 1), 0, none⟩) (2 * g) (2 * g)) (List.replicate (2 * g) (-1)) W → Calls Try.prog 54 #[.agg #[.slice (some ⟨ib, io, none⟩) n cap, .int .i64 (g : Int)], .string s, .agg #[.slice none 0 0, .slice (some ⟨vb, 0, none⟩) n n], .int .i64 0, .int .i64 (p : Int), .slice (some ⟨(w.heap.size + 1 + 1), 0, none⟩) (2 * g) (2 * g)] W (RAPost w n vb (.slice none 0 0) W st0)) := fun vb W h1 h2 => by
      rw [← hst0]
      exact RA.out (L.length + 1) p vb (List.replicate n false) none 0 [] 0 (List.replicate (2 * g) (-1)) _ W h1 (h2.cap h1.vis (by decide)) (by omega) (by simp) hp (by simp [HN.out])
    have NB := fun W => rnone_calls (some ⟨ib, io, none⟩) n cap (g : Int) W p4
    clear hst0 H9
    go_wp2_with fail
    go_cut [11] from 18 to 128 (fun s11 wx => ∃ (a11 vb : Nat) (la : Option Addr) (lc : Nat), s11 = .pointer (some ⟨a11, 0, none⟩) ∧ (w.heap.size + 1 + 1) < a11 ∧ Aside (TS w n vb st0.1 (.slice la st0.2.length lc) st0.2 wx) ∧ Aside (wx.heap[a11]? = some (.cells #[.slice la st0.2.length lc, .slice (some ⟨vb, 0, none⟩) n n] 98 (0, 0))) ∧ Aside (wx.heap[w.heap.size]? = some (.cells #[.slice (some ⟨ib, io, none⟩) n cap, .int .i64 (g : Int)] 24 (0, 0))) ∧ Aside (wx.heap[(w.heap.size + 1)]? = some (.cells #[.slice none 0 0, .int .i64 0, .int .i64 0, .bool false] 65 (0, 0))))
    case first =>
      go_region_held3 (fun w' => Below wr.heap.size wr w' ∧ w'.cell? ⟨w.heap.size, 0, none⟩ = some (.slice (some ⟨ib, io, none⟩) n cap) ∧ w'.cell? ⟨w.heap.size, 1, none⟩ = some (.int .i64 (g : Int))) ((refine SH.out _ ?_; (repeat (first | (with_reducible exact Below.refl _ _) | (with_reducible assumption) | (with_reducible refine below_to_plus ?_ ?_ _) | (with_reducible refine below_holds ?_ ?_ _ _) | (with_reducible refine Below.alloc ?_ ?_ _) | (with_reducible refine Below.drew ?_) | (with_reducible refine below_drewN ?_ _) | (with_reducible refine Below.setCell ?_ ?_ _))); (all_goals first | omega | (simp; done) | (simp [go_sem]; done) | (simp [go_sem]; omega)))) ((first | (go_at_call 54; refine (CA0.out vb9 _ (by first | exact M9.out | exact M9.out.later (Below.alloc (Below.refl _ _) (Nat.le_refl _) _)) (CP.out.later (by first | exact hB9 | exact Below.alloc hB9 hB9.size _))).mono ?_; rintro e w10 ⟨la10, lc10, rfl, m10, k10⟩; have hB10 : Below wr.heap.size wr w10 := k10.below (by first | exact hB9 | exact Below.alloc hB9 hB9.size _) (by omega) (by omega) (fun b e => by cases e) (by first | exact hB9.size | (simp; have := hB9.size; omega)); have hz10 : wr.heap.size ≤ w10.heap.size := hB10.size; have M10 : Aside _ := m10; (first | (have T11 := k10.hp (b := w9.heap.size) (hp_new rfl) (by have := M9.out.lt; omega) (by have := M9.out.lt; omega) (by simp [Value.ownBlock]); have A11 : Aside _ := T11; have lt11 := (Array.getElem?_eq_some_iff.1 T11).1; have hp11 : wr.heap.size ≤ w9.heap.size := hB9.size; rw [holds_self T11]; clear T11) | (have T11 := k10.hp (b := wr.heap.size) (heap_later (w := (wr.alloc (.cells #[.slice none 0 0, .slice none 0 0] 98)).drew) (w' := w9) (o := .cells #[.slice none 0 0, .slice none 0 0] 98 (0, 0)) (show (wr.alloc (.cells #[.slice none 0 0, .slice none 0 0] 98)).heap[wr.heap.size]? = some (.cells #[.slice none 0 0, .slice none 0 0] 98 (0, 0)) from hp_new rfl) hb9) (by simp at hv9; omega) (by simp at hv9; omega) (by simp [Value.ownBlock]); have A11 : Aside _ := T11; have lt11 := (Array.getElem?_eq_some_iff.1 T11).1; rw [holds_self T11]; clear T11) | skip); clear m10) | (go_at_call 55; refine (NB _).mono ?_; rintro e w9 ⟨vb9, rfl, hv9, hh9, hb9⟩; have hv9' : wr.heap.size ≤ vb9 := Nat.le_trans (by first | exact Nat.le_refl _ | (simp; done) | (simp; omega)) hv9; have hB9 : Below wr.heap.size wr w9 := Below.trans (by first | exact Below.drew (Below.refl _ _) | exact Below.alloc (Below.drew (Below.refl _ _)) (Nat.le_refl _) _ | exact Below.drew (Below.alloc (Below.refl _ _) (Nat.le_refl _) _)) (hb9.mono (by first | exact Nat.le_refl _ | (simp; done) | (simp; omega))); have hz9 : wr.heap.size ≤ w9.heap.size := hB9.size; have M9 : Aside (TS w n vb9 (List.replicate n false) (.slice none 0 0) [] w9) := TS.begin (HB.out.trans (hB9.mono HB.out.size)) (by omega) hh9)))
      all_goals go_wp2_with fail
      all_goals go_meet
      all_goals first
        | exact ⟨_, vb9, la10, lc10, rfl, by omega, M10.out.later (Below.alloc (Below.refl _ _) (Nat.le_refl _) _), hp_new rfl, hp_old (heap_later H4.out hB10), hp_old (heap_later H8.out hB10)⟩
        | exact ⟨_, vb9, la10, lc10, rfl, by omega, M10.out.other A11.out (by omega) (by decide) (by decide) (by decide), hh_eq lt11, hh_ne (by omega) (heap_later H4.out hB10), hh_ne (by omega) (heap_later H8.out hB10)⟩
    case rest =>
      obtain ⟨a11, vb, la, lc, rfl, ha11, TS6, H11, H4', H8'⟩ := hcut
      clear H4 H8 HB l9 hkz hkz' CP SH CA0 b40 b41 hwr
      have O6 : Aside (OS w (some ⟨ib, io, none⟩) n cap (g : Int) L w.heap.size (w.heap.size + 1) a11 wc.heap.size p vb st0.1 la lc st0.2 none none 0 0 0 0 false (wc.alloc (.cells #[.slice none 0 0, .int .i64 0, .int .i64 0, .bool false] 65))) :=
        ⟨TS6.out.later (Below.alloc (Below.refl _ _) (Nat.le_refl _) _), hp_old H4'.out, hp_old H8'.out, hp_old H11.out, hp_new rfl, ⟨rfl, rfl, rfl, rfl⟩, TH0.out⟩
      have l11 : a11 < wc.heap.size := (Array.getElem?_eq_some_iff.1 H11.out).1
      obtain ⟨a12, h12⟩ : ∃ b, wc.heap.size = b := ⟨_, rfl⟩
      clear TS6 H11 H4' H8' TH0
      go_wp2_with fail
      generalize wc.alloc (.cells #[.slice none 0 0, .int .i64 0, .int .i64 0, .bool false] 65) = w7 at O6 ⊢
      rw [h12] at O6 l11
      try rw [h12]
      clear h12
      have RUN0 : Aside (runF (s.size - p + 1) L s whole p st0.2 none = R) := by
        show _ = _
        rw [← BG.out]
        exact HR.out
      clear BG HR
      go_loopg [13] (s.size - p + 2) (fun gk s13 wr => ∃ (q vb : Nat) (v : List Bool) (la : Option Addr) (lc : Nat) (l : List Th) (best : Option (List Int × Nat)) (ba : Option Addr) (bn bc : Nat) (b1 b2 : Int) (b3 : Bool), s13 = .int .i64 (q : Int) ∧ q + gk = s.size + 2 ∧ q ≤ s.size + 1 ∧ Aside (q ≤ s.size → runF (gk - 1) L s whole q l best = R) ∧ Aside (q = s.size + 1 → best = R) ∧ Aside (OS w (some ⟨ib, io, none⟩) n cap (g : Int) L w.heap.size (w.heap.size + 1) a11 a12 p vb v la lc l best ba bn bc b1 b2 b3 wr))
      case atStart => exact ⟨p, vb, _, la, lc, _, none, none, 0, 0, 0, 0, false, rfl, by omega, by omega, fun _ => RUN0.out, fun e => by omega, O6.out⟩
      case round =>
        obtain ⟨q, vb, v, la, lc, l, best, ba0, bn0, bc0, b10, b20, b30, rfl, hg, hq, HR1, HR2, O⟩ := hrel
        clear RUN0 O6
        obtain ⟨m, hlm⟩ : ∃ m, l.length = m := ⟨_, rfl⟩
        have LM : Aside (l.length = m) := hlm
        have R8A : Aside (wr.heap[(w.heap.size + 1)]? = some (.cells #[.slice none 0 0, .int .i64 0, .int .i64 0, .bool false] 65 (0, 0))) := O.out.r8
        have r11 := O.out.r11
        rw [hlm] at r11
        have b40 := cell_heap O.out.r4 0 _ rfl
        have b41 := cell_heap O.out.r4 1 _ rfl
        have b110 := cell_heap r11 0 _ rfl
        have b111 := cell_heap r11 1 _ rfl
        have e120 := cell_heap O.out.r12 0 _ rfl
        have e121 := cell_heap O.out.r12 1 _ rfl
        have e122 := cell_heap O.out.r12 2 _ rfl
        have e123 := cell_heap O.out.r12 3 _ rfl
        have lt8 : (w.heap.size + 1) < wr.heap.size := (Array.getElem?_eq_some_iff.1 O.out.r8).1
        have lt12 : a12 < wr.heap.size := (Array.getElem?_eq_some_iff.1 O.out.r12).1
        have hm9 : m ≤ 1024 := by
          have h1 := O.out.ts.cnt
          have h2 := O.out.ts.len
          omega
        clear r11 hlm
        by_cases hqs : q ≤ s.size
        rotate_left
        · have dq : decide ((q : Int) ≤ (s.size : Int)) = false := decide_eq_false (by omega)
          have dq' : ¬ (q : Int) ≤ (s.size : Int) := by omega
          have RR : Aside (best = R) := HR2.out (by omega)
          clear HR1 HR2
          rw [holds_self R8A.out]
          go_wp2
          refine bodyPost_ret (v := .agg #[.slice ba0 bn0 bc0, .int .i64 b10, .int .i64 b20, .bool b30]) (by simp [results, Try.results36, go_sem, ↓IntWalk.iteOmega, *]) rfl ?_
          exact HQ.out _ _ _ _ _ _ _ (by rw [← RR.out]; exact O.out.bst.other R8A.out (by decide)) (below_holds O.out.ts.hb (by omega) _ _)
        have dq : decide ((q : Int) ≤ (s.size : Int)) = true := decide_eq_true (by omega)
        have dq' : (q : Int) ≤ (s.size : Int) := by omega
        obtain ⟨f, rfl⟩ : ∃ f, gk = f + 2 := ⟨gk - 2, by omega⟩
        have HR3 : Aside (runF (f + 1) L s whole q l best = R) := HR1.out hqs
        by_cases hm0 : m = 0
        · have RR : Aside (best = R) := by
            have h := HR3.out
            have hl : l = [] := List.eq_nil_of_length_eq_zero (LM.out.trans hm0)
            rw [runF_end (.inr hl), hl] at h
            exact h
          subst hm0
          clear HR3
          clear HR1 HR2
          rw [holds_self R8A.out]
          go_wp2
          refine bodyPost_ret (v := .agg #[.slice ba0 bn0 bc0, .int .i64 b10, .int .i64 b20, .bool b30]) (by simp [results, Try.results36, go_sem, ↓IntWalk.iteOmega, *]) rfl ?_
          exact HQ.out _ _ _ _ _ _ _ (by rw [← RR.out]; exact O.out.bst.other R8A.out (by decide)) (below_holds O.out.ts.hb (by omega) _ _)
        have dm : decide ((0 : Int) < (m : Int)) = true := decide_eq_true (by omega)
        have dm' : decide (0 < m) = true := decide_eq_true (by omega)
        have dm2 : 0 < m := by omega
        have hvb : a12 < wr.heap.size := lt12
        clear HR1 HR2
        go_wp2_with fail
        refine (NB _).mono ?_
        rintro e w8 ⟨vb2, rfl, hv8, hh8, hb8⟩
        have O9 : Aside (OS w (some ⟨ib, io, none⟩) n cap (g : Int) L w.heap.size (w.heap.size + 1) a11 a12 p vb v la lc l best ba0 bn0 bc0 b10 b20 b30 (w8.alloc (.cells #[.slice none 0 0, .slice (some ⟨vb2, 0, none⟩) n n] 98))) := (O.out.later hb8).later (Below.alloc (Below.refl _ _) (Nat.le_refl _) _)
        have T9 : Aside (TS w n vb2 (List.replicate n false) (.slice none 0 0) [] (w8.alloc (.cells #[.slice none 0 0, .slice (some ⟨vb2, 0, none⟩) n n] 98))) := TS.begin ((O.out.later hb8).ts.hb.alloc (O.out.later hb8).ts.hb.size _) (by have := O.out.ts.hb.size; omega) (hp_old hh8)
        have R14 : Aside ((w8.alloc (.cells #[.slice none 0 0, .slice (some ⟨vb2, 0, none⟩) n n] 98)).heap[w8.heap.size]? = some (.cells #[.slice none 0 0, .slice (some ⟨vb2, 0, none⟩) n n] 98 (0, 0))) := hp_new rfl
        have l14 : vb2 < w8.heap.size := (Array.getElem?_eq_some_iff.1 hh8).1
        have l12 : a12 < vb2 := by omega
        obtain ⟨a14, h14⟩ : ∃ b, w8.heap.size = b := ⟨_, rfl⟩
        clear O R8A b40 b41 b110 b111 e120 e121 e122 e123 lt8 lt12 hh8 hb8 hvb hv8
        go_wp2_with fail
        generalize w8.alloc (.cells #[.slice none 0 0, .slice (some ⟨vb2, 0, none⟩) n n] 98) = w9 at O9 T9 R14 ⊢
        rw [h14] at R14 l14
        try rw [h14]
        clear h14
        obtain ⟨cd, hcd⟩ : ∃ b, (!whole || decide (q = s.size)) = b := ⟨_, rfl⟩
        have CD : Aside ((!whole || decide (q = s.size)) = cd) := hcd
        obtain ⟨c, hc⟩ : ∃ c, (s[q]!.toNat : Int) = c := ⟨_, rfl⟩
        have HCC : Aside ((s[q]!.toNat : Int) = c) := hc
        obtain ⟨FIN, hfin⟩ : ∃ F, stepG L s.size q c l (List.replicate n false, []) = F := ⟨_, rfl⟩
        have HF0 : Aside (stepG L s.size q c (l.drop 0) (List.replicate n false, []) = FIN) := hfin
        have NX1 : Aside (q + 1 ≤ s.size → runF f L s whole (q + 1) FIN.2 (bestF L s.size q whole l best) = R) := fun h => by
          rw [← HR3.out, runF_go (fun h9 => by
            rcases h9 with h9 | h9
            · omega
            · rw [h9] at LM; exact hm0 LM.out.symm), ← hfin, HN.out, hc]
          unfold stepG
          rw [if_pos (by omega)]
        have NX2 : Aside (q = s.size → bestF L s.size q whole l best = R) := fun h => by
          rw [← HR3.out, runF_end (.inl (by omega))]
        have MT0 : Aside (((foundF L (l.take 0)).isSome && cd) = false) := rfl
        have FV0 : Aside (FV w.heap.size p (bestF L s.size q whole (l.take 0) best) (.slice ba0 bn0 bc0) b10 b20 b30 w9) := O9.out.bst
        have K9 : Aside (Keeps a12 a14 vb2 (.slice none 0 0) w9 w9) := Keeps.refl _ _ _ _ _ _
        obtain ⟨ms, r1, r2⟩ := O9.out.ts.row
        have OR9 : Aside (w9.ownsRow w.heap.size 102 2 (.slice la l.length lc) ms.length (flatE ThM.enc ms)) := r1
        have OC9 : Aside (All2 (fun m t => m.k = t.1 ∧ Cap w.heap.size vb m.v t.2 w9) ms l) := r2
        have MLN : Aside (ms.length = m) := r2.len.trans LM.out
        have TL : Aside (∀ t ∈ l, TOk L (g : Int) t) := O9.out.th
        have R14Z : Aside (w9.heap[a14]? = some (.cells #[.slice none 0 0, .slice (some ⟨vb2, 0, none⟩) n n] 98 (0, 0))) := R14.out
        have VB9 : Aside (w9.heap[vb2]? = some (.cells (encB (List.replicate n false)) 4 (0, 0))) := T9.out.vis
        clear hcd hc hfin HR3 r1 r2
        go_loopg [15, 16] (m + 1) (fun gj s15 s16 wr => ∃ (j : Nat) (mt : Bool) (v2 : List Bool) (la2 : Option Addr) (lc2 : Nat) (l2 : List Th) (ba : Option Addr) (bn bc : Nat) (b1 b2 : Int) (b3 : Bool), s15 = .bool mt ∧ s16 = .int .i64 (j : Int) ∧ j + gj = m + 1 ∧ j ≤ m ∧ Aside (((foundF L (l.take j)).isSome && cd) = mt) ∧ Aside (stepG L s.size q c (l.drop j) (v2, l2) = FIN) ∧ Aside (TS w n vb2 v2 (.slice la2 l2.length lc2) l2 wr) ∧ Aside (Keeps a12 a14 vb2 (.slice la2 l2.length lc2) w9 wr) ∧ Aside (wr.heap[a12]? = some (.cells #[.slice ba bn bc, .int .i64 b1, .int .i64 b2, .bool b3] 65 (0, 0))) ∧ Aside (wr.heap[a14]? = some (.cells #[.slice la2 l2.length lc2, .slice (some ⟨vb2, 0, none⟩) n n] 98 (0, 0))) ∧ Aside (FV w.heap.size p (bestF L s.size q whole (l.take j) best) (.slice ba bn bc) b1 b2 b3 wr) ∧ Aside (∀ t ∈ l2, TOk L (g : Int) t))
        case atStart => exact ⟨0, false, _, none, 0, [], ba0, bn0, bc0, b10, b20, b30, rfl, rfl, by omega, by omega, MT0.out, HF0.out, T9.out, K9.out, O9.out.r12, R14.out, FV0.out, fun t ht => by cases ht⟩
        case round =>
          obtain ⟨j, mt, v2, la2, lc2, l2, ba, bn, bc, b1, b2, b3, rfl, rfl, hjg, hjm, MT, ST, TSI, KI, R12I, R14I, FVI, TI⟩ := hrel
          clear MT0 HF0 FV0 K9 T9 R14
          have R4I : Aside (wr.heap[w.heap.size]? = some (.cells #[.slice (some ⟨ib, io, none⟩) n cap, .int .i64 (g : Int)] 24 (0, 0))) := KI.out.hp O9.out.r4 (by omega) (by omega) (by omega)
          have R8I : Aside (wr.heap[(w.heap.size + 1)]? = some (.cells #[.slice none 0 0, .int .i64 0, .int .i64 0, .bool false] 65 (0, 0))) := KI.out.hp O9.out.r8 (by omega) (by omega) (by omega)
          have R11I : Aside (wr.heap[a11]? = some (.cells #[.slice la m lc, .slice (some ⟨vb, 0, none⟩) n n] 98 (0, 0))) := by
            have h := KI.out.hp O9.out.r11 (by omega) (by omega) (by omega)
            rw [LM.out] at h
            exact h
          have lt11 : a11 < wr.heap.size := (Array.getElem?_eq_some_iff.1 R11I.out).1
          have lt14 : a14 < wr.heap.size := (Array.getElem?_eq_some_iff.1 R14I.out).1
          have b110 := cell_heap R11I.out 0 _ rfl
          have b140 := cell_heap R14I.out 0 _ rfl
          have b141 := cell_heap R14I.out 1 _ rfl
          by_cases hj : j < m
          rotate_left
          · have ej : j = m := by omega
            have hjz : ¬ (j : Int) < (m : Int) := by omega
            have hjd : decide ((j : Int) < (m : Int)) = false := decide_eq_false hjz
            have hST : (v2, l2) = FIN := by
              have h := ST.out
              rw [List.drop_of_length_le (by rw [LM.out]; omega), stepG_nil] at h
              exact h
            have hTK : l.take j = l := List.take_of_length_le (by rw [LM.out]; omega)
            rw [hTK] at FVI
            rw [← hST] at NX1
            have wq1 : IntKind.i64.wrap ((q : Int) + 1) = ((q + 1 : Nat) : Int) := by rw [IntKind.wrap_i64]; omega
            have OSN : Aside (OS w (some ⟨ib, io, none⟩) n cap (g : Int) L w.heap.size (w.heap.size + 1) a11 a12 p vb2 v2 la2 lc2 l2 (bestF L s.size q whole l best) ba bn bc b1 b2 b3 (holds wr a11 #[.slice la2 l2.length lc2, .slice (some ⟨vb2, 0, none⟩) n n] 98)) :=
              ⟨TSI.out.other R11I.out (by have := O9.out.ts.hb.size; omega) (by decide) (by decide) (by decide), hh_ne (by omega) R4I.out, hh_ne (by omega) R8I.out, hh_eq lt11, hh_ne (by omega) R12I.out, FVI.out.other R11I.out (by decide), TI.out⟩
            clear hST ST hTK
            rw [holds_self R11I.out]
            have n14 : ¬ a14 = a11 := by omega
            go_wp2
            go_roundg (f + 1)
            case measure => omega
            case rel => exact ⟨q + 1, vb2, v2, la2, lc2, l2, _, ba, bn, bc, b1, b2, b3, rfl, by omega, by omega, NX1.out, fun e => NX2.out (by omega), OSN.out⟩
          have hjl : j < l.length := by rw [LM.out]; exact hj
          have hjs : j < ms.length := by rw [MLN.out]; exact hj
          have hjz : (j : Int) < (m : Int) := by omega
          have hjd : decide ((j : Int) < (m : Int)) = true := decide_eq_true hjz
          have ORI := Keeps.own OR9.out KI.out (own_ne OR9.out O9.out.r12 (by decide)) (own_ne OR9.out R14Z.out (by decide)) (own_ne OR9.out VB9.out (by decide))
          obtain ⟨lb, lc', elv, -, t0, t1⟩ := rthm_cells ORI hjs
          have LB9 : Aside (lb < w9.heap.size) := (own_block OR9.out (b := lb) (by rw [elv]; rfl)).2.1
          rw [MLN.out] at elv
          rw [LM.out] at elv
          simp only [Value.slice.injEq] at elv
          obtain ⟨rfl, -, rfl⟩ := elv
          have nl12 : ¬ lb = a12 := fun e => own_ne OR9.out O9.out.r12 (by decide) (by rw [e]; rfl)
          have nl14 : ¬ lb = a14 := fun e => own_ne OR9.out R14Z.out (by decide) (by rw [e]; rfl)
          have nlv : ¬ lb = vb2 := fun e => own_ne OR9.out VB9.out (by decide) (by rw [e]; rfl)
          obtain ⟨q1, q2⟩ := OC9.out.get j hjs
          have q2 := q2.toRow.keeps KI.out O9.out.r12 R14Z.out VB9.out (by decide) (by decide) (by decide)
          obtain ⟨cb, ccap, ecv, -⟩ := q2.form
          have htok := TL.out _ (show l[j]! ∈ l by rw [getElem!_pos l j hjl]; exact List.getElem_mem _)
          have ETK : Aside (l.take (j + 1) = l.take j ++ [l[j]!]) := by
            show _ = _
            rw [List.take_succ_eq_append_getElem hjl, getElem!_pos l j hjl]
          have HS : Aside (stepG L s.size q c (l.drop (j + 1)) (if q < s.size ∧ accF L[l[j]!.1]! c = true then addF (L.length + 1) L s.size (q + 1) (l[j]!.1 + 1) l[j]!.2 (v2, l2) else (v2, l2)) = FIN) := by
            show _ = _
            rw [← ST.out]
            by_cases hq9 : q < s.size
            · rw [List.drop_eq_getElem_cons hjl, ← getElem!_pos l j hjl, stepG_cons hq9]
              by_cases ha : accF L[l[j]!.1]! c = true
              · rw [if_pos ⟨hq9, ha⟩, if_pos ha]
              · rw [if_neg (fun h => ha h.2), if_neg ha]
            · rw [if_neg (fun h => hq9 h.1)]
              exact stepG_end hq9
          rw [q1] at t0
          rw [ecv] at t1 q2
          generalize l[j]! = t at t0 t1 q2 htok HS ETK
          obtain ⟨kj, cs⟩ := t
          have CPV : Aside (Row w.heap.size (.slice (some ⟨cb, 0, none⟩) cs.length ccap) cs wr) := q2
          have TK : Aside (TOk L (g : Int) (kj, cs)) := htok
          have hkn : kj < L.length := htok.k
          simp only [] at t0 t1 HS
          obtain ⟨ib', io', hao, -, l0, l1, l2', l3, l4, l5⟩ := (HE.out.hp.c.later (TSI.out.hb.mono (Nat.le_refl _))) kj hkn
          simp only [Option.some.injEq, Addr.mk.injEq] at hao
          obtain ⟨rfl, rfl, -⟩ := hao
          have hset := sound_set ((right_parts HE.out.hr).2.2.2.2.2 kj hkn)
          obtain ⟨x, hx⟩ : ∃ x, L[kj]! = x := ⟨_, rfl⟩
          have HX : Aside (L[kj]! = x) := hx
          rw [hx] at l0 l1 l2' l3 l4 l5 hset HS
          obtain ⟨y1, y2, y3, y4, y5, y6⟩ := x
          simp only [] at l0 l1 l2' l3 l4 l5 hset
          rw [HN.out] at hkn
          have hkz : (kj : Int) < (n : Int) := by omega
          have b40 := cell_heap R4I.out 0 _ rfl
          have hibw : ib < wr.heap.size := Nat.lt_of_lt_of_le hib TSI.out.hb.size
          have nib : ¬ ib = wr.heap.size := by omega
          have nlb : ¬ lb = wr.heap.size := by have := LB9.out; have := KI.out.size; omega
          have na4 : ¬ w.heap.size = wr.heap.size := by omega
          have na11 : ¬ a11 = wr.heap.size := by omega
          clear q1 q2 htok hx ecv hjs hjl ORI
          go_upto_region 16 with fail
          go_cut [17] from 53 to 125 (fun s17 wx => ∃ a17 : Nat, s17 = .pointer (some ⟨a17, 0, none⟩) ∧ Aside (wr.heap.size ≤ a17) ∧ Aside (Below wr.heap.size wr wx) ∧ Aside (wx.heap[a17]? = some (.cells #[.int .i64 y1, .int .u8 y2, .string y3, .bool y4, .int .i64 y5, .int .i64 y6] 34 (0, 0))))
          case first =>
            go_region_held3 (fun w' => w'.cell? ⟨w.heap.size, 0, none⟩ = some (.slice (some ⟨ib, io, none⟩) n cap) ∧ w'.cell? ⟨a11, 0, none⟩ = some (.slice (some ⟨lb, 0, none⟩) m lc) ∧ w'.cell? ⟨lb, j * 2, none⟩ = some (.int .i64 (kj : Int)) ∧ w'.cell? ⟨ib, io + kj * 6, none⟩ = some (.int .i64 y1) ∧ w'.cell? ⟨ib, io + kj * 6 + 1, none⟩ = some (.int .u8 y2) ∧ w'.cell? ⟨ib, io + kj * 6 + 2, none⟩ = some (.string y3) ∧ w'.cell? ⟨ib, io + kj * 6 + 3, none⟩ = some (.bool y4) ∧ w'.cell? ⟨ib, io + kj * 6 + 4, none⟩ = some (.int .i64 y5) ∧ w'.cell? ⟨ib, io + kj * 6 + 5, none⟩ = some (.int .i64 y6)) (first | (simp [go_sem, ↓IntWalk.iteOmega, *]; done)) (fail)
            all_goals go_wp2_with fail
            go_meet
            exact ⟨_, rfl, Nat.le_refl _, Below.drew (Below.alloc (Below.refl _ _) (Nat.le_refl _) _), (show (wr.alloc (.cells #[.int .i64 y1, .int .u8 y2, .string y3, .bool y4, .int .i64 y5, .int .i64 y6] 34)).heap[wr.heap.size]? = some (.cells #[.int .i64 y1, .int .u8 y2, .string y3, .bool y4, .int .i64 y5, .int .i64 y6] 34 (0, 0)) from hp_new rfl)⟩
          case rest =>
            obtain ⟨a17, rfl, L17, B17, R17⟩ := hcut
            rename World => w10
            have lwr : wr.heap.size ≤ a17 := L17.out
            have lt12w : a12 < wr.heap.size := (Array.getElem?_eq_some_iff.1 R12I.out).1
            have lt14w : a14 < wr.heap.size := (Array.getElem?_eq_some_iff.1 R14I.out).1
            have TS1 : Aside (TS w n vb2 v2 (.slice la2 l2.length lc2) l2 w10) := TSI.out.later B17.out
            have K1 : Aside (Keeps a12 a14 vb2 (.slice la2 l2.length lc2) w9 w10) := KI.out.later B17.out
            have R4C : Aside (w10.heap[w.heap.size]? = some (.cells #[.slice (some ⟨ib, io, none⟩) n cap, .int .i64 (g : Int)] 24 (0, 0))) := heap_later R4I.out B17.out
            have R11C : Aside (w10.heap[a11]? = some (.cells #[.slice (some ⟨lb, 0, none⟩) m lc, .slice (some ⟨vb, 0, none⟩) n n] 98 (0, 0))) := heap_later R11I.out B17.out
            have R12C : Aside (w10.heap[a12]? = some (.cells #[.slice ba bn bc, .int .i64 b1, .int .i64 b2, .bool b3] 65 (0, 0))) := heap_later R12I.out B17.out
            have R14C : Aside (w10.heap[a14]? = some (.cells #[.slice la2 l2.length lc2, .slice (some ⟨vb2, 0, none⟩) n n] 98 (0, 0))) := heap_later R14I.out B17.out
            have FVC : Aside (FV w.heap.size p (bestF L s.size q whole (l.take j) best) (.slice ba bn bc) b1 b2 b3 w10) := FVI.out.later B17.out
            have CPC : Aside (Row w.heap.size (.slice (some ⟨cb, 0, none⟩) cs.length ccap) cs w10) := CPV.out.later B17.out
            have hlbw : lb < wr.heap.size := Nat.lt_of_lt_of_le LB9.out KI.out.size
            have t0c : w10.cell? ⟨lb, j * 2, none⟩ = some (.int .i64 (kj : Int)) := (B17.out.cell (p := ⟨lb, j * 2, none⟩) hlbw).trans t0
            have t1c : w10.cell? ⟨lb, j * 2 + 1, none⟩ = some (.slice (some ⟨cb, 0, none⟩) cs.length ccap) := (B17.out.cell (p := ⟨lb, j * 2 + 1, none⟩) hlbw).trans t1
            clear TSI KI R4I R8I R11I R12I R14I FVI CPV b40 b110 b140 b141 l0 l1 l2' l3 l4 l5 t0 t1 nib nlb na4 na11 lt11 lt14 ST hibw
            have i0 := cell_heap R17.out 0 _ rfl
            have c110 := cell_heap R11C.out 0 _ rfl
            have n1112 : ¬ a11 = a12 := by omega
            obtain ⟨hit, hhit⟩ : ∃ b, (decide (y1 = 9) && !mt && cd) = b := ⟨_, rfl⟩
            have HIT : Aside ((decide (y1 = 9) && !mt && cd) = hit) := hhit
            clear hhit
            go_upto_region 17 with fail
            go_cut [86] from 53 to 125 (fun s86 wx => s86 = .bool hit ∧ wx = w10)
            case first =>
              have h1 := HIT.out
              have h2 := CD.out
              by_cases o9 : y1 = 9
              · have e9 : (y1 == 9) = true := by rw [o9]; rfl
                have d9 : decide (y1 = 9) = true := decide_eq_true o9
                rw [d9] at h1
                clear o9
                cases mt with
                | true =>
                  have h1 : false = hit := h1
                  subst h1
                  go_wp2_with fail
                  go_meet
                  exact ⟨rfl, rfl⟩
                | false =>
                  have h1 : cd = hit := h1
                  cases whole with
                  | false =>
                    have h2 : true = cd := h2
                    subst h2
                    subst h1
                    go_wp2_with fail
                    go_meet
                    exact ⟨rfl, rfl⟩
                  | true =>
                    have h2 : decide (q = s.size) = cd := h2
                    by_cases hqe : q = s.size
                    · have e1 : ((q : Int) == (s.size : Int)) = true := by rw [hqe]; simp
                      have e2 : decide ((q : Int) = (s.size : Int)) = true := decide_eq_true (by omega)
                      rw [decide_eq_true hqe] at h2
                      subst h2
                      subst h1
                      clear hqe
                      go_wp2_with fail
                      go_meet
                      exact ⟨by simp, rfl⟩
                    · have e1 : ((q : Int) == (s.size : Int)) = false := by rw [beq_eq_false_iff_ne]; omega
                      have e2 : decide ((q : Int) = (s.size : Int)) = false := decide_eq_false (by omega)
                      rw [decide_eq_false hqe] at h2
                      subst h2
                      subst h1
                      clear hqe
                      go_wp2_with fail
                      go_meet
                      exact ⟨by simp, rfl⟩
              · have e9 : (y1 == 9) = false := by rw [beq_eq_false_iff_ne]; exact o9
                have d9 : decide (y1 = 9) = false := decide_eq_false o9
                rw [d9] at h1
                have h1 : false = hit := h1
                subst h1
                clear o9
                go_wp2_with fail
                go_meet
                exact ⟨rfl, rfl⟩
            case rest =>
              obtain ⟨rfl, hw⟩ := hcut
              rw [hw]
              clear hw
              obtain ⟨nba, nbn, nbc, nb1, nb2, nb3, NBT, NBF⟩ : ∃ (nba : Option Addr) (nbn nbc : Nat) (nb1 nb2 : Int) (nb3 : Bool), (hit = true → nba = some ⟨cb, 0, none⟩ ∧ nbn = cs.length ∧ nbc = ccap ∧ nb1 = (p : Int) ∧ nb2 = (q : Int) ∧ nb3 = true) ∧ (hit = false → nba = ba ∧ nbn = bn ∧ nbc = bc ∧ nb1 = b1 ∧ nb2 = b2 ∧ nb3 = b3) := by
                cases hit with
                | true => exact ⟨_, _, _, _, _, _, fun _ => ⟨rfl, rfl, rfl, rfl, rfl, rfl⟩, fun h => by cases h⟩
                | false => exact ⟨_, _, _, _, _, _, fun h => (by cases h), fun _ => ⟨rfl, rfl, rfl, rfl, rfl, rfl⟩⟩
              have lt12 : a12 < w10.heap.size := (Array.getElem?_eq_some_iff.1 R12C.out).1
              have SN := best_snoc (L := L) (n := s.size) (q := q) (whole := whole) (l := l.take j) (best := best) (t := (kj, cs)) (hit := hit) CD.out MT.out (by rw [HX.out]; exact HIT.out)
              rw [← ETK.out] at SN
              have FVN : Aside (FV w.heap.size p (bestF L s.size q whole (l.take (j + 1)) best) (.slice nba nbn nbc) nb1 nb2 nb3 (holds w10 a12 #[.slice nba nbn nbc, .int .i64 nb1, .int .i64 nb2, .bool nb3] 65)) := by
                show FV _ _ _ _ _ _ _ _
                rw [SN.1]
                cases hit with
                | true =>
                  obtain ⟨rfl, rfl, rfl, rfl, rfl, rfl⟩ := NBT rfl
                  exact ⟨CPC.out.other R12C.out (by decide), rfl, rfl, rfl⟩
                | false =>
                  obtain ⟨rfl, rfl, rfl, rfl, rfl, rfl⟩ := NBF rfl
                  exact FVC.out.other R12C.out (by decide)
              have MTN : Aside (((foundF L (l.take (j + 1))).isSome && cd) = (mt || hit)) := SN.2
              clear SN MT FVC
              obtain ⟨mt2, hmt2⟩ : ∃ b, (mt || hit) = b := ⟨_, rfl⟩
              rw [hmt2] at MTN
              obtain ⟨wk, hwk⟩ : ∃ x, x = w10 := ⟨_, rfl⟩
              have HK : Aside (wk = w10) := hwk
              clear hwk
              go_upto_if 86 with fail
              go_cut [15] from 53 to 125 (fun s15 wx => s15 = .bool mt2 ∧ wx = holds wk a12 #[.slice nba nbn nbc, .int .i64 nb1, .int .i64 nb2, .bool nb3] 65)
              case first =>
                cases hit with
                | true =>
                  obtain ⟨rfl, rfl, rfl, rfl, rfl, rfl⟩ := NBT rfl
                  have hm2 : true = mt2 := by rw [← hmt2]; simp
                  subst hm2
                  clear hmt2
                  rw [holds_self R12C.out]
                  go_wp2_with fail
                  go_meet
                  exact ⟨rfl, by rw [HK.out]⟩
                | false =>
                  obtain ⟨rfl, rfl, rfl, rfl, rfl, rfl⟩ := NBF rfl
                  have hm2 : mt = mt2 := by rw [← hmt2]; simp
                  subst hm2
                  clear hmt2
                  go_wp2_with fail
                  go_meet
                  refine ⟨rfl, ?_⟩
                  all_goals (rw [HK.out]; exact holds_self R12C.out)
              case rest =>
                obtain ⟨rfl, hw⟩ := hcut
                rw [hw, HK.out]
                clear hw HK NBT NBF c110 n1112 hmt2 HIT
                have l2n : (w10.heap.size : Nat) = (holds w10 a12 #[.slice nba nbn nbc, .int .i64 nb1, .int .i64 nb2, .bool nb3] 65).heap.size := (size_holds _ _ _ _).symm
                have TS2 : Aside (TS w n vb2 v2 (.slice la2 l2.length lc2) l2 (holds w10 a12 #[.slice nba nbn nbc, .int .i64 nb1, .int .i64 nb2, .bool nb3] 65)) := TS1.out.other R12C.out (by have := O9.out.ts.hb.size; omega) (by decide) (by decide) (by decide)
                have K2 : Aside (Keeps a12 a14 vb2 (.slice la2 l2.length lc2) w9 (holds w10 a12 #[.slice nba nbn nbc, .int .i64 nb1, .int .i64 nb2, .bool nb3] 65)) := K1.out.holdsA _ _
                have R4D : Aside ((holds w10 a12 #[.slice nba nbn nbc, .int .i64 nb1, .int .i64 nb2, .bool nb3] 65).heap[w.heap.size]? = some (.cells #[.slice (some ⟨ib, io, none⟩) n cap, .int .i64 (g : Int)] 24 (0, 0))) := hh_ne (by omega) R4C.out
                have R11D : Aside ((holds w10 a12 #[.slice nba nbn nbc, .int .i64 nb1, .int .i64 nb2, .bool nb3] 65).heap[a11]? = some (.cells #[.slice (some ⟨lb, 0, none⟩) m lc, .slice (some ⟨vb, 0, none⟩) n n] 98 (0, 0))) := hh_ne (by omega) R11C.out
                have R12D : Aside ((holds w10 a12 #[.slice nba nbn nbc, .int .i64 nb1, .int .i64 nb2, .bool nb3] 65).heap[a12]? = some (.cells #[.slice nba nbn nbc, .int .i64 nb1, .int .i64 nb2, .bool nb3] 65 (0, 0))) := hh_eq lt12
                have R14D : Aside ((holds w10 a12 #[.slice nba nbn nbc, .int .i64 nb1, .int .i64 nb2, .bool nb3] 65).heap[a14]? = some (.cells #[.slice la2 l2.length lc2, .slice (some ⟨vb2, 0, none⟩) n n] 98 (0, 0))) := hh_ne (by omega) R14C.out
                have CPD : Aside (Row w.heap.size (.slice (some ⟨cb, 0, none⟩) cs.length ccap) cs (holds w10 a12 #[.slice nba nbn nbc, .int .i64 nb1, .int .i64 nb2, .bool nb3] 65)) := CPC.out.other R12C.out (by decide)
                have R17D : Aside ((holds w10 a12 #[.slice nba nbn nbc, .int .i64 nb1, .int .i64 nb2, .bool nb3] 65).heap[a17]? = some (.cells #[.int .i64 y1, .int .u8 y2, .string y3, .bool y4, .int .i64 y5, .int .i64 y6] 34 (0, 0))) := hh_ne (by have := (Array.getElem?_eq_some_iff.1 R12C.out).1; have := lt12w; omega) R17.out
                have t0d : (holds w10 a12 #[.slice nba nbn nbc, .int .i64 nb1, .int .i64 nb2, .bool nb3] 65).cell? ⟨lb, j * 2, none⟩ = some (.int .i64 (kj : Int)) := by rw [cell?_holds, if_neg (fun h => nl12 h.1)]; exact t0c
                have t1d : (holds w10 a12 #[.slice nba nbn nbc, .int .i64 nb1, .int .i64 nb2, .bool nb3] 65).cell? ⟨lb, j * 2 + 1, none⟩ = some (.slice (some ⟨cb, 0, none⟩) cs.length ccap) := by rw [cell?_holds, if_neg (fun h => nl12 h.1)]; exact t1c
                have l17 : a17 < (holds w10 a12 #[.slice nba nbn nbc, .int .i64 nb1, .int .i64 nb2, .bool nb3] 65).heap.size := (Array.getElem?_eq_some_iff.1 R17D.out).1
                clear TS1 K1 R4C R11C R12C R14C CPC R17 t0c t1c i0 l2n B17 L17
                generalize holds w10 a12 #[.slice nba nbn nbc, .int .i64 nb1, .int .i64 nb2, .bool nb3] 65 = w11 at TS2 K2 R4D R11D R12D R14D CPD R17D t0d t1d FVN l17 ⊢
                have hql : q ≤ s.size := hqs
                obtain ⟨ac, hac⟩ : ∃ b, (decide (q < s.size) && accF ⟨y1, y2, y3, y4, y5, y6⟩ c) = b := ⟨_, rfl⟩
                have HAC : Aside ((decide (q < s.size) && accF ⟨y1, y2, y3, y4, y5, y6⟩ c) = ac) := hac
                have HSN : Aside (stepG L s.size q c (l.drop (j + 1)) (if ac = true then addF (L.length + 1) L s.size (q + 1) (kj + 1) cs (v2, l2) else (v2, l2)) = FIN) := by
                  have h := HS.out
                  show _ = _
                  rw [← h, ← hac]
                  simp only [Bool.and_eq_true, decide_eq_true_eq]
                have wj1 : IntKind.i64.wrap ((j : Int) + 1) = ((j + 1 : Nat) : Int) := by rw [IntKind.wrap_i64]; omega
                clear hac HS ETK
                go_upto_region 20 with fail
                go_cut [106] from 53 to 125 (fun s106 wx => s106 = .bool ac ∧ Aside (Below w11.heap.size w11 wx))
                case first =>
                  by_cases hlq : q < s.size
                  · have hlz : (q : Int) < (s.size : Int) := by omega
                    have hld : decide ((q : Int) < (s.size : Int)) = true := decide_eq_true hlz
                    have hld' : decide (q < s.size) = true := decide_eq_true hlq
                    have CAC : ∀ W, Calls Try.prog 56 #[.agg #[.int .i64 y1, .int .u8 y2, .string y3, .bool y4, .int .i64 y5, .int .i64 y6], .int .u8 (s[q].toNat : Int)] W fun e w' => e = .returned (.bool ac) ∧ Below W.heap.size W w' := fun W => by
                      have h := raccepts_calls y1 y2 y3 y4 y5 y6 (s[q].toNat : Int) hset W
                      have h2 := HAC.out
                      rw [hld', Bool.true_and, ← HCC.out, getElem!_pos s q hlq] at h2
                      rw [h2] at h
                      exact h
                    have i0 := cell_heap R17D.out 0 _ rfl
                    have i1 := cell_heap R17D.out 1 _ rfl
                    have i2 := cell_heap R17D.out 2 _ rfl
                    have i3 := cell_heap R17D.out 3 _ rfl
                    have i4 := cell_heap R17D.out 4 _ rfl
                    have i5 := cell_heap R17D.out 5 _ rfl
                    refine wp_region_plus (by kernel_rfl) (by kernel_rfl) ?_
                    repeat (go_big_quiet_step (first | (go_at_call 56; exact calls_plus (CAC _)) | fail))
                    refine wpQuiet_nil ?_
                    rintro _ ⟨x1, rfl⟩
                    go_wp2_with fail
                    go_meet
                    exact ⟨rfl, below_plus _ _⟩
                  · have hlz : ¬ (q : Int) < (s.size : Int) := by omega
                    have hld : decide ((q : Int) < (s.size : Int)) = false := decide_eq_false hlz
                    have hac : false = ac := by rw [← HAC.out, decide_eq_false hlq]; rfl
                    subst hac
                    clear hlq
                    go_quiet (fail)
                    go_wp2_with fail
                    go_meet
                    exact ⟨rfl, below_drewN (Below.refl _ _) _⟩
                case rest =>
                  obtain ⟨rfl, B12⟩ := hcut
                  rename World => w12
                  have TS3 : Aside (TS w n vb2 v2 (.slice la2 l2.length lc2) l2 w12) := TS2.out.later B12.out
                  have K3 : Aside (Keeps a12 a14 vb2 (.slice la2 l2.length lc2) w9 w12) := K2.out.later B12.out
                  have R4E : Aside (w12.heap[w.heap.size]? = some (.cells #[.slice (some ⟨ib, io, none⟩) n cap, .int .i64 (g : Int)] 24 (0, 0))) := heap_later R4D.out B12.out
                  have R11E : Aside (w12.heap[a11]? = some (.cells #[.slice (some ⟨lb, 0, none⟩) m lc, .slice (some ⟨vb, 0, none⟩) n n] 98 (0, 0))) := heap_later R11D.out B12.out
                  have R12E : Aside (w12.heap[a12]? = some (.cells #[.slice nba nbn nbc, .int .i64 nb1, .int .i64 nb2, .bool nb3] 65 (0, 0))) := heap_later R12D.out B12.out
                  have R14E : Aside (w12.heap[a14]? = some (.cells #[.slice la2 l2.length lc2, .slice (some ⟨vb2, 0, none⟩) n n] 98 (0, 0))) := heap_later R14D.out B12.out
                  have CPE : Aside (Row w.heap.size (.slice (some ⟨cb, 0, none⟩) cs.length ccap) cs w12) := CPD.out.later B12.out
                  have FVE : Aside (FV w.heap.size p (bestF L s.size q whole (l.take (j + 1)) best) (.slice nba nbn nbc) nb1 nb2 nb3 w12) := FVN.out.later B12.out
                  have hlb11 : lb < w11.heap.size := Nat.lt_of_lt_of_le LB9.out K2.out.size
                  have t0e : w12.cell? ⟨lb, j * 2, none⟩ = some (.int .i64 (kj : Int)) := (B12.out.cell (p := ⟨lb, j * 2, none⟩) hlb11).trans t0d
                  have t1e : w12.cell? ⟨lb, j * 2 + 1, none⟩ = some (.slice (some ⟨cb, 0, none⟩) cs.length ccap) := (B12.out.cell (p := ⟨lb, j * 2 + 1, none⟩) hlb11).trans t1d
                  clear TS2 K2 R4D R11D R12D R14D CPD FVN t0d t1d R17D B12 l17 hlb11
                  cases ac with
                  | false =>
                    have HSF : Aside (stepG L s.size q c (l.drop (j + 1)) (v2, l2) = FIN) := HSN.out
                    clear t0e t1e
                    go_wp2_with fail
                    go_roundg (m - j)
                    case measure => omega
                    case rel => exact ⟨j + 1, mt2, v2, la2, lc2, l2, nba, nbn, nbc, nb1, nb2, nb3, rfl, rfl, by omega, by omega, MTN.out, HSF.out, TS3.out, K3.out, R12E.out, R14E.out, FVE.out, TI.out⟩
                  | true =>
                    have hac := HAC.out
                    rw [Bool.and_eq_true, decide_eq_true_eq] at hac
                    have hlq : q < s.size := hac.1
                    have HSF : Aside (stepG L s.size q c (l.drop (j + 1)) (addF (L.length + 1) L s.size (q + 1) (kj + 1) cs (v2, l2)) = FIN) := HSN.out
                    have hnx : kj + 1 < L.length := TK.out.next HE.out.hr (by rw [HX.out]; exact hac.2)
                    have hnxn : kj + 1 < n := by rw [← HN.out]; exact hnx
                    obtain ⟨st, hst⟩ : ∃ st, addF (L.length + 1) L s.size (q + 1) (kj + 1) cs (v2, l2) = st := ⟨_, rfl⟩
                    have ca := RA.out (L.length + 1) (q + 1) vb2 v2 la2 lc2 l2 (kj + 1) cs (.slice (some ⟨cb, 0, none⟩) cs.length ccap) w12.drew (TS3.out.later (Below.drew (Below.refl _ _))) ((CPE.out.later (Below.drew (Below.refl _ _))).cap (TS3.out.later (Below.drew (Below.refl _ _))).vis (by decide)) hnxn TK.out.n (by omega) (by
                      have h1 := TS3.out.len
                      have h2 := List.count_le_length (a := false) (l := v2)
                      have h3 := HN.out
                      omega)
                    have TST : Aside (∀ t ∈ st.2, TOk L (g : Int) t) := by
                      have h := addF_ok HE.out.hr (L.length + 1) s.size (q + 1) (kj + 1) cs (v2, l2) hnx TK.out.n TI.out
                      rw [hst] at h
                      exact h
                    rw [hst] at ca HSF
                    have b40 := cell_heap R4E.out 0 _ rfl
                    have b41 := cell_heap R4E.out 1 _ rfl
                    have b110 := cell_heap R11E.out 0 _ rfl
                    have b140 := cell_heap R14E.out 0 _ rfl
                    have b141 := cell_heap R14E.out 1 _ rfl
                    have wk1 : IntKind.i64.wrap ((kj : Int) + 1) = ((kj + 1 : Nat) : Int) := by rw [IntKind.wrap_i64]; omega
                    have wq1 : IntKind.i64.wrap ((q : Int) + 1) = ((q + 1 : Nat) : Int) := by rw [IntKind.wrap_i64]; omega
                    clear hst hac hnx hnxn HAC HSN CPE
                    go_wp2_with fail
                    go_still_tail 18, (by kernel_rfl)
                    change wpList _ _ _ _ _ w12.drew
                    go_wp2_with fail
                    refine ca.mono ?_
                    rintro e w13 ⟨la3, lc3, rfl, m13, k13⟩
                    have R4D : Aside (w12.drew.heap[w.heap.size]? = some (.cells #[.slice (some ⟨ib, io, none⟩) n cap, .int .i64 (g : Int)] 24 (0, 0))) := R4E.out
                    have hfr := K3.out.fresh
                    have hr12 : ∀ b c T, w12.heap[b]? = some (.cells c T (0, 0)) → T ≠ 102 → (Value.slice la2 l2.length lc2).ownBlock ≠ some b := fun b c T h hT => by obtain ⟨ms2, r1, _⟩ := TS3.out.row; exact own_ne r1 h hT
                    have R14F : Aside (w13.heap[a14]? = some (.cells #[.slice la2 l2.length lc2, .slice (some ⟨vb2, 0, none⟩) n n] 98 (0, 0))) := k13.hp (b := a14) (heap_later R14E.out (Below.drew (Below.refl _ _))) (by omega) (by omega) (hr12 _ _ _ R14E.out (by decide))
                    have R12F : Aside (w13.heap[a12]? = some (.cells #[.slice nba nbn nbc, .int .i64 nb1, .int .i64 nb2, .bool nb3] 65 (0, 0))) := k13.hp (b := a12) (heap_later R12E.out (Below.drew (Below.refl _ _))) (by omega) (by omega) (hr12 _ _ _ R12E.out (by decide))
                    have lt14f : a14 < w13.heap.size := (Array.getElem?_eq_some_iff.1 R14F.out).1
                    have TS4 : Aside (TS w n vb2 st.1 (.slice la3 st.2.length lc3) st.2 (holds w13 a14 #[.slice la3 st.2.length lc3, .slice (some ⟨vb2, 0, none⟩) n n] 98)) := m13.other R14F.out (by have := O9.out.ts.hb.size; omega) (by decide) (by decide) (by decide)
                    have K4 : Aside (Keeps a12 a14 vb2 (.slice la3 st.2.length lc3) w9 (holds w13 a14 #[.slice la3 st.2.length lc3, .slice (some ⟨vb2, 0, none⟩) n n] 98)) := ((K3.out.later (Below.drew (Below.refl _ _))).add k13).holdsB _ _
                    have FV4 : Aside (FV w.heap.size p (bestF L s.size q whole (l.take (j + 1)) best) (.slice nba nbn nbc) nb1 nb2 nb3 (holds w13 a14 #[.slice la3 st.2.length lc3, .slice (some ⟨vb2, 0, none⟩) n n] 98)) := by
                      obtain ⟨ms2, r1, _⟩ := TS3.out.row
                      exact ((FVE.out.later (Below.drew (Below.refl _ _))).own (TS3.out.later (Below.drew (Below.refl _ _))).vis (own_from r1 (Below.drew (Below.refl _ _))) k13).other R14F.out (by decide)
                    have R12G : Aside ((holds w13 a14 #[.slice la3 st.2.length lc3, .slice (some ⟨vb2, 0, none⟩) n n] 98).heap[a12]? = some (.cells #[.slice nba nbn nbc, .int .i64 nb1, .int .i64 nb2, .bool nb3] 65 (0, 0))) := hh_ne (by omega) R12F.out
                    have R14G : Aside ((holds w13 a14 #[.slice la3 st.2.length lc3, .slice (some ⟨vb2, 0, none⟩) n n] 98).heap[a14]? = some (.cells #[.slice la3 st.2.length lc3, .slice (some ⟨vb2, 0, none⟩) n n] 98 (0, 0))) := hh_eq lt14f
                    clear hfr hr12 m13 k13 TS3 K3 FVE R4E R11E R12E R14E t0e t1e b40 b41 b110 b140 b141 R4D wk1 wq1 ca
                    rw [holds_self R14F.out]
                    go_wp2_with fail
                    go_roundg (m - j)
                    case measure => omega
                    case rel => exact ⟨j + 1, mt2, st.1, la3, lc3, st.2, nba, nbn, nbc, nb1, nb2, nb3, rfl, rfl, by omega, by omega, MTN.out, HSF.out, TS4.out, K4.out, R12G.out, R14G.out, FV4.out, TST.out⟩

end Go.Proofs.Ytfhccmegobbnaaa
