/- This text proves the walks of branch and regex of the reference: they read what the package's parser reads. Conditions: those that each theorem names. -/
import Derived.Test.YtfhccmegobbnaaaRegexCF
import Derived.Test.YtfhccmegobbnaaaRegexJ
namespace Go.Proofs.Ytfhccmegobbnaaa
open Go.ChangeShapes Go.WideShapes Go.ChangeAt Go.RowKit
set_option linter.unusedVariables false
set_option linter.unusedSimpArgs false

def RPieceOK (f : Nat) : Prop := ∀ (w0 : World) (code : List In) (la : Option Addr) (n lc i g : Nat) (s : ByteArray) (W : World) (h : PS w0 code la n lc W) (hc : Cond s i g 0 code), i < s.size → s[i]! ≠ 124 → 4 * (s.size - i) + 2 ≤ f →
    Calls Try.prog 62 #[.string s, .agg #[.slice la n lc, .int .i64 (i : Int), .int .i64 (g : Int), .bool false]] W (RPr w0 code la n lc g W (pieceF f s i g))
theorem rpiece_ok (f : Nat) (h : RAtomOK f) : RPieceOK (f + 1) := fun w0 code la n lc i g s W h1 h2 h3 h4 h5 => rpiece_calls f h w0 code la n lc i g s W h1 h2 h3 h4 h5
def RBraOK (f : Nat) : Prop := ∀ (w0 : World) (code : List In) (la : Option Addr) (n lc i g : Nat) (s : ByteArray) (W : World) (h : PS w0 code la n lc W) (hc : Cond s i g 0 code), 4 * (s.size - i) + 3 ≤ f →
    Calls Try.prog 49 #[.string s, .agg #[.slice la n lc, .int .i64 (i : Int), .int .i64 (g : Int), .bool false]] W (RPr w0 code la n lc g W (branchF f s i g .emp))
/-- The state of branch at the head of its loop. -/
structure BrR (s : ByteArray) (code : List In) (n i g : Nat) (R : PRes) (gk i2 g2 : Nat) (bad2 : Bool) (code2 : List In) : Prop where
  bad : bad2 = true → R = .error i2
  good : bad2 = false → ∃ acc, branchF gk s i2 g2 acc = R ∧ code2 = code ++ acc.gen n g ∧ acc.Ok ∧ i ≤ i2 ∧ i2 ≤ s.size ∧ g2 = g + acc.ngrp ∧ acc.clen ≤ 2 * (i2 - i) ∧ g2 ≤ 9 ∧ 4 * (s.size - i2) + 3 ≤ gk

set_option maxRecDepth 20000 in
set_option maxHeartbeats 64000000 in
theorem rbranch_calls (f : Nat) (hpi : ∀ f', f' < f → RPieceOK f') : RBraOK f := by
  intro w0 code la n lc i g s W h hc hf
  have HH : Aside (PS w0 code la n lc W) := h
  obtain ⟨R, hR⟩ : ∃ R, branchF f s i g .emp = R := ⟨_, rfl⟩
  rw [hR]
  have HR : Aside (branchF f s i g .emp = R) := hR
  obtain ⟨Q, hQ⟩ : ∃ Q : Ending → World → Prop, RPr w0 code la n lc g W R = Q := ⟨_, rfl⟩
  rw [hQ]
  have HQ : Aside (∀ (la2 : Option Addr) (lc2 n2 : Nat) (code2 : List In) (i2 g2 : Nat) (bad2 : Bool) (W' : World), PS w0 code2 la2 n2 lc2 W' → Kp (.slice la n lc) (.slice la2 n2 lc2) W W' → n ≤ n2 → Says R code g code2 i2 g2 bad2 → Q (.returned (.agg #[.slice la2 n2 lc2, .int .i64 (i2 : Int), .int .i64 (g2 : Int), .bool bad2])) W') := fun la2 lc2 n2 code2 i2 g2 bad2 W' h1 h2 h3 h4 => by rw [← hQ]; exact ⟨la2, lc2, n2, code2, i2, g2, bad2, rfl, h1, h2, h3, h4⟩
  have k1 := hc.hs
  have k2 := hc.hi
  have k3 := hc.h0
  have k4 := hc.hl
  have k6 := hc.hg
  have HM : Aside (Sml code) := hc.hm
  have HL : Aside (code.length = n) := h.len
  rw [h.len] at k3 k4
  clear hQ h hc hR
  have HPI : Aside (∀ f', f' < f → RPieceOK f') := hpi
  have hL := HH.out.len
  clear hpi
  have B0 : Aside (BrR s code n i g R f i g false code) := ⟨fun h => (by cases h), fun _ => ⟨.emp, HR.out, by rw [Re.gen, List.append_nil], trivial, Nat.le_refl _, k2, rfl, by simp [Re.clen], k6, hf⟩⟩
  have V0 : Aside (((W.alloc (.cells #[.slice la n lc, .int .i64 (i : Int), .int .i64 (g : Int), .bool false] 58)).alloc (.cells #[.slice none 0 0, .int .i64 0, .int .i64 0, .bool false] 58)).heap[W.heap.size]? = some (.cells #[.slice la n lc, .int .i64 (i : Int), .int .i64 (g : Int), .bool false] 58 (0, 0))) := hp_old (hp_new rfl)
  have V1 : Aside (((W.alloc (.cells #[.slice la n lc, .int .i64 (i : Int), .int .i64 (g : Int), .bool false] 58)).alloc (.cells #[.slice none 0 0, .int .i64 0, .int .i64 0, .bool false] 58)).heap[(W.heap.size + 1)]? = some (.cells #[.slice none 0 0, .int .i64 0, .int .i64 0, .bool false] 58 (0, 0))) := hp_new (by simp)
  have VB9 : Below W.heap.size W ((W.alloc (.cells #[.slice la n lc, .int .i64 (i : Int), .int .i64 (g : Int), .bool false] 58)).alloc (.cells #[.slice none 0 0, .int .i64 0, .int .i64 0, .bool false] 58)) := Below.alloc (Below.alloc (Below.refl _ _) (Nat.le_refl _) _) (by simp) _
  have VP : Aside (PS w0 code la n lc ((W.alloc (.cells #[.slice la n lc, .int .i64 (i : Int), .int .i64 (g : Int), .bool false] 58)).alloc (.cells #[.slice none 0 0, .int .i64 0, .int .i64 0, .bool false] 58))) := HH.out.later VB9
  have VK : Aside (Kp (.slice la n lc) (.slice la n lc) W ((W.alloc (.cells #[.slice la n lc, .int .i64 (i : Int), .int .i64 (g : Int), .bool false] 58)).alloc (.cells #[.slice none 0 0, .int .i64 0, .int .i64 0, .bool false] 58))) := Kp.of_below VB9
  clear VB9
  go_enter Try.func49, Try.ntmps49
  go_wp2_with fail
  generalize ((W.alloc (.cells #[.slice la n lc, .int .i64 (i : Int), .int .i64 (g : Int), .bool false] 58)).alloc (.cells #[.slice none 0 0, .int .i64 0, .int .i64 0, .bool false] 58)) = w1 at V0 V1 VP VK ⊢
  clear HR hL
  go_loopg [] f (fun gk wr => ∃ (la2 : Option Addr) (lc2 n2 : Nat) (code2 : List In) (i2 g2 : Nat) (bad2 : Bool), 0 < gk ∧ gk ≤ f ∧ n ≤ n2 ∧ Aside (BrR s code n i g R gk i2 g2 bad2 code2) ∧ Aside (wr.heap[W.heap.size]? = some (.cells #[.slice la2 n2 lc2, .int .i64 (i2 : Int), .int .i64 (g2 : Int), .bool bad2] 58 (0, 0))) ∧ Aside (wr.heap[(W.heap.size + 1)]? = some (.cells #[.slice none 0 0, .int .i64 0, .int .i64 0, .bool false] 58 (0, 0))) ∧ Aside (PS w0 code2 la2 n2 lc2 wr) ∧ Aside (Kp (.slice la n lc) (.slice la2 n2 lc2) W wr))
  case atStart => exact ⟨la, lc, n, code, i, g, false, by omega, Nat.le_refl _, Nat.le_refl _, B0.out, V0.out, V1.out, VP.out, VK.out⟩
  case round =>
    obtain ⟨la2, lc2, n2, code2, i2, g2, bad2, hg0, hgf, hnn, BR, H0, H1, HP, HK⟩ := hrel
    clear B0 V0 V1 VP VK
    obtain ⟨f', rfl⟩ : ∃ f', gk = f' + 1 := ⟨gk - 1, by omega⟩
    cases bad2 with
    | true =>
      have ER : Aside (R = .error i2) := BR.out.bad rfl
      clear BR
      have l0 : W.heap.size < wr.heap.size := (Array.getElem?_eq_some_iff.1 H0.out).1
      have l1 : (W.heap.size + 1) < wr.heap.size := (Array.getElem?_eq_some_iff.1 H1.out).1
      rw [holds_add (holds_self H0.out) H1.out]
      go_wp2
      refine bodyPost_ret (v := .agg #[.slice la2 n2 lc2, .int .i64 (i2 : Int), .int .i64 (g2 : Int), .bool true]) (by simp [results, Try.results49, go_sem, ↓IntWalk.iteOmega, *]) rfl ?_
      exact HQ.out _ _ _ _ _ _ _ _ ((HP.out.other H0.out (by have := HH.out.hb.size; omega) (by decide)).other (hh_ne (by omega) H1.out) (by have := HH.out.hb.size; omega) (by decide)) ((HK.out.other (by omega) _ _).other (by omega) _ _) (by omega) (by rw [ER.out]; exact ⟨rfl, rfl⟩)
    | false =>
    obtain ⟨acc, hb1, hb2, hb3, hb4, hb5, hb6, hb7, hb8, hb9⟩ := BR.out.good rfl
    have HB1 : Aside (branchF (f' + 1) s i2 g2 acc = R) := hb1
    have HB2 : Aside (code2 = code ++ acc.gen n g) := hb2
    have HB3 : Aside acc.Ok := hb3
    have HB6 : Aside (g2 = g + acc.ngrp) := hb6
    have STOP : Aside (¬ (i2 < s.size ∧ s[i2]! ≠ 124 ∧ s[i2]! ≠ 41) → Says R code g code2 i2 g2 false) := fun h => by
      rw [← hb1, bra_stop h]
      exact ⟨by rw [hb2, HL.out], rfl, rfl, rfl⟩
    clear BR hb1 hb2 hb3 hb6
    by_cases his : i2 < s.size
    rotate_left
    · have d1 : decide ((i2 : Int) < (s.size : Int)) = false := decide_eq_false (by omega)
      have d2 : ¬ (i2 : Int) < (s.size : Int) := by omega
      have SY : Aside (Says R code g code2 i2 g2 false) := STOP.out (fun h => his h.1)
      clear STOP HB1 HB2 HB3 HB6 his
      have l0 : W.heap.size < wr.heap.size := (Array.getElem?_eq_some_iff.1 H0.out).1
      have l1 : (W.heap.size + 1) < wr.heap.size := (Array.getElem?_eq_some_iff.1 H1.out).1
      rw [holds_add (holds_self H0.out) H1.out]
      go_wp2
      refine bodyPost_ret (v := .agg #[.slice la2 n2 lc2, .int .i64 (i2 : Int), .int .i64 (g2 : Int), .bool false]) (by simp [results, Try.results49, go_sem, ↓IntWalk.iteOmega, *]) rfl ?_
      exact HQ.out _ _ _ _ _ _ _ _ ((HP.out.other H0.out (by have := HH.out.hb.size; omega) (by decide)).other (hh_ne (by omega) H1.out) (by have := HH.out.hb.size; omega) (by decide)) ((HK.out.other (by omega) _ _).other (by omega) _ _) (by omega) SY.out
    have d1 : decide ((i2 : Int) < (s.size : Int)) = true := decide_eq_true (by omega)
    have d2 : (i2 : Int) < (s.size : Int) := by omega
    obtain ⟨y, hy⟩ : ∃ y, s[i2] = y := ⟨_, rfl⟩
    have hyb : s[i2]! = y := by rw [getElem!_pos s i2 his, hy]
    by_cases y124 : y = 124
    · have e1 : ((y.toNat : Int) != 124) = false := by rw [y124]; rfl
      have SY : Aside (Says R code g code2 i2 g2 false) := STOP.out (fun h => h.2.1 (hyb.trans y124))
      clear STOP HB1 HB2 HB3 HB6 hyb y124
      have l0 : W.heap.size < wr.heap.size := (Array.getElem?_eq_some_iff.1 H0.out).1
      have l1 : (W.heap.size + 1) < wr.heap.size := (Array.getElem?_eq_some_iff.1 H1.out).1
      rw [holds_add (holds_self H0.out) H1.out]
      go_wp2
      refine bodyPost_ret (v := .agg #[.slice la2 n2 lc2, .int .i64 (i2 : Int), .int .i64 (g2 : Int), .bool false]) (by simp [results, Try.results49, go_sem, ↓IntWalk.iteOmega, *]) rfl ?_
      exact HQ.out _ _ _ _ _ _ _ _ ((HP.out.other H0.out (by have := HH.out.hb.size; omega) (by decide)).other (hh_ne (by omega) H1.out) (by have := HH.out.hb.size; omega) (by decide)) ((HK.out.other (by omega) _ _).other (by omega) _ _) (by omega) SY.out
    have e1 : ((y.toNat : Int) != 124) = true := by rw [bne_iff_ne]; exact fun h => y124 ((u8_at 124).1 h)
    by_cases y41 : y = 41
    · have e2 : ((y.toNat : Int) != 41) = false := by rw [y41]; rfl
      have SY : Aside (Says R code g code2 i2 g2 false) := STOP.out (fun h => h.2.2 (hyb.trans y41))
      clear STOP HB1 HB2 HB3 HB6 hyb y124 y41
      have l0 : W.heap.size < wr.heap.size := (Array.getElem?_eq_some_iff.1 H0.out).1
      have l1 : (W.heap.size + 1) < wr.heap.size := (Array.getElem?_eq_some_iff.1 H1.out).1
      rw [holds_add (holds_self H0.out) H1.out]
      go_wp2
      refine bodyPost_ret (v := .agg #[.slice la2 n2 lc2, .int .i64 (i2 : Int), .int .i64 (g2 : Int), .bool false]) (by simp [results, Try.results49, go_sem, ↓IntWalk.iteOmega, *]) rfl ?_
      exact HQ.out _ _ _ _ _ _ _ _ ((HP.out.other H0.out (by have := HH.out.hb.size; omega) (by decide)).other (hh_ne (by omega) H1.out) (by have := HH.out.hb.size; omega) (by decide)) ((HK.out.other (by omega) _ _).other (by omega) _ _) (by omega) SY.out
    have e2 : ((y.toNat : Int) != 41) = true := by rw [bne_iff_ne]; exact fun h => y41 ((u8_at 41).1 h)
    have CND : Aside (i2 < s.size ∧ s[i2]! ≠ 124 ∧ s[i2]! ≠ 41) := ⟨his, by rw [hyb]; exact y124, by rw [hyb]; exact y41⟩
    have hn2 : n2 = n + acc.clen := by
      have h1 := HP.out.len
      rw [HB2.out, List.length_append, Re.gen_len, HL.out] at h1
      omega
    have SM2 : Sml code2 := by
      rw [HB2.out]
      exact HM.out.append (Re.gen_sml acc n g HB3.out (by omega) (by have := HB6.out; omega))
    have cq := HPI.out f' (by omega) w0 code2 la2 n2 lc2 i2 g2 s wr HP.out ⟨k1, hb5, by rw [HP.out.len]; omega, by rw [HP.out.len]; omega, SM2, by omega, hb8⟩ his CND.out.2.1 (by omega)
    have N2 : Aside (n2 = n + acc.clen) := hn2
    clear STOP hyb y124 y41 hn2 SM2
    have c00 := cell_heap H0.out 0 _ rfl
    have c01 := cell_heap H0.out 1 _ rfl
    have c02 := cell_heap H0.out 2 _ rfl
    have c03 := cell_heap H0.out 3 _ rfl
    go_wp2_with fail
    refine cq.mono ?_
    rintro e w2 ⟨la3, lc3, n3, code3, i3, g3, bad3, rfl, hp, hk, hn3, hsy⟩
    have U0 : Aside (w2.heap[W.heap.size]? = some (.cells #[.slice la2 n2 lc2, .int .i64 (i2 : Int), .int .i64 (g2 : Int), .bool false] 58 (0, 0))) := hk.type HP.out H0.out (by decide)
    have U1 : Aside (w2.heap[(W.heap.size + 1)]? = some (.cells #[.slice none 0 0, .int .i64 0, .int .i64 0, .bool false] 58 (0, 0))) := hk.type HP.out H1.out (by decide)
    have l0 : W.heap.size < w2.heap.size := (Array.getElem?_eq_some_iff.1 U0.out).1
    have UP : Aside (PS w0 code3 la3 n3 lc3 (holds w2 W.heap.size #[.slice la3 n3 lc3, .int .i64 (i3 : Int), .int .i64 (g3 : Int), .bool bad3] 58)) := hp.other U0.out (by have := HH.out.hb.size; omega) (by decide)
    have UK : Aside (Kp (.slice la n lc) (.slice la3 n3 lc3) W (holds w2 W.heap.size #[.slice la3 n3 lc3, .int .i64 (i3 : Int), .int .i64 (g3 : Int), .bool bad3] 58)) := (HK.out.trans hk).other (by omega) _ _
    have BN : Aside (BrR s code n i g R f' i3 g3 bad3 code3) := by
      have hgood := (good_all f').2.2.1 s i2 g2 his
      refine ⟨fun hb => ?_, fun hb => ?_⟩
      · subst hb
        rw [← HB1.out]
        exact bra_err CND.out hsy.bad
      · subst hb
        obtain ⟨p, hpe, hpc⟩ := hsy.good
        rw [hpe] at hgood
        obtain ⟨o1, p1, p2, p3, p4, p5⟩ := hgood
        refine ⟨.cat acc p, by rw [← HB1.out, bra_go CND.out hpe], ?_, ⟨HB3.out, o1⟩, by omega, p2, by have := HB6.out; simp only [Re.ngrp]; omega, by simp only [Re.clen]; omega, by omega, by omega⟩
        rw [hpc, HP.out.len, HB2.out, N2.out, HB6.out, List.append_assoc]
        rfl
    have hf1 : 0 < f' := by omega
    clear hp hk hsy HB1 HB2 HB3 HB6 CND N2 HP HK H0 H1 c00 c01 c02 c03 cq
    rw [holds_self U0.out]
    go_wp2_with fail
    go_roundg f'
    case measure => omega
    case rel => exact ⟨la3, lc3, n3, code3, i3, g3, bad3, hf1, by omega, by omega, BN.out, hh_eq l0, hh_ne (by omega) U1.out, UP.out, UK.out⟩

set_option maxRecDepth 20000 in
set_option maxHeartbeats 64000000 in
theorem rregex_calls (f : Nat) (hbr : RBraOK f) (hre : RRegOK f) : RRegOK (f + 1) := by
  intro w0 code la n lc i g s W h hc hf
  have HH : Aside (PS w0 code la n lc W) := h
  obtain ⟨R, hR⟩ : ∃ R, regexF (f + 1) s i g = R := ⟨_, rfl⟩
  rw [hR]
  have HR : Aside (regexF (f + 1) s i g = R) := hR
  obtain ⟨Q, hQ⟩ : ∃ Q : Ending → World → Prop, RPr w0 code la n lc g W R = Q := ⟨_, rfl⟩
  rw [hQ]
  have HQ : Aside (∀ (la2 : Option Addr) (lc2 n2 : Nat) (code2 : List In) (i2 g2 : Nat) (bad2 : Bool) (W' : World), PS w0 code2 la2 n2 lc2 W' → Kp (.slice la n lc) (.slice la2 n2 lc2) W W' → n ≤ n2 → Says R code g code2 i2 g2 bad2 → Q (.returned (.agg #[.slice la2 n2 lc2, .int .i64 (i2 : Int), .int .i64 (g2 : Int), .bool bad2])) W') := fun la2 lc2 n2 code2 i2 g2 bad2 W' h1 h2 h3 h4 => by rw [← hQ]; exact ⟨la2, lc2, n2, code2, i2, g2, bad2, rfl, h1, h2, h3, h4⟩
  have k1 := hc.hs
  have k2 := hc.hi
  have k3 := hc.h0
  have k4 := hc.hl
  have k6 := hc.hg
  have HM : Aside (Sml code) := hc.hm
  have HL : Aside (code.length = n) := h.len
  rw [h.len] at k3 k4
  clear hQ h hc hR
  have HBR : Aside (RBraOK f) := hbr
  have HRE : Aside (RRegOK f) := hre
  clear hbr hre
  have c124 : (((124 : UInt8).toNat : Nat) : Int) = 124 := rfl
  have PR : Aside ((match branchF f s i g .emp with
    | .error k => (.error k : PRes)
    | .ok (a, j, h) => if isAt s j 124 then (match regexF f s (j + 1) h with | .error k => .error k | .ok (b, m, h2) => .ok (.alt a b, m, h2)) else .ok (a, j, h)) = R) := by
    show _ = _
    rw [← HR.out]
    conv => rhs; unfold regexF
    cases branchF f s i g .emp with
    | error k => rfl
    | ok r =>
      obtain ⟨a, j, h⟩ := r
      simp only []
      split
      · cases regexF f s (j + 1) h <;> rfl
      · rfl
  clear HR
  have V0 : Aside (((W.alloc (.cells #[.slice la n lc, .int .i64 (i : Int), .int .i64 (g : Int), .bool false] 58)).alloc (.cells #[.slice none 0 0, .int .i64 0, .int .i64 0, .bool false] 58)).heap[W.heap.size]? = some (.cells #[.slice la n lc, .int .i64 (i : Int), .int .i64 (g : Int), .bool false] 58 (0, 0))) := hp_old (hp_new rfl)
  have V1 : Aside (((W.alloc (.cells #[.slice la n lc, .int .i64 (i : Int), .int .i64 (g : Int), .bool false] 58)).alloc (.cells #[.slice none 0 0, .int .i64 0, .int .i64 0, .bool false] 58)).heap[(W.heap.size + 1)]? = some (.cells #[.slice none 0 0, .int .i64 0, .int .i64 0, .bool false] 58 (0, 0))) := hp_new (by simp)
  have VB9 : Below W.heap.size W ((W.alloc (.cells #[.slice la n lc, .int .i64 (i : Int), .int .i64 (g : Int), .bool false] 58)).alloc (.cells #[.slice none 0 0, .int .i64 0, .int .i64 0, .bool false] 58)) := Below.alloc (Below.alloc (Below.refl _ _) (Nat.le_refl _) _) (by simp) _
  have VP : Aside (PS w0 code la n lc ((W.alloc (.cells #[.slice la n lc, .int .i64 (i : Int), .int .i64 (g : Int), .bool false] 58)).alloc (.cells #[.slice none 0 0, .int .i64 0, .int .i64 0, .bool false] 58))) := HH.out.later VB9
  have VK : Aside (Kp (.slice la n lc) (.slice la n lc) W ((W.alloc (.cells #[.slice la n lc, .int .i64 (i : Int), .int .i64 (g : Int), .bool false] 58)).alloc (.cells #[.slice none 0 0, .int .i64 0, .int .i64 0, .bool false] 58))) := Kp.of_below VB9
  clear VB9
  have cq := HBR.out w0 code la n lc i g s ((W.alloc (.cells #[.slice la n lc, .int .i64 (i : Int), .int .i64 (g : Int), .bool false] 58)).alloc (.cells #[.slice none 0 0, .int .i64 0, .int .i64 0, .bool false] 58)) VP.out ⟨k1, k2, by rw [HL.out]; exact k3, by rw [HL.out]; exact k4, HM.out, by omega, k6⟩ (by omega)
  go_enter Try.func30, Try.ntmps30
  go_wp2_with fail
  refine cq.mono ?_
  rintro e w2 ⟨la2, lc2, n2, code2, j, h2, bad2, rfl, hp, hk, hnn, hsy⟩
  have HSY : Aside (Says (branchF f s i g .emp) code g code2 j h2 bad2) := hsy
  clear hsy
  have U0 := hk.type VP.out V0.out (by decide)
  have U1 := hk.type VP.out V1.out (by decide)
  have UP := hp
  have UK := VK.out.trans hk
  clear V0 V1 VP VK hp hk
  have H0 : Aside (w2.heap[W.heap.size]? = some (.cells #[.slice la n lc, .int .i64 (i : Int), .int .i64 (g : Int), .bool false] 58 (0, 0))) := U0
  have H1 : Aside (w2.heap[(W.heap.size + 1)]? = some (.cells #[.slice none 0 0, .int .i64 0, .int .i64 0, .bool false] 58 (0, 0))) := U1
  have HP : Aside (PS w0 code2 la2 n2 lc2 w2) := UP
  have HK : Aside (Kp (.slice la n lc) (.slice la2 n2 lc2) W w2) := UK
  clear U0 U1 UP UK
  clear cq HBR
  have l0 : W.heap.size < w2.heap.size := (Array.getElem?_eq_some_iff.1 H0.out).1
  have V0 : Aside ((holds w2 W.heap.size #[.slice la2 n2 lc2, .int .i64 (j : Int), .int .i64 (h2 : Int), .bool bad2] 58).heap[W.heap.size]? = some (.cells #[.slice la2 n2 lc2, .int .i64 (j : Int), .int .i64 (h2 : Int), .bool bad2] 58 (0, 0))) := hh_eq l0
  have V1 : Aside ((holds w2 W.heap.size #[.slice la2 n2 lc2, .int .i64 (j : Int), .int .i64 (h2 : Int), .bool bad2] 58).heap[(W.heap.size + 1)]? = some (.cells #[.slice none 0 0, .int .i64 0, .int .i64 0, .bool false] 58 (0, 0))) := hh_ne (by omega) H1.out
  have VP : Aside (PS w0 code2 la2 n2 lc2 (holds w2 W.heap.size #[.slice la2 n2 lc2, .int .i64 (j : Int), .int .i64 (h2 : Int), .bool bad2] 58)) := HP.out.other H0.out (by have := HH.out.hb.size; omega) (by decide)
  have VK : Aside (Kp (.slice la n lc) (.slice la2 n2 lc2) W (holds w2 W.heap.size #[.slice la2 n2 lc2, .int .i64 (j : Int), .int .i64 (h2 : Int), .bool bad2] 58)) := HK.out.other (by omega) _ _
  have cq := ris_calls s la2 n2 lc2 j h2 bad2 124 (holds w2 W.heap.size #[.slice la2 n2 lc2, .int .i64 (j : Int), .int .i64 (h2 : Int), .bool bad2] 58) (by omega)
  rw [c124] at cq
  rw [holds_self H0.out]
  go_wp2_with fail
  refine cq.mono ?_
  rintro e w3 ⟨rfl, hb⟩
  have U0 := heap_later V0.out hb
  have U1 := heap_later V1.out hb
  have UP := VP.out.later hb
  have UK := VK.out.trans (Kp.of_below hb)
  clear V0 V1 VP VK hb H0 H1 HP HK l0
  have H0 : Aside (w3.heap[W.heap.size]? = some (.cells #[.slice la2 n2 lc2, .int .i64 (j : Int), .int .i64 (h2 : Int), .bool bad2] 58 (0, 0))) := U0
  have H1 : Aside (w3.heap[(W.heap.size + 1)]? = some (.cells #[.slice none 0 0, .int .i64 0, .int .i64 0, .bool false] 58 (0, 0))) := U1
  have HP : Aside (PS w0 code2 la2 n2 lc2 w3) := UP
  have HK : Aside (Kp (.slice la n lc) (.slice la2 n2 lc2) W w3) := UK
  clear U0 U1 UP UK
  clear cq
  cases bad2 with
  | true =>
    have ER : Aside (R = .error j) := by
      show _ = _
      rw [← PR.out, HSY.out.bad]
    have eF : isF s j true 124 = false := rfl
    rw [eF]
    clear eF PR HSY
    have l0 : W.heap.size < w3.heap.size := (Array.getElem?_eq_some_iff.1 H0.out).1
    have l1 : (W.heap.size + 1) < w3.heap.size := (Array.getElem?_eq_some_iff.1 H1.out).1
    rw [holds_add (holds_self H0.out) H1.out]
    go_wp2
    refine bodyPost_ret (v := .agg #[.slice la2 n2 lc2, .int .i64 (j : Int), .int .i64 (h2 : Int), .bool true]) (by simp [results, Try.results30, go_sem, ↓IntWalk.iteOmega, *]) rfl ?_
    exact HQ.out _ _ _ _ _ _ _ _ ((HP.out.other H0.out (by have := HH.out.hb.size; omega) (by decide)).other (hh_ne (by omega) H1.out) (by have := HH.out.hb.size; omega) (by decide)) ((HK.out.other (by omega) _ _).other (by omega) _ _) (by omega) (by rw [ER.out]; exact ⟨rfl, rfl⟩)
  | false =>
  obtain ⟨a, hra, hca⟩ := HSY.out.good
  have hgood := (good_all f).2.1 s i g .emp i g (Nat.le_refl _) k2 trivial rfl (by simp [Re.clen]) (Nat.le_max_left _ _)
  rw [hra] at hgood
  obtain ⟨aok, aij, ajs, agr, acl, agm⟩ := hgood
  have HCA : Aside (code2 = code ++ a.gen n g) := by show _ = _; rw [← HL.out]; exact hca
  have AGR : Aside (h2 = g + a.ngrp) := agr
  have PR2 : Aside ((if isAt s j 124 then (match regexF f s (j + 1) h2 with | .error k => (.error k : PRes) | .ok (b, m, h3) => .ok (.alt a b, m, h3)) else .ok (a, j, h2)) = R) := by
    show _ = _
    rw [← PR.out, hra]
  have hn2 : n2 = n + a.clen := by
    have h1 := HP.out.len
    rw [HCA.out, List.length_append, Re.gen_len, HL.out] at h1
    omega
  have HSM : Aside (Sml code2) := by
    show Sml code2
    rw [HCA.out]
    exact HM.out.append (Re.gen_sml a n g aok (by omega) (by omega))
  obtain ⟨jp, hjp⟩ : ∃ x, j + 1 = x := ⟨_, rfl⟩
  rw [hjp] at PR2
  obtain ⟨np, hnp⟩ : ∃ x, n + 1 = x := ⟨_, rfl⟩
  have wn : IntKind.i64.wrap ((n : Int) + 1) = (np : Int) := by rw [IntKind.wrap_i64]; omega
  have INS : Aside (insF n ⟨6, 0, ⟨#[]⟩, false, (np : Int), 0⟩ code2 = code ++ ⟨6, 0, ⟨#[]⟩, false, (np : Int), 0⟩ :: a.gen np g) := by
    show _ = _
    have h1 := insF_app (code := code) (b := a.gen n g) (i := ⟨6, 0, ⟨#[]⟩, false, (np : Int), 0⟩)
    rw [HL.out, Re.gen_bump a n g aok, hnp] at h1
    rw [HCA.out]
    exact h1
  have SMA : Aside (Sml (a.gen np g)) := Re.gen_sml a np g aok (by omega) (by omega)
  have N2 : Aside (n2 = n + a.clen) := hn2
  have LT2 : n ≤ n2 := by omega
  have LE2 : n2 ≤ 90000 := by omega
  have LE3 : n2 ≤ 2 * j + 5 := by omega
  have H29 : h2 ≤ 9 := by omega
  clear hra hca PR HSY aok hn2 acl agr agm
  have eF : isF s j false 124 = isAt s j 124 := by unfold isF; rfl
  rw [eF]
  clear eF
  cases h124 : isAt s j 124 with
  | false =>
    have EO : Aside (R = .ok (a, j, h2)) := by show _ = _; rw [← PR2.out, h124]; rfl
    clear PR2 h124 INS SMA
    have l0 : W.heap.size < w3.heap.size := (Array.getElem?_eq_some_iff.1 H0.out).1
    have l1 : (W.heap.size + 1) < w3.heap.size := (Array.getElem?_eq_some_iff.1 H1.out).1
    rw [holds_add (holds_self H0.out) H1.out]
    go_wp2
    refine bodyPost_ret (v := .agg #[.slice la2 n2 lc2, .int .i64 (j : Int), .int .i64 (h2 : Int), .bool false]) (by simp [results, Try.results30, go_sem, ↓IntWalk.iteOmega, *]) rfl ?_
    exact HQ.out _ _ _ _ _ _ _ _ ((HP.out.other H0.out (by have := HH.out.hb.size; omega) (by decide)).other (hh_ne (by omega) H1.out) (by have := HH.out.hb.size; omega) (by decide)) ((HK.out.other (by omega) _ _).other (by omega) _ _) (by omega) (by
      rw [EO.out]
      exact ⟨by rw [HCA.out, HL.out], rfl, rfl, rfl⟩)
  | true =>
    have jlt := (isAt_lt h124).1
    have wj : IntKind.i64.wrap ((j : Int) + 1) = (jp : Int) := by rw [IntKind.wrap_i64]; omega
    have PR3 : Aside ((match regexF f s jp h2 with | .error k => (.error k : PRes) | .ok (b, m, h3) => .ok (.alt a b, m, h3)) = R) := by show _ = _; rw [← PR2.out, h124]; rfl
    clear PR2 h124
    have l0 : W.heap.size < w3.heap.size := (Array.getElem?_eq_some_iff.1 H0.out).1
    have V0 : Aside ((holds w3 W.heap.size #[.slice la2 n2 lc2, .int .i64 (jp : Int), .int .i64 (h2 : Int), .bool false] 58).heap[W.heap.size]? = some (.cells #[.slice la2 n2 lc2, .int .i64 (jp : Int), .int .i64 (h2 : Int), .bool false] 58 (0, 0))) := hh_eq l0
    have V1 : Aside ((holds w3 W.heap.size #[.slice la2 n2 lc2, .int .i64 (jp : Int), .int .i64 (h2 : Int), .bool false] 58).heap[(W.heap.size + 1)]? = some (.cells #[.slice none 0 0, .int .i64 0, .int .i64 0, .bool false] 58 (0, 0))) := hh_ne (by omega) H1.out
    have VP : Aside (PS w0 code2 la2 n2 lc2 (holds w3 W.heap.size #[.slice la2 n2 lc2, .int .i64 (jp : Int), .int .i64 (h2 : Int), .bool false] 58)) := HP.out.other H0.out (by have := HH.out.hb.size; omega) (by decide)
    have VK : Aside (Kp (.slice la n lc) (.slice la2 n2 lc2) W (holds w3 W.heap.size #[.slice la2 n2 lc2, .int .i64 (jp : Int), .int .i64 (h2 : Int), .bool false] 58)) := HK.out.other (by omega) _ _
    have cq := rinsert_calls w0 code2 la2 n2 lc2 jp h2 n 6 0 ⟨#[]⟩ false (np : Int) 0 (holds w3 W.heap.size #[.slice la2 n2 lc2, .int .i64 (jp : Int), .int .i64 (h2 : Int), .bool false] 58) VP.out (by omega) (by omega) (by omega) HSM.out
    rw [holds_self H0.out]
    go_wp2_with fail
    refine cq.mono ?_
    rintro e w4 ⟨la4, lc4, rfl, hp, hk⟩
    obtain ⟨n4, hn4⟩ : ∃ x, n2 + 1 = x := ⟨_, rfl⟩
    obtain ⟨code4, hcode4⟩ : ∃ x, insF n ⟨6, 0, ⟨#[]⟩, false, (np : Int), 0⟩ code2 = x := ⟨_, rfl⟩
    rw [hn4, hcode4] at hp
    rw [hn4] at hk ⊢
    have Ecode4 : Aside (insF n ⟨6, 0, ⟨#[]⟩, false, (np : Int), 0⟩ code2 = code4) := hcode4
    clear hcode4
    have U0 := hk.type VP.out V0.out (by decide)
    have U1 := hk.type VP.out V1.out (by decide)
    have UP := hp
    have UK := VK.out.trans hk
    clear V0 V1 VP VK hp hk H0 H1 HP HK l0
    have H0 : Aside (w4.heap[W.heap.size]? = some (.cells #[.slice la2 n2 lc2, .int .i64 (jp : Int), .int .i64 (h2 : Int), .bool false] 58 (0, 0))) := U0
    have H1 : Aside (w4.heap[(W.heap.size + 1)]? = some (.cells #[.slice none 0 0, .int .i64 0, .int .i64 0, .bool false] 58 (0, 0))) := U1
    have HP : Aside (PS w0 code4 la4 n4 lc4 w4) := UP
    have HK : Aside (Kp (.slice la n lc) (.slice la4 n4 lc4) W w4) := UK
    clear U0 U1 UP UK
    clear cq
    have l0 : W.heap.size < w4.heap.size := (Array.getElem?_eq_some_iff.1 H0.out).1
    have V0 : Aside ((holds w4 W.heap.size #[.slice la4 n4 lc4, .int .i64 (jp : Int), .int .i64 (h2 : Int), .bool false] 58).heap[W.heap.size]? = some (.cells #[.slice la4 n4 lc4, .int .i64 (jp : Int), .int .i64 (h2 : Int), .bool false] 58 (0, 0))) := hh_eq l0
    have V1 : Aside ((holds w4 W.heap.size #[.slice la4 n4 lc4, .int .i64 (jp : Int), .int .i64 (h2 : Int), .bool false] 58).heap[(W.heap.size + 1)]? = some (.cells #[.slice none 0 0, .int .i64 0, .int .i64 0, .bool false] 58 (0, 0))) := hh_ne (by omega) H1.out
    have VP : Aside (PS w0 code4 la4 n4 lc4 (holds w4 W.heap.size #[.slice la4 n4 lc4, .int .i64 (jp : Int), .int .i64 (h2 : Int), .bool false] 58)) := HP.out.other H0.out (by have := HH.out.hb.size; omega) (by decide)
    have VK : Aside (Kp (.slice la n lc) (.slice la4 n4 lc4) W (holds w4 W.heap.size #[.slice la4 n4 lc4, .int .i64 (jp : Int), .int .i64 (h2 : Int), .bool false] 58)) := HK.out.other (by omega) _ _
    have cq := remit_calls w0 code4 la4 n4 lc4 jp h2 false 7 0 ⟨#[]⟩ false 0 0 (holds w4 W.heap.size #[.slice la4 n4 lc4, .int .i64 (jp : Int), .int .i64 (h2 : Int), .bool false] 58) VP.out (by omega)
    rw [holds_self H0.out]
    go_wp2_with fail
    refine cq.mono ?_
    rintro e w5 ⟨la5, lc5, rfl, hp, hk⟩
    obtain ⟨n5, hn5⟩ : ∃ x, n4 + 1 = x := ⟨_, rfl⟩
    obtain ⟨code5, hcode5⟩ : ∃ x, code4 ++ [⟨7, 0, ⟨#[]⟩, false, 0, 0⟩] = x := ⟨_, rfl⟩
    rw [hn5, hcode5] at hp
    rw [hn5] at hk ⊢
    have Ecode5 : Aside (code4 ++ [⟨7, 0, ⟨#[]⟩, false, 0, 0⟩] = code5) := hcode5
    clear hcode5
    have U0 := hk.type VP.out V0.out (by decide)
    have U1 := hk.type VP.out V1.out (by decide)
    have UP := hp
    have UK := VK.out.trans hk
    clear V0 V1 VP VK hp hk H0 H1 HP HK l0
    have H0 : Aside (w5.heap[W.heap.size]? = some (.cells #[.slice la4 n4 lc4, .int .i64 (jp : Int), .int .i64 (h2 : Int), .bool false] 58 (0, 0))) := U0
    have H1 : Aside (w5.heap[(W.heap.size + 1)]? = some (.cells #[.slice none 0 0, .int .i64 0, .int .i64 0, .bool false] 58 (0, 0))) := U1
    have HP : Aside (PS w0 code5 la5 n5 lc5 w5) := UP
    have HK : Aside (Kp (.slice la n lc) (.slice la5 n5 lc5) W w5) := UK
    clear U0 U1 UP UK
    clear cq
    obtain ⟨gg, egg⟩ := HP.out.form (by omega)
    subst egg
    obtain ⟨cur, hgg, ⟨x5, hx5⟩, ⟨x4, hx4⟩, puty, putx⟩ := HP.out.put (k := n) (by omega)
    obtain ⟨pp, pk⟩ := puty (n5 : Int)
    have PP : Aside (PS w0 (code5.set n { code5[n]! with y := (n5 : Int) }) (some ⟨gg, 0, none⟩) n5 lc5 (holds w5 gg (cur.setIfInBounds (n * 6 + 5) (.int .i64 (n5 : Int))) 34)) := pp
    have PK : Aside (Kp (.slice la n lc) (.slice (some ⟨gg, 0, none⟩) n5 lc5) W (holds w5 gg (cur.setIfInBounds (n * 6 + 5) (.int .i64 (n5 : Int))) 34)) := HK.out.trans pk
    have HGG : Aside (w5.heap[gg]? = some (.cells cur 34 (0, 0))) := hgg
    have lgg : gg < w5.heap.size := (Array.getElem?_eq_some_iff.1 hgg).1
    have ng0 : ¬ gg = W.heap.size := hb_ne hgg H0.out (by decide)
    have ng1 : ¬ gg = (W.heap.size + 1) := hb_ne hgg H1.out (by decide)
    have n0g : ¬ W.heap.size = gg := fun e => ng0 e.symm
    have n1g : ¬ (W.heap.size + 1) = gg := fun e => ng1 e.symm
    have l0 : W.heap.size < w5.heap.size := (Array.getElem?_eq_some_iff.1 H0.out).1
    have l1 : (W.heap.size + 1) < w5.heap.size := (Array.getElem?_eq_some_iff.1 H1.out).1
    clear hgg pp pk puty putx hx4
    have E6 : Aside (code5.set n { code5[n]! with y := (n5 : Int) } = (code ++ ⟨6, 0, ⟨#[]⟩, false, (np : Int), (n5 : Int)⟩ :: (a.gen np g ++ [⟨7, 0, ⟨#[]⟩, false, 0, 0⟩]))) := by
      show _ = _
      rw [← Ecode5.out, ← Ecode4.out, INS.out, List.append_assoc, List.cons_append, ← HL.out, get_app, set_app]
    rw [E6.out] at PP
    have VP : Aside (PS w0 (code ++ ⟨6, 0, ⟨#[]⟩, false, (np : Int), (n5 : Int)⟩ :: (a.gen np g ++ [⟨7, 0, ⟨#[]⟩, false, 0, 0⟩])) (some ⟨gg, 0, none⟩) n5 lc5 (holds (holds w5 gg (cur.setIfInBounds (n * 6 + 5) (.int .i64 (n5 : Int))) 34) W.heap.size #[.slice (some ⟨gg, 0, none⟩) n5 lc5, .int .i64 (jp : Int), .int .i64 (h2 : Int), .bool false] 58)) := PP.out.other (hh_ne n0g H0.out) (by have := HH.out.hb.size; omega) (by decide)
    have VK : Aside (Kp (.slice la n lc) (.slice (some ⟨gg, 0, none⟩) n5 lc5) W (holds (holds w5 gg (cur.setIfInBounds (n * 6 + 5) (.int .i64 (n5 : Int))) 34) W.heap.size #[.slice (some ⟨gg, 0, none⟩) n5 lc5, .int .i64 (jp : Int), .int .i64 (h2 : Int), .bool false] 58)) := PK.out.other (by omega) _ _
    have V0 : Aside ((holds (holds w5 gg (cur.setIfInBounds (n * 6 + 5) (.int .i64 (n5 : Int))) 34) W.heap.size #[.slice (some ⟨gg, 0, none⟩) n5 lc5, .int .i64 (jp : Int), .int .i64 (h2 : Int), .bool false] 58).heap[W.heap.size]? = some (.cells #[.slice (some ⟨gg, 0, none⟩) n5 lc5, .int .i64 (jp : Int), .int .i64 (h2 : Int), .bool false] 58 (0, 0))) := hh_eq (by rw [size_holds]; exact l0)
    have V1 : Aside ((holds (holds w5 gg (cur.setIfInBounds (n * 6 + 5) (.int .i64 (n5 : Int))) 34) W.heap.size #[.slice (some ⟨gg, 0, none⟩) n5 lc5, .int .i64 (jp : Int), .int .i64 (h2 : Int), .bool false] 58).heap[(W.heap.size + 1)]? = some (.cells #[.slice none 0 0, .int .i64 0, .int .i64 0, .bool false] 58 (0, 0))) := hh_ne (by omega) (hh_ne n1g H1.out)
    have SM6 : Aside (Sml (code ++ ⟨6, 0, ⟨#[]⟩, false, (np : Int), (n5 : Int)⟩ :: (a.gen np g ++ [⟨7, 0, ⟨#[]⟩, false, 0, 0⟩]))) := by
      show Sml _
      refine HM.out.append (fun z hz => ?_)
      rcases List.mem_cons.1 hz with e | hz
      · subst e
        exact ⟨by show (0 : Int) ≤ (np : Int); omega, by show (np : Int) ≤ 1000000; omega, by show (0 : Int) ≤ (n5 : Int); omega, by show (n5 : Int) ≤ 1000000; omega⟩
      · rcases List.mem_append.1 hz with hz | hz
        · exact SMA.out z hz
        · rw [List.mem_singleton] at hz
          subst hz
          exact ⟨by decide, by decide, by decide, by decide⟩
    have cq := HRE.out w0 (code ++ ⟨6, 0, ⟨#[]⟩, false, (np : Int), (n5 : Int)⟩ :: (a.gen np g ++ [⟨7, 0, ⟨#[]⟩, false, 0, 0⟩])) (some ⟨gg, 0, none⟩) n5 lc5 jp h2 s (holds (holds w5 gg (cur.setIfInBounds (n * 6 + 5) (.int .i64 (n5 : Int))) 34) W.heap.size #[.slice (some ⟨gg, 0, none⟩) n5 lc5, .int .i64 (jp : Int), .int .i64 (h2 : Int), .bool false] 58) VP.out ⟨k1, by omega, by rw [VP.out.len]; omega, by rw [VP.out.len]; omega, SM6.out, by omega, H29⟩ (by omega)
    rw [holds_add (holds_self HGG.out) H0.out]
    go_wp2_with fail
    refine cq.mono ?_
    rintro e w6 ⟨la7, lc7, n7, code7, k, h3, bad3, rfl, hp, hk, hn7, hsy⟩
    have HSY : Aside (Says (regexF f s jp h2) (code ++ ⟨6, 0, ⟨#[]⟩, false, (np : Int), (n5 : Int)⟩ :: (a.gen np g ++ [⟨7, 0, ⟨#[]⟩, false, 0, 0⟩])) h2 code7 k h3 bad3) := hsy
    have U0 := hk.type VP.out V0.out (by decide)
    have U1 := hk.type VP.out V1.out (by decide)
    have UK := VK.out.trans hk
    have L6 : Aside (((code ++ ⟨6, 0, ⟨#[]⟩, false, (np : Int), (n5 : Int)⟩ :: (a.gen np g ++ [⟨7, 0, ⟨#[]⟩, false, 0, 0⟩])) : List In).length = n5) := VP.out.len
    clear H0 H1 HP HK V0 V1 VP VK PP PK HGG lgg ng0 ng1 n0g n1g l0 l1 hx5 SM6 cq hsy E6
    have H0 : Aside (w6.heap[W.heap.size]? = some (.cells #[.slice (some ⟨gg, 0, none⟩) n5 lc5, .int .i64 (jp : Int), .int .i64 (h2 : Int), .bool false] 58 (0, 0))) := U0
    have H1 : Aside (w6.heap[(W.heap.size + 1)]? = some (.cells #[.slice none 0 0, .int .i64 0, .int .i64 0, .bool false] 58 (0, 0))) := U1
    have HP : Aside (PS w0 code7 la7 n7 lc7 w6) := hp
    have HK : Aside (Kp (.slice la n lc) (.slice la7 n7 lc7) W w6) := UK
    clear U0 U1 UK hp hk
    obtain ⟨gz, hgz⟩ : ∃ x, gg = x := ⟨_, rfl⟩
    rw [hgz] at H0
    clear hgz
    obtain ⟨gg, egg⟩ := HP.out.form (by omega)
    subst egg
    obtain ⟨cur, hgg, ⟨x5, hx5⟩, ⟨x4, hx4⟩, puty, putx⟩ := HP.out.put (k := n4) (by omega)
    obtain ⟨pp, pk⟩ := putx (n7 : Int)
    have PP : Aside (PS w0 (code7.set n4 { code7[n4]! with x := (n7 : Int) }) (some ⟨gg, 0, none⟩) n7 lc7 (holds w6 gg (cur.setIfInBounds (n4 * 6 + 4) (.int .i64 (n7 : Int))) 34)) := pp
    have PK : Aside (Kp (.slice la n lc) (.slice (some ⟨gg, 0, none⟩) n7 lc7) W (holds w6 gg (cur.setIfInBounds (n4 * 6 + 4) (.int .i64 (n7 : Int))) 34)) := HK.out.trans pk
    have HGG : Aside (w6.heap[gg]? = some (.cells cur 34 (0, 0))) := hgg
    have lgg : gg < w6.heap.size := (Array.getElem?_eq_some_iff.1 hgg).1
    have ng0 : ¬ gg = W.heap.size := hb_ne hgg H0.out (by decide)
    have ng1 : ¬ gg = (W.heap.size + 1) := hb_ne hgg H1.out (by decide)
    have n0g : ¬ W.heap.size = gg := fun e => ng0 e.symm
    have n1g : ¬ (W.heap.size + 1) = gg := fun e => ng1 e.symm
    have l0 : W.heap.size < w6.heap.size := (Array.getElem?_eq_some_iff.1 H0.out).1
    have l1 : (W.heap.size + 1) < w6.heap.size := (Array.getElem?_eq_some_iff.1 H1.out).1
    clear hgg pp pk puty putx hx5
    have SY : Aside (Says R code g (code7.set n4 { code7[n4]! with x := (n7 : Int) }) k h3 bad3) := by
      show Says _ _ _ _ _ _ _
      cases bad3 with
      | true =>
        have e := HSY.out.bad
        rw [← PR3.out, e]
        exact ⟨rfl, rfl⟩
      | false =>
        obtain ⟨b, hrb, hcb⟩ := HSY.out.good
        rw [← PR3.out, hrb]
        refine ⟨?_, rfl, rfl, rfl⟩
        have h5 : n5 = n + a.clen + 2 := by have := N2.out; omega
        have h4 : n4 = n + a.clen + 1 := by have := N2.out; omega
        have h7 : n7 = n + a.clen + 2 + b.clen := by
          have h1 := HP.out.len
          rw [hcb, List.length_append, Re.gen_len, L6.out] at h1
          omega
        rw [L6.out] at hcb
        have gs : ∀ (A D : List In) (z : In) (L : Int), A.length = n4 → (A ++ z :: D).set n4 { (A ++ z :: D)[n4]! with x := L } = A ++ { z with x := L } :: D := fun A D z L hA => by rw [← hA, get_app, set_app]
        have h8 : code7 = (code ++ ⟨6, 0, ⟨#[]⟩, false, (np : Int), (n5 : Int)⟩ :: a.gen np g) ++ ⟨7, 0, ⟨#[]⟩, false, 0, 0⟩ :: b.gen n5 h2 := by
          rw [hcb]
          simp
        rw [h8, gs _ _ _ _ (by rw [List.length_append, List.length_cons, Re.gen_len, HL.out]; omega), h7, h5, AGR.out, ← hnp, HL.out]
        show _ = code ++ (iSplit (n + 1) (n + a.clen + 2) :: (a.gen (n + 1) g ++ iJump (n + a.clen + 2 + b.clen) :: b.gen (n + a.clen + 2) (g + a.ngrp)))
        simp [iSplit, iJump]
    rw [holds_add (holds_add (holds_self HGG.out) H0.out) H1.out]
    go_wp2
    refine bodyPost_ret (v := .agg #[.slice (some ⟨gg, 0, none⟩) n7 lc7, .int .i64 (k : Int), .int .i64 (h3 : Int), .bool bad3]) (by simp [results, Try.results30, go_sem, ↓IntWalk.iteOmega, *]) rfl ?_
    exact HQ.out _ _ _ _ _ _ _ _ ((PP.out.other (hh_ne n0g H0.out) (by have := HH.out.hb.size; omega) (by decide)).other (hh_ne (by omega) (hh_ne n1g H1.out)) (by have := HH.out.hb.size; omega) (by decide)) ((PK.out.other (by omega) _ _).other (by omega) _ _) (by omega) SY.out

/-- The reference's parser, with enough fuel. -/
theorem rall : ∀ f, RRegOK f ∧ RBraOK f ∧ RPieceOK f ∧ RAtomOK f := by
  intro f
  induction f using Nat.strongRecOn with
  | _ f ih =>
    have hb : RBraOK f := rbranch_calls f (fun f' h => (ih f' h).2.2.1)
    cases f with
    | zero =>
      exact ⟨fun _ _ _ _ _ _ _ _ _ _ _ h => absurd h (by omega), hb, fun _ _ _ _ _ _ _ _ _ _ _ _ _ h => absurd h (by omega), fun _ _ _ _ _ _ _ _ _ _ _ _ _ h => absurd h (by omega)⟩
    | succ f =>
      obtain ⟨h1, h2, h3, h4⟩ := ih f (Nat.lt_succ_self f)
      exact ⟨rregex_calls f h2 h1, hb, rpiece_ok f h4, ratom_ok f h1⟩

end Go.Proofs.Ytfhccmegobbnaaa
