/- This text proves the walk of the parser's branch, given that of piece. Conditions: those that each theorem names. -/
import Derived.Test.YtfhccmegobbnaaaRegexI
namespace Go.Proofs.Ytfhccmegobbnaaa
open Go.ChangeShapes Go.WideShapes Go.ChangeAt Go.RowKit
set_option linter.unusedVariables false
set_option linter.unusedSimpArgs false

def PieceOK (f : Nat) : Prop := ∀ (s : ByteArray) (pb B i g deep : Nat) (code : List In) (bad : Int) (w u : World) (h0 : Below B w u) (h : Par s pb B i g code bad u) (hc : Cond s i g deep code), i < s.size → 4 * (s.size - i) + 2 ≤ f →
    Calls Try.prog 58 #[.pointer (some ⟨pb, 0, none⟩), .int .i64 (deep : Int)] u fun e w' => RPost s pb B g code bad w (pieceF f s i g) e w'
def BraOK (f : Nat) : Prop := ∀ (s : ByteArray) (pb B i g deep : Nat) (code : List In) (bad : Int) (w u : World) (h0 : Below B w u) (h : Par s pb B i g code bad u) (hc : Cond s i g deep code), 4 * (s.size - i) + 3 ≤ f →
    Calls Try.prog 37 #[.pointer (some ⟨pb, 0, none⟩), .int .i64 (deep : Int)] u fun e w' => RPost s pb B g code bad w (topE deep s (branchF f s i g .emp)) e w'
theorem piece_close {k : Nat} {s : ByteArray} {i g : Nat} (h : s[i]! = 41) (hk : 2 ≤ k) : pieceF k s i g = .error i := by
  obtain ⟨f, rfl⟩ : ∃ f, k = f + 1 + 1 := ⟨k - 2, by omega⟩
  unfold pieceF
  rw [atom_bad (by rw [h]; decide) (.inl h)]
theorem bra_stop {k : Nat} {s : ByteArray} {i g : Nat} {acc : Re} (h : ¬ (i < s.size ∧ s[i]! ≠ 124 ∧ s[i]! ≠ 41)) : branchF (k + 1) s i g acc = .ok (acc, i, g) := by
  unfold branchF
  rw [if_neg h]
theorem bra_err {k : Nat} {s : ByteArray} {i g : Nat} {acc : Re} {e : Nat} (h : i < s.size ∧ s[i]! ≠ 124 ∧ s[i]! ≠ 41) (hp : pieceF k s i g = .error e) : branchF (k + 1) s i g acc = .error e := by
  conv => lhs; unfold branchF
  rw [if_pos h, hp]
theorem bra_go {k : Nat} {s : ByteArray} {i g j g2 : Nat} {acc p : Re} (h : i < s.size ∧ s[i]! ≠ 124 ∧ s[i]! ≠ 41) (hp : pieceF k s i g = .ok (p, j, g2)) : branchF (k + 1) s i g acc = branchF k s j g2 (.cat acc p) := by
  conv => lhs; unfold branchF
  rw [if_pos h, hp]
/-- The state of branch's loop. -/
structure BrSt (s : ByteArray) (pb B i0 g0 : Nat) (code : List In) (bad : Int) (w : World) (i g : Nat) (acc : Re) (W : World) : Prop where
  par : Par s pb B i g (code ++ acc.gen code.length g0) bad W
  hb : Below B w W
  ok : acc.Ok
  lo : i0 ≤ i
  hi : i ≤ s.size
  hg : g = g0 + acc.ngrp
  hc : acc.clen ≤ 2 * (i - i0)
  h9 : g ≤ 9

set_option maxRecDepth 20000 in
set_option maxHeartbeats 32000000 in
theorem branch_calls (f : Nat) (hpiece : ∀ k, k < f → PieceOK k) (s : ByteArray) (pb B i g deep : Nat) (code : List In) (bad : Int) (w u : World) (h0 : Below B w u) (h : Par s pb B i g code bad u) (hc : Cond s i g deep code) (hf : 4 * (s.size - i) + 3 ≤ f) :
    Calls Try.prog 37 #[.pointer (some ⟨pb, 0, none⟩), .int .i64 (deep : Int)] u fun e w' => RPost s pb B g code bad w (topE deep s (branchF f s i g .emp)) e w' := by
  have HPI : Aside (∀ k, k < f → PieceOK k) := hpiece
  have HM : Aside (Sml code) := hc.hm
  have ST0 : Aside (BrSt s pb B i g code bad w i g .emp u) := ⟨by simpa [Re.gen] using h, h0, trivial, Nat.le_refl _, hc.hi, rfl, by simp [Re.clen], hc.hg⟩
  have k1 := hc.hs
  have k2 := hc.hi
  have k3 := hc.h0
  have k4 := hc.hl
  have k5 := hc.hd
  have k6 := hc.hg
  obtain ⟨R, hR⟩ : ∃ R, branchF f s i g .emp = R := ⟨_, rfl⟩
  rw [hR]
  have HR : Aside (branchF f s i g .emp = R) := hR
  clear hR hpiece h h0 hc
  go_enter Try.func37, Try.ntmps37
  go_wp2
  go_loopg [4] f (fun k s4 wr => ∃ (i2 g2 : Nat) (acc : Re), s4 = .bool false ∧ k ≤ f ∧ 4 * (s.size - i2) + 3 ≤ k ∧ Aside (branchF k s i2 g2 acc = R) ∧ Aside (BrSt s pb B i g code bad w i2 g2 acc wr))
  case atStart => exact ⟨i, g, .emp, rfl, Nat.le_refl _, hf, HR.out, ST0.out⟩
  case round =>
    obtain ⟨i2, g2, acc, rfl, hkf, hk, FE, ST⟩ := hrel
    obtain ⟨k1', hk1⟩ : ∃ k1', gk = k1' + 1 := ⟨gk - 1, by omega⟩
    subst hk1
    clear ST0 HR
    have RT : Aside (R = .ok (acc, i2, g2) → (deep = 0 → isAt s i2 41 = false) → topE deep s R = .ok (acc, i2, g2)) := fun h1 h2 => by
      rw [h1]
      unfold topE
      simp only []
      rw [if_neg (fun h3 => by rw [h2 h3.1] at h3; exact Bool.noConfusion h3.2)]
    by_cases he : i2 < s.size
    rotate_left
    · have RR : Aside (topE deep s R = .ok (acc, i2, g2)) := RT.out (FE.out.symm.trans (bra_stop (fun h => he h.1))) (fun _ => by unfold isAt; rw [decide_eq_false he]; rfl)
      have ck := fun W (h : Par s pb B i2 g2 (code ++ acc.gen code.length g) bad W) => peek_end s pb B i2 g2 (code ++ acc.gen code.length g) bad W h (by omega)
      clear RT FE HPI HM
      go_wp2_with fail
      refine (ck _ ST.out.par).mono ?_
      rintro e w1 ⟨rfl, hb⟩
      have HP : Aside (Par s pb B i2 g2 (code ++ acc.gen code.length g) bad w1) := ST.out.par.later hb
      have HB : Aside (Below B w w1) := ST.out.hb.trans (hb.mono ST.out.par.size.2)
      clear hb ck ST
      go_wp2
      refine bodyPost_ret (v := .bool true) (by simp [results, Try.results37, go_sem, ↓IntWalk.iteOmega, *]) rfl (by show RPost _ _ _ _ _ _ _ (topE deep s R) _ _; rw [RR.out]; exact ⟨rfl, HP.out, HB.out⟩)
    have ck := fun W (h : Par s pb B i2 g2 (code ++ acc.gen code.length g) bad W) => peek_here s pb B i2 g2 (code ++ acc.gen code.length g) bad W h he
    have pe := pk_eq s i2
    generalize pkB s i2 = d at ck pe
    have h124 : d = 124 ↔ s[i2]! = 124 := by rw [pe]; exact u8_at 124
    have h41 : d = 41 ↔ s[i2]! = 41 := by rw [pe]; exact u8_at 41
    clear pe
    by_cases n124 : d = 124
    · have e124 : (d == 124) = true := by rw [n124]; rfl
      have m124 : decide (d = 124) = true := decide_eq_true n124
      have RR : Aside (topE deep s R = .ok (acc, i2, g2)) := RT.out (FE.out.symm.trans (bra_stop (fun h => h.2.1 (h124.1 n124)))) (fun _ => by unfold isAt; rw [h124.1 n124]; simp)
      clear RT FE HPI HM n124 h124 h41
      go_wp2_with fail
      refine (ck _ ST.out.par).mono ?_
      rintro e w1 ⟨rfl, hb⟩
      have HP : Aside (Par s pb B i2 g2 (code ++ acc.gen code.length g) bad w1) := ST.out.par.later hb
      have HB : Aside (Below B w w1) := ST.out.hb.trans (hb.mono ST.out.par.size.2)
      clear hb ck ST
      go_wp2
      refine bodyPost_ret (v := .bool true) (by simp [results, Try.results37, go_sem, ↓IntWalk.iteOmega, *]) rfl (by show RPost _ _ _ _ _ _ _ (topE deep s R) _ _; rw [RR.out]; exact ⟨rfl, HP.out, HB.out⟩)
    have e124 : (d == 124) = false := by simpa using n124
    have m124 : decide (d = 124) = false := decide_eq_false n124
    have hcd : Cond s i2 g2 deep (code ++ acc.gen code.length g) := ⟨k1, ST.out.hi, by simp; omega, by have := ST.out.hc; have := ST.out.lo; rw [List.length_append, Re.gen_len]; omega, HM.out.append (Re.gen_sml acc _ _ ST.out.ok (by have := ST.out.hc; omega) (by have := ST.out.hg; have := ST.out.h9; omega)), by have := ST.out.lo; omega, ST.out.h9⟩
    have cpi := fun W (h1 : Below B w W) (h2 : Par s pb B i2 g2 (code ++ acc.gen code.length g) bad W) => HPI.out k1' (by omega) s pb B i2 g2 deep (code ++ acc.gen code.length g) bad w W h1 h2 hcd he (by omega)
    clear hcd HM HPI
    by_cases n41 : d = 41
    · have e41 : (d == 41) = true := by rw [n41]; rfl
      have m41 : decide (d = 41) = true := decide_eq_true n41
      by_cases hdp : 0 < deep
      · have dz : (0 : Int) < (deep : Int) := by omega
        have dd : decide ((0 : Int) < (deep : Int)) = true := decide_eq_true dz
        have RR : Aside (topE deep s R = .ok (acc, i2, g2)) := RT.out (FE.out.symm.trans (bra_stop (fun h => h.2.2 (h41.1 n41)))) (fun h => by omega)
        clear RT FE n124 n41 h124 h41 cpi
        go_wp2_with fail
        refine (ck _ ST.out.par).mono ?_
        rintro e w1 ⟨rfl, hb⟩
        have HP : Aside (Par s pb B i2 g2 (code ++ acc.gen code.length g) bad w1) := ST.out.par.later hb
        have HB : Aside (Below B w w1) := ST.out.hb.trans (hb.mono ST.out.par.size.2)
        clear hb ck ST
        go_wp2
        refine bodyPost_ret (v := .bool true) (by simp [results, Try.results37, go_sem, ↓IntWalk.iteOmega, *]) rfl (by show RPost _ _ _ _ _ _ _ (topE deep s R) _ _; rw [RR.out]; exact ⟨rfl, HP.out, HB.out⟩)
      · have dz : ¬ (0 : Int) < (deep : Int) := by omega
        have dd : decide ((0 : Int) < (deep : Int)) = false := decide_eq_false dz
        have RR : Aside (topE deep s R = .error i2) := by
          show _ = _
          rw [FE.out.symm.trans (bra_stop (fun h => h.2.2 (h41.1 n41)))]
          unfold topE
          simp only []
          rw [if_pos ⟨by omega, by unfold isAt; rw [h41.1 n41, decide_eq_true he]; rfl⟩]
        rw [piece_close (h41.1 n41) (by omega)] at cpi
        clear RT FE n124 n41 h124 h41
        go_wp2_with fail
        refine (ck _ ST.out.par).mono ?_
        rintro e w1 ⟨rfl, hb⟩
        have HP : Aside (Par s pb B i2 g2 (code ++ acc.gen code.length g) bad w1) := ST.out.par.later hb
        have HB : Aside (Below B w w1) := ST.out.hb.trans (hb.mono ST.out.par.size.2)
        clear hb ck ST
        go_wp2_with fail
        refine (cpi _ HB.out HP.out).mono ?_
        rintro e w9 ⟨rfl, hp, hb⟩
        have HE : Aside ((∃ i3 g3 code3, Par s pb B i3 g3 code3 (i2 : Int) w9) ∧ Below B w w9) := ⟨hp, hb⟩
        clear hp hb cpi HP HB
        go_wp2
        refine bodyPost_ret (v := .bool false) (by simp [results, Try.results37, go_sem, ↓IntWalk.iteOmega, *]) rfl (by show RPost _ _ _ _ _ _ _ (topE deep s R) _ _; rw [RR.out]; exact ⟨rfl, HE.out.1, HE.out.2⟩)
    have e41 : (d == 41) = false := by simpa using n41
    have m41 : decide (d = 41) = false := decide_eq_false n41
    have hin : i2 < s.size ∧ s[i2]! ≠ 124 ∧ s[i2]! ≠ 41 := ⟨he, fun h => n124 (h124.2 h), fun h => n41 (h41.2 h)⟩
    have HIN : Aside (i2 < s.size ∧ s[i2]! ≠ 124 ∧ s[i2]! ≠ 41) := hin
    have hgood := (good_all k1').2.2.1 s i2 g2 he
    clear n124 n41 h124 h41 hin
    cases hpf : pieceF k1' s i2 g2 with
    | error k =>
      rw [hpf] at cpi
      have RR : Aside (topE deep s R = .error k) := by show _ = _; rw [FE.out.symm.trans (bra_err HIN.out hpf)]; rfl
      clear RT FE hpf hgood HIN
      go_wp2_with fail
      refine (ck _ ST.out.par).mono ?_
      rintro e w1 ⟨rfl, hb⟩
      have HP : Aside (Par s pb B i2 g2 (code ++ acc.gen code.length g) bad w1) := ST.out.par.later hb
      have HB : Aside (Below B w w1) := ST.out.hb.trans (hb.mono ST.out.par.size.2)
      clear hb ck ST
      go_wp2_with fail
      refine (cpi _ HB.out HP.out).mono ?_
      rintro e w9 ⟨rfl, hp, hb⟩
      have HE : Aside ((∃ i3 g3 code3, Par s pb B i3 g3 code3 (k : Int) w9) ∧ Below B w w9) := ⟨hp, hb⟩
      clear hp hb cpi HP HB
      go_wp2
      refine bodyPost_ret (v := .bool false) (by simp [results, Try.results37, go_sem, ↓IntWalk.iteOmega, *]) rfl (by show RPost _ _ _ _ _ _ _ (topE deep s R) _ _; rw [RR.out]; exact ⟨rfl, HE.out.1, HE.out.2⟩)
    | ok r =>
      obtain ⟨p, j, g3⟩ := r
      rw [hpf] at cpi hgood
      obtain ⟨a1, a2, a3, a4, a5, a6⟩ := hgood
      have FE2 : Aside (branchF k1' s j g3 (.cat acc p) = R) := (bra_go HIN.out hpf).symm.trans FE.out
      have EC : Aside ((code ++ acc.gen code.length g) ++ p.gen ((code ++ acc.gen code.length g).length) g2 = code ++ (Re.cat acc p).gen code.length g) := by
        show _ = _
        rw [List.length_append, Re.gen_len, List.append_assoc, ST.out.hg]
        rfl
      clear FE hpf HIN RT
      go_wp2_with fail
      refine (ck _ ST.out.par).mono ?_
      rintro e w1 ⟨rfl, hb⟩
      have HP : Aside (Par s pb B i2 g2 (code ++ acc.gen code.length g) bad w1) := ST.out.par.later hb
      have HB : Aside (Below B w w1) := ST.out.hb.trans (hb.mono ST.out.par.size.2)
      clear hb ck 
      go_wp2_with fail
      refine (cpi _ HB.out HP.out).mono ?_
      rintro e w9 ⟨rfl, hp, hb⟩
      rw [EC.out] at hp
      have ST2 : Aside (BrSt s pb B i g code bad w j g3 (.cat acc p) w9) := ⟨hp, hb, ⟨ST.out.ok, a1⟩, by have := ST.out.lo; omega, a3, by have := ST.out.hg; simp only [Re.ngrp]; omega, by have := ST.out.hc; have := ST.out.lo; simp only [Re.clen]; omega, by have := ST.out.h9; omega⟩
      clear hp hb cpi HP HB EC ST
      go_wp2
      go_roundg k1'
      case measure => omega
      case rel => exact ⟨j, g3, .cat acc p, rfl, by omega, by omega, FE2.out, ST2.out⟩

end Go.Proofs.Ytfhccmegobbnaaa
