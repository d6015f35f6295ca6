/- This text proves the walk of Replace. Conditions: those that each theorem names. -/
import Derived.Test.YtfhccmegobbnaaaRegexZD
namespace Go.Proofs.Ytfhccmegobbnaaa
open Go.ChangeShapes Go.WideShapes Go.ChangeAt Go.RowKit
set_option linter.unusedVariables false
set_option linter.unusedSimpArgs false

set_option maxRecDepth 20000 in
set_option maxHeartbeats 64000000 in
theorem replace_calls (L : List In) (ao : Option Addr) (cap g : Nat) (s r : ByteArray) (hs : s.size ≤ 60) (hr : r.size ≤ 2000) (w : World) (E : AEnv w L ao (g : Int) s) :
    Calls Try.prog 15 #[.agg #[.slice ao L.length cap, .int .i64 (g : Int)], .string s, .string r] w fun e W => e = .returned (.tuple #[.string (replTop L g s r).1, .int .i64 (replTop L g s r).2]) ∧ Below w.heap.size w W := by
  obtain ⟨R, hR⟩ : ∃ R, replTop L g s r = R := ⟨_, rfl⟩
  rw [hR]
  have HE : Aside (AEnv w L ao (g : Int) s) := E
  obtain ⟨n, hln⟩ : ∃ n, L.length = n := ⟨_, rfl⟩
  have HN : Aside (L.length = n) := hln
  obtain ⟨Q, hQ⟩ : ∃ Q : Ending → World → Prop, (fun e W => e = .returned (.tuple #[.string R.1, .int .i64 R.2]) ∧ Below w.heap.size w W) = Q := ⟨_, rfl⟩
  rw [hQ]
  have HQ : Aside (∀ W, Below w.heap.size w W → Q (.returned (.tuple #[.string R.1, .int .i64 R.2])) W) := fun W h1 => by rw [← hQ]; exact ⟨rfl, h1⟩
  obtain ⟨W1, hW1⟩ : ∃ V, w.alloc (.cells #[.slice ao n cap, .int .i64 (g : Int)] 24) = V := ⟨_, rfl⟩
  obtain ⟨rb, hrb⟩ : ∃ b, w.heap.size = b := ⟨_, rfl⟩
  have R1 : Aside (W1.heap[rb]? = some (.cells #[.slice ao n cap, .int .i64 (g : Int)] 24 (0, 0))) := by show _ = _; rw [← hW1]; exact hp_new hrb.symm
  have B1 : Aside (Below w.heap.size w W1) := by show Below _ _ _; rw [← hW1]; exact Below.alloc (Below.refl _ _) (Nat.le_refl _) _
  have HW : Aside (w.alloc (.cells #[.slice ao n cap, .int .i64 (g : Int)] 24) = W1) := hW1
  have cf := filled_calls r ⟨#[]⟩ (by decide) hr (.slice none 0 0) [] 0 0 (Nat.le_refl _) (Nat.le_refl _) W1 (.inl ⟨rfl, rfl⟩) (by decide) (fun x hx => by cases hx)
  have RT0 : Aside (replTop L g s r = R) := hR
  rw [hln]
  clear hln hQ E hW1 hR
  go_enter Try.func15, Try.ntmps15
  go_wp2_with fail
  rw [HW.out]
  refine cf.mono ?_
  rintro e w2 ⟨he, hb2⟩
  have R2 : Aside (w2.heap[rb]? = some (.cells #[.slice ao n cap, .int .i64 (g : Int)] 24 (0, 0))) := heap_later R1.out hb2
  have B2 : Aside (Below w.heap.size w w2) := B1.out.trans (hb2.mono B1.out.size)
  clear hb2 R1 B1 HW cf
  cases hft : fillTop r ⟨#[]⟩ [] 0 0 with
  | none =>
    rw [hft] at he
    have he : e = .returned (.tuple #[.string ⟨#[]⟩, .bool false]) := he
    subst he
    have eR : R = (⟨#[]⟩, 49) := by
      have h := RT0.out
      unfold replTop at h
      rw [hft] at h
      exact h.symm
    subst eR
    clear hft RT0
    go_wp2
    first | exact HQ.out _ B2.out | (go_ret2; exact HQ.out _ B2.out)
  | some t0 =>
    rw [hft] at he
    have he : e = .returned (.tuple #[.string t0, .bool true]) := he
    subst he
    have HF0 : Aside (replF L g s r (s.size + 2) ⟨#[]⟩ 0 (-1) = R) := by
      have h := RT0.out
      unfold replTop at h
      rw [hft] at h
      exact h
    clear hft RT0
    go_wp2_with fail
    go_loopg [10, 11, 12] (s.size + 2) (fun gk s10 s11 s12 wr => ∃ (out : ByteArray) (p : Nat) (last : Int), s10 = .string out ∧ s11 = .int .i64 (p : Int) ∧ s12 = .int .i64 last ∧ s.size + 2 ≤ gk + p ∧ p ≤ s.size + 1 ∧ out.size ≤ 65536 ∧ Aside (replF L g s r gk out p last = R) ∧ Aside (wr.heap[rb]? = some (.cells #[.slice ao n cap, .int .i64 (g : Int)] 24 (0, 0)) ∧ Below w.heap.size w wr))
    case atStart => exact ⟨⟨#[]⟩, 0, -1, rfl, rfl, rfl, by omega, by omega, Nat.zero_le _, HF0.out, R2.out, B2.out⟩
    case round =>
      obtain ⟨out, p, last, rfl, rfl, rfl, hg, hp, hout, HF, HBX⟩ := hrel
      clear HF0 R2 B2
      obtain ⟨f, rfl⟩ : ∃ f, gk = f + 1 := ⟨gk - 1, by omega⟩
      by_cases hps : s.size < p
      · have hd : decide ((p : Int) ≤ (s.size : Int)) = false := decide_eq_false (by omega)
        have hz : ¬ (p : Int) ≤ (s.size : Int) := by omega
        have HR0 : Aside (R = finF s out p) := by
          have h := HF.out
          unfold replF at h
          rw [if_pos hps] at h
          exact h.symm
        clear hps
        obtain ⟨pm, hpm⟩ : ∃ pm, min p s.size = pm := ⟨_, rfl⟩
        have pm1 : pm ≤ s.size := by omega
        have pmz : (pm : Int) ≤ (s.size : Int) := by omega
        have mnn : min (p : Int) (s.size : Int) = (pm : Int) := by omega
        obtain ⟨tl, htl⟩ : ∃ t, s.extract pm s.size = t := ⟨_, rfl⟩
        have tlz : tl.size ≤ 60 := by rw [← htl, ByteArray.size_extract]; omega
        have sm : ¬ (9223372036854775807 : Int) < (out.size : Int) + (tl.size : Int) := by omega
        have szz : ((out ++ tl).size : Int) = (out.size : Int) + (tl.size : Int) := by rw [ByteArray.size_append]; omega
        have FIN : Aside (R = if 65536 < (out ++ tl).size then (⟨#[]⟩, 4) else (out ++ tl, 0)) := by
          show _ = _
          rw [HR0.out]
          unfold finF
          rw [hpm, htl]
        clear hpm
        by_cases hbig : 65536 < (out ++ tl).size
        · have hbz : (65536 : Int) < (out.size : Int) + (tl.size : Int) := by rw [← szz]; omega
          have hbd : decide ((65536 : Int) < (out.size : Int) + (tl.size : Int)) = true := decide_eq_true hbz
          have eR : R = (⟨#[]⟩, 4) := FIN.out.trans (if_pos hbig)
          subst eR
          clear FIN hbig HF
          go_wp2
          first | exact HQ.out _ HBX.out.2 | (go_ret2; exact HQ.out _ HBX.out.2)
        · have hbz : ¬ (65536 : Int) < (out.size : Int) + (tl.size : Int) := by rw [← szz]; omega
          have hbd : decide ((65536 : Int) < (out.size : Int) + (tl.size : Int)) = false := decide_eq_false hbz
          have eR : R = (out ++ tl, 0) := FIN.out.trans (if_neg hbig)
          subst eR
          clear FIN hbig HF
          go_wp2
          first | exact HQ.out _ HBX.out.2 | (go_ret2; exact HQ.out _ HBX.out.2)

      have hd : decide ((p : Int) ≤ (s.size : Int)) = true := decide_eq_true (by omega)
      have hz : (p : Int) ≤ (s.size : Int) := by omega
      have c0 := cell_heap HBX.out.1 0 _ rfl
      have c1 := cell_heap HBX.out.1 1 _ rfl
      have lrb : rb < wr.heap.size := (Array.getElem?_eq_some_iff.1 HBX.out.1).1
      have cf := first_calls L ao cap g s p wr (HE.out.later HBX.out.2) (by omega)
      rw [HN.out] at cf
      have HSP : Aside (¬ s.size < p) := hps
      clear hps
      go_wp2_with fail
      refine cf.mono ?_
      rintro e w3 ⟨hpost, hb3⟩
      have HB3 : Aside (w3.heap[rb]? = some (.cells #[.slice ao n cap, .int .i64 (g : Int)] 24 (0, 0)) ∧ Below w.heap.size w w3) := ⟨heap_later HBX.out.1 hb3, HBX.out.2.trans (hb3.mono HBX.out.2.size)⟩
      clear hb3 cf HBX c0 c1 lrb
      have HBX := HB3
      clear HB3
      cases hfr : firstTop L g s p with
      | none =>
        rw [hfr] at hpost
        have he : e = .returned (.tuple #[.slice none 0 0, .int .i64 (-1), .int .i64 (-1)]) := hpost
        subst he
        have HR0 : Aside (R = finF s out p) := by
          have h := HF.out
          unfold replF at h
          rw [if_neg HSP.out, hfr] at h
          exact h.symm
        clear hfr hpost
        have hps2 := HSP.out
        obtain ⟨pm, hpm⟩ : ∃ pm, min p s.size = pm := ⟨_, rfl⟩
        have pm1 : pm ≤ s.size := by omega
        have pmz : (pm : Int) ≤ (s.size : Int) := by omega
        have mnn : min (p : Int) (s.size : Int) = (pm : Int) := by omega
        obtain ⟨tl, htl⟩ : ∃ t, s.extract pm s.size = t := ⟨_, rfl⟩
        have tlz : tl.size ≤ 60 := by rw [← htl, ByteArray.size_extract]; omega
        have sm : ¬ (9223372036854775807 : Int) < (out.size : Int) + (tl.size : Int) := by omega
        have szz : ((out ++ tl).size : Int) = (out.size : Int) + (tl.size : Int) := by rw [ByteArray.size_append]; omega
        have FIN : Aside (R = if 65536 < (out ++ tl).size then (⟨#[]⟩, 4) else (out ++ tl, 0)) := by
          show _ = _
          rw [HR0.out]
          unfold finF
          rw [hpm, htl]
        clear hpm
        by_cases hbig : 65536 < (out ++ tl).size
        · have hbz : (65536 : Int) < (out.size : Int) + (tl.size : Int) := by rw [← szz]; omega
          have hbd : decide ((65536 : Int) < (out.size : Int) + (tl.size : Int)) = true := decide_eq_true hbz
          have eR : R = (⟨#[]⟩, 4) := FIN.out.trans (if_pos hbig)
          subst eR
          clear FIN hbig HF
          go_wp2
          first | exact HQ.out _ HBX.out.2 | (go_ret2; exact HQ.out _ HBX.out.2)
        · have hbz : ¬ (65536 : Int) < (out.size : Int) + (tl.size : Int) := by rw [← szz]; omega
          have hbd : decide ((65536 : Int) < (out.size : Int) + (tl.size : Int)) = false := decide_eq_false hbz
          have eR : R = (out ++ tl, 0) := FIN.out.trans (if_neg hbig)
          subst eR
          clear FIN hbig HF
          go_wp2
          first | exact HQ.out _ HBX.out.2 | (go_ret2; exact HQ.out _ HBX.out.2)

      | some t =>
        obtain ⟨cs, a, z⟩ := t
        rw [hfr] at hpost
        obtain ⟨v, rfl, HRW⟩ := hpost
        obtain ⟨inb, pa, az, zs⟩ := firstF_in _ _ hfr
        have hcl := firstF_len HE.out.hr _ _ hfr
        have hg10 := (right_parts HE.out.hr).2.1
        have EQ : Aside (R = if a < z then
            (if 65536 < (out ++ s.extract p a ++ (fillTop r s cs a z).getD ⟨#[]⟩).size then (⟨#[]⟩, 4) else replF L g s r f (out ++ s.extract p a ++ (fillTop r s cs a z).getD ⟨#[]⟩) z (z : Int))
          else if (a : Int) ≠ last then
            (if 65536 < (out ++ s.extract p a ++ (fillTop r s cs a z).getD ⟨#[]⟩ ++ s.extract a (min (a + 1) s.size)).size then (⟨#[]⟩, 4) else replF L g s r f (out ++ s.extract p a ++ (fillTop r s cs a z).getD ⟨#[]⟩ ++ s.extract a (min (a + 1) s.size)) (a + 1) (z : Int))
          else
            (if 65536 < (out ++ s.extract p a ++ s.extract a (min (a + 1) s.size)).size then (⟨#[]⟩, 4) else replF L g s r f (out ++ s.extract p a ++ s.extract a (min (a + 1) s.size)) (a + 1) (z : Int))) := by
          have h := HF.out
          unfold replF at h
          rw [if_neg HSP.out, hfr] at h
          exact h.symm
        have cfl := filled_calls r s hs hr v cs a z az zs w3 (.inr (HRW.lower (Nat.zero_le _))) (by omega) inb
        have hfz := fillTop_len (r := r) (s := s) (cs := cs) (a := a) (z := z) hs hr
        obtain ⟨ft, hft⟩ : ∃ t, fillTop r s cs a z = t := ⟨_, rfl⟩
        rw [hft] at cfl hfz EQ
        obtain ⟨o1, ho1⟩ : ∃ o, s.extract p a = o := ⟨_, rfl⟩
        have o1z : o1.size ≤ 60 := by rw [← ho1, ByteArray.size_extract]; omega
        obtain ⟨mx, hmx⟩ : ∃ m, min (a + 1) s.size = m := ⟨_, rfl⟩
        have mxz : min ((a : Int) + 1) (s.size : Int) = (mx : Int) := by omega
        have mx1 : a ≤ mx ∧ mx ≤ s.size := by omega
        obtain ⟨o3, ho3⟩ : ∃ o, s.extract a mx = o := ⟨_, rfl⟩
        have o3z : o3.size ≤ 60 := by rw [← ho3, ByteArray.size_extract]; omega
        rw [ho1, hmx, ho3] at EQ
        have paz : (p : Int) ≤ (a : Int) := by omega
        have asz : (a : Int) ≤ (s.size : Int) := by omega
        have amz : (a : Int) ≤ (mx : Int) := by omega
        have msz : (mx : Int) ≤ (s.size : Int) := by omega
        have zn : ¬ (z : Int) < 0 := by omega
        have wa1 : IntKind.i64.wrap ((a : Int) + 1) = (a : Int) + 1 := by rw [IntKind.wrap_i64]; omega
        have sm1 : ¬ (9223372036854775807 : Int) < (out.size : Int) + (o1.size : Int) := by omega
        have z1 : ((out ++ o1).size : Int) = (out.size : Int) + (o1.size : Int) := by rw [ByteArray.size_append]; omega
        clear hfr HF hmx hft inb hcl hg10 HRW
        by_cases haz : a < z
        · have g1 : decide ((a : Int) < (z : Int)) = true := decide_eq_true (by omega)
          have g1z : (a : Int) < (z : Int) := by omega
          have g3 : ((z : Int) == (a : Int)) = false := by rw [beq_eq_false_iff_ne]; omega
          have g3z : ¬ (z : Int) = (a : Int) := by omega
          rw [if_pos haz] at EQ
          obtain ⟨oo, hoo⟩ : ∃ t, out ++ o1 = t := ⟨_, rfl⟩
          have boo : oo.size ≤ 65596 := by rw [← hoo, ByteArray.size_append]; omega
          rw [hoo] at EQ
          go_wp2_with fail
          refine cfl.mono ?_
          rintro e w4 ⟨he, hb4⟩
          have HB4 : Aside (w4.heap[rb]? = some (.cells #[.slice ao n cap, .int .i64 (g : Int)] 24 (0, 0)) ∧ Below w.heap.size w w4) := ⟨heap_later HBX.out.1 hb4, HBX.out.2.trans (hb4.mono HBX.out.2.size)⟩
          clear hb4 cfl HBX
          have HBX := HB4
          clear HB4
          have he2 : ∃ b, e = .returned (.tuple #[.string (ft.getD ⟨#[]⟩), .bool b]) := by
            cases ft with
            | none => exact ⟨false, he⟩
            | some t => exact ⟨true, he⟩
          clear he
          obtain ⟨b4, rfl⟩ := he2
          obtain ⟨t4, ht4⟩ : ∃ t, ft.getD ⟨#[]⟩ = t := ⟨_, rfl⟩
          rw [ht4] at EQ hfz ⊢
          clear ht4
          have sm2 : ¬ (9223372036854775807 : Int) < (oo.size : Int) + (t4.size : Int) := by omega
          obtain ⟨o2, ho2⟩ : ∃ t, oo ++ t4 = t := ⟨_, rfl⟩
          have bo2 : o2.size ≤ 265596 := by rw [← ho2, ByteArray.size_append]; omega
          rw [ho2] at EQ
          by_cases hbig : 65536 < o2.size
          · have hbz : (65536 : Int) < (o2.size : Int) := by omega
            have hbd : decide ((65536 : Int) < (o2.size : Int)) = true := decide_eq_true hbz
            have eR : R = (⟨#[]⟩, 4) := EQ.out.trans (if_pos hbig)
            subst eR
            clear EQ hbig
            go_wp2
            first | exact HQ.out _ HBX.out.2 | (go_ret2; exact HQ.out _ HBX.out.2)
          · have hbz : ¬ (65536 : Int) < (o2.size : Int) := by omega
            have hbd : decide ((65536 : Int) < (o2.size : Int)) = false := decide_eq_false hbz
            have EQ2 : Aside (replF L g s r f o2 z (z : Int) = R) := (EQ.out.trans (if_neg hbig)).symm
            clear EQ
            go_wp2
            go_roundg f
            case measure => omega
            case rel => exact ⟨o2, z, (z : Int), rfl, by first | rfl | simp, rfl, by omega, by omega, by omega, EQ2.out, HBX.out⟩

        have g1 : decide ((a : Int) < (z : Int)) = false := decide_eq_false (by omega)
        have g1z : ¬ (a : Int) < (z : Int) := by omega
        have eza : z = a := by omega
        subst eza
        rw [if_neg haz] at EQ
        by_cases hal : (z : Int) = last
        rotate_left
        · have g2 : ((z : Int) != last) = true := by rw [bne_iff_ne]; exact hal
          rw [if_pos hal] at EQ
          clear hal
          obtain ⟨oo, hoo⟩ : ∃ t, out ++ o1 = t := ⟨_, rfl⟩
          have boo : oo.size ≤ 65596 := by rw [← hoo, ByteArray.size_append]; omega
          rw [hoo] at EQ
          go_wp2_with fail
          refine cfl.mono ?_
          rintro e w4 ⟨he, hb4⟩
          have HB4 : Aside (w4.heap[rb]? = some (.cells #[.slice ao n cap, .int .i64 (g : Int)] 24 (0, 0)) ∧ Below w.heap.size w w4) := ⟨heap_later HBX.out.1 hb4, HBX.out.2.trans (hb4.mono HBX.out.2.size)⟩
          clear hb4 cfl HBX
          have HBX := HB4
          clear HB4
          have he2 : ∃ b, e = .returned (.tuple #[.string (ft.getD ⟨#[]⟩), .bool b]) := by
            cases ft with
            | none => exact ⟨false, he⟩
            | some t => exact ⟨true, he⟩
          clear he
          obtain ⟨b4, rfl⟩ := he2
          obtain ⟨t4, ht4⟩ : ∃ t, ft.getD ⟨#[]⟩ = t := ⟨_, rfl⟩
          rw [ht4] at EQ hfz ⊢
          clear ht4
          have sm2 : ¬ (9223372036854775807 : Int) < (oo.size : Int) + (t4.size : Int) := by omega
          obtain ⟨o2, ho2⟩ : ∃ t, oo ++ t4 = t := ⟨_, rfl⟩
          have bo2 : o2.size ≤ 265596 := by rw [← ho2, ByteArray.size_append]; omega
          rw [ho2] at EQ
          have sm3 : ¬ (9223372036854775807 : Int) < (o2.size : Int) + (o3.size : Int) := by omega
          obtain ⟨o4, ho4⟩ : ∃ t, o2 ++ o3 = t := ⟨_, rfl⟩
          have bo4 : o4.size ≤ 265656 := by rw [← ho4, ByteArray.size_append]; omega
          rw [ho4] at EQ
          by_cases hbig : 65536 < o4.size
          · have hbz : (65536 : Int) < (o4.size : Int) := by omega
            have hbd : decide ((65536 : Int) < (o4.size : Int)) = true := decide_eq_true hbz
            have eR : R = (⟨#[]⟩, 4) := EQ.out.trans (if_pos hbig)
            subst eR
            clear EQ hbig
            go_wp2
            first | exact HQ.out _ HBX.out.2 | (go_ret2; exact HQ.out _ HBX.out.2)
          · have hbz : ¬ (65536 : Int) < (o4.size : Int) := by omega
            have hbd : decide ((65536 : Int) < (o4.size : Int)) = false := decide_eq_false hbz
            have EQ2 : Aside (replF L g s r f o4 (z + 1) (z : Int) = R) := (EQ.out.trans (if_neg hbig)).symm
            clear EQ
            go_wp2
            go_roundg f
            case measure => omega
            case rel => exact ⟨o4, (z + 1), (z : Int), rfl, by first | rfl | simp, rfl, by omega, by omega, by omega, EQ2.out, HBX.out⟩

        · have g2 : ((z : Int) != last) = false := by rw [hal]; simp
          rw [if_neg (fun h => h hal)] at EQ
          subst hal
          obtain ⟨oo, hoo⟩ : ∃ t, out ++ o1 = t := ⟨_, rfl⟩
          have boo : oo.size ≤ 65596 := by rw [← hoo, ByteArray.size_append]; omega
          rw [hoo] at EQ
          have sm3 : ¬ (9223372036854775807 : Int) < (oo.size : Int) + (o3.size : Int) := by omega
          obtain ⟨o4, ho4⟩ : ∃ t, oo ++ o3 = t := ⟨_, rfl⟩
          have bo4 : o4.size ≤ 65656 := by rw [← ho4, ByteArray.size_append]; omega
          rw [ho4] at EQ
          by_cases hbig : 65536 < o4.size
          · have hbz : (65536 : Int) < (o4.size : Int) := by omega
            have hbd : decide ((65536 : Int) < (o4.size : Int)) = true := decide_eq_true hbz
            have eR : R = (⟨#[]⟩, 4) := EQ.out.trans (if_pos hbig)
            subst eR
            clear EQ hbig
            go_wp2
            first | exact HQ.out _ HBX.out.2 | (go_ret2; exact HQ.out _ HBX.out.2)
          · have hbz : ¬ (65536 : Int) < (o4.size : Int) := by omega
            have hbd : decide ((65536 : Int) < (o4.size : Int)) = false := decide_eq_false hbz
            have EQ2 : Aside (replF L g s r f o4 (z + 1) (z : Int) = R) := (EQ.out.trans (if_neg hbig)).symm
            clear EQ
            go_wp2
            go_roundg f
            case measure => omega
            case rel => exact ⟨o4, (z + 1), (z : Int), rfl, by first | rfl | simp, rfl, by omega, by omega, by omega, EQ2.out, HBX.out⟩


end Go.Proofs.Ytfhccmegobbnaaa
