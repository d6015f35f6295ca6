/- This text proves the walk of the parser's regex, given branch and itself at less fuel; then all four of them. Conditions: those that each theorem names. -/
import Derived.Test.YtfhccmegobbnaaaRegexJ
namespace Go.Proofs.Ytfhccmegobbnaaa
open Go.ChangeShapes Go.WideShapes Go.ChangeAt Go.RowKit
set_option linter.unusedVariables false
set_option linter.unusedSimpArgs false

theorem topE_ok {deep : Nat} {s : ByteArray} {r : PRes} {a : Re} {j h : Nat} (he : topE deep s r = .ok (a, j, h)) : r = .ok (a, j, h) ∧ ¬ (deep = 0 ∧ isAt s j 41 = true) := by
  unfold topE at he
  cases r with
  | error k => cases he
  | ok r =>
    obtain ⟨b, m, g⟩ := r
    simp only [] at he
    split at he
    · cases he
    · rename_i hn
      cases he
      exact ⟨rfl, hn⟩
theorem topE_err {deep : Nat} {s : ByteArray} {r : PRes} {k : Nat} (he : topE deep s r = .error k) : r = .error k ∨ ∃ a h, r = .ok (a, k, h) ∧ deep = 0 ∧ isAt s k 41 = true := by
  unfold topE at he
  cases r with
  | error k2 => exact .inl he
  | ok r =>
    obtain ⟨b, m, g⟩ := r
    simp only [] at he
    split at he
    · rename_i hn
      cases he
      exact .inr ⟨b, g, rfl, hn⟩
    · cases he
theorem isAt_41 {s : ByteArray} {k : Nat} (h : isAt s k 41 = true) : isAt s k 124 = false := by
  obtain ⟨h1, h2⟩ := isAt_lt h
  unfold isAt
  rw [h2, decide_eq_true h1]
  rfl
theorem topE_of {deep : Nat} {s : ByteArray} {a b : Re} {j h h2 : Nat} (hh : ¬ (deep = 0 ∧ isAt s j 41 = true)) : topE deep s (.ok (b, j, h2)) = .ok (b, j, h2) := by
  unfold topE
  simp only []
  rw [if_neg hh]
theorem topE_at {deep : Nat} {s : ByteArray} {a b : Re} {j h h2 : Nat} (hh : deep = 0 ∧ isAt s j 41 = true) : topE deep s (.ok (b, j, h2)) = .error j := by
  unfold topE
  simp only []
  rw [if_pos hh]
theorem reg_err {f deep : Nat} {s : ByteArray} {i g k : Nat} (h : topE deep s (branchF f s i g .emp) = .error k) : topE deep s (regexF (f + 1) s i g) = .error k := by
  unfold regexF
  rcases topE_err h with h1 | ⟨a, g2, h1, h2, h3⟩
  · rw [h1]; rfl
  · rw [h1]
    simp only []
    rw [isAt_41 h3, if_neg (by decide)]
    exact topE_at (a := a) (h := g) ⟨h2, h3⟩
theorem reg_no {f deep : Nat} {s : ByteArray} {i g j h : Nat} {a : Re} (hb : topE deep s (branchF f s i g .emp) = .ok (a, j, h)) (hn : isAt s j 124 = false) : topE deep s (regexF (f + 1) s i g) = .ok (a, j, h) := by
  obtain ⟨h1, h2⟩ := topE_ok hb
  unfold regexF
  rw [h1]
  simp only []
  rw [hn, if_neg (by decide)]
  exact topE_of (a := a) (h := g) h2
theorem reg_err2 {f deep : Nat} {s : ByteArray} {i g j h k : Nat} {a : Re} (hb : topE deep s (branchF f s i g .emp) = .ok (a, j, h)) (hn : isAt s j 124 = true) (hr : topE deep s (regexF f s (j + 1) h) = .error k) : topE deep s (regexF (f + 1) s i g) = .error k := by
  obtain ⟨h1, h2⟩ := topE_ok hb
  unfold regexF
  rw [h1]
  simp only []
  rw [hn, if_pos rfl]
  rcases topE_err hr with h3 | ⟨b, g2, h3, h4, h5⟩
  · rw [h3]; rfl
  · rw [h3]
    exact topE_at (a := a) (h := g) ⟨h4, h5⟩
theorem reg_ok {f deep : Nat} {s : ByteArray} {i g j h m h2 : Nat} {a b : Re} (hb : topE deep s (branchF f s i g .emp) = .ok (a, j, h)) (hn : isAt s j 124 = true) (hr : topE deep s (regexF f s (j + 1) h) = .ok (b, m, h2)) : topE deep s (regexF (f + 1) s i g) = .ok (.alt a b, m, h2) := by
  obtain ⟨h1, h3⟩ := topE_ok hb
  obtain ⟨h4, h5⟩ := topE_ok hr
  unfold regexF
  rw [h1]
  simp only []
  rw [hn, if_pos rfl, h4]
  exact topE_of (a := a) (h := g) h5

set_option maxRecDepth 20000 in
set_option maxHeartbeats 32000000 in
theorem regex_calls (f : Nat) (hbra : BraOK f) (hreg : RegOK f) (s : ByteArray) (pb B i g deep : Nat) (code : List In) (bad : Int) (w u : World) (h0 : Below B w u) (h : Par s pb B i g code bad u) (hc : Cond s i g deep code) (hf : 4 * (s.size - i) + 4 ≤ f + 1) :
    Calls Try.prog 24 #[.pointer (some ⟨pb, 0, none⟩), .int .i64 (deep : Int)] u fun e w' => RPost s pb B g code bad w (topE deep s (regexF (f + 1) s i g)) e w' := by
  have cb := fun W (h1 : Below B w W) (h2 : Par s pb B i g code bad W) => hbra s pb B i g deep code bad w W h1 h2 hc (by omega)
  have HG : Aside (RegOK f) := hreg
  clear hbra hreg
  have HP : Aside (Par s pb B i g code bad u) := h
  have HB : Aside (Below B w u) := h0
  have k1 := hc.hs
  have k2 := hc.hi
  have k3 := hc.h0
  have k4 := hc.hl
  have k5 := hc.hd
  have k6 := hc.hg
  have HM : Aside (Sml code) := hc.hm
  clear h h0 hc
  obtain ⟨n, hn⟩ : ∃ n, code.length = n := ⟨_, rfl⟩
  have HN : Aside (code.length = n) := hn
  rw [hn] at k3 k4
  obtain ⟨v0, hv0⟩ := HP.out.v
  have hnn : ∃ ao cap, v0 = .slice ao n cap := by
    obtain ⟨_, ⟨hv9, h09⟩ | ⟨gg, cap, cur, hv9, _⟩⟩ := hv0.hr
    · omega
    · exact ⟨_, cap, by rw [hv9, hn]⟩
  obtain ⟨ao0, cap0, rfl⟩ := hnn
  have b3 := cell_heap hv0.hp 3 _ rfl
  have lt0 : pb < u.heap.size := (Array.getElem?_eq_some_iff.1 hv0.hp).1
  clear hv0 hn
  cases hT : topE deep s (branchF f s i g .emp) with
  | error k =>
    rw [hT] at cb
    rw [reg_err hT]
    clear hT HG HM
    go_enter Try.func24, Try.ntmps24
    go_wp2_with fail
    refine (cb _ HB.out HP.out).mono ?_
    rintro e w9 ⟨rfl, hp, hb⟩
    have HE : Aside ((∃ i2 g2 code2, Par s pb B i2 g2 code2 (k : Int) w9) ∧ Below B w w9) := ⟨hp, hb⟩
    clear hp hb cb HP HB b3 lt0
    go_wp2
    refine bodyPost_ret (v := .bool false) (by simp [results, Try.results24, go_sem, ↓IntWalk.iteOmega, *]) rfl ⟨rfl, HE.out.1, HE.out.2⟩
  | ok r =>
    obtain ⟨a, j, h⟩ := r
    rw [hT] at cb
    have ca : ∀ W, Below B w W → Par s pb B i g code bad W → Calls Try.prog 37 #[.pointer (some ⟨pb, 0, none⟩), .int .i64 (deep : Int)] W fun e w' => e = .returned (.bool true) ∧ Par s pb B j h (code ++ a.gen n g) bad w' ∧ Below B w w' := fun W h1 h2 => by
      have := cb W h1 h2
      unfold RPost at this
      rw [HN.out] at this
      exact this
    clear cb
    have hgood := (good_all f).2.1 s i g .emp i g (Nat.le_refl _) k2 trivial rfl (by simp [Re.clen]) (Nat.le_max_left _ _)
    rw [(topE_ok hT).1] at hgood
    obtain ⟨a1, a2, a3, a4, a5, a6⟩ := hgood
    have GL := Re.gen_len a n g
    have GS : Aside (Sml (code ++ a.gen n g)) := HM.out.append (Re.gen_sml a n g a1 (by omega) (by omega))
    have C1 : Aside ((code ++ a.gen n g).length = n + a.clen) := by show _ = _; rw [List.length_append, HN.out, GL]
    have hwn : IntKind.i64.wrap ((n : Int) + 1) = (n : Int) + 1 := by rw [IntKind.wrap_i64]; omega
    clear GL
    cases h124 : isAt s j 124 with
    | false =>
      have ho124 := isAt_no h124
      rw [reg_no hT h124]
      have EX : Aside (code ++ a.gen n g = code ++ a.gen code.length g) := by show _ = _; rw [HN.out]
      clear hT h124 GS HG HM
      go_enter Try.func24, Try.ntmps24
      go_wp2_with fail
      refine (ca _ HB.out HP.out).mono ?_
      rintro e q58 ⟨rfl, hp, hb⟩
      clear HP HB ca b3 lt0
      have HP : Aside (Par s pb B j h (code ++ a.gen n g) bad q58) := hp
      have HB : Aside (Below B w q58) := hb
      clear hp hb
      go_wp2_with fail
      refine (next_no s pb B j h (code ++ a.gen n g) bad 124 _ HP.out ho124).mono ?_
      rintro e q59 ⟨rfl, hb⟩
      have HP' : Aside (Par s pb B j h (code ++ a.gen n g) bad q59) := HP.out.later hb
      have HB' : Aside (Below B w q59) := HB.out.trans (hb.mono HP.out.size.2)
      clear hb HP HB ho124
      have HP : Aside (Par s pb B j h (code ++ a.gen n g) bad q59) := HP'.out
      have HB : Aside (Below B w q59) := HB'.out
      clear HP' HB'
      rw [EX.out] at HP
      go_wp2
      refine bodyPost_ret (v := .bool true) (by simp [results, Try.results24, go_sem, ↓IntWalk.iteOmega, *]) rfl ⟨rfl, HP.out, HB.out⟩
    | true =>
      obtain ⟨hy1, hy2⟩ := isAt_yes h124
      have HT : Aside (topE deep s (branchF f s i g .emp) = .ok (a, j, h)) := hT
      have H124 : Aside (isAt s j 124 = true) := h124
      clear hT h124
      obtain ⟨m, hm⟩ : ∃ m, n + 1 + a.clen = m := ⟨_, rfl⟩
      have ci := fun W (h9 : Par s pb B (j + 1) h (code ++ a.gen n g) bad W) => insert_calls s pb B (j + 1) h (code ++ a.gen n g) bad n 6 0 ⟨#[]⟩ false ((n : Int) + 1) 0 W h9 (by rw [C1.out]; omega) (by rw [C1.out]; omega) (by rw [C1.out]; omega) GS.out
      have EI : insF n ⟨6, 0, ⟨#[]⟩, false, (n : Int) + 1, 0⟩ (code ++ a.gen n g) = code ++ ⟨6, 0, ⟨#[]⟩, false, (n : Int) + 1, 0⟩ :: a.gen (n + 1) g := by
        have := insF_app (code := code) (b := a.gen n g) (i := ⟨6, 0, ⟨#[]⟩, false, (n : Int) + 1, 0⟩)
        rw [HN.out, Re.gen_bump a n g a1] at this
        exact this
      rw [EI] at ci
      have CI : Aside ((code ++ (⟨6, 0, ⟨#[]⟩, false, (n : Int) + 1, 0⟩ : In) :: a.gen (n + 1) g).length = m) := by show _ = _; rw [List.length_append, List.length_cons, HN.out, Re.gen_len]; omega
      have ce := fun W (h9 : Par s pb B (j + 1) h (code ++ (⟨6, 0, ⟨#[]⟩, false, (n : Int) + 1, 0⟩ : In) :: a.gen (n + 1) g) bad W) => emit_calls s pb B (j + 1) h (code ++ (⟨6, 0, ⟨#[]⟩, false, (n : Int) + 1, 0⟩ : In) :: a.gen (n + 1) g) bad 7 0 ⟨#[]⟩ false 0 0 W h9 (by rw [CI.out]; omega)
      rw [CI.out] at ce
      have CL : Aside ((code ++ (⟨6, 0, ⟨#[]⟩, false, (n : Int) + 1, 0⟩ : In) :: a.gen (n + 1) g ++ [(⟨7, 0, ⟨#[]⟩, false, 0, 0⟩ : In)]).length = m + 1) := by show _ = _; rw [List.length_append, CI.out]; rfl
      have hwm : IntKind.i64.wrap ((m : Int) + 1) = (m : Int) + 1 := by rw [IntKind.wrap_i64]; omega
      have ES : Aside ((code ++ (⟨6, 0, ⟨#[]⟩, false, (n : Int) + 1, 0⟩ : In) :: a.gen (n + 1) g ++ [(⟨7, 0, ⟨#[]⟩, false, 0, 0⟩ : In)]).set n { (code ++ (⟨6, 0, ⟨#[]⟩, false, (n : Int) + 1, 0⟩ : In) :: a.gen (n + 1) g ++ [(⟨7, 0, ⟨#[]⟩, false, 0, 0⟩ : In)])[n]! with y := ((m : Int) + 1) } = (code ++ (⟨6, 0, ⟨#[]⟩, false, (n : Int) + 1, (m : Int) + 1⟩ : In) :: a.gen (n + 1) g ++ [(⟨7, 0, ⟨#[]⟩, false, 0, 0⟩ : In)])) := by
        show _ = _
        rw [List.append_assoc, List.cons_append, ← HN.out, get_app, set_app, List.append_assoc, List.cons_append]
      have GS2 := Re.gen_sml a (n + 1) g a1 (by omega) (by omega)
      have CYL : Aside ((code ++ (⟨6, 0, ⟨#[]⟩, false, (n : Int) + 1, (m : Int) + 1⟩ : In) :: a.gen (n + 1) g ++ [(⟨7, 0, ⟨#[]⟩, false, 0, 0⟩ : In)]).length = m + 1) := by show _ = _; rw [List.length_append, List.length_append, List.length_cons, HN.out, Re.gen_len]; simp; omega
      have SY : Sml (code ++ (⟨6, 0, ⟨#[]⟩, false, (n : Int) + 1, (m : Int) + 1⟩ : In) :: a.gen (n + 1) g ++ [(⟨7, 0, ⟨#[]⟩, false, 0, 0⟩ : In)]) := by
        rw [List.append_assoc, List.cons_append]
        refine HM.out.append ?_
        rw [← List.singleton_append]
        exact Sml.append (Sml.one (by simp only []; omega)) (GS2.append (Sml.one (by simp only []; omega)))
      have hcd : Cond s (j + 1) h deep (code ++ (⟨6, 0, ⟨#[]⟩, false, (n : Int) + 1, (m : Int) + 1⟩ : In) :: a.gen (n + 1) g ++ [(⟨7, 0, ⟨#[]⟩, false, 0, 0⟩ : In)]) := ⟨k1, by omega, by rw [CYL.out]; omega, by rw [CYL.out]; omega, SY, by omega, by omega⟩
      have crg := fun W (h0 : Below B w W) (h1 : Par s pb B (j + 1) h (code ++ (⟨6, 0, ⟨#[]⟩, false, (n : Int) + 1, (m : Int) + 1⟩ : In) :: a.gen (n + 1) g ++ [(⟨7, 0, ⟨#[]⟩, false, 0, 0⟩ : In)]) bad W) => HG.out s pb B (j + 1) h deep _ bad w W h0 h1 hcd (by omega)
      have hnm : n < m := by omega
      have HMM : Aside (n + 1 + a.clen = m) := hm
      clear EI GS GS2 SY hcd HG HM hm
      cases hT2 : topE deep s (regexF f s (j + 1) h) with
      | error k =>
        rw [hT2] at crg
        rw [reg_err2 HT.out H124.out hT2]
        clear hT2 HT H124
        go_enter Try.func24, Try.ntmps24
        go_wp2_with fail
        refine (ca _ HB.out HP.out).mono ?_
        rintro e q60 ⟨rfl, hp, hb⟩
        clear HP HB ca b3 lt0
        have HP : Aside (Par s pb B j h (code ++ a.gen n g) bad q60) := hp
        have HB : Aside (Below B w q60) := hb
        clear hp hb
        go_wp2_with fail
        refine (next_p s pb B j h (code ++ a.gen n g) bad 124 _ HP.out (by omega) hy1 hy2).mono ?_
        rintro e q61 ⟨rfl, hp, hb⟩
        have HP' : Aside (Par s pb B (j + 1) h (code ++ a.gen n g) bad q61) := hp
        have HB' : Aside (Below B w q61) := HB.out.trans hb
        clear hp hb HP HB hy2
        have HP : Aside (Par s pb B (j + 1) h (code ++ a.gen n g) bad q61) := HP'.out
        have HB : Aside (Below B w q61) := HB'.out
        clear HP' HB'
        go_wp2_with fail
        refine (ci _ HP.out).mono ?_
        rintro e q62 ⟨rfl, hp, hb⟩
        have HP' : Aside (Par s pb B (j + 1) h (code ++ (⟨6, 0, ⟨#[]⟩, false, (n : Int) + 1, 0⟩ : In) :: a.gen (n + 1) g) bad q62) := hp
        have HB' : Aside (Below B w q62) := HB.out.trans hb
        clear hp hb HP HB ci
        have HP : Aside (Par s pb B (j + 1) h (code ++ (⟨6, 0, ⟨#[]⟩, false, (n : Int) + 1, 0⟩ : In) :: a.gen (n + 1) g) bad q62) := HP'.out
        have HB : Aside (Below B w q62) := HB'.out
        clear HP' HB'
        go_wp2_with fail
        refine (ce _ HP.out).mono ?_
        rintro e q63 ⟨rfl, hp, hb⟩
        have HP' : Aside (Par s pb B (j + 1) h (code ++ (⟨6, 0, ⟨#[]⟩, false, (n : Int) + 1, 0⟩ : In) :: a.gen (n + 1) g ++ [(⟨7, 0, ⟨#[]⟩, false, 0, 0⟩ : In)]) bad q63) := hp
        have HB' : Aside (Below B w q63) := HB.out.trans hb
        clear hp hb HP HB ce CI
        have HP : Aside (Par s pb B (j + 1) h (code ++ (⟨6, 0, ⟨#[]⟩, false, (n : Int) + 1, 0⟩ : In) :: a.gen (n + 1) g ++ [(⟨7, 0, ⟨#[]⟩, false, 0, 0⟩ : In)]) bad q63) := HP'.out
        have HB : Aside (Below B w q63) := HB'.out
        clear HP' HB'
        obtain ⟨gg, cap, cur, c1, c2, ⟨ngp, hBg⟩, ⟨x5, c5⟩, ⟨x4, c4⟩, cy, cx⟩ := HP.out.cells (k := n) (N := m + 1) CL.out (by omega)
        have hp := cy ((m : Int) + 1)
        rw [ES.out] at hp
        have HPP : Aside (Par s pb B (j + 1) h (code ++ (⟨6, 0, ⟨#[]⟩, false, (n : Int) + 1, (m : Int) + 1⟩ : In) :: a.gen (n + 1) g ++ [(⟨7, 0, ⟨#[]⟩, false, 0, 0⟩ : In)]) bad (holds q63 gg (cur.setIfInBounds (n * 6 + 5) (.int .i64 ((m : Int) + 1))) 34)) := hp
        have HBB : Aside (Below B w (holds q63 gg (cur.setIfInBounds (n * 6 + 5) (.int .i64 ((m : Int) + 1))) 34)) := below_holds HB.out hBg _ _
        have ltg : gg < q63.heap.size := (Array.getElem?_eq_some_iff.1 c2).1
        have ltp : pb < q63.heap.size := (Array.getElem?_eq_some_iff.1 c1).1
        have npg : ¬ pb = gg := fun e => ngp e.symm
        have bb3 := cell_heap c1 3 _ rfl
        rw [holds_self c2]
        clear hp c1 c2 cy cx HP HB c4
        go_wp2_with fail
        clear ltg ltp npg bb3 c5
        generalize (holds q63 gg (cur.setIfInBounds (n * 6 + 5) (.int .i64 ((m : Int) + 1))) 34) = q64 at HPP HBB ⊢
        have HP : Aside (Par s pb B (j + 1) h (code ++ (⟨6, 0, ⟨#[]⟩, false, (n : Int) + 1, (m : Int) + 1⟩ : In) :: a.gen (n + 1) g ++ [(⟨7, 0, ⟨#[]⟩, false, 0, 0⟩ : In)]) bad q64) := HPP.out
        have HB : Aside (Below B w q64) := HBB.out
        clear HPP HBB
        refine (crg _ HB.out HP.out).mono ?_
        rintro e w9 ⟨rfl, hp, hb⟩
        have HE : Aside ((∃ i2 g2 code2, Par s pb B i2 g2 code2 (k : Int) w9) ∧ Below B w w9) := ⟨hp, hb⟩
        clear hp hb crg HP HB
        go_wp2
        refine bodyPost_ret (v := .bool false) (by simp [results, Try.results24, go_sem, ↓IntWalk.iteOmega, *]) rfl ⟨rfl, HE.out.1, HE.out.2⟩
      | ok r =>
        obtain ⟨b, l, h2⟩ := r
        rw [hT2] at crg
        have hgood2 := (good_all f).1 s (j + 1) h (by omega)
        rw [(topE_ok hT2).1] at hgood2
        obtain ⟨b1, b2, b3', b4, b5, b6⟩ := hgood2
        rw [reg_ok HT.out H124.out hT2]
        clear hT2 HT H124 b6 a6
        have crg : ∀ W, Below B w W → Par s pb B (j + 1) h (code ++ (⟨6, 0, ⟨#[]⟩, false, (n : Int) + 1, (m : Int) + 1⟩ : In) :: a.gen (n + 1) g ++ [(⟨7, 0, ⟨#[]⟩, false, 0, 0⟩ : In)]) bad W → Calls Try.prog 24 #[.pointer (some ⟨pb, 0, none⟩), .int .i64 (deep : Int)] W fun e w' => e = .returned (.bool true) ∧ Par s pb B l h2 ((code ++ (⟨6, 0, ⟨#[]⟩, false, (n : Int) + 1, (m : Int) + 1⟩ : In) :: a.gen (n + 1) g ++ [(⟨7, 0, ⟨#[]⟩, false, 0, 0⟩ : In)]) ++ b.gen (m + 1) h) bad w' ∧ Below B w w' := fun W h1 h2 => by
          have := crg W h1 h2
          unfold RPost at this
          rw [CYL.out] at this
          exact this
        have CL2 : Aside (((code ++ (⟨6, 0, ⟨#[]⟩, false, (n : Int) + 1, (m : Int) + 1⟩ : In) :: a.gen (n + 1) g ++ [(⟨7, 0, ⟨#[]⟩, false, 0, 0⟩ : In)]) ++ b.gen (m + 1) h).length = m + 1 + b.clen) := by show _ = _; rw [List.length_append, CYL.out, Re.gen_len]
        have hcast : ((m + 1 + b.clen : Nat) : Int) = (m : Int) + 1 + (b.clen : Int) := by omega
        have ES2 : Aside (((code ++ (⟨6, 0, ⟨#[]⟩, false, (n : Int) + 1, (m : Int) + 1⟩ : In) :: a.gen (n + 1) g ++ [(⟨7, 0, ⟨#[]⟩, false, 0, 0⟩ : In)]) ++ b.gen (m + 1) h).set m { ((code ++ (⟨6, 0, ⟨#[]⟩, false, (n : Int) + 1, (m : Int) + 1⟩ : In) :: a.gen (n + 1) g ++ [(⟨7, 0, ⟨#[]⟩, false, 0, 0⟩ : In)]) ++ b.gen (m + 1) h)[m]! with x := ((m + 1 + b.clen : Nat) : Int) } = code ++ (Re.alt a b).gen code.length g) := by
          show _ = _
          have e1 : (code ++ (⟨6, 0, ⟨#[]⟩, false, (n : Int) + 1, (m : Int) + 1⟩ : In) :: a.gen (n + 1) g).length = m := by rw [List.length_append, List.length_cons, HN.out, Re.gen_len]; have := HMM.out; omega
          have e2 : n + a.clen + 2 = m + 1 := by have := HMM.out; omega
          simp only [Re.gen]
          rw [HN.out, ← a4, e2, List.append_assoc _ [(⟨7, 0, ⟨#[]⟩, false, 0, 0⟩ : In)], List.singleton_append]
          have gs : ∀ (A D : List In) (z : In) (L : Int), A.length = m → (A ++ z :: D).set m { (A ++ z :: D)[m]! with x := L } = A ++ { z with x := L } :: D := fun A D z L hA => by rw [← hA, get_app, set_app]
          rw [gs _ _ _ _ e1]
          unfold iSplit iJump
          rw [List.append_assoc, List.cons_append]
          rfl
        go_enter Try.func24, Try.ntmps24
        go_wp2_with fail
        refine (ca _ HB.out HP.out).mono ?_
        rintro e q65 ⟨rfl, hp, hb⟩
        clear HP HB ca b3 lt0
        have HP : Aside (Par s pb B j h (code ++ a.gen n g) bad q65) := hp
        have HB : Aside (Below B w q65) := hb
        clear hp hb
        go_wp2_with fail
        refine (next_p s pb B j h (code ++ a.gen n g) bad 124 _ HP.out (by omega) hy1 hy2).mono ?_
        rintro e q66 ⟨rfl, hp, hb⟩
        have HP' : Aside (Par s pb B (j + 1) h (code ++ a.gen n g) bad q66) := hp
        have HB' : Aside (Below B w q66) := HB.out.trans hb
        clear hp hb HP HB hy2
        have HP : Aside (Par s pb B (j + 1) h (code ++ a.gen n g) bad q66) := HP'.out
        have HB : Aside (Below B w q66) := HB'.out
        clear HP' HB'
        go_wp2_with fail
        refine (ci _ HP.out).mono ?_
        rintro e q67 ⟨rfl, hp, hb⟩
        have HP' : Aside (Par s pb B (j + 1) h (code ++ (⟨6, 0, ⟨#[]⟩, false, (n : Int) + 1, 0⟩ : In) :: a.gen (n + 1) g) bad q67) := hp
        have HB' : Aside (Below B w q67) := HB.out.trans hb
        clear hp hb HP HB ci
        have HP : Aside (Par s pb B (j + 1) h (code ++ (⟨6, 0, ⟨#[]⟩, false, (n : Int) + 1, 0⟩ : In) :: a.gen (n + 1) g) bad q67) := HP'.out
        have HB : Aside (Below B w q67) := HB'.out
        clear HP' HB'
        go_wp2_with fail
        refine (ce _ HP.out).mono ?_
        rintro e q68 ⟨rfl, hp, hb⟩
        have HP' : Aside (Par s pb B (j + 1) h (code ++ (⟨6, 0, ⟨#[]⟩, false, (n : Int) + 1, 0⟩ : In) :: a.gen (n + 1) g ++ [(⟨7, 0, ⟨#[]⟩, false, 0, 0⟩ : In)]) bad q68) := hp
        have HB' : Aside (Below B w q68) := HB.out.trans hb
        clear hp hb HP HB ce CI
        have HP : Aside (Par s pb B (j + 1) h (code ++ (⟨6, 0, ⟨#[]⟩, false, (n : Int) + 1, 0⟩ : In) :: a.gen (n + 1) g ++ [(⟨7, 0, ⟨#[]⟩, false, 0, 0⟩ : In)]) bad q68) := HP'.out
        have HB : Aside (Below B w q68) := HB'.out
        clear HP' HB'
        obtain ⟨gg, cap, cur, c1, c2, ⟨ngp, hBg⟩, ⟨x5, c5⟩, ⟨x4, c4⟩, cy, cx⟩ := HP.out.cells (k := n) (N := m + 1) CL.out (by omega)
        have hp := cy ((m : Int) + 1)
        rw [ES.out] at hp
        have HPP : Aside (Par s pb B (j + 1) h (code ++ (⟨6, 0, ⟨#[]⟩, false, (n : Int) + 1, (m : Int) + 1⟩ : In) :: a.gen (n + 1) g ++ [(⟨7, 0, ⟨#[]⟩, false, 0, 0⟩ : In)]) bad (holds q68 gg (cur.setIfInBounds (n * 6 + 5) (.int .i64 ((m : Int) + 1))) 34)) := hp
        have HBB : Aside (Below B w (holds q68 gg (cur.setIfInBounds (n * 6 + 5) (.int .i64 ((m : Int) + 1))) 34)) := below_holds HB.out hBg _ _
        have ltg : gg < q68.heap.size := (Array.getElem?_eq_some_iff.1 c2).1
        have ltp : pb < q68.heap.size := (Array.getElem?_eq_some_iff.1 c1).1
        have npg : ¬ pb = gg := fun e => ngp e.symm
        have bb3 := cell_heap c1 3 _ rfl
        rw [holds_self c2]
        clear hp c1 c2 cy cx HP HB c4
        go_wp2_with fail
        clear ltg ltp npg bb3 c5
        generalize (holds q68 gg (cur.setIfInBounds (n * 6 + 5) (.int .i64 ((m : Int) + 1))) 34) = q69 at HPP HBB ⊢
        have HP : Aside (Par s pb B (j + 1) h (code ++ (⟨6, 0, ⟨#[]⟩, false, (n : Int) + 1, (m : Int) + 1⟩ : In) :: a.gen (n + 1) g ++ [(⟨7, 0, ⟨#[]⟩, false, 0, 0⟩ : In)]) bad q69) := HPP.out
        have HB : Aside (Below B w q69) := HBB.out
        clear HPP HBB
        refine (crg _ HB.out HP.out).mono ?_
        rintro e w9 ⟨rfl, hp, hb⟩
        clear crg HP HB ES CL
        have HP : Aside (Par s pb B l h2 ((code ++ (⟨6, 0, ⟨#[]⟩, false, (n : Int) + 1, (m : Int) + 1⟩ : In) :: a.gen (n + 1) g ++ [(⟨7, 0, ⟨#[]⟩, false, 0, 0⟩ : In)]) ++ b.gen (m + 1) h) bad w9) := hp
        have HB : Aside (Below B w w9) := hb
        clear hp hb
        obtain ⟨g5, cp5, cu5, c1, c2, ⟨ngp, hBg⟩, ⟨x5, c5⟩, ⟨x4, c4⟩, cy, cx⟩ := HP.out.cells (k := m) (N := (m + 1 + b.clen)) CL2.out (by omega)
        have hp := cx ((m + 1 + b.clen : Nat) : Int)
        rw [ES2.out] at hp
        have HPP : Aside (Par s pb B l h2 (code ++ (Re.alt a b).gen code.length g) bad (holds w9 g5 (cu5.setIfInBounds (m * 6 + 4) (.int .i64 ((m + 1 + b.clen : Nat) : Int))) 34)) := hp
        have HBB : Aside (Below B w (holds w9 g5 (cu5.setIfInBounds (m * 6 + 4) (.int .i64 ((m + 1 + b.clen : Nat) : Int))) 34)) := below_holds HB.out hBg _ _
        have ltg : g5 < w9.heap.size := (Array.getElem?_eq_some_iff.1 c2).1
        have ltp : pb < w9.heap.size := (Array.getElem?_eq_some_iff.1 c1).1
        have npg : ¬ pb = g5 := fun e => ngp e.symm
        have bb3 := cell_heap c1 3 _ rfl
        rw [holds_self c2]
        clear hp c1 c2 cy cx HP HB c5
        go_wp2
        go_region
        all_goals go_wp2
        all_goals refine bodyPost_ret (v := .bool true) (by simp [results, Try.results24, go_sem, ↓IntWalk.iteOmega, *]) rfl ⟨rfl, HPP.out.later (Below.drew (Below.refl _ _)), HBB.out.drew⟩

theorem all_ok : ∀ f : Nat, RegOK f ∧ BraOK f ∧ PieceOK f ∧ AtomOK f := fun f => by
  induction f using Nat.strongRecOn with
  | _ f ih =>
    cases f with
    | zero => exact ⟨fun _ _ _ _ _ _ _ _ _ _ _ _ _ h => absurd h (by omega), fun _ _ _ _ _ _ _ _ _ _ _ _ _ h => absurd h (by omega), fun _ _ _ _ _ _ _ _ _ _ _ _ _ _ h => absurd h (by omega), fun _ _ _ _ _ _ _ _ _ _ _ _ _ _ h => absurd h (by omega)⟩
    | succ f =>
      obtain ⟨h1, h2, h3, h4⟩ := ih f (by omega)
      exact ⟨fun s pb B i g deep code bad w u h0 h hc hf => regex_calls f h2 h1 s pb B i g deep code bad w u h0 h hc hf,
        fun s pb B i g deep code bad w u h0 h hc hf => branch_calls (f + 1) (fun k hk => (ih k hk).2.2.1) s pb B i g deep code bad w u h0 h hc hf,
        fun s pb B i g deep code bad w u h0 h hc hlt hf => piece_calls f h4 s pb B i g deep code bad w u h0 h hc hlt hf,
        fun s pb B i g deep code bad w u h0 h hc hlt hf => atom_calls f h1 s pb B i g deep code bad w u h0 h hc hlt hf⟩

end Go.Proofs.Ytfhccmegobbnaaa
