/- This text proves the walk of the parser's piece, given that of atom. Conditions: those that each theorem names. -/
import Derived.Test.YtfhccmegobbnaaaRegexH
import Derived.RegionTactic
namespace Go.Proofs.Ytfhccmegobbnaaa
open Go.ChangeShapes Go.WideShapes Go.ChangeAt Go.RowKit
set_option linter.unusedVariables false
set_option linter.unusedSimpArgs false

/-- The code's row as a block of cells; a target of instruction k may be written. -/
theorem Par.cells {s : ByteArray} {pb B at' g : Nat} {code : List In} {bad : Int} {w : World} (h : Par s pb B at' g code bad w) {k N : Nat} (hN : code.length = N) (hk : k < N) :
    ∃ gg cap cur, w.heap[pb]? = some (.cells #[.string s, .int .i64 (at' : Int), .int .i64 (g : Int), .slice (some ⟨gg, 0, none⟩) N cap, .int .i64 bad] 46 (0, 0)) ∧ w.heap[gg]? = some (.cells cur 34 (0, 0)) ∧ (¬ gg = pb ∧ B ≤ gg) ∧ (∃ x5, cur[k * 6 + 5]? = some (.int .i64 x5)) ∧ (∃ x4, cur[k * 6 + 4]? = some (.int .i64 x4)) ∧
      (∀ y : Int, Par s pb B at' g (code.set k { code[k]! with y := y }) bad (holds w gg (cur.setIfInBounds (k * 6 + 5) (.int .i64 y)) 34)) ∧
      ∀ x : Int, Par s pb B at' g (code.set k { code[k]! with x := x }) bad (holds w gg (cur.setIfInBounds (k * 6 + 4) (.int .i64 x)) 34) := by
  obtain ⟨hB, v, h1, h2⟩ := h
  have hne := own_ne h2 h1 (by decide)
  obtain ⟨hl0, ⟨_, h09⟩ | ⟨gg, cap, cur, hv9, hBg, hh, hnc, hcm, hcs, htk⟩⟩ := h2
  · omega
  subst hv9
  subst hN
  have ngp : ¬ gg = pb := fun e => hne (by rw [← e]; rfl)
  have e0 := getElem!_pos code k hk
  have q5 := cur_get htk hk 5 (by omega)
  have q4 := cur_get htk hk 4 (by omega)
  have lt := (Array.getElem?_eq_some_iff.1 hh).1
  refine ⟨gg, cap, cur, h1, hh, ⟨ngp, hBg⟩, ⟨_, q5⟩, ⟨_, q4⟩, fun y => ?_, fun x => ?_⟩
  · have t := flat_upd (enc := In.enc) in_len (y := { code[k]! with y := y }) (v := .int .i64 y) hk (f := 5) (by omega) (by rw [← e0]; rfl) htk
    refine ⟨hB, _, hh_ne (fun e => ngp e.symm) h1, ?_⟩
    have := own_row (w := holds w gg (cur.setIfInBounds (k * 6 + 5) (.int .i64 y)) 34) (xs := code.set k { code[k]! with y := y }) (hh_eq lt) hBg (by rw [List.length_set]; exact hnc) hcm (by rw [Array.size_setIfInBounds, hcs]) t
    rw [List.length_set] at this ⊢
    exact this
  · have t := flat_upd (enc := In.enc) in_len (y := { code[k]! with x := x }) (v := .int .i64 x) hk (f := 4) (by omega) (by rw [← e0]; rfl) htk
    refine ⟨hB, _, hh_ne (fun e => ngp e.symm) h1, ?_⟩
    have := own_row (w := holds w gg (cur.setIfInBounds (k * 6 + 4) (.int .i64 x)) 34) (xs := code.set k { code[k]! with x := x }) (hh_eq lt) hBg (by rw [List.length_set]; exact hnc) hcm (by rw [Array.size_setIfInBounds, hcs]) t
    rw [List.length_set] at this ⊢
    exact this
theorem insF_app {code b : List In} {i : In} : insF code.length i (code ++ b) = code ++ i :: b.map bump := by
  unfold insF
  rw [List.take_left, List.drop_left]
theorem set_app {code b : List In} {i j : In} : (code ++ i :: b).set code.length j = code ++ j :: b := by
  rw [List.set_append_right _ _ (Nat.le_refl _), Nat.sub_self]
  rfl
theorem get_app {code b : List In} {i : In} : (code ++ i :: b)[code.length]! = i := by
  rw [getElem!_pos _ _ (by simp)]
  simp
def AtomOK (f : Nat) : Prop := ∀ (s : ByteArray) (pb B i g deep : Nat) (code : List In) (bad : Int) (w u : World) (h0 : Below B w u) (h : Par s pb B i g code bad u) (hc : Cond s i g deep code), i < s.size → 4 * (s.size - i) + 1 ≤ f →
    Calls Try.prog 63 #[.pointer (some ⟨pb, 0, none⟩), .int .i64 (deep : Int)] u fun e w' => RPost s pb B g code bad w (atomF f s i g) e w'

set_option maxRecDepth 20000 in
set_option maxHeartbeats 32000000 in
theorem piece_calls (f : Nat) (hatom : AtomOK f) (s : ByteArray) (pb B i g deep : Nat) (code : List In) (bad : Int) (w u : World) (h0 : Below B w u) (h : Par s pb B i g code bad u) (hc : Cond s i g deep code) (hlt : i < s.size) (hf : 4 * (s.size - i) + 2 ≤ f + 1) :
    Calls Try.prog 58 #[.pointer (some ⟨pb, 0, none⟩), .int .i64 (deep : Int)] u fun e w' => RPost s pb B g code bad w (pieceF (f + 1) s i g) e w' := by
  have ca := fun W (h1 : Below B w W) (h2 : Par s pb B i g code bad W) => hatom s pb B i g deep code bad w W h1 h2 hc hlt (by omega)
  clear hatom
  have HP : Aside (Par s pb B i g code bad u) := h
  have HB : Aside (Below B w u) := h0
  have k1 := hc.hs
  have k2 := hc.hi
  have k3 := hc.h0
  have k4 := hc.hl
  have k5 := hc.hd
  have k6 := hc.hg
  have HM : Aside (Sml code) := hc.hm
  clear h h0 hc
  have hgood := (good_all f).2.2.2 s i g hlt
  have EP : pieceF (f + 1) s i g = match atomF f s i g with
    | .error k => .error k
    | .ok (a, j, h) =>
      if isAt s j 42 then .ok (.star a, j + 1, h)
      else if isAt s j 43 then .ok (.plus a, j + 1, h)
      else if isAt s j 63 then .ok (.opt a, j + 1, h)
      else .ok (a, j, h) := by
    conv => lhs; unfold pieceF
    rfl
  generalize atomF f s i g = r at ca EP hgood
  obtain ⟨n, hn⟩ : ∃ n, code.length = n := ⟨_, rfl⟩
  have HN : Aside (code.length = n) := hn
  rw [hn] at k3 k4
  obtain ⟨v0, hv0⟩ := HP.out.v
  have hnn : ∃ ao cap, v0 = .slice ao n cap := by
    obtain ⟨_, ⟨hv9, h09⟩ | ⟨gg, cap, cur, hv9, _⟩⟩ := hv0.hr
    · omega
    · exact ⟨_, cap, by rw [hv9, hn]⟩
  obtain ⟨ao0, cap0, rfl⟩ := hnn
  have b3 := cell_heap hv0.hp 3 _ rfl
  have lt0 : pb < u.heap.size := (Array.getElem?_eq_some_iff.1 hv0.hp).1
  clear hv0 hn
  cases r with
  | error k =>
    have ER : pieceF (f + 1) s i g = .error k := EP
    rw [ER]
    clear ER EP hgood
    go_enter Try.func58, Try.ntmps58
    go_wp2_with fail
    refine (ca _ HB.out HP.out).mono ?_
    rintro e w9 ⟨rfl, hp, hb⟩
    have HE : Aside ((∃ i2 g2 code2, Par s pb B i2 g2 code2 (k : Int) w9) ∧ Below B w w9) := ⟨hp, hb⟩
    clear hp hb ca HP HB b3
    go_wp2
    refine bodyPost_ret (v := .bool false) (by simp [results, Try.results58, go_sem, ↓IntWalk.iteOmega, *]) rfl ⟨rfl, HE.out.1, HE.out.2⟩
  | ok r =>
    obtain ⟨a, j, h⟩ := r
    have ca : ∀ W, Below B w W → Par s pb B i g code bad W → Calls Try.prog 63 #[.pointer (some ⟨pb, 0, none⟩), .int .i64 (deep : Int)] W fun e w' => e = .returned (.bool true) ∧ Par s pb B j h (code ++ a.gen n g) bad w' ∧ Below B w w' := fun W h1 h2 => by
      have := ca W h1 h2
      unfold RPost at this
      rw [HN.out] at this
      exact this
    obtain ⟨a1, a2, a3, a4, a5, a6⟩ := hgood
    have EP : pieceF (f + 1) s i g = if isAt s j 42 then .ok (.star a, j + 1, h) else if isAt s j 43 then .ok (.plus a, j + 1, h) else if isAt s j 63 then .ok (.opt a, j + 1, h) else .ok (a, j, h) := EP
    have GL := Re.gen_len a n g
    have GS : Aside (Sml (code ++ a.gen n g)) := HM.out.append (Re.gen_sml a n g a1 (by omega) (by omega))
    have C1 : Aside ((code ++ a.gen n g).length = n + a.clen) := by show _ = _; rw [List.length_append, HN.out, GL]
    have hwn : IntKind.i64.wrap ((n : Int) + 1) = (n : Int) + 1 := by rw [IntKind.wrap_i64]; omega
    clear GL HM
    cases h42 : isAt s j 42 with
    | true =>
      have ER : pieceF (f + 1) s i g = .ok (.star a, j + 1, h) := by rw [EP, h42]; rfl
      obtain ⟨hy1, hy2⟩ := isAt_yes h42
      rw [ER]
      clear ER EP h42
      have ci := fun W (h9 : Par s pb B (j + 1) h (code ++ a.gen n g) bad W) => insert_calls s pb B (j + 1) h (code ++ a.gen n g) bad n 6 0 ⟨#[]⟩ false ((n : Int) + 1) 0 W h9 (by rw [C1.out]; omega) (by rw [C1.out]; omega) (by rw [C1.out]; omega) GS.out
      have EI : insF n ⟨6, 0, ⟨#[]⟩, false, (n : Int) + 1, 0⟩ (code ++ a.gen n g) = code ++ ⟨6, 0, ⟨#[]⟩, false, (n : Int) + 1, 0⟩ :: a.gen (n + 1) g := by
        have := insF_app (code := code) (b := a.gen n g) (i := ⟨6, 0, ⟨#[]⟩, false, (n : Int) + 1, 0⟩)
        rw [HN.out, Re.gen_bump a n g a1] at this
        exact this
      rw [EI] at ci
      have CI : Aside ((code ++ (⟨6, 0, ⟨#[]⟩, false, (n : Int) + 1, 0⟩ : In) :: a.gen (n + 1) g).length = n + 1 + a.clen) := by show _ = _; rw [List.length_append, List.length_cons, HN.out, Re.gen_len]; omega
      have ce := fun W (h9 : Par s pb B (j + 1) h (code ++ (⟨6, 0, ⟨#[]⟩, false, (n : Int) + 1, 0⟩ : In) :: a.gen (n + 1) g) bad W) => emit_calls s pb B (j + 1) h (code ++ (⟨6, 0, ⟨#[]⟩, false, (n : Int) + 1, 0⟩ : In) :: a.gen (n + 1) g) bad 7 0 ⟨#[]⟩ false (n : Int) 0 W h9 (by rw [CI.out]; omega)
      have CL : Aside ((code ++ (⟨6, 0, ⟨#[]⟩, false, (n : Int) + 1, 0⟩ : In) :: a.gen (n + 1) g ++ [(⟨7, 0, ⟨#[]⟩, false, (n : Int), 0⟩ : In)]).length = n + a.clen + 2) := by show _ = _; rw [List.length_append, CI.out]; simp; omega
      have hcast : ((n + a.clen + 2 : Nat) : Int) = (n : Int) + (a.clen : Int) + 2 := by omega
      have ES : Aside ((code ++ (⟨6, 0, ⟨#[]⟩, false, (n : Int) + 1, 0⟩ : In) :: a.gen (n + 1) g ++ [(⟨7, 0, ⟨#[]⟩, false, (n : Int), 0⟩ : In)]).set n { (code ++ (⟨6, 0, ⟨#[]⟩, false, (n : Int) + 1, 0⟩ : In) :: a.gen (n + 1) g ++ [(⟨7, 0, ⟨#[]⟩, false, (n : Int), 0⟩ : In)])[n]! with y := ((n + a.clen + 2 : Nat) : Int) } = code ++ (Re.star a).gen code.length g) := by
        show _ = _
        rw [List.append_assoc, List.cons_append, ← HN.out, get_app, set_app]
        rfl
      clear EI
      go_enter Try.func58, Try.ntmps58
      go_wp2_with fail
      refine (ca _ HB.out HP.out).mono ?_
      rintro e q41 ⟨rfl, hp, hb⟩
      clear HP HB ca b3 lt0
      have HP : Aside (Par s pb B j h (code ++ a.gen n g) bad q41) := hp
      have HB : Aside (Below B w q41) := hb
      clear hp hb
      go_wp2_with fail
      refine (next_p s pb B j h (code ++ a.gen n g) bad 42 _ HP.out (by omega) hy1 hy2).mono ?_
      rintro e q42 ⟨rfl, hp, hb⟩
      have HP' : Aside (Par s pb B (j + 1) h (code ++ a.gen n g) bad q42) := hp
      have HB' : Aside (Below B w q42) := HB.out.trans hb
      clear hp hb HP HB hy2
      have HP : Aside (Par s pb B (j + 1) h (code ++ a.gen n g) bad q42) := HP'.out
      have HB : Aside (Below B w q42) := HB'.out
      clear HP' HB'
      go_wp2_with fail
      refine (ci _ HP.out).mono ?_
      rintro e q43 ⟨rfl, hp, hb⟩
      have HP' : Aside (Par s pb B (j + 1) h (code ++ (⟨6, 0, ⟨#[]⟩, false, (n : Int) + 1, 0⟩ : In) :: a.gen (n + 1) g) bad q43) := hp
      have HB' : Aside (Below B w q43) := HB.out.trans hb
      clear hp hb HP HB ci
      have HP : Aside (Par s pb B (j + 1) h (code ++ (⟨6, 0, ⟨#[]⟩, false, (n : Int) + 1, 0⟩ : In) :: a.gen (n + 1) g) bad q43) := HP'.out
      have HB : Aside (Below B w q43) := HB'.out
      clear HP' HB'
      go_wp2_with fail
      refine (ce _ HP.out).mono ?_
      rintro e q44 ⟨rfl, hp, hb⟩
      have HP' : Aside (Par s pb B (j + 1) h (code ++ (⟨6, 0, ⟨#[]⟩, false, (n : Int) + 1, 0⟩ : In) :: a.gen (n + 1) g ++ [(⟨7, 0, ⟨#[]⟩, false, (n : Int), 0⟩ : In)]) bad q44) := hp
      have HB' : Aside (Below B w q44) := HB.out.trans hb
      clear hp hb HP HB ce CI
      have HP : Aside (Par s pb B (j + 1) h (code ++ (⟨6, 0, ⟨#[]⟩, false, (n : Int) + 1, 0⟩ : In) :: a.gen (n + 1) g ++ [(⟨7, 0, ⟨#[]⟩, false, (n : Int), 0⟩ : In)]) bad q44) := HP'.out
      have HB : Aside (Below B w q44) := HB'.out
      clear HP' HB'
      obtain ⟨gg, cap, cur, c1, c2, ⟨ngp, hBg⟩, ⟨x5, c5⟩, ⟨x4, c4⟩, cy, cx⟩ := HP.out.cells (k := n) (N := (n + a.clen + 2)) CL.out (by omega)
      have hp := cy ((n + a.clen + 2 : Nat) : Int)
      rw [ES.out] at hp
      have HPP : Aside (Par s pb B (j + 1) h (code ++ (Re.star a).gen code.length g) bad (holds q44 gg (cur.setIfInBounds (n * 6 + 5) (.int .i64 ((n + a.clen + 2 : Nat) : Int))) 34)) := hp
      have HBB : Aside (Below B w (holds q44 gg (cur.setIfInBounds (n * 6 + 5) (.int .i64 ((n + a.clen + 2 : Nat) : Int))) 34)) := below_holds HB.out hBg _ _
      have ltg : gg < q44.heap.size := (Array.getElem?_eq_some_iff.1 c2).1
      have ltp : pb < q44.heap.size := (Array.getElem?_eq_some_iff.1 c1).1
      have npg : ¬ pb = gg := fun e => ngp e.symm
      have bb3 := cell_heap c1 3 _ rfl
      rw [holds_self c2]
      clear hp c1 c2 cy cx HP HB c4
      go_wp2
      go_region
      all_goals go_wp2
      all_goals refine bodyPost_ret (v := .bool true) (by simp [results, Try.results58, go_sem, ↓IntWalk.iteOmega, *]) rfl ⟨rfl, HPP.out.later (Below.drew (Below.refl _ _)), HBB.out.drew⟩
    | false =>
    have ho42 := isAt_no h42
    cases h43 : isAt s j 43 with
    | true =>
      have ER : pieceF (f + 1) s i g = .ok (.plus a, j + 1, h) := by rw [EP, h42, h43]; rfl
      obtain ⟨hy1, hy2⟩ := isAt_yes h43
      rw [ER]
      clear ER EP h43 h42
      obtain ⟨m, hm⟩ : ∃ m, n + a.clen = m := ⟨_, rfl⟩
      have C1 : Aside ((code ++ a.gen n g).length = m) := by show _ = _; rw [C1.out, hm]
      have ce := fun W (h9 : Par s pb B (j + 1) h (code ++ a.gen n g) bad W) => emit_calls s pb B (j + 1) h (code ++ a.gen n g) bad 6 0 ⟨#[]⟩ false (n : Int) 0 W h9 (by rw [C1.out]; omega)
      rw [C1.out] at ce
      have CL : Aside (((code ++ a.gen n g) ++ [(⟨6, 0, ⟨#[]⟩, false, (n : Int), 0⟩ : In)]).length = m + 1) := by show _ = _; rw [List.length_append, C1.out]; rfl
      have hwm : IntKind.i64.wrap ((m : Int) + 1) = (m : Int) + 1 := by rw [IntKind.wrap_i64]; omega
      have ES : Aside (((code ++ a.gen n g) ++ [(⟨6, 0, ⟨#[]⟩, false, (n : Int), 0⟩ : In)]).set m { ((code ++ a.gen n g) ++ [(⟨6, 0, ⟨#[]⟩, false, (n : Int), 0⟩ : In)])[m]! with y := ((m : Int) + 1) } = code ++ (Re.plus a).gen code.length g) := by
        show _ = _
        have e1 := C1.out
        rw [HN.out]
        simp only [Re.gen]
        rw [← List.append_assoc]
        generalize (code ++ a.gen n g) = A at e1 ⊢
        subst e1
        rw [get_app, set_app]
        unfold iSplit
        have e3 : ((n + a.clen + 1 : Nat) : Int) = (A.length : Int) + 1 := by omega
        rw [e3]
      clear GS
      go_enter Try.func58, Try.ntmps58
      go_wp2_with fail
      refine (ca _ HB.out HP.out).mono ?_
      rintro e q45 ⟨rfl, hp, hb⟩
      clear HP HB ca b3 lt0
      have HP : Aside (Par s pb B j h (code ++ a.gen n g) bad q45) := hp
      have HB : Aside (Below B w q45) := hb
      clear hp hb
      go_wp2_with fail
      refine (next_no s pb B j h (code ++ a.gen n g) bad 42 _ HP.out ho42).mono ?_
      rintro e q46 ⟨rfl, hb⟩
      have HP' : Aside (Par s pb B j h (code ++ a.gen n g) bad q46) := HP.out.later hb
      have HB' : Aside (Below B w q46) := HB.out.trans (hb.mono HP.out.size.2)
      clear hb HP HB ho42
      have HP : Aside (Par s pb B j h (code ++ a.gen n g) bad q46) := HP'.out
      have HB : Aside (Below B w q46) := HB'.out
      clear HP' HB'
      go_wp2_with fail
      refine (next_p s pb B j h (code ++ a.gen n g) bad 43 _ HP.out (by omega) hy1 hy2).mono ?_
      rintro e q47 ⟨rfl, hp, hb⟩
      have HP' : Aside (Par s pb B (j + 1) h (code ++ a.gen n g) bad q47) := hp
      have HB' : Aside (Below B w q47) := HB.out.trans hb
      clear hp hb HP HB hy2
      have HP : Aside (Par s pb B (j + 1) h (code ++ a.gen n g) bad q47) := HP'.out
      have HB : Aside (Below B w q47) := HB'.out
      clear HP' HB'
      go_wp2_with fail
      refine (ce _ HP.out).mono ?_
      rintro e q48 ⟨rfl, hp, hb⟩
      have HP' : Aside (Par s pb B (j + 1) h ((code ++ a.gen n g) ++ [(⟨6, 0, ⟨#[]⟩, false, (n : Int), 0⟩ : In)]) bad q48) := hp
      have HB' : Aside (Below B w q48) := HB.out.trans hb
      clear hp hb HP HB ce
      have HP : Aside (Par s pb B (j + 1) h ((code ++ a.gen n g) ++ [(⟨6, 0, ⟨#[]⟩, false, (n : Int), 0⟩ : In)]) bad q48) := HP'.out
      have HB : Aside (Below B w q48) := HB'.out
      clear HP' HB'
      obtain ⟨gg, cap, cur, c1, c2, ⟨ngp, hBg⟩, ⟨x5, c5⟩, ⟨x4, c4⟩, cy, cx⟩ := HP.out.cells (k := m) (N := (m + 1)) CL.out (by omega)
      have hp := cy ((m : Int) + 1)
      rw [ES.out] at hp
      have HPP : Aside (Par s pb B (j + 1) h (code ++ (Re.plus a).gen code.length g) bad (holds q48 gg (cur.setIfInBounds (m * 6 + 5) (.int .i64 ((m : Int) + 1))) 34)) := hp
      have HBB : Aside (Below B w (holds q48 gg (cur.setIfInBounds (m * 6 + 5) (.int .i64 ((m : Int) + 1))) 34)) := below_holds HB.out hBg _ _
      have ltg : gg < q48.heap.size := (Array.getElem?_eq_some_iff.1 c2).1
      have ltp : pb < q48.heap.size := (Array.getElem?_eq_some_iff.1 c1).1
      have npg : ¬ pb = gg := fun e => ngp e.symm
      have bb3 := cell_heap c1 3 _ rfl
      rw [holds_self c2]
      clear hp c1 c2 cy cx HP HB c4
      go_wp2
      refine bodyPost_ret (v := .bool true) (by simp [results, Try.results58, go_sem, ↓IntWalk.iteOmega, *]) rfl ⟨rfl, HPP.out, HBB.out⟩
    | false =>
    have ho43 := isAt_no h43
    cases h63 : isAt s j 63 with
    | true =>
      have ER : pieceF (f + 1) s i g = .ok (.opt a, j + 1, h) := by rw [EP, h42, h43, h63]; rfl
      obtain ⟨hy1, hy2⟩ := isAt_yes h63
      rw [ER]
      clear ER EP h63 h43 h42
      have ci := fun W (h9 : Par s pb B (j + 1) h (code ++ a.gen n g) bad W) => insert_calls s pb B (j + 1) h (code ++ a.gen n g) bad n 6 0 ⟨#[]⟩ false ((n : Int) + 1) 0 W h9 (by rw [C1.out]; omega) (by rw [C1.out]; omega) (by rw [C1.out]; omega) GS.out
      have EI : insF n ⟨6, 0, ⟨#[]⟩, false, (n : Int) + 1, 0⟩ (code ++ a.gen n g) = code ++ ⟨6, 0, ⟨#[]⟩, false, (n : Int) + 1, 0⟩ :: a.gen (n + 1) g := by
        have := insF_app (code := code) (b := a.gen n g) (i := ⟨6, 0, ⟨#[]⟩, false, (n : Int) + 1, 0⟩)
        rw [HN.out, Re.gen_bump a n g a1] at this
        exact this
      rw [EI] at ci
      have CL : Aside ((code ++ (⟨6, 0, ⟨#[]⟩, false, (n : Int) + 1, 0⟩ : In) :: a.gen (n + 1) g).length = n + a.clen + 1) := by show _ = _; rw [List.length_append, List.length_cons, HN.out, Re.gen_len]; omega
      have ES : Aside ((code ++ (⟨6, 0, ⟨#[]⟩, false, (n : Int) + 1, 0⟩ : In) :: a.gen (n + 1) g).set n { (code ++ (⟨6, 0, ⟨#[]⟩, false, (n : Int) + 1, 0⟩ : In) :: a.gen (n + 1) g)[n]! with y := ((n + a.clen + 1 : Nat) : Int) } = code ++ (Re.opt a).gen code.length g) := by
        show _ = _
        rw [← HN.out, get_app, set_app]
        rfl
      clear EI
      go_enter Try.func58, Try.ntmps58
      go_wp2_with fail
      refine (ca _ HB.out HP.out).mono ?_
      rintro e q49 ⟨rfl, hp, hb⟩
      clear HP HB ca b3 lt0
      have HP : Aside (Par s pb B j h (code ++ a.gen n g) bad q49) := hp
      have HB : Aside (Below B w q49) := hb
      clear hp hb
      go_wp2_with fail
      refine (next_no s pb B j h (code ++ a.gen n g) bad 42 _ HP.out ho42).mono ?_
      rintro e q50 ⟨rfl, hb⟩
      have HP' : Aside (Par s pb B j h (code ++ a.gen n g) bad q50) := HP.out.later hb
      have HB' : Aside (Below B w q50) := HB.out.trans (hb.mono HP.out.size.2)
      clear hb HP HB ho42
      have HP : Aside (Par s pb B j h (code ++ a.gen n g) bad q50) := HP'.out
      have HB : Aside (Below B w q50) := HB'.out
      clear HP' HB'
      go_wp2_with fail
      refine (next_no s pb B j h (code ++ a.gen n g) bad 43 _ HP.out ho43).mono ?_
      rintro e q51 ⟨rfl, hb⟩
      have HP' : Aside (Par s pb B j h (code ++ a.gen n g) bad q51) := HP.out.later hb
      have HB' : Aside (Below B w q51) := HB.out.trans (hb.mono HP.out.size.2)
      clear hb HP HB ho43
      have HP : Aside (Par s pb B j h (code ++ a.gen n g) bad q51) := HP'.out
      have HB : Aside (Below B w q51) := HB'.out
      clear HP' HB'
      go_wp2_with fail
      refine (next_p s pb B j h (code ++ a.gen n g) bad 63 _ HP.out (by omega) hy1 hy2).mono ?_
      rintro e q52 ⟨rfl, hp, hb⟩
      have HP' : Aside (Par s pb B (j + 1) h (code ++ a.gen n g) bad q52) := hp
      have HB' : Aside (Below B w q52) := HB.out.trans hb
      clear hp hb HP HB hy2
      have HP : Aside (Par s pb B (j + 1) h (code ++ a.gen n g) bad q52) := HP'.out
      have HB : Aside (Below B w q52) := HB'.out
      clear HP' HB'
      go_wp2_with fail
      refine (ci _ HP.out).mono ?_
      rintro e q53 ⟨rfl, hp, hb⟩
      have HP' : Aside (Par s pb B (j + 1) h (code ++ (⟨6, 0, ⟨#[]⟩, false, (n : Int) + 1, 0⟩ : In) :: a.gen (n + 1) g) bad q53) := hp
      have HB' : Aside (Below B w q53) := HB.out.trans hb
      clear hp hb HP HB ci
      have HP : Aside (Par s pb B (j + 1) h (code ++ (⟨6, 0, ⟨#[]⟩, false, (n : Int) + 1, 0⟩ : In) :: a.gen (n + 1) g) bad q53) := HP'.out
      have HB : Aside (Below B w q53) := HB'.out
      clear HP' HB'
      obtain ⟨gg, cap, cur, c1, c2, ⟨ngp, hBg⟩, ⟨x5, c5⟩, ⟨x4, c4⟩, cy, cx⟩ := HP.out.cells (k := n) (N := (n + a.clen + 1)) CL.out (by omega)
      have hp := cy ((n + a.clen + 1 : Nat) : Int)
      rw [ES.out] at hp
      have HPP : Aside (Par s pb B (j + 1) h (code ++ (Re.opt a).gen code.length g) bad (holds q53 gg (cur.setIfInBounds (n * 6 + 5) (.int .i64 ((n + a.clen + 1 : Nat) : Int))) 34)) := hp
      have HBB : Aside (Below B w (holds q53 gg (cur.setIfInBounds (n * 6 + 5) (.int .i64 ((n + a.clen + 1 : Nat) : Int))) 34)) := below_holds HB.out hBg _ _
      have ltg : gg < q53.heap.size := (Array.getElem?_eq_some_iff.1 c2).1
      have ltp : pb < q53.heap.size := (Array.getElem?_eq_some_iff.1 c1).1
      have npg : ¬ pb = gg := fun e => ngp e.symm
      have bb3 := cell_heap c1 3 _ rfl
      rw [holds_self c2]
      clear hp c1 c2 cy cx HP HB c4
      go_wp2
      go_region
      all_goals go_wp2
      all_goals refine bodyPost_ret (v := .bool true) (by simp [results, Try.results58, go_sem, ↓IntWalk.iteOmega, *]) rfl ⟨rfl, HPP.out.later (Below.drew (Below.refl _ _)), HBB.out.drew⟩
    | false =>
    have ho63 := isAt_no h63
    have ER : pieceF (f + 1) s i g = .ok (a, j, h) := by rw [EP, h42, h43, h63]; rfl
    rw [ER]
    have EX : Aside (code ++ a.gen n g = code ++ a.gen code.length g) := by show _ = _; rw [HN.out]
    clear ER EP h63 h43 h42 GS
    go_enter Try.func58, Try.ntmps58
    go_wp2_with fail
    refine (ca _ HB.out HP.out).mono ?_
    rintro e q54 ⟨rfl, hp, hb⟩
    clear HP HB ca b3 lt0
    have HP : Aside (Par s pb B j h (code ++ a.gen n g) bad q54) := hp
    have HB : Aside (Below B w q54) := hb
    clear hp hb
    go_wp2_with fail
    refine (next_no s pb B j h (code ++ a.gen n g) bad 42 _ HP.out ho42).mono ?_
    rintro e q55 ⟨rfl, hb⟩
    have HP' : Aside (Par s pb B j h (code ++ a.gen n g) bad q55) := HP.out.later hb
    have HB' : Aside (Below B w q55) := HB.out.trans (hb.mono HP.out.size.2)
    clear hb HP HB ho42
    have HP : Aside (Par s pb B j h (code ++ a.gen n g) bad q55) := HP'.out
    have HB : Aside (Below B w q55) := HB'.out
    clear HP' HB'
    go_wp2_with fail
    refine (next_no s pb B j h (code ++ a.gen n g) bad 43 _ HP.out ho43).mono ?_
    rintro e q56 ⟨rfl, hb⟩
    have HP' : Aside (Par s pb B j h (code ++ a.gen n g) bad q56) := HP.out.later hb
    have HB' : Aside (Below B w q56) := HB.out.trans (hb.mono HP.out.size.2)
    clear hb HP HB ho43
    have HP : Aside (Par s pb B j h (code ++ a.gen n g) bad q56) := HP'.out
    have HB : Aside (Below B w q56) := HB'.out
    clear HP' HB'
    go_wp2_with fail
    refine (next_no s pb B j h (code ++ a.gen n g) bad 63 _ HP.out ho63).mono ?_
    rintro e q57 ⟨rfl, hb⟩
    have HP' : Aside (Par s pb B j h (code ++ a.gen n g) bad q57) := HP.out.later hb
    have HB' : Aside (Below B w q57) := HB.out.trans (hb.mono HP.out.size.2)
    clear hb HP HB ho63
    have HP : Aside (Par s pb B j h (code ++ a.gen n g) bad q57) := HP'.out
    have HB : Aside (Below B w q57) := HB'.out
    clear HP' HB'
    rw [EX.out] at HP
    go_wp2
    refine bodyPost_ret (v := .bool true) (by simp [results, Try.results58, go_sem, ↓IntWalk.iteOmega, *]) rfl ⟨rfl, HP.out, HB.out⟩

end Go.Proofs.Ytfhccmegobbnaaa
