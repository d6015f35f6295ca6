/- This text proves the walk of the parser's group, given that of regex. Conditions: those that each theorem names. -/
import Derived.Test.YtfhccmegobbnaaaRegexF
namespace Go.Proofs.Ytfhccmegobbnaaa
open Go.ChangeShapes Go.WideShapes Go.ChangeAt Go.RowKit
set_option linter.unusedVariables false
set_option linter.unusedSimpArgs false

theorem next_p (s : ByteArray) (pb B at' g : Nat) (code : List In) (bad : Int) (c : Int) (w : World) (h : Par s pb B at' g code bad w) (hz : s.size ≤ 1000000) (he : at' < s.size) (hc : pkB s at' = c) :
    Calls Try.prog 38 #[.pointer (some ⟨pb, 0, none⟩), .int .u8 c] w fun e w' => e = .returned (.bool true) ∧ Par s pb B (at' + 1) g code bad w' ∧ Below B w w' := by
  obtain ⟨v, hv⟩ := h.v
  exact (next_yes s pb B at' g code bad v c w hv hz he hc).mono fun e w' ⟨h1, h2, h3⟩ => ⟨h1, h2.par, gbelow h3 hv.hB hv.size.1⟩
theorem fail_p (s : ByteArray) (pb B at' g : Nat) (code : List In) (bad : Int) (w : World) (h : Par s pb B at' g code bad w) :
    Calls Try.prog 70 #[.pointer (some ⟨pb, 0, none⟩)] w fun e w' => e = .returned (.bool false) ∧ Par s pb B at' g code (at' : Int) w' ∧ Below B w w' := by
  obtain ⟨v, hv⟩ := h.v
  exact (fail_calls s pb B at' g code bad v w hv).mono fun e w' ⟨h1, h2, h3⟩ => ⟨h1, h2.par, gbelow h3 hv.hB hv.size.1⟩
theorem isAt_yes {s : ByteArray} {i : Nat} {c : UInt8} (h : isAt s i c = true) : i < s.size ∧ pkB s i = (c.toNat : Int) := ⟨(isAt_lt h).1, by rw [pk_eq, (isAt_lt h).2]⟩
theorem isAt_no {s : ByteArray} {i : Nat} {c : UInt8} (h : isAt s i c = false) : s.size ≤ i ∨ pkB s i ≠ (c.toNat : Int) := by
  rcases Nat.lt_or_ge i s.size with h1 | h1
  · refine .inr fun h2 => ?_
    have h3 : s[i]! = c := (u8_at c).1 h2
    unfold isAt at h
    rw [decide_eq_true h1, decide_eq_true h3] at h
    cases h
  · exact .inl h1
/-- What a step of the parser leaves: the code of the tree behind the code, or the place of an error. -/
def RPost (s : ByteArray) (pb B g : Nat) (code : List In) (bad : Int) (w : World) (r : PRes) (e : Ending) (w' : World) : Prop :=
  match r with
  | .ok (a, j, h) => e = .returned (.bool true) ∧ Par s pb B j h (code ++ a.gen code.length g) bad w' ∧ Below B w w'
  | .error k => e = .returned (.bool false) ∧ (∃ i2 g2 code2, Par s pb B i2 g2 code2 (k : Int) w') ∧ Below B w w'
structure Cond (s : ByteArray) (i g deep : Nat) (code : List In) : Prop where
  hs : s.size ≤ 1000
  hi : i ≤ s.size
  h0 : 0 < code.length
  hl : code.length ≤ 2 * i + 5
  hm : Sml code
  hd : deep ≤ i
  hg : g ≤ 9
theorem topE_in (deep : Nat) (s : ByteArray) (r : PRes) (h : 0 < deep) : topE deep s r = r := by
  unfold topE
  cases r with
  | error k => rfl
  | ok r =>
    obtain ⟨a, j, g⟩ := r
    simp only []
    rw [if_neg (fun h2 => by omega)]
/-- What regex does with enough fuel. -/
def RegOK (f : Nat) : Prop := ∀ (s : ByteArray) (pb B i g deep : Nat) (code : List In) (bad : Int) (w u : World) (h0 : Below B w u) (h : Par s pb B i g code bad u) (hc : Cond s i g deep code), 4 * (s.size - i) + 4 ≤ f →
    Calls Try.prog 24 #[.pointer (some ⟨pb, 0, none⟩), .int .i64 (deep : Int)] u fun e w' => RPost s pb B g code bad w (topE deep s (regexF f s i g)) e w'
theorem Sml.append {a b : List In} (h : Sml a) (h' : Sml b) : Sml (a ++ b) := fun y hy => by
  rcases List.mem_append.1 hy with h1 | h1
  · exact h y h1
  · exact h' y h1
theorem Sml.one {y : In} (h : 0 ≤ y.x ∧ y.x ≤ 1000000 ∧ 0 ≤ y.y ∧ y.y ≤ 1000000) : Sml [y] := fun z hz => by
  rw [List.mem_singleton] at hz
  subst hz
  exact h
/-- A group, behind its bracket's place. -/
def grpF (f : Nat) (s : ByteArray) (i g : Nat) : PRes :=
  if 9 ≤ g then .error i
  else match regexF f s (i + 1) (g + 1) with
    | .error k => .error k
    | .ok (a, j, h) => if isAt s j 41 then .ok (.grp a, j + 1, h) else .error j

set_option maxRecDepth 20000 in
set_option maxHeartbeats 16000000 in
theorem group_calls (f : Nat) (hreg : RegOK f) (s : ByteArray) (pb B i g deep : Nat) (code : List In) (bad : Int) (w u : World) (h0 : Below B w u) (h : Par s pb B i g code bad u) (hc : Cond s i g deep code) (hlt : i < s.size) (hf : 4 * (s.size - i) ≤ f) :
    Calls Try.prog 71 #[.pointer (some ⟨pb, 0, none⟩), .int .i64 (deep : Int)] u fun e w' => RPost s pb B g code bad w (grpF f s i g) e w' := by
  have HG : Aside (RegOK f) := hreg
  clear hreg
  have HP : Aside (Par s pb B i g code bad u) := h
  have HB : Aside (Below B w u) := h0
  have k1 := hc.hs
  have k2 := hc.hi
  have k3 := hc.h0
  have k4 := hc.hl
  have k5 := hc.hd
  have k6 := hc.hg
  have HM : Aside (Sml code) := hc.hm
  clear h h0 hc
  by_cases hg : 9 ≤ g
  · have hgz : (9 : Int) ≤ (g : Int) := by omega
    have ER : grpF f s i g = .error i := if_pos hg
    rw [ER]
    have cf := fun W (h : Par s pb B i g code bad W) => fail_p s pb B i g code bad W h
    clear ER HG
    go_enter Try.func71, Try.ntmps71
    obtain ⟨v, hv⟩ := HP.out.v
    have h1 := hv.hp
    have lt : pb < u.heap.size := (Array.getElem?_eq_some_iff.1 h1).1
    have HV : Aside (ParV s pb B i g code bad v u) := hv
    rw [holds_self h1]
    clear h1 hv HP
    have hp := HV.out.put i g bad
    have hc1 : ((i : Nat) : Int) = (i : Int) := by omega
    have hc2 : ((g : Nat) : Int) = (g : Int) := by omega
    rw [hc1, hc2] at hp
    have HP' : Aside (Par s pb B i g code bad (holds u pb #[.string s, .int .i64 (i : Int), .int .i64 (g : Int), v, .int .i64 bad] 46)) := hp.par
    have HB' : Aside (Below B w (holds u pb #[.string s, .int .i64 (i : Int), .int .i64 (g : Int), v, .int .i64 bad] 46)) := below_holds HB.out HV.out.hB _ _
    clear hp hc1 hc2 HB HV
    go_wp2_with fail
    clear lt 
    generalize holds u pb #[.string s, .int .i64 (i : Int), .int .i64 (g : Int), v, .int .i64 bad] 46 = q1 at HP' HB' ⊢
    have HP : Aside (Par s pb B i g code bad q1) := HP'.out
    have HB : Aside (Below B w q1) := HB'.out
    clear HP' HB'
    refine (cf _ HP.out).mono ?_
    rintro e q2 ⟨rfl, hp, hb⟩
    have HP' : Aside (Par s pb B i g code (i : Int) q2) := hp
    have HB' : Aside (Below B w q2) := HB.out.trans hb
    clear hp hb HP HB cf
    have HP : Aside (Par s pb B i g code (i : Int) q2) := HP'.out
    have HB : Aside (Below B w q2) := HB'.out
    clear HP' HB'
    go_wp2
    refine bodyPost_ret (v := .bool false) (by simp [results, Try.results71, go_sem, ↓IntWalk.iteOmega, *]) rfl ⟨rfl, ⟨_, _, _, HP.out⟩, HB.out⟩
  have hgz : ¬ (9 : Int) ≤ (g : Int) := by omega
  have hw1 : IntKind.i64.wrap ((i : Int) + 1) = (i : Int) + 1 := by rw [IntKind.wrap_i64]; omega
  have hw2 : IntKind.i64.wrap ((g : Int) + 1) = (g : Int) + 1 := by rw [IntKind.wrap_i64]; omega
  have hw3 : IntKind.i64.wrap (2 * ((g : Int) + 1)) = 2 * ((g : Int) + 1) := by rw [IntKind.wrap_i64]; omega
  have hw4 : IntKind.i64.wrap ((deep : Int) + 1) = (deep : Int) + 1 := by rw [IntKind.wrap_i64]; omega
  have hw5 : IntKind.i64.wrap (2 * ((g : Int) + 1) + 1) = 2 * ((g : Int) + 1) + 1 := by rw [IntKind.wrap_i64]; omega
  have ER : grpF f s i g = match regexF f s (i + 1) (g + 1) with | .error k => .error k | .ok (a, j, h) => if isAt s j 41 then .ok (.grp a, j + 1, h) else .error j := if_neg hg
  have hgood := (good_all f).1 s (i + 1) (g + 1) (by omega)
  have ce := fun W (h : Par s pb B (i + 1) (g + 1) code bad W) => emit_calls s pb B (i + 1) (g + 1) code bad 8 0 ⟨#[]⟩ false (2 * ((g : Int) + 1)) 0 W h (by omega)
  have hsv : (⟨8, 0, ⟨#[]⟩, false, 2 * ((g : Int) + 1), 0⟩ : In) = iSave (2 * (g + 1)) := by unfold iSave; congr 1
  rw [hsv] at ce
  have hcd : Cond s (i + 1) (g + 1) (deep + 1) (code ++ [iSave (2 * (g + 1))]) := ⟨k1, by omega, by simp, by simp; omega, HM.out.append (Sml.one (by simp only [iSave]; omega)), by omega, by omega⟩
  have crg := fun W (h0 : Below B w W) (h : Par s pb B (i + 1) (g + 1) (code ++ [iSave (2 * (g + 1))]) bad W) => HG.out s pb B (i + 1) (g + 1) (deep + 1) _ bad w W h0 h hcd (by omega)
  have hdc : ((deep + 1 : Nat) : Int) = (deep : Int) + 1 := by omega
  rw [hdc, topE_in _ _ _ (by omega)] at crg
  generalize regexF f s (i + 1) (g + 1) = r at ER crg hgood
  clear hsv hcd HG hg hdc HM
  cases r with
  | error k =>
    have ER : grpF f s i g = .error k := ER
    rw [ER]
    clear ER hgood
    go_enter Try.func71, Try.ntmps71
    obtain ⟨v, hv⟩ := HP.out.v
    have h1 := hv.hp
    have lt : pb < u.heap.size := (Array.getElem?_eq_some_iff.1 h1).1
    have HV : Aside (ParV s pb B i g code bad v u) := hv
    rw [holds_self h1]
    clear h1 hv HP
    have hp := HV.out.put (i + 1) (g + 1) bad
    have hc1 : (((i + 1) : Nat) : Int) = ((i : Int) + 1) := by omega
    have hc2 : (((g + 1) : Nat) : Int) = ((g : Int) + 1) := by omega
    rw [hc1, hc2] at hp
    have HP' : Aside (Par s pb B (i + 1) (g + 1) code bad (holds u pb #[.string s, .int .i64 ((i : Int) + 1), .int .i64 ((g : Int) + 1), v, .int .i64 bad] 46)) := hp.par
    have HB' : Aside (Below B w (holds u pb #[.string s, .int .i64 ((i : Int) + 1), .int .i64 ((g : Int) + 1), v, .int .i64 bad] 46)) := below_holds HB.out HV.out.hB _ _
    clear hp hc1 hc2 HB HV
    go_wp2_with fail
    clear lt 
    generalize holds u pb #[.string s, .int .i64 ((i : Int) + 1), .int .i64 ((g : Int) + 1), v, .int .i64 bad] 46 = q3 at HP' HB' ⊢
    have HP : Aside (Par s pb B (i + 1) (g + 1) code bad q3) := HP'.out
    have HB : Aside (Below B w q3) := HB'.out
    clear HP' HB'
    refine (ce _ HP.out).mono ?_
    rintro e q4 ⟨rfl, hp, hb⟩
    have HP' : Aside (Par s pb B (i + 1) (g + 1) (code ++ [iSave (2 * (g + 1))]) bad q4) := hp
    have HB' : Aside (Below B w q4) := HB.out.trans hb
    clear hp hb HP HB ce
    have HP : Aside (Par s pb B (i + 1) (g + 1) (code ++ [iSave (2 * (g + 1))]) bad q4) := HP'.out
    have HB : Aside (Below B w q4) := HB'.out
    clear HP' HB'
    go_wp2_with fail
    refine (crg _ HB.out HP.out).mono ?_
    rintro e w9 ⟨rfl, hp, hb⟩
    have HE : Aside ((∃ i2 g2 code2, Par s pb B i2 g2 code2 (k : Int) w9) ∧ Below B w w9) := ⟨hp, hb⟩
    clear hp hb crg HP HB
    go_wp2
    refine bodyPost_ret (v := .bool false) (by simp [results, Try.results71, go_sem, ↓IntWalk.iteOmega, *]) rfl ⟨rfl, HE.out.1, HE.out.2⟩
  | ok r =>
    obtain ⟨a, j, h⟩ := r
    obtain ⟨a1, a2, a3, a4, a5, a6⟩ := hgood
    have hln : (code ++ [iSave (2 * (g + 1))]).length = code.length + 1 := by simp
    have crg : ∀ W, Below B w W → Par s pb B (i + 1) (g + 1) (code ++ [iSave (2 * (g + 1))]) bad W → Calls Try.prog 24 #[.pointer (some ⟨pb, 0, none⟩), .int .i64 ((deep : Int) + 1)] W fun e w' => e = .returned (.bool true) ∧ Par s pb B j h (code ++ [iSave (2 * (g + 1))] ++ a.gen (code.length + 1) (g + 1)) bad w' ∧ Below B w w' := fun W h1 h2 => by
      have := crg W h1 h2
      unfold RPost at this
      rw [hln] at this
      exact this
    have HLN : Aside ((code ++ [iSave (2 * (g + 1))] ++ a.gen (code.length + 1) (g + 1)).length = code.length + 1 + a.clen) := by
      show _ = _
      rw [List.length_append, hln, Re.gen_len]
    cases hat : isAt s j 41 with
    | false =>
      have ER : grpF f s i g = .error j := by rw [ER]; simp only []; rw [hat]; rfl
      have hno := isAt_no hat
      rw [ER]
      clear ER hat
      go_enter Try.func71, Try.ntmps71
      obtain ⟨v, hv⟩ := HP.out.v
      have h1 := hv.hp
      have lt : pb < u.heap.size := (Array.getElem?_eq_some_iff.1 h1).1
      have HV : Aside (ParV s pb B i g code bad v u) := hv
      rw [holds_self h1]
      clear h1 hv HP
      have hp := HV.out.put (i + 1) (g + 1) bad
      have hc1 : (((i + 1) : Nat) : Int) = ((i : Int) + 1) := by omega
      have hc2 : (((g + 1) : Nat) : Int) = ((g : Int) + 1) := by omega
      rw [hc1, hc2] at hp
      have HP' : Aside (Par s pb B (i + 1) (g + 1) code bad (holds u pb #[.string s, .int .i64 ((i : Int) + 1), .int .i64 ((g : Int) + 1), v, .int .i64 bad] 46)) := hp.par
      have HB' : Aside (Below B w (holds u pb #[.string s, .int .i64 ((i : Int) + 1), .int .i64 ((g : Int) + 1), v, .int .i64 bad] 46)) := below_holds HB.out HV.out.hB _ _
      clear hp hc1 hc2 HB HV
      go_wp2_with fail
      clear lt 
      generalize holds u pb #[.string s, .int .i64 ((i : Int) + 1), .int .i64 ((g : Int) + 1), v, .int .i64 bad] 46 = q5 at HP' HB' ⊢
      have HP : Aside (Par s pb B (i + 1) (g + 1) code bad q5) := HP'.out
      have HB : Aside (Below B w q5) := HB'.out
      clear HP' HB'
      refine (ce _ HP.out).mono ?_
      rintro e q6 ⟨rfl, hp, hb⟩
      have HP' : Aside (Par s pb B (i + 1) (g + 1) (code ++ [iSave (2 * (g + 1))]) bad q6) := hp
      have HB' : Aside (Below B w q6) := HB.out.trans hb
      clear hp hb HP HB ce
      have HP : Aside (Par s pb B (i + 1) (g + 1) (code ++ [iSave (2 * (g + 1))]) bad q6) := HP'.out
      have HB : Aside (Below B w q6) := HB'.out
      clear HP' HB'
      go_wp2_with fail
      refine (crg _ HB.out HP.out).mono ?_
      rintro e q7 ⟨rfl, hp, hb⟩
      clear HP HB
      have HP : Aside (Par s pb B j h (code ++ [iSave (2 * (g + 1))] ++ a.gen (code.length + 1) (g + 1)) bad q7) := hp
      have HB : Aside (Below B w q7) := hb
      clear hp hb crg
      go_wp2_with fail
      refine (next_no s pb B j h (code ++ [iSave (2 * (g + 1))] ++ a.gen (code.length + 1) (g + 1)) bad 41 _ HP.out hno).mono ?_
      rintro e q8 ⟨rfl, hb⟩
      have HP' : Aside (Par s pb B j h (code ++ [iSave (2 * (g + 1))] ++ a.gen (code.length + 1) (g + 1)) bad q8) := HP.out.later hb
      have HB' : Aside (Below B w q8) := HB.out.trans (hb.mono HP.out.size.2)
      clear hb HP HB hno
      have HP : Aside (Par s pb B j h (code ++ [iSave (2 * (g + 1))] ++ a.gen (code.length + 1) (g + 1)) bad q8) := HP'.out
      have HB : Aside (Below B w q8) := HB'.out
      clear HP' HB'
      go_wp2_with fail
      refine (fail_p s pb B j h (code ++ [iSave (2 * (g + 1))] ++ a.gen (code.length + 1) (g + 1)) bad _ HP.out).mono ?_
      rintro e q9 ⟨rfl, hp, hb⟩
      have HP' : Aside (Par s pb B j h (code ++ [iSave (2 * (g + 1))] ++ a.gen (code.length + 1) (g + 1)) (j : Int) q9) := hp
      have HB' : Aside (Below B w q9) := HB.out.trans hb
      clear hp hb HP HB 
      have HP : Aside (Par s pb B j h (code ++ [iSave (2 * (g + 1))] ++ a.gen (code.length + 1) (g + 1)) (j : Int) q9) := HP'.out
      have HB : Aside (Below B w q9) := HB'.out
      clear HP' HB'
      go_wp2
      refine bodyPost_ret (v := .bool false) (by simp [results, Try.results71, go_sem, ↓IntWalk.iteOmega, *]) rfl ⟨rfl, ⟨_, _, _, HP.out⟩, HB.out⟩
    | true =>
      have ER : grpF f s i g = .ok (.grp a, j + 1, h) := by rw [ER]; simp only []; rw [hat]; rfl
      obtain ⟨hjl, hpk⟩ := isAt_yes hat
      rw [ER]
      have hsv : (⟨8, 0, ⟨#[]⟩, false, 2 * ((g : Int) + 1) + 1, 0⟩ : In) = iSave (2 * (g + 1) + 1) := by unfold iSave; congr 1
      have EG : Aside ((code ++ [iSave (2 * (g + 1))] ++ a.gen (code.length + 1) (g + 1)) ++ [iSave (2 * (g + 1) + 1)] = code ++ (Re.grp a).gen code.length g) := by
        show _ = _
        simp [Re.gen]
      have ce2 := fun W (h9 : Par s pb B (j + 1) h (code ++ [iSave (2 * (g + 1))] ++ a.gen (code.length + 1) (g + 1)) bad W) => emit_calls s pb B (j + 1) h (code ++ [iSave (2 * (g + 1))] ++ a.gen (code.length + 1) (g + 1)) bad 8 0 ⟨#[]⟩ false (2 * ((g : Int) + 1) + 1) 0 W h9 (by rw [HLN.out]; omega)
      rw [hsv, EG.out] at ce2
      clear ER hat hsv
      go_enter Try.func71, Try.ntmps71
      obtain ⟨v, hv⟩ := HP.out.v
      have h1 := hv.hp
      have lt : pb < u.heap.size := (Array.getElem?_eq_some_iff.1 h1).1
      have HV : Aside (ParV s pb B i g code bad v u) := hv
      rw [holds_self h1]
      clear h1 hv HP
      have hp := HV.out.put (i + 1) (g + 1) bad
      have hc1 : (((i + 1) : Nat) : Int) = ((i : Int) + 1) := by omega
      have hc2 : (((g + 1) : Nat) : Int) = ((g : Int) + 1) := by omega
      rw [hc1, hc2] at hp
      have HP' : Aside (Par s pb B (i + 1) (g + 1) code bad (holds u pb #[.string s, .int .i64 ((i : Int) + 1), .int .i64 ((g : Int) + 1), v, .int .i64 bad] 46)) := hp.par
      have HB' : Aside (Below B w (holds u pb #[.string s, .int .i64 ((i : Int) + 1), .int .i64 ((g : Int) + 1), v, .int .i64 bad] 46)) := below_holds HB.out HV.out.hB _ _
      clear hp hc1 hc2 HB HV
      go_wp2_with fail
      clear lt 
      generalize holds u pb #[.string s, .int .i64 ((i : Int) + 1), .int .i64 ((g : Int) + 1), v, .int .i64 bad] 46 = q10 at HP' HB' ⊢
      have HP : Aside (Par s pb B (i + 1) (g + 1) code bad q10) := HP'.out
      have HB : Aside (Below B w q10) := HB'.out
      clear HP' HB'
      refine (ce _ HP.out).mono ?_
      rintro e q11 ⟨rfl, hp, hb⟩
      have HP' : Aside (Par s pb B (i + 1) (g + 1) (code ++ [iSave (2 * (g + 1))]) bad q11) := hp
      have HB' : Aside (Below B w q11) := HB.out.trans hb
      clear hp hb HP HB ce
      have HP : Aside (Par s pb B (i + 1) (g + 1) (code ++ [iSave (2 * (g + 1))]) bad q11) := HP'.out
      have HB : Aside (Below B w q11) := HB'.out
      clear HP' HB'
      go_wp2_with fail
      refine (crg _ HB.out HP.out).mono ?_
      rintro e q12 ⟨rfl, hp, hb⟩
      clear HP HB
      have HP : Aside (Par s pb B j h (code ++ [iSave (2 * (g + 1))] ++ a.gen (code.length + 1) (g + 1)) bad q12) := hp
      have HB : Aside (Below B w q12) := hb
      clear hp hb crg
      go_wp2_with fail
      refine (next_p s pb B j h (code ++ [iSave (2 * (g + 1))] ++ a.gen (code.length + 1) (g + 1)) bad 41 _ HP.out (by omega) hjl hpk).mono ?_
      rintro e q13 ⟨rfl, hp, hb⟩
      have HP' : Aside (Par s pb B (j + 1) h (code ++ [iSave (2 * (g + 1))] ++ a.gen (code.length + 1) (g + 1)) bad q13) := hp
      have HB' : Aside (Below B w q13) := HB.out.trans hb
      clear hp hb HP HB hpk
      have HP : Aside (Par s pb B (j + 1) h (code ++ [iSave (2 * (g + 1))] ++ a.gen (code.length + 1) (g + 1)) bad q13) := HP'.out
      have HB : Aside (Below B w q13) := HB'.out
      clear HP' HB'
      go_wp2_with fail
      refine (ce2 _ HP.out).mono ?_
      rintro e q14 ⟨rfl, hp, hb⟩
      have HP' : Aside (Par s pb B (j + 1) h (code ++ (Re.grp a).gen code.length g) bad q14) := hp
      have HB' : Aside (Below B w q14) := HB.out.trans hb
      clear hp hb HP HB ce2 EG
      have HP : Aside (Par s pb B (j + 1) h (code ++ (Re.grp a).gen code.length g) bad q14) := HP'.out
      have HB : Aside (Below B w q14) := HB'.out
      clear HP' HB'
      go_wp2
      refine bodyPost_ret (v := .bool true) (by simp [results, Try.results71, go_sem, ↓IntWalk.iteOmega, *]) rfl ⟨rfl, HP.out, HB.out⟩

end Go.Proofs.Ytfhccmegobbnaaa
