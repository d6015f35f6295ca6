/- This text proves the walk of atom of the reference, given that of regex. Conditions: those that each theorem names. -/
import Derived.Test.YtfhccmegobbnaaaRegexCD
import Derived.Test.YtfhccmegobbnaaaRegexH
namespace Go.Proofs.Ytfhccmegobbnaaa
open Go.ChangeShapes Go.WideShapes Go.ChangeAt Go.RowKit
set_option linter.unusedVariables false
set_option linter.unusedSimpArgs false

/-- What the state says of a reading. -/
def Says (r : PRes) (code : List In) (g : Nat) (code2 : List In) (i2 g2 : Nat) (bad2 : Bool) : Prop :=
  match r with
  | .ok (a, j, h) => code2 = code ++ a.gen code.length g ∧ i2 = j ∧ g2 = h ∧ bad2 = false
  | .error k => i2 = k ∧ bad2 = true
/-- What a step of the reference's parser leaves. -/
def RPr (w0 : World) (code : List In) (la : Option Addr) (n lc g : Nat) (W : World) (r : PRes) (e : Ending) (W' : World) : Prop :=
  ∃ la2 lc2 n2 code2 i2 g2 bad2, e = .returned (.agg #[.slice la2 n2 lc2, .int .i64 ((i2 : Nat) : Int), .int .i64 ((g2 : Nat) : Int), .bool bad2]) ∧ PS w0 code2 la2 n2 lc2 W' ∧ Kp (.slice la n lc) (.slice la2 n2 lc2) W W' ∧ n ≤ n2 ∧ Says r code g code2 i2 g2 bad2
/-- What regex of the reference does with enough fuel. -/
def RRegOK (f : Nat) : Prop := ∀ (w0 : World) (code : List In) (la : Option Addr) (n lc i g : Nat) (s : ByteArray) (W : World) (h : PS w0 code la n lc W) (hc : Cond s i g 0 code), 4 * (s.size - i) + 4 ≤ f →
    Calls Try.prog 30 #[.string s, .agg #[.slice la n lc, .int .i64 (i : Int), .int .i64 (g : Int), .bool false]] W (RPr w0 code la n lc g W (regexF f s i g))
theorem spec_or {c : UInt8} (h : specF c = true) : c = 40 ∨ c = 41 ∨ c = 124 ∨ c = 42 ∨ c = 43 ∨ c = 63 ∨ c = 46 ∨ c = 94 ∨ c = 36 ∨ c = 91 ∨ c = 92 := by
  unfold specF at h
  simp only [Bool.or_eq_true, beq_iff_eq] at h
  simp only [or_assoc] at h
  exact h
theorem Says.bad {r : PRes} {code code2 : List In} {g i2 g2 : Nat} (h : Says r code g code2 i2 g2 true) : r = .error i2 := by
  unfold Says at h
  split at h
  · cases h.2.2.2
  · rw [h.1]
theorem Says.good {r : PRes} {code code2 : List In} {g i2 g2 : Nat} (h : Says r code g code2 i2 g2 false) : ∃ a, r = .ok (a, i2, g2) ∧ code2 = code ++ a.gen code.length g := by
  unfold Says at h
  split at h
  · obtain ⟨h1, rfl, rfl, -⟩ := h
    exact ⟨_, rfl, h1⟩
  · cases h.2

set_option maxRecDepth 20000 in
set_option maxHeartbeats 64000000 in
theorem ratom_calls (f : Nat) (hreg : RRegOK f) (w0 : World) (code : List In) (la : Option Addr) (n lc i g : Nat) (s : ByteArray) (W : World) (h : PS w0 code la n lc W) (hc : Cond s i g 0 code) (hlt : i < s.size) (h124 : s[i]! ≠ 124) (hf : 4 * (s.size - i) + 1 ≤ f + 1) :
    Calls Try.prog 69 #[.string s, .agg #[.slice la n lc, .int .i64 (i : Int), .int .i64 (g : Int), .bool false]] W (RPr w0 code la n lc g W (atomF (f + 1) s i g)) := by
  have HH : Aside (PS w0 code la n lc W) := h
  obtain ⟨R, hR⟩ : ∃ R, atomF (f + 1) s i g = R := ⟨_, rfl⟩
  rw [hR]
  have HR : Aside (atomF (f + 1) s i g = R) := hR
  obtain ⟨Q, hQ⟩ : ∃ Q : Ending → World → Prop, RPr w0 code la n lc g W R = Q := ⟨_, rfl⟩
  rw [hQ]
  have HQ : Aside (∀ (la2 : Option Addr) (lc2 n2 : Nat) (code2 : List In) (i2 g2 : Nat) (bad2 : Bool) (W' : World), PS w0 code2 la2 n2 lc2 W' → Kp (.slice la n lc) (.slice la2 n2 lc2) W W' → n ≤ n2 → Says R code g code2 i2 g2 bad2 → Q (.returned (.agg #[.slice la2 n2 lc2, .int .i64 (i2 : Int), .int .i64 (g2 : Int), .bool bad2])) W') := fun la2 lc2 n2 code2 i2 g2 bad2 W' h1 h2 h3 h4 => by rw [← hQ]; exact ⟨la2, lc2, n2, code2, i2, g2, bad2, rfl, h1, h2, h3, h4⟩
  have k1 := hc.hs
  have k2 := hc.hi
  have k3 := hc.h0
  have k4 := hc.hl
  have k6 := hc.hg
  have HM : Aside (Sml code) := hc.hm
  have HL : Aside (code.length = n) := h.len
  rw [h.len] at k3 k4
  clear hQ h hc hR
  have HREG : Aside (RRegOK f) := hreg
  clear hreg
  have c41 : (((41 : UInt8).toNat : Nat) : Int) = 41 := rfl
  have hiz : (i : Int) < (s.size : Int) := by omega
  obtain ⟨ip, hip⟩ : ∃ x, i + 1 = x := ⟨_, rfl⟩
  have wi : IntKind.i64.wrap ((i : Int) + 1) = (ip : Int) := by rw [IntKind.wrap_i64]; omega
  obtain ⟨y, hy⟩ : ∃ y, s[i] = y := ⟨_, rfl⟩
  have hyb : s[i]! = y := by rw [getElem!_pos s i hlt, hy]
  by_cases y40 : y = 40
  · have e40 : ((y.toNat : Int) == 40) = true := by rw [y40]; rfl
    have GR : Aside (grpF f s i g = R) := by
      show _ = _
      rw [← HR.out, atom_grp (hyb.trans y40)]
    clear y40 hyb h124 HR
    by_cases hg9 : 9 ≤ g
    · have d1 : decide ((9 : Int) ≤ (g : Int)) = true := decide_eq_true (by omega)
      have d2 : (9 : Int) ≤ (g : Int) := by omega
      have d3 : decide (9 ≤ g) = true := decide_eq_true hg9
      have ER : Aside (R = .error i) := by
        show _ = _
        rw [← GR.out]
        unfold grpF
        rw [if_pos hg9]
      clear hg9 GR
      go_enter Try.func69, Try.ntmps69
      go_wp2
      refine bodyPost_ret (v := .agg #[.slice la n lc, .int .i64 (i : Int), .int .i64 (g : Int), .bool true]) (by simp [results, Try.results69, go_sem, ↓IntWalk.iteOmega, *]) rfl ?_
      have hbl : Below W.heap.size W ((W.alloc (.cells #[.slice la n lc, .int .i64 (i : Int), .int .i64 (g : Int), .bool true] 58)).alloc (.cells #[.slice la n lc, .int .i64 (i : Int), .int .i64 (g : Int), .bool true] 58)) := Below.alloc (Below.alloc (Below.refl _ _) (Nat.le_refl _) _) (by simp) _
      exact HQ.out _ _ _ _ _ _ _ _ (HH.out.later hbl) (Kp.of_below hbl) (Nat.le_refl _) (by rw [ER.out]; exact ⟨rfl, rfl⟩)
    have d1 : decide ((9 : Int) ≤ (g : Int)) = false := decide_eq_false (by omega)
    have d2 : ¬ (9 : Int) ≤ (g : Int) := by omega
    have d3 : decide (9 ≤ g) = false := decide_eq_false hg9
    obtain ⟨gp, hgp⟩ : ∃ x, g + 1 = x := ⟨_, rfl⟩
    have wg : IntKind.i64.wrap ((g : Int) + 1) = (gp : Int) := by rw [IntKind.wrap_i64]; omega
    obtain ⟨k2g, hk2g⟩ : ∃ x, 2 * gp = x := ⟨_, rfl⟩
    have w2g : IntKind.i64.wrap (2 * (gp : Int)) = (k2g : Int) := by rw [IntKind.wrap_i64]; omega
    obtain ⟨k3g, hk3g⟩ : ∃ x, k2g + 1 = x := ⟨_, rfl⟩
    have w3g : IntKind.i64.wrap ((k2g : Int) + 1) = (k3g : Int) := by rw [IntKind.wrap_i64]; omega
    have GR2 : Aside ((match regexF f s ip gp with
      | .error k => (.error k : PRes)
      | .ok (a, j, h) => if isAt s j 41 then .ok (.grp a, j + 1, h) else .error j) = R) := by
      show _ = _
      rw [← GR.out]
      unfold grpF
      rw [if_neg hg9, hip, hgp]
      cases regexF f s ip gp <;> rfl
    clear hg9 GR
    have V0 : Aside (((W.alloc (.cells #[.slice la n lc, .int .i64 (ip : Int), .int .i64 (gp : Int), .bool false] 58)).alloc (.cells #[.slice none 0 0, .int .i64 0, .int .i64 0, .bool false] 58)).heap[W.heap.size]? = some (.cells #[.slice la n lc, .int .i64 (ip : Int), .int .i64 (gp : Int), .bool false] 58 (0, 0))) := hp_old (hp_new rfl)
    have V1 : Aside (((W.alloc (.cells #[.slice la n lc, .int .i64 (ip : Int), .int .i64 (gp : Int), .bool false] 58)).alloc (.cells #[.slice none 0 0, .int .i64 0, .int .i64 0, .bool false] 58)).heap[(W.heap.size + 1)]? = some (.cells #[.slice none 0 0, .int .i64 0, .int .i64 0, .bool false] 58 (0, 0))) := hp_new (by simp)
    have VB9 : Below W.heap.size W ((W.alloc (.cells #[.slice la n lc, .int .i64 (ip : Int), .int .i64 (gp : Int), .bool false] 58)).alloc (.cells #[.slice none 0 0, .int .i64 0, .int .i64 0, .bool false] 58)) := Below.alloc (Below.alloc (Below.refl _ _) (Nat.le_refl _) _) (by simp) _
    have VP : Aside (PS w0 code la n lc ((W.alloc (.cells #[.slice la n lc, .int .i64 (ip : Int), .int .i64 (gp : Int), .bool false] 58)).alloc (.cells #[.slice none 0 0, .int .i64 0, .int .i64 0, .bool false] 58))) := HH.out.later VB9
    have VK : Aside (Kp (.slice la n lc) (.slice la n lc) W ((W.alloc (.cells #[.slice la n lc, .int .i64 (ip : Int), .int .i64 (gp : Int), .bool false] 58)).alloc (.cells #[.slice none 0 0, .int .i64 0, .int .i64 0, .bool false] 58))) := Kp.of_below VB9
    clear VB9
    have cq := remit_calls w0 code la n lc ip gp false 8 0 ⟨#[]⟩ false (k2g : Int) 0 ((W.alloc (.cells #[.slice la n lc, .int .i64 (ip : Int), .int .i64 (gp : Int), .bool false] 58)).alloc (.cells #[.slice none 0 0, .int .i64 0, .int .i64 0, .bool false] 58)) VP.out (by omega)
    go_enter Try.func69, Try.ntmps69
    go_wp2_with fail
    refine cq.mono ?_
    rintro e w1 ⟨la1, lc1, rfl, hp, hk⟩
    obtain ⟨n1, hn1⟩ : ∃ x, n + 1 = x := ⟨_, rfl⟩
    obtain ⟨code1, hcode1⟩ : ∃ x, code ++ [⟨8, 0, ⟨#[]⟩, false, (k2g : Int), 0⟩] = x := ⟨_, rfl⟩
    rw [hn1, hcode1] at hp
    rw [hn1] at hk ⊢
    have Ecode1 : Aside (code ++ [⟨8, 0, ⟨#[]⟩, false, (k2g : Int), 0⟩] = code1) := hcode1
    clear hcode1
    have U0 := hk.type VP.out V0.out (by decide)
    have U1 := hk.type VP.out V1.out (by decide)
    have UP := hp
    have UK := VK.out.trans hk
    clear V0 V1 VP VK hp hk
    have H0 : Aside (w1.heap[W.heap.size]? = some (.cells #[.slice la n lc, .int .i64 (ip : Int), .int .i64 (gp : Int), .bool false] 58 (0, 0))) := U0
    have H1 : Aside (w1.heap[(W.heap.size + 1)]? = some (.cells #[.slice none 0 0, .int .i64 0, .int .i64 0, .bool false] 58 (0, 0))) := U1
    have HP : Aside (PS w0 code1 la1 n1 lc1 w1) := UP
    have HK : Aside (Kp (.slice la n lc) (.slice la1 n1 lc1) W w1) := UK
    clear U0 U1 UP UK
    clear cq
    have V0 : Aside (w1.heap[W.heap.size]? = some (.cells #[.slice la n lc, .int .i64 (ip : Int), .int .i64 (gp : Int), .bool false] 58 (0, 0))) := H0.out
    have V1 : Aside (w1.heap[(W.heap.size + 1)]? = some (.cells #[.slice none 0 0, .int .i64 0, .int .i64 0, .bool false] 58 (0, 0))) := H1.out
    have VP : Aside (PS w0 code1 la1 n1 lc1 w1) := HP.out
    have VK : Aside (Kp (.slice la n lc) (.slice la1 n1 lc1) W w1) := HK.out
    have cq := HREG.out w0 code1 la1 n1 lc1 ip gp s w1 VP.out ⟨k1, by omega, by rw [VP.out.len]; omega, by rw [VP.out.len]; omega, by rw [← Ecode1.out]; exact HM.out.append (Sml.one ⟨by show (0 : Int) ≤ (k2g : Int); omega, by show (k2g : Int) ≤ 1000000; omega, by show (0 : Int) ≤ 0; omega, by show (0 : Int) ≤ 1000000; omega⟩), by omega, by omega⟩ (by omega)
    go_wp2_with fail
    refine cq.mono ?_
    rintro e w2 ⟨la2, lc2, n2, code2, j, h2, bad2, rfl, hp, hk, hnn, hsy⟩
    have HSY : Aside (Says (regexF f s ip gp) code1 gp code2 j h2 bad2) := hsy
    clear hsy
    have U0 := hk.type VP.out V0.out (by decide)
    have U1 := hk.type VP.out V1.out (by decide)
    have UP := hp
    have UK := VK.out.trans hk
    clear V0 V1 VP VK hp hk H0 H1 HP HK
    have H0 : Aside (w2.heap[W.heap.size]? = some (.cells #[.slice la n lc, .int .i64 (ip : Int), .int .i64 (gp : Int), .bool false] 58 (0, 0))) := U0
    have H1 : Aside (w2.heap[(W.heap.size + 1)]? = some (.cells #[.slice none 0 0, .int .i64 0, .int .i64 0, .bool false] 58 (0, 0))) := U1
    have HP : Aside (PS w0 code2 la2 n2 lc2 w2) := UP
    have HK : Aside (Kp (.slice la n lc) (.slice la2 n2 lc2) W w2) := UK
    clear U0 U1 UP UK
    clear cq
    have l0 : W.heap.size < w2.heap.size := (Array.getElem?_eq_some_iff.1 H0.out).1
    have V0 : Aside ((holds w2 W.heap.size #[.slice la2 n2 lc2, .int .i64 (j : Int), .int .i64 (h2 : Int), .bool bad2] 58).heap[W.heap.size]? = some (.cells #[.slice la2 n2 lc2, .int .i64 (j : Int), .int .i64 (h2 : Int), .bool bad2] 58 (0, 0))) := hh_eq l0
    have V1 : Aside ((holds w2 W.heap.size #[.slice la2 n2 lc2, .int .i64 (j : Int), .int .i64 (h2 : Int), .bool bad2] 58).heap[(W.heap.size + 1)]? = some (.cells #[.slice none 0 0, .int .i64 0, .int .i64 0, .bool false] 58 (0, 0))) := hh_ne (by omega) H1.out
    have VP : Aside (PS w0 code2 la2 n2 lc2 (holds w2 W.heap.size #[.slice la2 n2 lc2, .int .i64 (j : Int), .int .i64 (h2 : Int), .bool bad2] 58)) := HP.out.other H0.out (by have := HH.out.hb.size; omega) (by decide)
    have VK : Aside (Kp (.slice la n lc) (.slice la2 n2 lc2) W (holds w2 W.heap.size #[.slice la2 n2 lc2, .int .i64 (j : Int), .int .i64 (h2 : Int), .bool bad2] 58)) := HK.out.other (by omega) _ _
    have cq := ris_calls s la2 n2 lc2 j h2 bad2 41 (holds w2 W.heap.size #[.slice la2 n2 lc2, .int .i64 (j : Int), .int .i64 (h2 : Int), .bool bad2] 58) (by omega)
    rw [c41] at cq
    rw [holds_self H0.out]
    go_wp2_with fail
    refine cq.mono ?_
    rintro e w3 ⟨rfl, hb⟩
    have U0 := heap_later V0.out hb
    have U1 := heap_later V1.out hb
    have UP := VP.out.later hb
    have UK := VK.out.trans (Kp.of_below hb)
    clear V0 V1 VP VK hb H0 H1 HP HK l0
    have H0 : Aside (w3.heap[W.heap.size]? = some (.cells #[.slice la2 n2 lc2, .int .i64 (j : Int), .int .i64 (h2 : Int), .bool bad2] 58 (0, 0))) := U0
    have H1 : Aside (w3.heap[(W.heap.size + 1)]? = some (.cells #[.slice none 0 0, .int .i64 0, .int .i64 0, .bool false] 58 (0, 0))) := U1
    have HP : Aside (PS w0 code2 la2 n2 lc2 w3) := UP
    have HK : Aside (Kp (.slice la n lc) (.slice la2 n2 lc2) W w3) := UK
    clear U0 U1 UP UK
    clear cq
    cases bad2 with
    | true =>
      have ER : Aside (R = .error j) := by
        show _ = _
        rw [← GR2.out, HSY.out.bad]
      have eF : isF s j true 41 = false := rfl
      rw [eF]
      clear eF GR2 HSY
      have l0 : W.heap.size < w3.heap.size := (Array.getElem?_eq_some_iff.1 H0.out).1
      have l1 : (W.heap.size + 1) < w3.heap.size := (Array.getElem?_eq_some_iff.1 H1.out).1
      rw [holds_add (holds_self H0.out) H1.out]
      go_wp2
      refine bodyPost_ret (v := .agg #[.slice la2 n2 lc2, .int .i64 (j : Int), .int .i64 (h2 : Int), .bool true]) (by simp [results, Try.results69, go_sem, ↓IntWalk.iteOmega, *]) rfl ?_
      exact HQ.out _ _ _ _ _ _ _ _ ((HP.out.other H0.out (by have := HH.out.hb.size; omega) (by decide)).other (hh_ne (by omega) H1.out) (by have := HH.out.hb.size; omega) (by decide)) ((HK.out.other (by omega) _ _).other (by omega) _ _) (by omega) (by rw [ER.out]; exact ⟨rfl, rfl⟩)
    | false =>
    obtain ⟨a, hra, hca⟩ := HSY.out.good
    have hgood := (good_all f).1 s ip gp (by omega)
    rw [hra] at hgood
    obtain ⟨aok, -, hjs, -, hal, -⟩ := hgood
    have HRA : Aside (regexF f s ip gp = .ok (a, j, h2)) := hra
    have HCA : Aside (code2 = code1 ++ a.gen code1.length gp) := hca
    clear hra hca HSY
    have eF : isF s j false 41 = isAt s j 41 := by unfold isF; rfl
    rw [eF]
    clear eF
    cases hat : isAt s j 41 with
    | false =>
      have ER : Aside (R = .error j) := by
        show _ = _
        rw [← GR2.out, HRA.out]
        simp only []
        rw [hat]
        rfl
      clear GR2 HRA hat
      have l0 : W.heap.size < w3.heap.size := (Array.getElem?_eq_some_iff.1 H0.out).1
      have l1 : (W.heap.size + 1) < w3.heap.size := (Array.getElem?_eq_some_iff.1 H1.out).1
      rw [holds_add (holds_self H0.out) H1.out]
      go_wp2
      refine bodyPost_ret (v := .agg #[.slice la2 n2 lc2, .int .i64 (j : Int), .int .i64 (h2 : Int), .bool true]) (by simp [results, Try.results69, go_sem, ↓IntWalk.iteOmega, *]) rfl ?_
      exact HQ.out _ _ _ _ _ _ _ _ ((HP.out.other H0.out (by have := HH.out.hb.size; omega) (by decide)).other (hh_ne (by omega) H1.out) (by have := HH.out.hb.size; omega) (by decide)) ((HK.out.other (by omega) _ _).other (by omega) _ _) (by omega) (by rw [ER.out]; exact ⟨rfl, rfl⟩)
    | true =>
    obtain ⟨jp, hjp⟩ : ∃ x, j + 1 = x := ⟨_, rfl⟩
    have hj9 := (isAt_lt hat).1
    have EO : Aside (R = .ok (.grp a, jp, h2)) := by
      show _ = _
      rw [← GR2.out, HRA.out]
      simp only []
      rw [hat, hjp]
      rfl
    have wj : IntKind.i64.wrap ((j : Int) + 1) = (jp : Int) := by rw [IntKind.wrap_i64]; omega
    have hn2 : n2 ≤ 90000 := by
      have h1 := HP.out.len
      rw [HCA.out, List.length_append, Re.gen_len, ← Ecode1.out, List.length_append, HL.out] at h1
      simp only [List.length_cons, List.length_nil] at h1
      omega
    clear GR2 HRA hat
    have V0 : Aside (w3.heap[W.heap.size]? = some (.cells #[.slice la2 n2 lc2, .int .i64 (j : Int), .int .i64 (h2 : Int), .bool false] 58 (0, 0))) := H0.out
    have V1 : Aside (w3.heap[(W.heap.size + 1)]? = some (.cells #[.slice none 0 0, .int .i64 0, .int .i64 0, .bool false] 58 (0, 0))) := H1.out
    have VP : Aside (PS w0 code2 la2 n2 lc2 w3) := HP.out
    have VK : Aside (Kp (.slice la n lc) (.slice la2 n2 lc2) W w3) := HK.out
    have cq := remit_calls w0 code2 la2 n2 lc2 j h2 false 8 0 ⟨#[]⟩ false (k3g : Int) 0 w3 VP.out (by omega)
    have c00 := cell_heap H0.out 0 _ rfl
    have c01 := cell_heap H0.out 1 _ rfl
    have c02 := cell_heap H0.out 2 _ rfl
    have c03 := cell_heap H0.out 3 _ rfl
    go_wp2_with fail
    refine cq.mono ?_
    rintro e w4 ⟨la4, lc4, rfl, hp, hk⟩
    obtain ⟨n4, hn4⟩ : ∃ x, n2 + 1 = x := ⟨_, rfl⟩
    obtain ⟨code4, hcode4⟩ : ∃ x, code2 ++ [⟨8, 0, ⟨#[]⟩, false, (k3g : Int), 0⟩] = x := ⟨_, rfl⟩
    rw [hn4, hcode4] at hp
    rw [hn4] at hk ⊢
    have Ecode4 : Aside (code2 ++ [⟨8, 0, ⟨#[]⟩, false, (k3g : Int), 0⟩] = code4) := hcode4
    clear hcode4
    have U0 := hk.type VP.out V0.out (by decide)
    have U1 := hk.type VP.out V1.out (by decide)
    have UP := hp
    have UK := VK.out.trans hk
    clear V0 V1 VP VK hp hk H0 H1 HP HK c00 c01 c02 c03
    have H0 : Aside (w4.heap[W.heap.size]? = some (.cells #[.slice la2 n2 lc2, .int .i64 (j : Int), .int .i64 (h2 : Int), .bool false] 58 (0, 0))) := U0
    have H1 : Aside (w4.heap[(W.heap.size + 1)]? = some (.cells #[.slice none 0 0, .int .i64 0, .int .i64 0, .bool false] 58 (0, 0))) := U1
    have HP : Aside (PS w0 code4 la4 n4 lc4 w4) := UP
    have HK : Aside (Kp (.slice la n lc) (.slice la4 n4 lc4) W w4) := UK
    clear U0 U1 UP UK
    clear cq
    have l0 : W.heap.size < w4.heap.size := (Array.getElem?_eq_some_iff.1 H0.out).1
    have l1 : (W.heap.size + 1) < w4.heap.size := (Array.getElem?_eq_some_iff.1 H1.out).1
    rw [holds_add (holds_self H0.out) H1.out]
    go_wp2
    refine bodyPost_ret (v := .agg #[.slice la4 n4 lc4, .int .i64 (jp : Int), .int .i64 (h2 : Int), .bool false]) (by simp [results, Try.results69, go_sem, ↓IntWalk.iteOmega, *]) rfl ?_
    exact HQ.out _ _ _ _ _ _ _ _ ((HP.out.other H0.out (by have := HH.out.hb.size; omega) (by decide)).other (hh_ne (by omega) H1.out) (by have := HH.out.hb.size; omega) (by decide)) ((HK.out.other (by omega) _ _).other (by omega) _ _) (by omega) (by
      rw [EO.out]
      refine ⟨?_, rfl, rfl, rfl⟩
      rw [← Ecode4.out, HCA.out, ← Ecode1.out, List.length_append, HL.out]
      show _ = code ++ (iSave (2 * (g + 1)) :: (a.gen (n + 1) (g + 1) ++ [iSave (2 * (g + 1) + 1)]))
      rw [hgp, hk2g, hk3g]
      simp [iSave])
  have e40 : ((y.toNat : Int) == 40) = false := by rw [beq_eq_false_iff_ne]; exact fun h => y40 ((u8_at 40).1 h)
  by_cases y46 : y = 46
  · have e46 : ((y.toNat : Int) == 46) = true := by rw [y46]; rfl
    have EO : Aside (R = .ok (.leaf (iOp 2), ip, g)) := by
      show _ = _
      rw [← HR.out, atom_op (by rw [hyb, y46]; exact ⟨by decide, by decide⟩), hyb, y46, ← hip]
      rfl
    clear HR hyb h124 y46 y40
    have V0 : Aside (((W.alloc (.cells #[.slice la n lc, .int .i64 (i : Int), .int .i64 (g : Int), .bool false] 58)).alloc (.cells #[.slice none 0 0, .int .i64 0, .int .i64 0, .bool false] 58)).heap[W.heap.size]? = some (.cells #[.slice la n lc, .int .i64 (i : Int), .int .i64 (g : Int), .bool false] 58 (0, 0))) := hp_old (hp_new rfl)
    have V1 : Aside (((W.alloc (.cells #[.slice la n lc, .int .i64 (i : Int), .int .i64 (g : Int), .bool false] 58)).alloc (.cells #[.slice none 0 0, .int .i64 0, .int .i64 0, .bool false] 58)).heap[(W.heap.size + 1)]? = some (.cells #[.slice none 0 0, .int .i64 0, .int .i64 0, .bool false] 58 (0, 0))) := hp_new (by simp)
    have VB9 : Below W.heap.size W ((W.alloc (.cells #[.slice la n lc, .int .i64 (i : Int), .int .i64 (g : Int), .bool false] 58)).alloc (.cells #[.slice none 0 0, .int .i64 0, .int .i64 0, .bool false] 58)) := Below.alloc (Below.alloc (Below.refl _ _) (Nat.le_refl _) _) (by simp) _
    have VP : Aside (PS w0 code la n lc ((W.alloc (.cells #[.slice la n lc, .int .i64 (i : Int), .int .i64 (g : Int), .bool false] 58)).alloc (.cells #[.slice none 0 0, .int .i64 0, .int .i64 0, .bool false] 58))) := HH.out.later VB9
    have VK : Aside (Kp (.slice la n lc) (.slice la n lc) W ((W.alloc (.cells #[.slice la n lc, .int .i64 (i : Int), .int .i64 (g : Int), .bool false] 58)).alloc (.cells #[.slice none 0 0, .int .i64 0, .int .i64 0, .bool false] 58))) := Kp.of_below VB9
    clear VB9
    have cq := remit_calls w0 code la n lc i g false 2 0 ⟨#[]⟩ false 0 0 ((W.alloc (.cells #[.slice la n lc, .int .i64 (i : Int), .int .i64 (g : Int), .bool false] 58)).alloc (.cells #[.slice none 0 0, .int .i64 0, .int .i64 0, .bool false] 58)) VP.out (by omega)
    go_enter Try.func69, Try.ntmps69
    go_wp2_with fail
    refine cq.mono ?_
    rintro e w1 ⟨la1, lc1, rfl, hp, hk⟩
    obtain ⟨n1, hn1⟩ : ∃ x, n + 1 = x := ⟨_, rfl⟩
    obtain ⟨code1, hcode1⟩ : ∃ x, code ++ [⟨2, 0, ⟨#[]⟩, false, 0, 0⟩] = x := ⟨_, rfl⟩
    rw [hn1, hcode1] at hp
    rw [hn1] at hk ⊢
    have Ecode1 : Aside (code ++ [⟨2, 0, ⟨#[]⟩, false, 0, 0⟩] = code1) := hcode1
    clear hcode1
    have U0 := hk.type VP.out V0.out (by decide)
    have U1 := hk.type VP.out V1.out (by decide)
    have UP := hp
    have UK := VK.out.trans hk
    clear V0 V1 VP VK hp hk
    have H0 : Aside (w1.heap[W.heap.size]? = some (.cells #[.slice la n lc, .int .i64 (i : Int), .int .i64 (g : Int), .bool false] 58 (0, 0))) := U0
    have H1 : Aside (w1.heap[(W.heap.size + 1)]? = some (.cells #[.slice none 0 0, .int .i64 0, .int .i64 0, .bool false] 58 (0, 0))) := U1
    have HP : Aside (PS w0 code1 la1 n1 lc1 w1) := UP
    have HK : Aside (Kp (.slice la n lc) (.slice la1 n1 lc1) W w1) := UK
    clear U0 U1 UP UK
    clear cq
    have l0 : W.heap.size < w1.heap.size := (Array.getElem?_eq_some_iff.1 H0.out).1
    have l1 : (W.heap.size + 1) < w1.heap.size := (Array.getElem?_eq_some_iff.1 H1.out).1
    rw [holds_add (holds_self H0.out) H1.out]
    go_wp2
    refine bodyPost_ret (v := .agg #[.slice la1 n1 lc1, .int .i64 (ip : Int), .int .i64 (g : Int), .bool false]) (by simp [results, Try.results69, go_sem, ↓IntWalk.iteOmega, *]) rfl ?_
    exact HQ.out _ _ _ _ _ _ _ _ ((HP.out.other H0.out (by have := HH.out.hb.size; omega) (by decide)).other (hh_ne (by omega) H1.out) (by have := HH.out.hb.size; omega) (by decide)) ((HK.out.other (by omega) _ _).other (by omega) _ _) (by omega) (by rw [EO.out]; exact ⟨Ecode1.out.symm, rfl, rfl, rfl⟩)
  have e46 : ((y.toNat : Int) == 46) = false := by rw [beq_eq_false_iff_ne]; exact fun h => y46 ((u8_at 46).1 h)
  by_cases y94 : y = 94
  · have e94 : ((y.toNat : Int) == 94) = true := by rw [y94]; rfl
    have EO : Aside (R = .ok (.leaf (iOp 4), ip, g)) := by
      show _ = _
      rw [← HR.out, atom_op (by rw [hyb, y94]; exact ⟨by decide, by decide⟩), hyb, y94, ← hip]
      rfl
    clear HR hyb h124 y94 y40 y46
    have V0 : Aside (((W.alloc (.cells #[.slice la n lc, .int .i64 (i : Int), .int .i64 (g : Int), .bool false] 58)).alloc (.cells #[.slice none 0 0, .int .i64 0, .int .i64 0, .bool false] 58)).heap[W.heap.size]? = some (.cells #[.slice la n lc, .int .i64 (i : Int), .int .i64 (g : Int), .bool false] 58 (0, 0))) := hp_old (hp_new rfl)
    have V1 : Aside (((W.alloc (.cells #[.slice la n lc, .int .i64 (i : Int), .int .i64 (g : Int), .bool false] 58)).alloc (.cells #[.slice none 0 0, .int .i64 0, .int .i64 0, .bool false] 58)).heap[(W.heap.size + 1)]? = some (.cells #[.slice none 0 0, .int .i64 0, .int .i64 0, .bool false] 58 (0, 0))) := hp_new (by simp)
    have VB9 : Below W.heap.size W ((W.alloc (.cells #[.slice la n lc, .int .i64 (i : Int), .int .i64 (g : Int), .bool false] 58)).alloc (.cells #[.slice none 0 0, .int .i64 0, .int .i64 0, .bool false] 58)) := Below.alloc (Below.alloc (Below.refl _ _) (Nat.le_refl _) _) (by simp) _
    have VP : Aside (PS w0 code la n lc ((W.alloc (.cells #[.slice la n lc, .int .i64 (i : Int), .int .i64 (g : Int), .bool false] 58)).alloc (.cells #[.slice none 0 0, .int .i64 0, .int .i64 0, .bool false] 58))) := HH.out.later VB9
    have VK : Aside (Kp (.slice la n lc) (.slice la n lc) W ((W.alloc (.cells #[.slice la n lc, .int .i64 (i : Int), .int .i64 (g : Int), .bool false] 58)).alloc (.cells #[.slice none 0 0, .int .i64 0, .int .i64 0, .bool false] 58))) := Kp.of_below VB9
    clear VB9
    have cq := remit_calls w0 code la n lc i g false 4 0 ⟨#[]⟩ false 0 0 ((W.alloc (.cells #[.slice la n lc, .int .i64 (i : Int), .int .i64 (g : Int), .bool false] 58)).alloc (.cells #[.slice none 0 0, .int .i64 0, .int .i64 0, .bool false] 58)) VP.out (by omega)
    go_enter Try.func69, Try.ntmps69
    go_wp2_with fail
    refine cq.mono ?_
    rintro e w1 ⟨la1, lc1, rfl, hp, hk⟩
    obtain ⟨n1, hn1⟩ : ∃ x, n + 1 = x := ⟨_, rfl⟩
    obtain ⟨code1, hcode1⟩ : ∃ x, code ++ [⟨4, 0, ⟨#[]⟩, false, 0, 0⟩] = x := ⟨_, rfl⟩
    rw [hn1, hcode1] at hp
    rw [hn1] at hk ⊢
    have Ecode1 : Aside (code ++ [⟨4, 0, ⟨#[]⟩, false, 0, 0⟩] = code1) := hcode1
    clear hcode1
    have U0 := hk.type VP.out V0.out (by decide)
    have U1 := hk.type VP.out V1.out (by decide)
    have UP := hp
    have UK := VK.out.trans hk
    clear V0 V1 VP VK hp hk
    have H0 : Aside (w1.heap[W.heap.size]? = some (.cells #[.slice la n lc, .int .i64 (i : Int), .int .i64 (g : Int), .bool false] 58 (0, 0))) := U0
    have H1 : Aside (w1.heap[(W.heap.size + 1)]? = some (.cells #[.slice none 0 0, .int .i64 0, .int .i64 0, .bool false] 58 (0, 0))) := U1
    have HP : Aside (PS w0 code1 la1 n1 lc1 w1) := UP
    have HK : Aside (Kp (.slice la n lc) (.slice la1 n1 lc1) W w1) := UK
    clear U0 U1 UP UK
    clear cq
    have l0 : W.heap.size < w1.heap.size := (Array.getElem?_eq_some_iff.1 H0.out).1
    have l1 : (W.heap.size + 1) < w1.heap.size := (Array.getElem?_eq_some_iff.1 H1.out).1
    rw [holds_add (holds_self H0.out) H1.out]
    go_wp2
    refine bodyPost_ret (v := .agg #[.slice la1 n1 lc1, .int .i64 (ip : Int), .int .i64 (g : Int), .bool false]) (by simp [results, Try.results69, go_sem, ↓IntWalk.iteOmega, *]) rfl ?_
    exact HQ.out _ _ _ _ _ _ _ _ ((HP.out.other H0.out (by have := HH.out.hb.size; omega) (by decide)).other (hh_ne (by omega) H1.out) (by have := HH.out.hb.size; omega) (by decide)) ((HK.out.other (by omega) _ _).other (by omega) _ _) (by omega) (by rw [EO.out]; exact ⟨Ecode1.out.symm, rfl, rfl, rfl⟩)
  have e94 : ((y.toNat : Int) == 94) = false := by rw [beq_eq_false_iff_ne]; exact fun h => y94 ((u8_at 94).1 h)
  by_cases y36 : y = 36
  · have e36 : ((y.toNat : Int) == 36) = true := by rw [y36]; rfl
    have EO : Aside (R = .ok (.leaf (iOp 5), ip, g)) := by
      show _ = _
      rw [← HR.out, atom_op (by rw [hyb, y36]; exact ⟨by decide, by decide⟩), hyb, y36, ← hip]
      rfl
    clear HR hyb h124 y36 y40 y46 y94
    have V0 : Aside (((W.alloc (.cells #[.slice la n lc, .int .i64 (i : Int), .int .i64 (g : Int), .bool false] 58)).alloc (.cells #[.slice none 0 0, .int .i64 0, .int .i64 0, .bool false] 58)).heap[W.heap.size]? = some (.cells #[.slice la n lc, .int .i64 (i : Int), .int .i64 (g : Int), .bool false] 58 (0, 0))) := hp_old (hp_new rfl)
    have V1 : Aside (((W.alloc (.cells #[.slice la n lc, .int .i64 (i : Int), .int .i64 (g : Int), .bool false] 58)).alloc (.cells #[.slice none 0 0, .int .i64 0, .int .i64 0, .bool false] 58)).heap[(W.heap.size + 1)]? = some (.cells #[.slice none 0 0, .int .i64 0, .int .i64 0, .bool false] 58 (0, 0))) := hp_new (by simp)
    have VB9 : Below W.heap.size W ((W.alloc (.cells #[.slice la n lc, .int .i64 (i : Int), .int .i64 (g : Int), .bool false] 58)).alloc (.cells #[.slice none 0 0, .int .i64 0, .int .i64 0, .bool false] 58)) := Below.alloc (Below.alloc (Below.refl _ _) (Nat.le_refl _) _) (by simp) _
    have VP : Aside (PS w0 code la n lc ((W.alloc (.cells #[.slice la n lc, .int .i64 (i : Int), .int .i64 (g : Int), .bool false] 58)).alloc (.cells #[.slice none 0 0, .int .i64 0, .int .i64 0, .bool false] 58))) := HH.out.later VB9
    have VK : Aside (Kp (.slice la n lc) (.slice la n lc) W ((W.alloc (.cells #[.slice la n lc, .int .i64 (i : Int), .int .i64 (g : Int), .bool false] 58)).alloc (.cells #[.slice none 0 0, .int .i64 0, .int .i64 0, .bool false] 58))) := Kp.of_below VB9
    clear VB9
    have cq := remit_calls w0 code la n lc i g false 5 0 ⟨#[]⟩ false 0 0 ((W.alloc (.cells #[.slice la n lc, .int .i64 (i : Int), .int .i64 (g : Int), .bool false] 58)).alloc (.cells #[.slice none 0 0, .int .i64 0, .int .i64 0, .bool false] 58)) VP.out (by omega)
    go_enter Try.func69, Try.ntmps69
    go_wp2_with fail
    refine cq.mono ?_
    rintro e w1 ⟨la1, lc1, rfl, hp, hk⟩
    obtain ⟨n1, hn1⟩ : ∃ x, n + 1 = x := ⟨_, rfl⟩
    obtain ⟨code1, hcode1⟩ : ∃ x, code ++ [⟨5, 0, ⟨#[]⟩, false, 0, 0⟩] = x := ⟨_, rfl⟩
    rw [hn1, hcode1] at hp
    rw [hn1] at hk ⊢
    have Ecode1 : Aside (code ++ [⟨5, 0, ⟨#[]⟩, false, 0, 0⟩] = code1) := hcode1
    clear hcode1
    have U0 := hk.type VP.out V0.out (by decide)
    have U1 := hk.type VP.out V1.out (by decide)
    have UP := hp
    have UK := VK.out.trans hk
    clear V0 V1 VP VK hp hk
    have H0 : Aside (w1.heap[W.heap.size]? = some (.cells #[.slice la n lc, .int .i64 (i : Int), .int .i64 (g : Int), .bool false] 58 (0, 0))) := U0
    have H1 : Aside (w1.heap[(W.heap.size + 1)]? = some (.cells #[.slice none 0 0, .int .i64 0, .int .i64 0, .bool false] 58 (0, 0))) := U1
    have HP : Aside (PS w0 code1 la1 n1 lc1 w1) := UP
    have HK : Aside (Kp (.slice la n lc) (.slice la1 n1 lc1) W w1) := UK
    clear U0 U1 UP UK
    clear cq
    have l0 : W.heap.size < w1.heap.size := (Array.getElem?_eq_some_iff.1 H0.out).1
    have l1 : (W.heap.size + 1) < w1.heap.size := (Array.getElem?_eq_some_iff.1 H1.out).1
    rw [holds_add (holds_self H0.out) H1.out]
    go_wp2
    refine bodyPost_ret (v := .agg #[.slice la1 n1 lc1, .int .i64 (ip : Int), .int .i64 (g : Int), .bool false]) (by simp [results, Try.results69, go_sem, ↓IntWalk.iteOmega, *]) rfl ?_
    exact HQ.out _ _ _ _ _ _ _ _ ((HP.out.other H0.out (by have := HH.out.hb.size; omega) (by decide)).other (hh_ne (by omega) H1.out) (by have := HH.out.hb.size; omega) (by decide)) ((HK.out.other (by omega) _ _).other (by omega) _ _) (by omega) (by rw [EO.out]; exact ⟨Ecode1.out.symm, rfl, rfl, rfl⟩)
  have e36 : ((y.toNat : Int) == 36) = false := by rw [beq_eq_false_iff_ne]; exact fun h => y36 ((u8_at 36).1 h)
  by_cases y91 : y = 91
  · have e91 : ((y.toNat : Int) == 91) = true := by rw [y91]; rfl
    have EC : Aside (R = (match classF s (i + 1) with | .error k => (.error k : PRes) | .ok (x, j) => .ok (.leaf x, j, g))) := by
      show _ = _
      rw [← HR.out, atom_op (by rw [hyb, y91]; exact ⟨by decide, by decide⟩), hyb, y91]
      cases classF s (i + 1) <;> rfl
    clear HR hyb h124 y91 y40 y46 y94 y36
    have V0 : Aside (((W.alloc (.cells #[.slice la n lc, .int .i64 (i : Int), .int .i64 (g : Int), .bool false] 58)).alloc (.cells #[.slice none 0 0, .int .i64 0, .int .i64 0, .bool false] 58)).heap[W.heap.size]? = some (.cells #[.slice la n lc, .int .i64 (i : Int), .int .i64 (g : Int), .bool false] 58 (0, 0))) := hp_old (hp_new rfl)
    have V1 : Aside (((W.alloc (.cells #[.slice la n lc, .int .i64 (i : Int), .int .i64 (g : Int), .bool false] 58)).alloc (.cells #[.slice none 0 0, .int .i64 0, .int .i64 0, .bool false] 58)).heap[(W.heap.size + 1)]? = some (.cells #[.slice none 0 0, .int .i64 0, .int .i64 0, .bool false] 58 (0, 0))) := hp_new (by simp)
    have VB9 : Below W.heap.size W ((W.alloc (.cells #[.slice la n lc, .int .i64 (i : Int), .int .i64 (g : Int), .bool false] 58)).alloc (.cells #[.slice none 0 0, .int .i64 0, .int .i64 0, .bool false] 58)) := Below.alloc (Below.alloc (Below.refl _ _) (Nat.le_refl _) _) (by simp) _
    have VP : Aside (PS w0 code la n lc ((W.alloc (.cells #[.slice la n lc, .int .i64 (i : Int), .int .i64 (g : Int), .bool false] 58)).alloc (.cells #[.slice none 0 0, .int .i64 0, .int .i64 0, .bool false] 58))) := HH.out.later VB9
    have VK : Aside (Kp (.slice la n lc) (.slice la n lc) W ((W.alloc (.cells #[.slice la n lc, .int .i64 (i : Int), .int .i64 (g : Int), .bool false] 58)).alloc (.cells #[.slice none 0 0, .int .i64 0, .int .i64 0, .bool false] 58))) := Kp.of_below VB9
    clear VB9
    have cq := rclass_calls w0 code la n lc i g s ((W.alloc (.cells #[.slice la n lc, .int .i64 (i : Int), .int .i64 (g : Int), .bool false] 58)).alloc (.cells #[.slice none 0 0, .int .i64 0, .int .i64 0, .bool false] 58)) VP.out (by omega) (by omega) hlt
    go_enter Try.func69, Try.ntmps69
    go_wp2_with fail
    refine cq.mono ?_
    rintro e w1 ⟨la1, lc1, n1, code1, j, bad1, rfl, hp, hk, hm⟩
    have HMM : Aside (match classF s (i + 1) with | .ok (x, j1) => code1 = code ++ [x] ∧ j = j1 ∧ bad1 = false | .error k => code1 = code ∧ j = k ∧ bad1 = true) := by
      show match classF s (i + 1) with | .ok (x, j1) => code1 = code ++ [x] ∧ j = j1 ∧ bad1 = false | .error k => code1 = code ∧ j = k ∧ bad1 = true
      cases hcf : classF s (i + 1) with
      | error k => rw [hcf] at hm; exact hm
      | ok r => rw [hcf] at hm; exact hm
    clear hm
    have U0 := hk.type VP.out V0.out (by decide)
    have U1 := hk.type VP.out V1.out (by decide)
    have UP := hp
    have UK := VK.out.trans hk
    clear V0 V1 VP VK hp hk
    have H0 : Aside (w1.heap[W.heap.size]? = some (.cells #[.slice la n lc, .int .i64 (i : Int), .int .i64 (g : Int), .bool false] 58 (0, 0))) := U0
    have H1 : Aside (w1.heap[(W.heap.size + 1)]? = some (.cells #[.slice none 0 0, .int .i64 0, .int .i64 0, .bool false] 58 (0, 0))) := U1
    have HP : Aside (PS w0 code1 la1 n1 lc1 w1) := UP
    have HK : Aside (Kp (.slice la n lc) (.slice la1 n1 lc1) W w1) := UK
    clear U0 U1 UP UK
    clear cq
    have l1 : (W.heap.size + 1) < w1.heap.size := (Array.getElem?_eq_some_iff.1 H1.out).1
    have hnn : n ≤ n1 := by
      have h1 := HP.out.len
      have h2 := HMM.out
      cases hcf : classF s (i + 1) with
      | ok r =>
        rw [hcf] at h2
        rw [h2.1, List.length_append, HL.out] at h1
        omega
      | error k =>
        rw [hcf] at h2
        rw [h2.1, HL.out] at h1
        omega
    have SY : Aside (Says R code g code1 j g bad1) := by
      have h2 := HMM.out
      show Says R code g code1 j g bad1
      rw [EC.out]
      cases hcf : classF s (i + 1) with
      | error k =>
        rw [hcf] at h2
        exact ⟨h2.2.1, h2.2.2⟩
      | ok r =>
        obtain ⟨x, j1⟩ := r
        rw [hcf] at h2
        exact ⟨h2.1, h2.2.1, rfl, h2.2.2⟩
    clear EC HMM
    rw [holds_self H1.out]
    go_wp2
    refine bodyPost_ret (v := .agg #[.slice la1 n1 lc1, .int .i64 (j : Int), .int .i64 (g : Int), .bool bad1]) (by simp [results, Try.results69, go_sem, ↓IntWalk.iteOmega, *]) rfl ?_
    exact HQ.out _ _ _ _ _ _ _ _ (HP.out.other H1.out (by have := HH.out.hb.size; omega) (by decide)) (HK.out.other (by omega) _ _) hnn SY.out
  have e91 : ((y.toNat : Int) == 91) = false := by rw [beq_eq_false_iff_ne]; exact fun h => y91 ((u8_at 91).1 h)
  have ySP : specF y = true → y ≠ 92 → (y = 41 ∨ y = 42 ∨ y = 43 ∨ y = 63) := fun h h9 => by
    have h1 := spec_or h
    have h2 : y ≠ 124 := fun e => h124 (hyb.trans e)
    rcases h1 with h1 | h1 | h1 | h1 | h1 | h1 | h1 | h1 | h1 | h1 | h1
    · exact absurd h1 y40
    · exact .inl h1
    · exact absurd h1 h2
    · exact .inr (.inl h1)
    · exact .inr (.inr (.inl h1))
    · exact .inr (.inr (.inr h1))
    · exact absurd h1 y46
    · exact absurd h1 y94
    · exact absurd h1 y36
    · exact absurd h1 y91
    · exact absurd h1 h9
  have yPL : specF y = false → ¬ (y = 41 ∨ y = 42 ∨ y = 43 ∨ y = 63) := fun h h1 => by
    rcases h1 with h1 | h1 | h1 | h1 <;> (rw [h1] at h; cases h)
  obtain ⟨sp, hsp⟩ : ∃ b, specF y = b := ⟨_, rfl⟩
  have PL : Aside (specF y = true ∧ y ≠ 92 → R = .error i) := fun h => by
    rw [← HR.out]
    exact atom_bad (by rw [hyb]; exact y40) (by rw [hyb]; exact ySP h.1 h.2)
  obtain ⟨j, cb, b, hcr⟩ : ∃ j cb b, charR s i = (j, cb, b) := ⟨_, _, _, rfl⟩
  have RR : Aside (¬ (specF y = true ∧ y ≠ 92) → R = if cb = true then (.error j : PRes) else .ok (.leaf (iChar b), j, g)) := fun h => by
    have h1 : Plain s[i]! := by
      rw [hyb]
      refine ⟨y40, fun h2 => ?_⟩
      cases hs : specF y with
      | true =>
        have h9 : y = 92 := Classical.byContradiction fun h9 => h ⟨hs, h9⟩
        rw [h9] at h2
        exact absurd h2 (by decide)
      | false => exact yPL hs h2
    rw [← HR.out, atom_op h1, hyb, if_neg y46, if_neg y94, if_neg y36, if_neg y91]
    unfold charR at hcr
    rw [hyb] at hcr
    by_cases h9 : y = 92
    · rw [if_neg (fun h => h h9)] at hcr
      rw [if_pos h9]
      unfold escF
      by_cases he : i + 1 = s.size
      · rw [if_pos he] at hcr
        simp only [Prod.mk.injEq] at hcr
        obtain ⟨rfl, rfl, rfl⟩ := hcr
        rw [if_neg (by omega)]
        rfl
      · rw [if_neg he] at hcr
        simp only [Prod.mk.injEq] at hcr
        obtain ⟨rfl, rfl, rfl⟩ := hcr
        rw [if_pos (by omega)]
        rfl
    · rw [if_pos h9] at hcr
      simp only [Prod.mk.injEq] at hcr
      obtain ⟨rfl, rfl, rfl⟩ := hcr
      rw [if_neg h9, hip]
      rfl
  rw [hsp] at PL RR
  have CHR : Aside (charR s i = (j, cb, b)) := hcr
  have Y92 : Aside (y = 92 → specF y = true) := fun h => by rw [h]; rfl
  rw [hsp] at Y92
  have HSP : Aside (specF y = sp) := hsp
  have e92 : ((y.toNat : Int) != 92) = !decide (y = 92) := by
    by_cases h : y = 92
    · rw [h]; rfl
    · have hx : ((y.toNat : Int) != 92) = true := by rw [bne_iff_ne]; exact fun e => h ((u8_at 92).1 e)
      rw [decide_eq_false h, hx]
      rfl
  obtain ⟨n92, hn92⟩ : ∃ b, (!decide (y = 92)) = b := ⟨_, rfl⟩
  rw [hn92] at e92
  have N92 : Aside ((!decide (y = 92)) = n92) := hn92
  clear ySP yPL hsp hcr hn92 HR hyb h124 y40 y46 y94 y36 y91
  have V0 : Aside (((W.alloc (.cells #[.slice la n lc, .int .i64 (i : Int), .int .i64 (g : Int), .bool false] 58)).alloc (.cells #[.slice none 0 0, .int .i64 0, .int .i64 0, .bool false] 58)).heap[W.heap.size]? = some (.cells #[.slice la n lc, .int .i64 (i : Int), .int .i64 (g : Int), .bool false] 58 (0, 0))) := hp_old (hp_new rfl)
  have V1 : Aside (((W.alloc (.cells #[.slice la n lc, .int .i64 (i : Int), .int .i64 (g : Int), .bool false] 58)).alloc (.cells #[.slice none 0 0, .int .i64 0, .int .i64 0, .bool false] 58)).heap[(W.heap.size + 1)]? = some (.cells #[.slice none 0 0, .int .i64 0, .int .i64 0, .bool false] 58 (0, 0))) := hp_new (by simp)
  have VB9 : Below W.heap.size W ((W.alloc (.cells #[.slice la n lc, .int .i64 (i : Int), .int .i64 (g : Int), .bool false] 58)).alloc (.cells #[.slice none 0 0, .int .i64 0, .int .i64 0, .bool false] 58)) := Below.alloc (Below.alloc (Below.refl _ _) (Nat.le_refl _) _) (by simp) _
  have VP : Aside (PS w0 code la n lc ((W.alloc (.cells #[.slice la n lc, .int .i64 (i : Int), .int .i64 (g : Int), .bool false] 58)).alloc (.cells #[.slice none 0 0, .int .i64 0, .int .i64 0, .bool false] 58))) := HH.out.later VB9
  have VK : Aside (Kp (.slice la n lc) (.slice la n lc) W ((W.alloc (.cells #[.slice la n lc, .int .i64 (i : Int), .int .i64 (g : Int), .bool false] 58)).alloc (.cells #[.slice none 0 0, .int .i64 0, .int .i64 0, .bool false] 58))) := Kp.of_below VB9
  clear VB9
  have cq := rspecial_calls y ((W.alloc (.cells #[.slice la n lc, .int .i64 (i : Int), .int .i64 (g : Int), .bool false] 58)).alloc (.cells #[.slice none 0 0, .int .i64 0, .int .i64 0, .bool false] 58))
  go_enter Try.func69, Try.ntmps69
  go_wp2_with fail
  refine cq.mono ?_
  rintro e w1 ⟨rfl, hb⟩
  have U0 := heap_later V0.out hb
  have U1 := heap_later V1.out hb
  have UP := VP.out.later hb
  have UK := VK.out.trans (Kp.of_below hb)
  clear V0 V1 VP VK hb
  have H0 : Aside (w1.heap[W.heap.size]? = some (.cells #[.slice la n lc, .int .i64 (i : Int), .int .i64 (g : Int), .bool false] 58 (0, 0))) := U0
  have H1 : Aside (w1.heap[(W.heap.size + 1)]? = some (.cells #[.slice none 0 0, .int .i64 0, .int .i64 0, .bool false] 58 (0, 0))) := U1
  have HP : Aside (PS w0 code la n lc w1) := UP
  have HK : Aside (Kp (.slice la n lc) (.slice la n lc) W w1) := UK
  clear U0 U1 UP UK
  clear cq
  rw [HSP.out]
  have BAD : Aside ((sp && n92) = true → R = .error i) := fun h => by
    rw [Bool.and_eq_true] at h
    refine PL.out ⟨h.1, fun e => ?_⟩
    have h2 := N92.out
    rw [decide_eq_true e, h.2] at h2
    cases h2
  have GOOD : Aside ((sp && n92) = false → R = if cb = true then (.error j : PRes) else .ok (.leaf (iChar b), j, g)) := fun h => by
    refine RR.out (fun h2 => ?_)
    have h3 := N92.out
    rw [decide_eq_false h2.2] at h3
    rw [h2.1, ← h3] at h
    cases h
  clear PL RR Y92 HSP N92
  obtain ⟨sn, hsn⟩ : ∃ x, (sp && n92) = x := ⟨_, rfl⟩
  rw [hsn] at BAD GOOD
  cases sn with
  | true =>
    have ER : Aside (R = .error i) := BAD.out rfl
    obtain ⟨rfl, rfl⟩ : sp = true ∧ n92 = true := by rw [Bool.and_eq_true] at hsn; exact hsn
    clear BAD GOOD hsn CHR
    have l0 : W.heap.size < w1.heap.size := (Array.getElem?_eq_some_iff.1 H0.out).1
    have l1 : (W.heap.size + 1) < w1.heap.size := (Array.getElem?_eq_some_iff.1 H1.out).1
    rw [holds_add (holds_self H0.out) H1.out]
    go_wp2
    refine bodyPost_ret (v := .agg #[.slice la n lc, .int .i64 (i : Int), .int .i64 (g : Int), .bool true]) (by simp [results, Try.results69, go_sem, ↓IntWalk.iteOmega, *]) rfl ?_
    exact HQ.out _ _ _ _ _ _ _ _ ((HP.out.other H0.out (by have := HH.out.hb.size; omega) (by decide)).other (hh_ne (by omega) H1.out) (by have := HH.out.hb.size; omega) (by decide)) ((HK.out.other (by omega) _ _).other (by omega) _ _) (by omega) (by rw [ER.out]; exact ⟨rfl, rfl⟩)
  | false =>
    have RG := GOOD.out rfl
    have RGA : Aside (R = if cb = true then (.error j : PRes) else .ok (.leaf (iChar b), j, g)) := RG
    clear BAD GOOD RG
    cases sp with
    | true =>
      obtain rfl : n92 = false := hsn
      have V0 : Aside (w1.heap[W.heap.size]? = some (.cells #[.slice la n lc, .int .i64 (i : Int), .int .i64 (g : Int), .bool false] 58 (0, 0))) := H0.out
      have V1 : Aside (w1.heap[(W.heap.size + 1)]? = some (.cells #[.slice none 0 0, .int .i64 0, .int .i64 0, .bool false] 58 (0, 0))) := H1.out
      have VP : Aside (PS w0 code la n lc w1) := HP.out
      have VK : Aside (Kp (.slice la n lc) (.slice la n lc) W w1) := HK.out
      have cq := rchar_calls s la n lc i g w1 (by omega) hlt
      rw [CHR.out] at cq
      simp only [] at cq
      have c00 := cell_heap H0.out 0 _ rfl
      have c01 := cell_heap H0.out 1 _ rfl
      have c02 := cell_heap H0.out 2 _ rfl
      have c03 := cell_heap H0.out 3 _ rfl
      go_wp2_with fail
      refine cq.mono ?_
      rintro e w2 ⟨rfl, hb⟩
      have U0 := heap_later V0.out hb
      have U1 := heap_later V1.out hb
      have UP := VP.out.later hb
      have UK := VK.out.trans (Kp.of_below hb)
      clear V0 V1 VP VK hb H0 H1 HP HK c00 c01 c02 c03
      have H0 : Aside (w2.heap[W.heap.size]? = some (.cells #[.slice la n lc, .int .i64 (i : Int), .int .i64 (g : Int), .bool false] 58 (0, 0))) := U0
      have H1 : Aside (w2.heap[(W.heap.size + 1)]? = some (.cells #[.slice none 0 0, .int .i64 0, .int .i64 0, .bool false] 58 (0, 0))) := U1
      have HP : Aside (PS w0 code la n lc w2) := UP
      have HK : Aside (Kp (.slice la n lc) (.slice la n lc) W w2) := UK
      clear U0 U1 UP UK
      clear cq CHR
      have l1 : (W.heap.size + 1) < w2.heap.size := (Array.getElem?_eq_some_iff.1 H1.out).1
      cases cb with
      | true =>
        have ER : Aside (R = .error j) := by show _ = _; rw [RGA.out, if_pos rfl]
        clear RGA
        rw [holds_self H1.out]
        go_wp2
        refine bodyPost_ret (v := .agg #[.slice la n lc, .int .i64 (j : Int), .int .i64 (g : Int), .bool true]) (by simp [results, Try.results69, go_sem, ↓IntWalk.iteOmega, *]) rfl ?_
        exact HQ.out _ _ _ _ _ _ _ _ ((HP.out.other H1.out (by have := HH.out.hb.size; omega) (by decide)).later (Below.alloc (Below.refl _ _) (Nat.le_refl _) _)) ((HK.out.other (by omega) _ _).trans (Kp.of_below (Below.alloc (Below.refl _ _) (Nat.le_refl _) _))) (Nat.le_refl _) (by rw [ER.out]; exact ⟨rfl, rfl⟩)
      | false =>
        have EO : Aside (R = .ok (.leaf (iChar b), j, g)) := by show _ = _; rw [RGA.out, if_neg (by simp)]
        clear RGA
        have BA : Aside (Below w2.heap.size w2 (w2.alloc (.cells #[.slice la n lc, .int .i64 (j : Int), .int .i64 (g : Int), .bool false] 58))) := Below.alloc (Below.refl _ _) (Nat.le_refl _) _
        have VP : Aside (PS w0 code la n lc (w2.alloc (.cells #[.slice la n lc, .int .i64 (j : Int), .int .i64 (g : Int), .bool false] 58))) := HP.out.later BA.out
        have VK := HK.out.trans (Kp.of_below BA.out)
        have V1 : Aside ((w2.alloc (.cells #[.slice la n lc, .int .i64 (j : Int), .int .i64 (g : Int), .bool false] 58)).heap[(W.heap.size + 1)]? = some (.cells #[.slice none 0 0, .int .i64 0, .int .i64 0, .bool false] 58 (0, 0))) := hp_old H1.out
        have cq := remit_calls w0 code la n lc j g false 1 (b.toNat : Int) ⟨#[]⟩ false 0 0 _ VP.out (by omega)
        go_wp2_with fail
        refine cq.mono ?_
        rintro e w3 ⟨la1, lc1, rfl, hp, hk⟩
        have U1 : Aside (w3.heap[(W.heap.size + 1)]? = some (.cells #[.slice none 0 0, .int .i64 0, .int .i64 0, .bool false] 58 (0, 0))) := hk.type VP.out V1.out (by decide)
        have UP : Aside (PS w0 (code ++ [iChar b]) la1 (n + 1) lc1 w3) := hp
        have UK : Aside (Kp (.slice la n lc) (.slice la1 (n + 1) lc1) W w3) := VK.trans hk
        have l3 : (W.heap.size + 1) < w3.heap.size := (Array.getElem?_eq_some_iff.1 U1.out).1
        clear hp hk VK VP V1 cq BA
        rw [holds_self U1.out]
        go_wp2
        refine bodyPost_ret (v := .agg #[.slice la1 (n + 1) lc1, .int .i64 (j : Int), .int .i64 (g : Int), .bool false]) (by simp [results, Try.results69, go_sem, ↓IntWalk.iteOmega, *]) rfl ?_
        exact HQ.out _ _ _ _ _ _ _ _ (UP.out.other U1.out (by have := HH.out.hb.size; omega) (by decide)) (UK.out.other (by omega) _ _) (by omega) (by rw [EO.out]; exact ⟨rfl, rfl, rfl, rfl⟩)
    | false =>
      clear hsn
      have V0 : Aside (w1.heap[W.heap.size]? = some (.cells #[.slice la n lc, .int .i64 (i : Int), .int .i64 (g : Int), .bool false] 58 (0, 0))) := H0.out
      have V1 : Aside (w1.heap[(W.heap.size + 1)]? = some (.cells #[.slice none 0 0, .int .i64 0, .int .i64 0, .bool false] 58 (0, 0))) := H1.out
      have VP : Aside (PS w0 code la n lc w1) := HP.out
      have VK : Aside (Kp (.slice la n lc) (.slice la n lc) W w1) := HK.out
      have cq := rchar_calls s la n lc i g w1 (by omega) hlt
      rw [CHR.out] at cq
      simp only [] at cq
      have c00 := cell_heap H0.out 0 _ rfl
      have c01 := cell_heap H0.out 1 _ rfl
      have c02 := cell_heap H0.out 2 _ rfl
      have c03 := cell_heap H0.out 3 _ rfl
      go_wp2_with fail
      refine cq.mono ?_
      rintro e w2 ⟨rfl, hb⟩
      have U0 := heap_later V0.out hb
      have U1 := heap_later V1.out hb
      have UP := VP.out.later hb
      have UK := VK.out.trans (Kp.of_below hb)
      clear V0 V1 VP VK hb H0 H1 HP HK c00 c01 c02 c03
      have H0 : Aside (w2.heap[W.heap.size]? = some (.cells #[.slice la n lc, .int .i64 (i : Int), .int .i64 (g : Int), .bool false] 58 (0, 0))) := U0
      have H1 : Aside (w2.heap[(W.heap.size + 1)]? = some (.cells #[.slice none 0 0, .int .i64 0, .int .i64 0, .bool false] 58 (0, 0))) := U1
      have HP : Aside (PS w0 code la n lc w2) := UP
      have HK : Aside (Kp (.slice la n lc) (.slice la n lc) W w2) := UK
      clear U0 U1 UP UK
      clear cq CHR
      have l1 : (W.heap.size + 1) < w2.heap.size := (Array.getElem?_eq_some_iff.1 H1.out).1
      cases cb with
      | true =>
        have ER : Aside (R = .error j) := by show _ = _; rw [RGA.out, if_pos rfl]
        clear RGA
        rw [holds_self H1.out]
        go_wp2
        refine bodyPost_ret (v := .agg #[.slice la n lc, .int .i64 (j : Int), .int .i64 (g : Int), .bool true]) (by simp [results, Try.results69, go_sem, ↓IntWalk.iteOmega, *]) rfl ?_
        exact HQ.out _ _ _ _ _ _ _ _ ((HP.out.other H1.out (by have := HH.out.hb.size; omega) (by decide)).later (Below.alloc (Below.refl _ _) (Nat.le_refl _) _)) ((HK.out.other (by omega) _ _).trans (Kp.of_below (Below.alloc (Below.refl _ _) (Nat.le_refl _) _))) (Nat.le_refl _) (by rw [ER.out]; exact ⟨rfl, rfl⟩)
      | false =>
        have EO : Aside (R = .ok (.leaf (iChar b), j, g)) := by show _ = _; rw [RGA.out, if_neg (by simp)]
        clear RGA
        have BA : Aside (Below w2.heap.size w2 (w2.alloc (.cells #[.slice la n lc, .int .i64 (j : Int), .int .i64 (g : Int), .bool false] 58))) := Below.alloc (Below.refl _ _) (Nat.le_refl _) _
        have VP : Aside (PS w0 code la n lc (w2.alloc (.cells #[.slice la n lc, .int .i64 (j : Int), .int .i64 (g : Int), .bool false] 58))) := HP.out.later BA.out
        have VK := HK.out.trans (Kp.of_below BA.out)
        have V1 : Aside ((w2.alloc (.cells #[.slice la n lc, .int .i64 (j : Int), .int .i64 (g : Int), .bool false] 58)).heap[(W.heap.size + 1)]? = some (.cells #[.slice none 0 0, .int .i64 0, .int .i64 0, .bool false] 58 (0, 0))) := hp_old H1.out
        have cq := remit_calls w0 code la n lc j g false 1 (b.toNat : Int) ⟨#[]⟩ false 0 0 _ VP.out (by omega)
        go_wp2_with fail
        refine cq.mono ?_
        rintro e w3 ⟨la1, lc1, rfl, hp, hk⟩
        have U1 : Aside (w3.heap[(W.heap.size + 1)]? = some (.cells #[.slice none 0 0, .int .i64 0, .int .i64 0, .bool false] 58 (0, 0))) := hk.type VP.out V1.out (by decide)
        have UP : Aside (PS w0 (code ++ [iChar b]) la1 (n + 1) lc1 w3) := hp
        have UK : Aside (Kp (.slice la n lc) (.slice la1 (n + 1) lc1) W w3) := VK.trans hk
        have l3 : (W.heap.size + 1) < w3.heap.size := (Array.getElem?_eq_some_iff.1 U1.out).1
        clear hp hk VK VP V1 cq BA
        rw [holds_self U1.out]
        go_wp2
        refine bodyPost_ret (v := .agg #[.slice la1 (n + 1) lc1, .int .i64 (j : Int), .int .i64 (g : Int), .bool false]) (by simp [results, Try.results69, go_sem, ↓IntWalk.iteOmega, *]) rfl ?_
        exact HQ.out _ _ _ _ _ _ _ _ (UP.out.other U1.out (by have := HH.out.hb.size; omega) (by decide)) (UK.out.other (by omega) _ _) (by omega) (by rw [EO.out]; exact ⟨rfl, rfl, rfl, rfl⟩)

end Go.Proofs.Ytfhccmegobbnaaa
