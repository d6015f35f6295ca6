/- This text proves the walk of piece of the reference, given that of regex. Conditions: those that each theorem names. -/
import Derived.Test.YtfhccmegobbnaaaRegexCE
namespace Go.Proofs.Ytfhccmegobbnaaa
open Go.ChangeShapes Go.WideShapes Go.ChangeAt Go.RowKit
set_option linter.unusedVariables false
set_option linter.unusedSimpArgs false

theorem hb_ne {W : World} {a b : Nat} {c c' : Array Value} {T T' : TypeId} (h : W.heap[a]? = some (.cells c T (0, 0))) (h' : W.heap[b]? = some (.cells c' T' (0, 0))) (hT : T ≠ T') : ¬ a = b := fun e => by
  subst e
  rw [h] at h'
  injection h' with h'
  injection h' with _ h'
  exact hT h'
/-- What atom of the reference does with enough fuel. -/
def RAtomOK (f : Nat) : Prop := ∀ (w0 : World) (code : List In) (la : Option Addr) (n lc i g : Nat) (s : ByteArray) (W : World) (h : PS w0 code la n lc W) (hc : Cond s i g 0 code), i < s.size → s[i]! ≠ 124 → 4 * (s.size - i) + 1 ≤ f →
    Calls Try.prog 69 #[.string s, .agg #[.slice la n lc, .int .i64 (i : Int), .int .i64 (g : Int), .bool false]] W (RPr w0 code la n lc g W (atomF f s i g))
theorem ratom_ok (f : Nat) (h : RRegOK f) : RAtomOK (f + 1) := fun w0 code la n lc i g s W h1 h2 h3 h4 h5 => ratom_calls f h w0 code la n lc i g s W h1 h2 h3 h4 h5
theorem atom_one {f : Nat} {s : ByteArray} {i g j h : Nat} {a : Re} (he : atomF f s i g = .ok (a, j, h)) : 1 ≤ a.clen := by
  cases f with
  | zero => unfold atomF at he; cases he
  | succ f =>
    unfold atomF at he
    repeat' split at he
    all_goals first
      | (cases he; done)
      | (simp only [Except.ok.injEq, Prod.mk.injEq] at he
         obtain ⟨rfl, -, -⟩ := he
         simp only [Re.clen]
         omega)

set_option maxRecDepth 20000 in
set_option maxHeartbeats 64000000 in
theorem rpiece_calls (f : Nat) (hat : RAtomOK f) (w0 : World) (code : List In) (la : Option Addr) (n lc i g : Nat) (s : ByteArray) (W : World) (h : PS w0 code la n lc W) (hc : Cond s i g 0 code) (hlt : i < s.size) (h124 : s[i]! ≠ 124) (hf : 4 * (s.size - i) + 2 ≤ f + 1) :
    Calls Try.prog 62 #[.string s, .agg #[.slice la n lc, .int .i64 (i : Int), .int .i64 (g : Int), .bool false]] W (RPr w0 code la n lc g W (pieceF (f + 1) s i g)) := by
  have HH : Aside (PS w0 code la n lc W) := h
  obtain ⟨R, hR⟩ : ∃ R, pieceF (f + 1) s i g = R := ⟨_, rfl⟩
  rw [hR]
  have HR : Aside (pieceF (f + 1) s i g = R) := hR
  obtain ⟨Q, hQ⟩ : ∃ Q : Ending → World → Prop, RPr w0 code la n lc g W R = Q := ⟨_, rfl⟩
  rw [hQ]
  have HQ : Aside (∀ (la2 : Option Addr) (lc2 n2 : Nat) (code2 : List In) (i2 g2 : Nat) (bad2 : Bool) (W' : World), PS w0 code2 la2 n2 lc2 W' → Kp (.slice la n lc) (.slice la2 n2 lc2) W W' → n ≤ n2 → Says R code g code2 i2 g2 bad2 → Q (.returned (.agg #[.slice la2 n2 lc2, .int .i64 (i2 : Int), .int .i64 (g2 : Int), .bool bad2])) W') := fun la2 lc2 n2 code2 i2 g2 bad2 W' h1 h2 h3 h4 => by rw [← hQ]; exact ⟨la2, lc2, n2, code2, i2, g2, bad2, rfl, h1, h2, h3, h4⟩
  have k1 := hc.hs
  have k2 := hc.hi
  have k3 := hc.h0
  have k4 := hc.hl
  have k6 := hc.hg
  have HM : Aside (Sml code) := hc.hm
  have HL : Aside (code.length = n) := h.len
  rw [h.len] at k3 k4
  clear hQ h hc hR
  have HAT : Aside (RAtomOK f) := hat
  clear hat
  have c42 : (((42 : UInt8).toNat : Nat) : Int) = 42 := rfl
  have c43 : (((43 : UInt8).toNat : Nat) : Int) = 43 := rfl
  have c63 : (((63 : UInt8).toNat : Nat) : Int) = 63 := rfl
  have PR : Aside ((match atomF f s i g with
    | .error k => (.error k : PRes)
    | .ok (a, j, h) => if isAt s j 42 then .ok (.star a, j + 1, h) else if isAt s j 43 then .ok (.plus a, j + 1, h) else if isAt s j 63 then .ok (.opt a, j + 1, h) else .ok (a, j, h)) = R) := by
    show _ = _
    rw [← HR.out]
    unfold pieceF
    cases atomF f s i g <;> rfl
  have H124 : Aside (s[i]! ≠ 124) := h124
  clear HR h124
  have V0 : Aside (((W.alloc (.cells #[.slice la n lc, .int .i64 (i : Int), .int .i64 (g : Int), .bool false] 58)).alloc (.cells #[.slice none 0 0, .int .i64 0, .int .i64 0, .bool false] 58)).heap[W.heap.size]? = some (.cells #[.slice la n lc, .int .i64 (i : Int), .int .i64 (g : Int), .bool false] 58 (0, 0))) := hp_old (hp_new rfl)
  have V1 : Aside (((W.alloc (.cells #[.slice la n lc, .int .i64 (i : Int), .int .i64 (g : Int), .bool false] 58)).alloc (.cells #[.slice none 0 0, .int .i64 0, .int .i64 0, .bool false] 58)).heap[(W.heap.size + 1)]? = some (.cells #[.slice none 0 0, .int .i64 0, .int .i64 0, .bool false] 58 (0, 0))) := hp_new (by simp)
  have VB9 : Below W.heap.size W ((W.alloc (.cells #[.slice la n lc, .int .i64 (i : Int), .int .i64 (g : Int), .bool false] 58)).alloc (.cells #[.slice none 0 0, .int .i64 0, .int .i64 0, .bool false] 58)) := Below.alloc (Below.alloc (Below.refl _ _) (Nat.le_refl _) _) (by simp) _
  have VP : Aside (PS w0 code la n lc ((W.alloc (.cells #[.slice la n lc, .int .i64 (i : Int), .int .i64 (g : Int), .bool false] 58)).alloc (.cells #[.slice none 0 0, .int .i64 0, .int .i64 0, .bool false] 58))) := HH.out.later VB9
  have VK : Aside (Kp (.slice la n lc) (.slice la n lc) W ((W.alloc (.cells #[.slice la n lc, .int .i64 (i : Int), .int .i64 (g : Int), .bool false] 58)).alloc (.cells #[.slice none 0 0, .int .i64 0, .int .i64 0, .bool false] 58))) := Kp.of_below VB9
  clear VB9
  have cq := HAT.out w0 code la n lc i g s ((W.alloc (.cells #[.slice la n lc, .int .i64 (i : Int), .int .i64 (g : Int), .bool false] 58)).alloc (.cells #[.slice none 0 0, .int .i64 0, .int .i64 0, .bool false] 58)) VP.out ⟨k1, k2, by rw [HL.out]; exact k3, by rw [HL.out]; exact k4, HM.out, by omega, k6⟩ hlt H124.out (by omega)
  go_enter Try.func62, Try.ntmps62
  go_wp2_with fail
  refine cq.mono ?_
  rintro e w2 ⟨la2, lc2, n2, code2, j, h2, bad2, rfl, hp, hk, hnn, hsy⟩
  have HSY : Aside (Says (atomF f s i g) code g code2 j h2 bad2) := hsy
  clear hsy
  have U0 := hk.type VP.out V0.out (by decide)
  have U1 := hk.type VP.out V1.out (by decide)
  have UP := hp
  have UK := VK.out.trans hk
  clear V0 V1 VP VK hp hk
  have H0 : Aside (w2.heap[W.heap.size]? = some (.cells #[.slice la n lc, .int .i64 (i : Int), .int .i64 (g : Int), .bool false] 58 (0, 0))) := U0
  have H1 : Aside (w2.heap[(W.heap.size + 1)]? = some (.cells #[.slice none 0 0, .int .i64 0, .int .i64 0, .bool false] 58 (0, 0))) := U1
  have HP : Aside (PS w0 code2 la2 n2 lc2 w2) := UP
  have HK : Aside (Kp (.slice la n lc) (.slice la2 n2 lc2) W w2) := UK
  clear U0 U1 UP UK
  clear cq HAT H124
  have l0 : W.heap.size < w2.heap.size := (Array.getElem?_eq_some_iff.1 H0.out).1
  have V0 : Aside ((holds w2 W.heap.size #[.slice la2 n2 lc2, .int .i64 (j : Int), .int .i64 (h2 : Int), .bool bad2] 58).heap[W.heap.size]? = some (.cells #[.slice la2 n2 lc2, .int .i64 (j : Int), .int .i64 (h2 : Int), .bool bad2] 58 (0, 0))) := hh_eq l0
  have V1 : Aside ((holds w2 W.heap.size #[.slice la2 n2 lc2, .int .i64 (j : Int), .int .i64 (h2 : Int), .bool bad2] 58).heap[(W.heap.size + 1)]? = some (.cells #[.slice none 0 0, .int .i64 0, .int .i64 0, .bool false] 58 (0, 0))) := hh_ne (by omega) H1.out
  have VP : Aside (PS w0 code2 la2 n2 lc2 (holds w2 W.heap.size #[.slice la2 n2 lc2, .int .i64 (j : Int), .int .i64 (h2 : Int), .bool bad2] 58)) := HP.out.other H0.out (by have := HH.out.hb.size; omega) (by decide)
  have VK : Aside (Kp (.slice la n lc) (.slice la2 n2 lc2) W (holds w2 W.heap.size #[.slice la2 n2 lc2, .int .i64 (j : Int), .int .i64 (h2 : Int), .bool bad2] 58)) := HK.out.other (by omega) _ _
  have cq := ris_calls s la2 n2 lc2 j h2 bad2 42 (holds w2 W.heap.size #[.slice la2 n2 lc2, .int .i64 (j : Int), .int .i64 (h2 : Int), .bool bad2] 58) (by omega)
  rw [c42] at cq
  rw [holds_self H0.out]
  go_wp2_with fail
  refine cq.mono ?_
  rintro e w3 ⟨rfl, hb⟩
  have U0 := heap_later V0.out hb
  have U1 := heap_later V1.out hb
  have UP := VP.out.later hb
  have UK := VK.out.trans (Kp.of_below hb)
  clear V0 V1 VP VK hb H0 H1 HP HK l0
  have H0 : Aside (w3.heap[W.heap.size]? = some (.cells #[.slice la2 n2 lc2, .int .i64 (j : Int), .int .i64 (h2 : Int), .bool bad2] 58 (0, 0))) := U0
  have H1 : Aside (w3.heap[(W.heap.size + 1)]? = some (.cells #[.slice none 0 0, .int .i64 0, .int .i64 0, .bool false] 58 (0, 0))) := U1
  have HP : Aside (PS w0 code2 la2 n2 lc2 w3) := UP
  have HK : Aside (Kp (.slice la n lc) (.slice la2 n2 lc2) W w3) := UK
  clear U0 U1 UP UK
  clear cq
  cases bad2 with
  | true =>
    have ER : Aside (R = .error j) := by
      show _ = _
      rw [← PR.out, HSY.out.bad]
    have eF : isF s j true 42 = false := rfl
    rw [eF]
    clear eF PR HSY
    have V0 : Aside (w3.heap[W.heap.size]? = some (.cells #[.slice la2 n2 lc2, .int .i64 (j : Int), .int .i64 (h2 : Int), .bool true] 58 (0, 0))) := H0.out
    have V1 : Aside (w3.heap[(W.heap.size + 1)]? = some (.cells #[.slice none 0 0, .int .i64 0, .int .i64 0, .bool false] 58 (0, 0))) := H1.out
    have VP : Aside (PS w0 code2 la2 n2 lc2 w3) := HP.out
    have VK : Aside (Kp (.slice la n lc) (.slice la2 n2 lc2) W w3) := HK.out
    have cq := ris_calls s la2 n2 lc2 j h2 true 43 w3 (by omega)
    rw [c43] at cq
    have c00 := cell_heap H0.out 0 _ rfl
    have c01 := cell_heap H0.out 1 _ rfl
    have c02 := cell_heap H0.out 2 _ rfl
    have c03 := cell_heap H0.out 3 _ rfl
    go_wp2_with fail
    refine cq.mono ?_
    rintro e w4 ⟨rfl, hb⟩
    have U0 := heap_later V0.out hb
    have U1 := heap_later V1.out hb
    have UP := VP.out.later hb
    have UK := VK.out.trans (Kp.of_below hb)
    clear V0 V1 VP VK hb H0 H1 HP HK c00 c01 c02 c03
    have H0 : Aside (w4.heap[W.heap.size]? = some (.cells #[.slice la2 n2 lc2, .int .i64 (j : Int), .int .i64 (h2 : Int), .bool true] 58 (0, 0))) := U0
    have H1 : Aside (w4.heap[(W.heap.size + 1)]? = some (.cells #[.slice none 0 0, .int .i64 0, .int .i64 0, .bool false] 58 (0, 0))) := U1
    have HP : Aside (PS w0 code2 la2 n2 lc2 w4) := UP
    have HK : Aside (Kp (.slice la n lc) (.slice la2 n2 lc2) W w4) := UK
    clear U0 U1 UP UK
    clear cq
    have eF : isF s j true 43 = false := rfl
    rw [eF]
    clear eF
    have V0 : Aside (w4.heap[W.heap.size]? = some (.cells #[.slice la2 n2 lc2, .int .i64 (j : Int), .int .i64 (h2 : Int), .bool true] 58 (0, 0))) := H0.out
    have V1 : Aside (w4.heap[(W.heap.size + 1)]? = some (.cells #[.slice none 0 0, .int .i64 0, .int .i64 0, .bool false] 58 (0, 0))) := H1.out
    have VP : Aside (PS w0 code2 la2 n2 lc2 w4) := HP.out
    have VK : Aside (Kp (.slice la n lc) (.slice la2 n2 lc2) W w4) := HK.out
    have cq := ris_calls s la2 n2 lc2 j h2 true 63 w4 (by omega)
    rw [c63] at cq
    have c00 := cell_heap H0.out 0 _ rfl
    have c01 := cell_heap H0.out 1 _ rfl
    have c02 := cell_heap H0.out 2 _ rfl
    have c03 := cell_heap H0.out 3 _ rfl
    go_wp2_with fail
    refine cq.mono ?_
    rintro e w5 ⟨rfl, hb⟩
    have U0 := heap_later V0.out hb
    have U1 := heap_later V1.out hb
    have UP := VP.out.later hb
    have UK := VK.out.trans (Kp.of_below hb)
    clear V0 V1 VP VK hb H0 H1 HP HK c00 c01 c02 c03
    have H0 : Aside (w5.heap[W.heap.size]? = some (.cells #[.slice la2 n2 lc2, .int .i64 (j : Int), .int .i64 (h2 : Int), .bool true] 58 (0, 0))) := U0
    have H1 : Aside (w5.heap[(W.heap.size + 1)]? = some (.cells #[.slice none 0 0, .int .i64 0, .int .i64 0, .bool false] 58 (0, 0))) := U1
    have HP : Aside (PS w0 code2 la2 n2 lc2 w5) := UP
    have HK : Aside (Kp (.slice la n lc) (.slice la2 n2 lc2) W w5) := UK
    clear U0 U1 UP UK
    clear cq
    have eF : isF s j true 63 = false := rfl
    rw [eF]
    clear eF
    have l0 : W.heap.size < w5.heap.size := (Array.getElem?_eq_some_iff.1 H0.out).1
    have l1 : (W.heap.size + 1) < w5.heap.size := (Array.getElem?_eq_some_iff.1 H1.out).1
    rw [holds_add (holds_self H0.out) H1.out]
    go_wp2
    refine bodyPost_ret (v := .agg #[.slice la2 n2 lc2, .int .i64 (j : Int), .int .i64 (h2 : Int), .bool true]) (by simp [results, Try.results62, go_sem, ↓IntWalk.iteOmega, *]) rfl ?_
    exact HQ.out _ _ _ _ _ _ _ _ ((HP.out.other H0.out (by have := HH.out.hb.size; omega) (by decide)).other (hh_ne (by omega) H1.out) (by have := HH.out.hb.size; omega) (by decide)) ((HK.out.other (by omega) _ _).other (by omega) _ _) (by omega) (by rw [ER.out]; exact ⟨rfl, rfl⟩)
  | false =>
  obtain ⟨a, hra, hca⟩ := HSY.out.good
  have hgood := (good_all f).2.2.2 s i g hlt
  rw [hra] at hgood
  obtain ⟨aok, aij, ajs, agr, acl, agm⟩ := hgood
  have al1 := atom_one hra
  have AOK : Aside (a.Ok) := aok
  have HCA : Aside (code2 = code ++ a.gen n g) := by show _ = _; rw [← HL.out]; exact hca
  have PR2 : Aside ((if isAt s j 42 then (.ok (.star a, j + 1, h2) : PRes) else if isAt s j 43 then .ok (.plus a, j + 1, h2) else if isAt s j 63 then .ok (.opt a, j + 1, h2) else .ok (a, j, h2)) = R) := by
    show _ = _
    rw [← PR.out, hra]
  have hn2 : n2 = n + a.clen := by
    have h1 := HP.out.len
    rw [HCA.out, List.length_append, Re.gen_len, HL.out] at h1
    omega
  have HSM : Aside (Sml code2) := by
    show Sml code2
    rw [HCA.out]
    exact HM.out.append (Re.gen_sml a n g aok (by omega) (by omega))
  obtain ⟨jp, hjp⟩ : ∃ x, j + 1 = x := ⟨_, rfl⟩
  rw [hjp] at PR2
  obtain ⟨np, hnp⟩ : ∃ x, n + 1 = x := ⟨_, rfl⟩
  have wn : IntKind.i64.wrap ((n : Int) + 1) = (np : Int) := by rw [IntKind.wrap_i64]; omega
  have INS : Aside (insF n ⟨6, 0, ⟨#[]⟩, false, (np : Int), 0⟩ code2 = code ++ ⟨6, 0, ⟨#[]⟩, false, (np : Int), 0⟩ :: a.gen np g) := by
    show _ = _
    have h1 := insF_app (code := code) (b := a.gen n g) (i := ⟨6, 0, ⟨#[]⟩, false, (np : Int), 0⟩)
    rw [HL.out, Re.gen_bump a n g aok, hnp] at h1
    rw [HCA.out]
    exact h1
  have N2 : Aside (n2 = n + a.clen) := hn2
  have LT2 : n < n2 := by omega
  have LE2 : n2 ≤ 90000 := by omega
  clear hra hca PR HSY aok hn2 al1 acl agr agm
  have eF : isF s j false 42 = isAt s j 42 := by unfold isF; rfl
  rw [eF]
  clear eF
  cases h42 : isAt s j 42 with
  | true =>
    have jlt := (isAt_lt h42).1
    have wj : IntKind.i64.wrap ((j : Int) + 1) = (jp : Int) := by rw [IntKind.wrap_i64]; omega
    have EO : Aside (R = .ok (.star a, jp, h2)) := by show _ = _; rw [← PR2.out, h42]; rfl
    clear PR2 h42
    have l0 : W.heap.size < w3.heap.size := (Array.getElem?_eq_some_iff.1 H0.out).1
    have V0 : Aside ((holds w3 W.heap.size #[.slice la2 n2 lc2, .int .i64 (jp : Int), .int .i64 (h2 : Int), .bool false] 58).heap[W.heap.size]? = some (.cells #[.slice la2 n2 lc2, .int .i64 (jp : Int), .int .i64 (h2 : Int), .bool false] 58 (0, 0))) := hh_eq l0
    have V1 : Aside ((holds w3 W.heap.size #[.slice la2 n2 lc2, .int .i64 (jp : Int), .int .i64 (h2 : Int), .bool false] 58).heap[(W.heap.size + 1)]? = some (.cells #[.slice none 0 0, .int .i64 0, .int .i64 0, .bool false] 58 (0, 0))) := hh_ne (by omega) H1.out
    have VP : Aside (PS w0 code2 la2 n2 lc2 (holds w3 W.heap.size #[.slice la2 n2 lc2, .int .i64 (jp : Int), .int .i64 (h2 : Int), .bool false] 58)) := HP.out.other H0.out (by have := HH.out.hb.size; omega) (by decide)
    have VK : Aside (Kp (.slice la n lc) (.slice la2 n2 lc2) W (holds w3 W.heap.size #[.slice la2 n2 lc2, .int .i64 (jp : Int), .int .i64 (h2 : Int), .bool false] 58)) := HK.out.other (by omega) _ _
    have cq := rinsert_calls w0 code2 la2 n2 lc2 jp h2 n 6 0 ⟨#[]⟩ false (np : Int) 0 (holds w3 W.heap.size #[.slice la2 n2 lc2, .int .i64 (jp : Int), .int .i64 (h2 : Int), .bool false] 58) VP.out (by omega) (by omega) (by omega) HSM.out
    rw [holds_self H0.out]
    go_wp2_with fail
    refine cq.mono ?_
    rintro e w4 ⟨la4, lc4, rfl, hp, hk⟩
    obtain ⟨n4, hn4⟩ : ∃ x, n2 + 1 = x := ⟨_, rfl⟩
    obtain ⟨code4, hcode4⟩ : ∃ x, insF n ⟨6, 0, ⟨#[]⟩, false, (np : Int), 0⟩ code2 = x := ⟨_, rfl⟩
    rw [hn4, hcode4] at hp
    rw [hn4] at hk ⊢
    have Ecode4 : Aside (insF n ⟨6, 0, ⟨#[]⟩, false, (np : Int), 0⟩ code2 = code4) := hcode4
    clear hcode4
    have U0 := hk.type VP.out V0.out (by decide)
    have U1 := hk.type VP.out V1.out (by decide)
    have UP := hp
    have UK := VK.out.trans hk
    clear V0 V1 VP VK hp hk H0 H1 HP HK l0
    have H0 : Aside (w4.heap[W.heap.size]? = some (.cells #[.slice la2 n2 lc2, .int .i64 (jp : Int), .int .i64 (h2 : Int), .bool false] 58 (0, 0))) := U0
    have H1 : Aside (w4.heap[(W.heap.size + 1)]? = some (.cells #[.slice none 0 0, .int .i64 0, .int .i64 0, .bool false] 58 (0, 0))) := U1
    have HP : Aside (PS w0 code4 la4 n4 lc4 w4) := UP
    have HK : Aside (Kp (.slice la n lc) (.slice la4 n4 lc4) W w4) := UK
    clear U0 U1 UP UK
    clear cq
    have l0 : W.heap.size < w4.heap.size := (Array.getElem?_eq_some_iff.1 H0.out).1
    have V0 : Aside ((holds w4 W.heap.size #[.slice la4 n4 lc4, .int .i64 (jp : Int), .int .i64 (h2 : Int), .bool false] 58).heap[W.heap.size]? = some (.cells #[.slice la4 n4 lc4, .int .i64 (jp : Int), .int .i64 (h2 : Int), .bool false] 58 (0, 0))) := hh_eq l0
    have V1 : Aside ((holds w4 W.heap.size #[.slice la4 n4 lc4, .int .i64 (jp : Int), .int .i64 (h2 : Int), .bool false] 58).heap[(W.heap.size + 1)]? = some (.cells #[.slice none 0 0, .int .i64 0, .int .i64 0, .bool false] 58 (0, 0))) := hh_ne (by omega) H1.out
    have VP : Aside (PS w0 code4 la4 n4 lc4 (holds w4 W.heap.size #[.slice la4 n4 lc4, .int .i64 (jp : Int), .int .i64 (h2 : Int), .bool false] 58)) := HP.out.other H0.out (by have := HH.out.hb.size; omega) (by decide)
    have VK : Aside (Kp (.slice la n lc) (.slice la4 n4 lc4) W (holds w4 W.heap.size #[.slice la4 n4 lc4, .int .i64 (jp : Int), .int .i64 (h2 : Int), .bool false] 58)) := HK.out.other (by omega) _ _
    have cq := remit_calls w0 code4 la4 n4 lc4 jp h2 false 7 0 ⟨#[]⟩ false (n : Int) 0 (holds w4 W.heap.size #[.slice la4 n4 lc4, .int .i64 (jp : Int), .int .i64 (h2 : Int), .bool false] 58) VP.out (by omega)
    rw [holds_self H0.out]
    go_wp2_with fail
    refine cq.mono ?_
    rintro e w5 ⟨la5, lc5, rfl, hp, hk⟩
    obtain ⟨n5, hn5⟩ : ∃ x, n4 + 1 = x := ⟨_, rfl⟩
    obtain ⟨code5, hcode5⟩ : ∃ x, code4 ++ [⟨7, 0, ⟨#[]⟩, false, (n : Int), 0⟩] = x := ⟨_, rfl⟩
    rw [hn5, hcode5] at hp
    rw [hn5] at hk ⊢
    have Ecode5 : Aside (code4 ++ [⟨7, 0, ⟨#[]⟩, false, (n : Int), 0⟩] = code5) := hcode5
    clear hcode5
    have U0 := hk.type VP.out V0.out (by decide)
    have U1 := hk.type VP.out V1.out (by decide)
    have UP := hp
    have UK := VK.out.trans hk
    clear V0 V1 VP VK hp hk H0 H1 HP HK l0
    have H0 : Aside (w5.heap[W.heap.size]? = some (.cells #[.slice la4 n4 lc4, .int .i64 (jp : Int), .int .i64 (h2 : Int), .bool false] 58 (0, 0))) := U0
    have H1 : Aside (w5.heap[(W.heap.size + 1)]? = some (.cells #[.slice none 0 0, .int .i64 0, .int .i64 0, .bool false] 58 (0, 0))) := U1
    have HP : Aside (PS w0 code5 la5 n5 lc5 w5) := UP
    have HK : Aside (Kp (.slice la n lc) (.slice la5 n5 lc5) W w5) := UK
    clear U0 U1 UP UK
    clear cq
    obtain ⟨gg, egg⟩ := HP.out.form (by omega)
    subst egg
    obtain ⟨cur, hgg, ⟨x5, hx5⟩, ⟨x4, hx4⟩, puty, putx⟩ := HP.out.put (k := n) (by omega)
    obtain ⟨pp, pk⟩ := puty (n5 : Int)
    have PP : Aside (PS w0 (code5.set n { code5[n]! with y := (n5 : Int) }) (some ⟨gg, 0, none⟩) n5 lc5 (holds w5 gg (cur.setIfInBounds (n * 6 + 5) (.int .i64 (n5 : Int))) 34)) := pp
    have PK : Aside (Kp (.slice la n lc) (.slice (some ⟨gg, 0, none⟩) n5 lc5) W (holds w5 gg (cur.setIfInBounds (n * 6 + 5) (.int .i64 (n5 : Int))) 34)) := HK.out.trans pk
    have HGG : Aside (w5.heap[gg]? = some (.cells cur 34 (0, 0))) := hgg
    have lgg : gg < w5.heap.size := (Array.getElem?_eq_some_iff.1 hgg).1
    have ng0 : ¬ gg = W.heap.size := hb_ne hgg H0.out (by decide)
    have ng1 : ¬ gg = (W.heap.size + 1) := hb_ne hgg H1.out (by decide)
    have n0g : ¬ W.heap.size = gg := fun e => ng0 e.symm
    have n1g : ¬ (W.heap.size + 1) = gg := fun e => ng1 e.symm
    have l0 : W.heap.size < w5.heap.size := (Array.getElem?_eq_some_iff.1 H0.out).1
    have l1 : (W.heap.size + 1) < w5.heap.size := (Array.getElem?_eq_some_iff.1 H1.out).1
    clear hgg pp pk puty putx hx4
    rw [holds_add (holds_add (holds_self HGG.out) H0.out) H1.out]
    go_wp2
    refine bodyPost_ret (v := .agg #[.slice (some ⟨gg, 0, none⟩) n5 lc5, .int .i64 (jp : Int), .int .i64 (h2 : Int), .bool false]) (by simp [results, Try.results62, go_sem, ↓IntWalk.iteOmega, *]) rfl ?_
    exact HQ.out _ _ _ _ _ _ _ _ ((PP.out.other (hh_ne n0g H0.out) (by have := HH.out.hb.size; omega) (by decide)).other (hh_ne (by omega) (hh_ne n1g H1.out)) (by have := HH.out.hb.size; omega) (by decide)) ((PK.out.other (by omega) _ _).other (by omega) _ _) (by omega) (by
      rw [EO.out]
      refine ⟨?_, rfl, rfl, rfl⟩
      have h5 : n5 = n + a.clen + 2 := by have := N2.out; omega
      rw [← Ecode5.out, ← Ecode4.out, INS.out, List.append_assoc, List.cons_append, ← HL.out, get_app, set_app, HL.out, h5, ← hnp]
      rfl)
  | false =>
  have V0 : Aside (w3.heap[W.heap.size]? = some (.cells #[.slice la2 n2 lc2, .int .i64 (j : Int), .int .i64 (h2 : Int), .bool false] 58 (0, 0))) := H0.out
  have V1 : Aside (w3.heap[(W.heap.size + 1)]? = some (.cells #[.slice none 0 0, .int .i64 0, .int .i64 0, .bool false] 58 (0, 0))) := H1.out
  have VP : Aside (PS w0 code2 la2 n2 lc2 w3) := HP.out
  have VK : Aside (Kp (.slice la n lc) (.slice la2 n2 lc2) W w3) := HK.out
  have cq := ris_calls s la2 n2 lc2 j h2 false 43 w3 (by omega)
  rw [c43] at cq
  have c00 := cell_heap H0.out 0 _ rfl
  have c01 := cell_heap H0.out 1 _ rfl
  have c02 := cell_heap H0.out 2 _ rfl
  have c03 := cell_heap H0.out 3 _ rfl
  go_wp2_with fail
  refine cq.mono ?_
  rintro e w4 ⟨rfl, hb⟩
  have U0 := heap_later V0.out hb
  have U1 := heap_later V1.out hb
  have UP := VP.out.later hb
  have UK := VK.out.trans (Kp.of_below hb)
  clear V0 V1 VP VK hb H0 H1 HP HK c00 c01 c02 c03
  have H0 : Aside (w4.heap[W.heap.size]? = some (.cells #[.slice la2 n2 lc2, .int .i64 (j : Int), .int .i64 (h2 : Int), .bool false] 58 (0, 0))) := U0
  have H1 : Aside (w4.heap[(W.heap.size + 1)]? = some (.cells #[.slice none 0 0, .int .i64 0, .int .i64 0, .bool false] 58 (0, 0))) := U1
  have HP : Aside (PS w0 code2 la2 n2 lc2 w4) := UP
  have HK : Aside (Kp (.slice la n lc) (.slice la2 n2 lc2) W w4) := UK
  clear U0 U1 UP UK
  clear cq
  have eF : isF s j false 43 = isAt s j 43 := by unfold isF; rfl
  rw [eF]
  clear eF
  cases h43 : isAt s j 43 with
  | true =>
    have jlt := (isAt_lt h43).1
    have wj : IntKind.i64.wrap ((j : Int) + 1) = (jp : Int) := by rw [IntKind.wrap_i64]; omega
    obtain ⟨m2, hm2⟩ : ∃ x, n2 + 1 = x := ⟨_, rfl⟩
    have wm2 : IntKind.i64.wrap ((n2 : Int) + 1) = (m2 : Int) := by rw [IntKind.wrap_i64]; omega
    have EO : Aside (R = .ok (.plus a, jp, h2)) := by show _ = _; rw [← PR2.out, h42, h43]; rfl
    clear PR2 h42 h43 INS
    have l0 : W.heap.size < w4.heap.size := (Array.getElem?_eq_some_iff.1 H0.out).1
    have V0 : Aside ((holds w4 W.heap.size #[.slice la2 n2 lc2, .int .i64 (jp : Int), .int .i64 (h2 : Int), .bool false] 58).heap[W.heap.size]? = some (.cells #[.slice la2 n2 lc2, .int .i64 (jp : Int), .int .i64 (h2 : Int), .bool false] 58 (0, 0))) := hh_eq l0
    have V1 : Aside ((holds w4 W.heap.size #[.slice la2 n2 lc2, .int .i64 (jp : Int), .int .i64 (h2 : Int), .bool false] 58).heap[(W.heap.size + 1)]? = some (.cells #[.slice none 0 0, .int .i64 0, .int .i64 0, .bool false] 58 (0, 0))) := hh_ne (by omega) H1.out
    have VP : Aside (PS w0 code2 la2 n2 lc2 (holds w4 W.heap.size #[.slice la2 n2 lc2, .int .i64 (jp : Int), .int .i64 (h2 : Int), .bool false] 58)) := HP.out.other H0.out (by have := HH.out.hb.size; omega) (by decide)
    have VK : Aside (Kp (.slice la n lc) (.slice la2 n2 lc2) W (holds w4 W.heap.size #[.slice la2 n2 lc2, .int .i64 (jp : Int), .int .i64 (h2 : Int), .bool false] 58)) := HK.out.other (by omega) _ _
    have cq := remit_calls w0 code2 la2 n2 lc2 jp h2 false 6 0 ⟨#[]⟩ false (n : Int) (m2 : Int) (holds w4 W.heap.size #[.slice la2 n2 lc2, .int .i64 (jp : Int), .int .i64 (h2 : Int), .bool false] 58) VP.out (by omega)
    rw [holds_self H0.out]
    go_wp2_with fail
    refine cq.mono ?_
    rintro e w5 ⟨la5, lc5, rfl, hp, hk⟩
    obtain ⟨n5, hn5⟩ : ∃ x, n2 + 1 = x := ⟨_, rfl⟩
    obtain ⟨code5, hcode5⟩ : ∃ x, code2 ++ [⟨6, 0, ⟨#[]⟩, false, (n : Int), (m2 : Int)⟩] = x := ⟨_, rfl⟩
    rw [hn5, hcode5] at hp
    rw [hn5] at hk ⊢
    have Ecode5 : Aside (code2 ++ [⟨6, 0, ⟨#[]⟩, false, (n : Int), (m2 : Int)⟩] = code5) := hcode5
    clear hcode5
    have U0 := hk.type VP.out V0.out (by decide)
    have U1 := hk.type VP.out V1.out (by decide)
    have UP := hp
    have UK := VK.out.trans hk
    clear V0 V1 VP VK hp hk H0 H1 HP HK l0
    have H0 : Aside (w5.heap[W.heap.size]? = some (.cells #[.slice la2 n2 lc2, .int .i64 (jp : Int), .int .i64 (h2 : Int), .bool false] 58 (0, 0))) := U0
    have H1 : Aside (w5.heap[(W.heap.size + 1)]? = some (.cells #[.slice none 0 0, .int .i64 0, .int .i64 0, .bool false] 58 (0, 0))) := U1
    have HP : Aside (PS w0 code5 la5 n5 lc5 w5) := UP
    have HK : Aside (Kp (.slice la n lc) (.slice la5 n5 lc5) W w5) := UK
    clear U0 U1 UP UK
    clear cq
    have l0 : W.heap.size < w5.heap.size := (Array.getElem?_eq_some_iff.1 H0.out).1
    have l1 : (W.heap.size + 1) < w5.heap.size := (Array.getElem?_eq_some_iff.1 H1.out).1
    rw [holds_add (holds_self H0.out) H1.out]
    go_wp2
    refine bodyPost_ret (v := .agg #[.slice la5 n5 lc5, .int .i64 (jp : Int), .int .i64 (h2 : Int), .bool false]) (by simp [results, Try.results62, go_sem, ↓IntWalk.iteOmega, *]) rfl ?_
    exact HQ.out _ _ _ _ _ _ _ _ ((HP.out.other H0.out (by have := HH.out.hb.size; omega) (by decide)).other (hh_ne (by omega) H1.out) (by have := HH.out.hb.size; omega) (by decide)) ((HK.out.other (by omega) _ _).other (by omega) _ _) (by omega) (by
      rw [EO.out]
      refine ⟨?_, rfl, rfl, rfl⟩
      have h5 : m2 = n + a.clen + 1 := by have := N2.out; omega
      rw [← Ecode5.out, HCA.out, HL.out, h5, List.append_assoc]
      rfl)
  | false =>
  have V0 : Aside (w4.heap[W.heap.size]? = some (.cells #[.slice la2 n2 lc2, .int .i64 (j : Int), .int .i64 (h2 : Int), .bool false] 58 (0, 0))) := H0.out
  have V1 : Aside (w4.heap[(W.heap.size + 1)]? = some (.cells #[.slice none 0 0, .int .i64 0, .int .i64 0, .bool false] 58 (0, 0))) := H1.out
  have VP : Aside (PS w0 code2 la2 n2 lc2 w4) := HP.out
  have VK : Aside (Kp (.slice la n lc) (.slice la2 n2 lc2) W w4) := HK.out
  have cq := ris_calls s la2 n2 lc2 j h2 false 63 w4 (by omega)
  rw [c63] at cq
  have c00 := cell_heap H0.out 0 _ rfl
  have c01 := cell_heap H0.out 1 _ rfl
  have c02 := cell_heap H0.out 2 _ rfl
  have c03 := cell_heap H0.out 3 _ rfl
  go_wp2_with fail
  refine cq.mono ?_
  rintro e w5 ⟨rfl, hb⟩
  have U0 := heap_later V0.out hb
  have U1 := heap_later V1.out hb
  have UP := VP.out.later hb
  have UK := VK.out.trans (Kp.of_below hb)
  clear V0 V1 VP VK hb H0 H1 HP HK c00 c01 c02 c03
  have H0 : Aside (w5.heap[W.heap.size]? = some (.cells #[.slice la2 n2 lc2, .int .i64 (j : Int), .int .i64 (h2 : Int), .bool false] 58 (0, 0))) := U0
  have H1 : Aside (w5.heap[(W.heap.size + 1)]? = some (.cells #[.slice none 0 0, .int .i64 0, .int .i64 0, .bool false] 58 (0, 0))) := U1
  have HP : Aside (PS w0 code2 la2 n2 lc2 w5) := UP
  have HK : Aside (Kp (.slice la n lc) (.slice la2 n2 lc2) W w5) := UK
  clear U0 U1 UP UK
  clear cq
  have eF : isF s j false 63 = isAt s j 63 := by unfold isF; rfl
  rw [eF]
  clear eF
  cases h63 : isAt s j 63 with
  | true =>
    have jlt := (isAt_lt h63).1
    have wj : IntKind.i64.wrap ((j : Int) + 1) = (jp : Int) := by rw [IntKind.wrap_i64]; omega
    have EO : Aside (R = .ok (.opt a, jp, h2)) := by show _ = _; rw [← PR2.out, h42, h43, h63]; rfl
    clear PR2 h42 h43 h63
    have l0 : W.heap.size < w5.heap.size := (Array.getElem?_eq_some_iff.1 H0.out).1
    have V0 : Aside ((holds w5 W.heap.size #[.slice la2 n2 lc2, .int .i64 (jp : Int), .int .i64 (h2 : Int), .bool false] 58).heap[W.heap.size]? = some (.cells #[.slice la2 n2 lc2, .int .i64 (jp : Int), .int .i64 (h2 : Int), .bool false] 58 (0, 0))) := hh_eq l0
    have V1 : Aside ((holds w5 W.heap.size #[.slice la2 n2 lc2, .int .i64 (jp : Int), .int .i64 (h2 : Int), .bool false] 58).heap[(W.heap.size + 1)]? = some (.cells #[.slice none 0 0, .int .i64 0, .int .i64 0, .bool false] 58 (0, 0))) := hh_ne (by omega) H1.out
    have VP : Aside (PS w0 code2 la2 n2 lc2 (holds w5 W.heap.size #[.slice la2 n2 lc2, .int .i64 (jp : Int), .int .i64 (h2 : Int), .bool false] 58)) := HP.out.other H0.out (by have := HH.out.hb.size; omega) (by decide)
    have VK : Aside (Kp (.slice la n lc) (.slice la2 n2 lc2) W (holds w5 W.heap.size #[.slice la2 n2 lc2, .int .i64 (jp : Int), .int .i64 (h2 : Int), .bool false] 58)) := HK.out.other (by omega) _ _
    have cq := rinsert_calls w0 code2 la2 n2 lc2 jp h2 n 6 0 ⟨#[]⟩ false (np : Int) 0 (holds w5 W.heap.size #[.slice la2 n2 lc2, .int .i64 (jp : Int), .int .i64 (h2 : Int), .bool false] 58) VP.out (by omega) (by omega) (by omega) HSM.out
    rw [holds_self H0.out]
    go_wp2_with fail
    refine cq.mono ?_
    rintro e w6 ⟨la6, lc6, rfl, hp, hk⟩
    obtain ⟨n6, hn6⟩ : ∃ x, n2 + 1 = x := ⟨_, rfl⟩
    obtain ⟨code6, hcode6⟩ : ∃ x, insF n ⟨6, 0, ⟨#[]⟩, false, (np : Int), 0⟩ code2 = x := ⟨_, rfl⟩
    rw [hn6, hcode6] at hp
    rw [hn6] at hk ⊢
    have Ecode6 : Aside (insF n ⟨6, 0, ⟨#[]⟩, false, (np : Int), 0⟩ code2 = code6) := hcode6
    clear hcode6
    have U0 := hk.type VP.out V0.out (by decide)
    have U1 := hk.type VP.out V1.out (by decide)
    have UP := hp
    have UK := VK.out.trans hk
    clear V0 V1 VP VK hp hk H0 H1 HP HK l0
    have H0 : Aside (w6.heap[W.heap.size]? = some (.cells #[.slice la2 n2 lc2, .int .i64 (jp : Int), .int .i64 (h2 : Int), .bool false] 58 (0, 0))) := U0
    have H1 : Aside (w6.heap[(W.heap.size + 1)]? = some (.cells #[.slice none 0 0, .int .i64 0, .int .i64 0, .bool false] 58 (0, 0))) := U1
    have HP : Aside (PS w0 code6 la6 n6 lc6 w6) := UP
    have HK : Aside (Kp (.slice la n lc) (.slice la6 n6 lc6) W w6) := UK
    clear U0 U1 UP UK
    clear cq
    obtain ⟨gg, egg⟩ := HP.out.form (by omega)
    subst egg
    obtain ⟨cur, hgg, ⟨x5, hx5⟩, ⟨x4, hx4⟩, puty, putx⟩ := HP.out.put (k := n) (by omega)
    obtain ⟨pp, pk⟩ := puty (n6 : Int)
    have PP : Aside (PS w0 (code6.set n { code6[n]! with y := (n6 : Int) }) (some ⟨gg, 0, none⟩) n6 lc6 (holds w6 gg (cur.setIfInBounds (n * 6 + 5) (.int .i64 (n6 : Int))) 34)) := pp
    have PK : Aside (Kp (.slice la n lc) (.slice (some ⟨gg, 0, none⟩) n6 lc6) W (holds w6 gg (cur.setIfInBounds (n * 6 + 5) (.int .i64 (n6 : Int))) 34)) := HK.out.trans pk
    have HGG : Aside (w6.heap[gg]? = some (.cells cur 34 (0, 0))) := hgg
    have lgg : gg < w6.heap.size := (Array.getElem?_eq_some_iff.1 hgg).1
    have ng0 : ¬ gg = W.heap.size := hb_ne hgg H0.out (by decide)
    have ng1 : ¬ gg = (W.heap.size + 1) := hb_ne hgg H1.out (by decide)
    have n0g : ¬ W.heap.size = gg := fun e => ng0 e.symm
    have n1g : ¬ (W.heap.size + 1) = gg := fun e => ng1 e.symm
    have l0 : W.heap.size < w6.heap.size := (Array.getElem?_eq_some_iff.1 H0.out).1
    have l1 : (W.heap.size + 1) < w6.heap.size := (Array.getElem?_eq_some_iff.1 H1.out).1
    clear hgg pp pk puty putx hx4
    rw [holds_add (holds_add (holds_self HGG.out) H0.out) H1.out]
    go_wp2
    refine bodyPost_ret (v := .agg #[.slice (some ⟨gg, 0, none⟩) n6 lc6, .int .i64 (jp : Int), .int .i64 (h2 : Int), .bool false]) (by simp [results, Try.results62, go_sem, ↓IntWalk.iteOmega, *]) rfl ?_
    exact HQ.out _ _ _ _ _ _ _ _ ((PP.out.other (hh_ne n0g H0.out) (by have := HH.out.hb.size; omega) (by decide)).other (hh_ne (by omega) (hh_ne n1g H1.out)) (by have := HH.out.hb.size; omega) (by decide)) ((PK.out.other (by omega) _ _).other (by omega) _ _) (by omega) (by
      rw [EO.out]
      refine ⟨?_, rfl, rfl, rfl⟩
      have h6 : n6 = n + a.clen + 1 := by have := N2.out; omega
      rw [← Ecode6.out, INS.out, ← HL.out, get_app, set_app, HL.out, h6, ← hnp]
      rfl)
  | false =>
    have EO : Aside (R = .ok (a, j, h2)) := by show _ = _; rw [← PR2.out, h42, h43, h63]; rfl
    clear PR2 h42 h43 h63
    have l0 : W.heap.size < w5.heap.size := (Array.getElem?_eq_some_iff.1 H0.out).1
    have l1 : (W.heap.size + 1) < w5.heap.size := (Array.getElem?_eq_some_iff.1 H1.out).1
    rw [holds_add (holds_self H0.out) H1.out]
    go_wp2
    refine bodyPost_ret (v := .agg #[.slice la2 n2 lc2, .int .i64 (j : Int), .int .i64 (h2 : Int), .bool false]) (by simp [results, Try.results62, go_sem, ↓IntWalk.iteOmega, *]) rfl ?_
    exact HQ.out _ _ _ _ _ _ _ _ ((HP.out.other H0.out (by have := HH.out.hb.size; omega) (by decide)).other (hh_ne (by omega) H1.out) (by have := HH.out.hb.size; omega) (by decide)) ((HK.out.other (by omega) _ _).other (by omega) _ _) (by omega) (by
      rw [EO.out]
      exact ⟨by rw [HCA.out, HL.out], rfl, rfl, rfl⟩)

end Go.Proofs.Ytfhccmegobbnaaa
