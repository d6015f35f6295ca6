/- This text proves the walk of the parser's atom, given that of regex. Conditions: those that each theorem names. -/
import Derived.Test.YtfhccmegobbnaaaRegexG
namespace Go.Proofs.Ytfhccmegobbnaaa
open Go.ChangeShapes Go.WideShapes Go.ChangeAt Go.RowKit
set_option linter.unusedVariables false
set_option linter.unusedSimpArgs false

theorem esc_p (s : ByteArray) (pb B at' g : Nat) (code : List In) (bad : Int) (w u : World) (h0 : Below B w u) (h : Par s pb B at' g code bad u) (hz : s.size ≤ 100000) (hat : at' < s.size) :
    Calls Try.prog 73 #[.pointer (some ⟨pb, 0, none⟩)] u fun e w' => match escF s at' with
      | .ok (c, i) => e = .returned (.tuple #[.int .u8 (c.toNat : Int), .bool true]) ∧ Par s pb B i g code bad w' ∧ Below B w w'
      | .error k => e = .returned (.tuple #[.int .u8 0, .bool false]) ∧ Par s pb B k g code (k : Int) w' ∧ Below B w w' := by
  obtain ⟨v, hv⟩ := h.v
  refine (escaped_calls s pb B at' g code bad v u u (grefl _ _) hv hz hat).mono fun e w' hp => ?_
  unfold CPost at hp
  cases hr : escF s at' with
  | error k =>
    rw [hr] at hp
    exact ⟨hp.1, hp.2.1.par, h0.trans (gbelow hp.2.2 hv.hB hv.size.1)⟩
  | ok r =>
    rw [hr] at hp
    exact ⟨hp.1, hp.2.1.par, h0.trans (gbelow hp.2.2 hv.hB hv.size.1)⟩
theorem class_p (s : ByteArray) (pb B at' g : Nat) (code : List In) (bad : Int) (w u : World) (h0 : Below B w u) (h : Par s pb B at' g code bad u) (hz : s.size ≤ 100000) (hn : code.length ≤ 100000) (hat : at' ≤ s.size) :
    Calls Try.prog 72 #[.pointer (some ⟨pb, 0, none⟩)] u fun e w' => KPost s pb B g code bad w (classF s at') e w' := by
  obtain ⟨v, hv⟩ := h.v
  exact class_calls s pb B at' g code bad v w u h0 hv hz hn hat
theorem atom_grp {f : Nat} {s : ByteArray} {i g : Nat} (h : s[i]! = 40) : atomF (f + 1) s i g = grpF f s i g := by
  unfold atomF grpF
  rw [if_pos h]
  rfl
theorem atom_bad {f : Nat} {s : ByteArray} {i g : Nat} (h1 : s[i]! ≠ 40) (h : s[i]! = 41 ∨ s[i]! = 42 ∨ s[i]! = 43 ∨ s[i]! = 63) : atomF (f + 1) s i g = .error i := by
  unfold atomF
  rw [if_neg h1, if_pos h]
def Plain (c : UInt8) : Prop := c ≠ 40 ∧ ¬ (c = 41 ∨ c = 42 ∨ c = 43 ∨ c = 63)
theorem atom_op {f : Nat} {s : ByteArray} {i g : Nat} (h1 : Plain s[i]!) : atomF (f + 1) s i g = if s[i]! = 46 then .ok (.leaf (iOp 2), i + 1, g)
    else if s[i]! = 94 then .ok (.leaf (iOp 4), i + 1, g)
    else if s[i]! = 36 then .ok (.leaf (iOp 5), i + 1, g)
    else if s[i]! = 91 then
      match classF s (i + 1) with
      | .error k => .error k
      | .ok (x, j) => .ok (.leaf x, j, g)
    else if s[i]! = 92 then
      match escF s i with
      | .error k => .error k
      | .ok (c, j) => .ok (.leaf (iChar c), j, g)
    else .ok (.leaf (iChar s[i]!), i + 1, g) := by
  conv => lhs; unfold atomF
  rw [if_neg h1.1, if_neg h1.2]
  rfl

set_option maxRecDepth 20000 in
set_option maxHeartbeats 32000000 in
theorem atom_calls (f : Nat) (hreg : RegOK f) (s : ByteArray) (pb B i g deep : Nat) (code : List In) (bad : Int) (w u : World) (h0 : Below B w u) (h : Par s pb B i g code bad u) (hc : Cond s i g deep code) (hlt : i < s.size) (hf : 4 * (s.size - i) + 1 ≤ f + 1) :
    Calls Try.prog 63 #[.pointer (some ⟨pb, 0, none⟩), .int .i64 (deep : Int)] u fun e w' => RPost s pb B g code bad w (atomF (f + 1) s i g) e w' := by
  have HG : Aside (∀ W, Below B w W → Par s pb B i g code bad W → Calls Try.prog 71 #[.pointer (some ⟨pb, 0, none⟩), .int .i64 (deep : Int)] W fun e w' => RPost s pb B g code bad w (grpF f s i g) e w') := fun W h1 h2 => group_calls f hreg s pb B i g deep code bad w W h1 h2 hc hlt (by omega)
  clear hreg
  have HP : Aside (Par s pb B i g code bad u) := h
  have HB : Aside (Below B w u) := h0
  have k1 := hc.hs
  have k2 := hc.hi
  have k3 := hc.h0
  have k4 := hc.hl
  have k5 := hc.hd
  have k6 := hc.hg
  have HM : Aside (Sml code) := hc.hm
  clear h h0 hc
  have ck := fun W (h : Par s pb B i g code bad W) => peek_here s pb B i g code bad W h hlt
  have pe := pk_eq s i
  generalize pkB s i = d at ck pe
  have PE : Aside (d = (s[i]!.toNat : Int)) := pe
  have h40 : d = 40 ↔ s[i]! = 40 := by rw [pe]; exact u8_at 40
  have h41 : d = 41 ↔ s[i]! = 41 := by rw [pe]; exact u8_at 41
  have h42 : d = 42 ↔ s[i]! = 42 := by rw [pe]; exact u8_at 42
  have h43 : d = 43 ↔ s[i]! = 43 := by rw [pe]; exact u8_at 43
  have h63 : d = 63 ↔ s[i]! = 63 := by rw [pe]; exact u8_at 63
  have h46 : d = 46 ↔ s[i]! = 46 := by rw [pe]; exact u8_at 46
  have h94 : d = 94 ↔ s[i]! = 94 := by rw [pe]; exact u8_at 94
  have h36 : d = 36 ↔ s[i]! = 36 := by rw [pe]; exact u8_at 36
  have h91 : d = 91 ↔ s[i]! = 91 := by rw [pe]; exact u8_at 91
  have h92 : d = 92 ↔ s[i]! = 92 := by rw [pe]; exact u8_at 92
  have hw1 : IntKind.i64.wrap ((i : Int) + 1) = (i : Int) + 1 := by rw [IntKind.wrap_i64]; omega
  clear pe
  by_cases n40 : d = 40
  · have e40 : (d == 40) = true := by rw [n40]; rfl
    have ER : atomF (f + 1) s i g = grpF f s i g := atom_grp (h40.1 n40)
    rw [ER]
    clear h40 h41 h42 h43 h63 h46 h94 h36 h91 h92 n40 ER
    have cg := HG.out
    have HQ : Aside (grpF f s i g = grpF f s i g) := rfl
    generalize grpF f s i g = r at cg HQ ⊢
    clear HG HQ
    cases r with
    | error k =>
      go_enter Try.func63, Try.ntmps63
      go_wp2_with fail
      refine (ck _ HP.out).mono ?_
      rintro e q15 ⟨rfl, hb⟩
      have HP' : Aside (Par s pb B i g code bad q15) := HP.out.later hb
      have HB' : Aside (Below B w q15) := HB.out.trans (hb.mono HP.out.size.2)
      clear hb HP HB ck
      have HP : Aside (Par s pb B i g code bad q15) := HP'.out
      have HB : Aside (Below B w q15) := HB'.out
      clear HP' HB'
      go_wp2_with fail
      refine (cg _ HB.out HP.out).mono ?_
      rintro e w9 ⟨rfl, hp, hb⟩
      have HE : Aside ((∃ i2 g2 code2, Par s pb B i2 g2 code2 (k : Int) w9) ∧ Below B w w9) := ⟨hp, hb⟩
      clear hp hb cg HP HB
      go_wp2
      refine bodyPost_ret (v := .bool false) (by simp [results, Try.results63, go_sem, ↓IntWalk.iteOmega, *]) rfl ⟨rfl, HE.out.1, HE.out.2⟩
    | ok r =>
      obtain ⟨a, j, h⟩ := r
      go_enter Try.func63, Try.ntmps63
      go_wp2_with fail
      refine (ck _ HP.out).mono ?_
      rintro e q16 ⟨rfl, hb⟩
      have HP' : Aside (Par s pb B i g code bad q16) := HP.out.later hb
      have HB' : Aside (Below B w q16) := HB.out.trans (hb.mono HP.out.size.2)
      clear hb HP HB ck
      have HP : Aside (Par s pb B i g code bad q16) := HP'.out
      have HB : Aside (Below B w q16) := HB'.out
      clear HP' HB'
      go_wp2_with fail
      refine (cg _ HB.out HP.out).mono ?_
      rintro e w9 ⟨rfl, hp, hb⟩
      have HE : Aside (Par s pb B j h (code ++ a.gen code.length g) bad w9 ∧ Below B w w9) := ⟨hp, hb⟩
      clear hp hb cg HP HB
      go_wp2
      refine bodyPost_ret (v := .bool true) (by simp [results, Try.results63, go_sem, ↓IntWalk.iteOmega, *]) rfl ⟨rfl, HE.out.1, HE.out.2⟩
  clear HG
  by_cases n41 : d = 41
  · have e41 : (d == 41) = true := by rw [n41]; rfl
    have e40 : (d == 40) = false := by simpa using n40
    have ER : atomF (f + 1) s i g = .error i := atom_bad (fun h => n40 (h40.2 h)) (.inl (h41.1 n41))
    rw [ER]
    clear h40 h41 h42 h43 h63 h46 h94 h36 h91 h92 ER n40 n41
    go_enter Try.func63, Try.ntmps63
    go_wp2_with fail
    refine (ck _ HP.out).mono ?_
    rintro e q17 ⟨rfl, hb⟩
    have HP' : Aside (Par s pb B i g code bad q17) := HP.out.later hb
    have HB' : Aside (Below B w q17) := HB.out.trans (hb.mono HP.out.size.2)
    clear hb HP HB ck
    have HP : Aside (Par s pb B i g code bad q17) := HP'.out
    have HB : Aside (Below B w q17) := HB'.out
    clear HP' HB'
    go_wp2_with fail
    refine (fail_p s pb B i g code bad _ HP.out).mono ?_
    rintro e q18 ⟨rfl, hp, hb⟩
    have HP' : Aside (Par s pb B i g code (i : Int) q18) := hp
    have HB' : Aside (Below B w q18) := HB.out.trans hb
    clear hp hb HP HB 
    have HP : Aside (Par s pb B i g code (i : Int) q18) := HP'.out
    have HB : Aside (Below B w q18) := HB'.out
    clear HP' HB'
    go_wp2
    refine bodyPost_ret (v := .bool false) (by simp [results, Try.results63, go_sem, ↓IntWalk.iteOmega, *]) rfl ⟨rfl, ⟨_, _, _, HP.out⟩, HB.out⟩
  by_cases n42 : d = 42
  · have e42 : (d == 42) = true := by rw [n42]; rfl
    have e40 : (d == 40) = false := by simpa using n40
    have e41 : (d == 41) = false := by simpa using n41
    have ER : atomF (f + 1) s i g = .error i := atom_bad (fun h => n40 (h40.2 h)) (.inr (.inl (h42.1 n42)))
    rw [ER]
    clear h40 h41 h42 h43 h63 h46 h94 h36 h91 h92 ER n40 n41 n42
    go_enter Try.func63, Try.ntmps63
    go_wp2_with fail
    refine (ck _ HP.out).mono ?_
    rintro e q19 ⟨rfl, hb⟩
    have HP' : Aside (Par s pb B i g code bad q19) := HP.out.later hb
    have HB' : Aside (Below B w q19) := HB.out.trans (hb.mono HP.out.size.2)
    clear hb HP HB ck
    have HP : Aside (Par s pb B i g code bad q19) := HP'.out
    have HB : Aside (Below B w q19) := HB'.out
    clear HP' HB'
    go_wp2_with fail
    refine (fail_p s pb B i g code bad _ HP.out).mono ?_
    rintro e q20 ⟨rfl, hp, hb⟩
    have HP' : Aside (Par s pb B i g code (i : Int) q20) := hp
    have HB' : Aside (Below B w q20) := HB.out.trans hb
    clear hp hb HP HB 
    have HP : Aside (Par s pb B i g code (i : Int) q20) := HP'.out
    have HB : Aside (Below B w q20) := HB'.out
    clear HP' HB'
    go_wp2
    refine bodyPost_ret (v := .bool false) (by simp [results, Try.results63, go_sem, ↓IntWalk.iteOmega, *]) rfl ⟨rfl, ⟨_, _, _, HP.out⟩, HB.out⟩
  by_cases n43 : d = 43
  · have e43 : (d == 43) = true := by rw [n43]; rfl
    have e40 : (d == 40) = false := by simpa using n40
    have e41 : (d == 41) = false := by simpa using n41
    have e42 : (d == 42) = false := by simpa using n42
    have ER : atomF (f + 1) s i g = .error i := atom_bad (fun h => n40 (h40.2 h)) (.inr (.inr (.inl (h43.1 n43))))
    rw [ER]
    clear h40 h41 h42 h43 h63 h46 h94 h36 h91 h92 ER n40 n41 n42 n43
    go_enter Try.func63, Try.ntmps63
    go_wp2_with fail
    refine (ck _ HP.out).mono ?_
    rintro e q21 ⟨rfl, hb⟩
    have HP' : Aside (Par s pb B i g code bad q21) := HP.out.later hb
    have HB' : Aside (Below B w q21) := HB.out.trans (hb.mono HP.out.size.2)
    clear hb HP HB ck
    have HP : Aside (Par s pb B i g code bad q21) := HP'.out
    have HB : Aside (Below B w q21) := HB'.out
    clear HP' HB'
    go_wp2_with fail
    refine (fail_p s pb B i g code bad _ HP.out).mono ?_
    rintro e q22 ⟨rfl, hp, hb⟩
    have HP' : Aside (Par s pb B i g code (i : Int) q22) := hp
    have HB' : Aside (Below B w q22) := HB.out.trans hb
    clear hp hb HP HB 
    have HP : Aside (Par s pb B i g code (i : Int) q22) := HP'.out
    have HB : Aside (Below B w q22) := HB'.out
    clear HP' HB'
    go_wp2
    refine bodyPost_ret (v := .bool false) (by simp [results, Try.results63, go_sem, ↓IntWalk.iteOmega, *]) rfl ⟨rfl, ⟨_, _, _, HP.out⟩, HB.out⟩
  by_cases n63 : d = 63
  · have e63 : (d == 63) = true := by rw [n63]; rfl
    have e40 : (d == 40) = false := by simpa using n40
    have e41 : (d == 41) = false := by simpa using n41
    have e42 : (d == 42) = false := by simpa using n42
    have e43 : (d == 43) = false := by simpa using n43
    have ER : atomF (f + 1) s i g = .error i := atom_bad (fun h => n40 (h40.2 h)) (.inr (.inr (.inr (h63.1 n63))))
    rw [ER]
    clear h40 h41 h42 h43 h63 h46 h94 h36 h91 h92 ER n40 n41 n42 n43 n63
    go_enter Try.func63, Try.ntmps63
    go_wp2_with fail
    refine (ck _ HP.out).mono ?_
    rintro e q23 ⟨rfl, hb⟩
    have HP' : Aside (Par s pb B i g code bad q23) := HP.out.later hb
    have HB' : Aside (Below B w q23) := HB.out.trans (hb.mono HP.out.size.2)
    clear hb HP HB ck
    have HP : Aside (Par s pb B i g code bad q23) := HP'.out
    have HB : Aside (Below B w q23) := HB'.out
    clear HP' HB'
    go_wp2_with fail
    refine (fail_p s pb B i g code bad _ HP.out).mono ?_
    rintro e q24 ⟨rfl, hp, hb⟩
    have HP' : Aside (Par s pb B i g code (i : Int) q24) := hp
    have HB' : Aside (Below B w q24) := HB.out.trans hb
    clear hp hb HP HB 
    have HP : Aside (Par s pb B i g code (i : Int) q24) := HP'.out
    have HB : Aside (Below B w q24) := HB'.out
    clear HP' HB'
    go_wp2
    refine bodyPost_ret (v := .bool false) (by simp [results, Try.results63, go_sem, ↓IntWalk.iteOmega, *]) rfl ⟨rfl, ⟨_, _, _, HP.out⟩, HB.out⟩
  have hpl : Plain s[i]! := ⟨fun h => n40 (h40.2 h), fun h => by
    rcases h with h | h | h | h
    · exact n41 (h41.2 h)
    · exact n42 (h42.2 h)
    · exact n43 (h43.2 h)
    · exact n63 (h63.2 h)⟩
  have EO := atom_op (f := f) (g := g) hpl
  clear hpl
  by_cases n46 : d = 46
  · have e46 : (d == 46) = true := by rw [n46]; rfl
    have e40 : (d == 40) = false := by simpa using n40
    have e41 : (d == 41) = false := by simpa using n41
    have e42 : (d == 42) = false := by simpa using n42
    have e43 : (d == 43) = false := by simpa using n43
    have e63 : (d == 63) = false := by simpa using n63
    have ER : atomF (f + 1) s i g = .ok (.leaf (iOp 2), i + 1, g) := by rw [EO, if_pos (h46.1 n46)]
    rw [ER]
    have ce := fun W (h : Par s pb B i g code bad W) => emit_calls s pb B i g code bad 2 0 ⟨#[]⟩ false 0 0 W h (by omega)
    have HX : Aside (code ++ (Re.leaf (iOp 2)).gen code.length g = code ++ [(iOp 2)]) := rfl
    clear h40 h41 h42 h43 h63 h46 h94 h36 h91 h92 ER EO n40 n41 n42 n43 n63 n46
    go_enter Try.func63, Try.ntmps63
    go_wp2_with fail
    refine (ck _ HP.out).mono ?_
    rintro e q25 ⟨rfl, hb⟩
    have HP' : Aside (Par s pb B i g code bad q25) := HP.out.later hb
    have HB' : Aside (Below B w q25) := HB.out.trans (hb.mono HP.out.size.2)
    clear hb HP HB ck
    have HP : Aside (Par s pb B i g code bad q25) := HP'.out
    have HB : Aside (Below B w q25) := HB'.out
    clear HP' HB'
    go_wp2_with fail
    refine (ce _ HP.out).mono ?_
    rintro e q26 ⟨rfl, hp, hb⟩
    have HP' : Aside (Par s pb B i g (code ++ [(iOp 2)]) bad q26) := hp
    have HB' : Aside (Below B w q26) := HB.out.trans hb
    clear hp hb HP HB ce
    have HP : Aside (Par s pb B i g (code ++ [(iOp 2)]) bad q26) := HP'.out
    have HB : Aside (Below B w q26) := HB'.out
    clear HP' HB'
    obtain ⟨v, hv⟩ := HP.out.v
    have h1 := hv.hp
    have lt : pb < q26.heap.size := (Array.getElem?_eq_some_iff.1 h1).1
    have hp := hv.put (i + 1) g bad
    have hc1 : ((i + 1 : Nat) : Int) = (i : Int) + 1 := by omega
    rw [hc1] at hp
    have HPP : Aside (Par s pb B (i + 1) g (code ++ [(iOp 2)]) bad _) := hp.par
    have hB := hv.hB
    rw [holds_self h1]
    clear h1 hv hp hc1 HP
    go_wp2
    refine bodyPost_ret (v := .bool true) (by simp [results, Try.results63, go_sem, ↓IntWalk.iteOmega, *]) rfl ⟨rfl, HPP.out, below_holds HB.out hB _ _⟩
  by_cases n94 : d = 94
  · have e94 : (d == 94) = true := by rw [n94]; rfl
    have e40 : (d == 40) = false := by simpa using n40
    have e41 : (d == 41) = false := by simpa using n41
    have e42 : (d == 42) = false := by simpa using n42
    have e43 : (d == 43) = false := by simpa using n43
    have e63 : (d == 63) = false := by simpa using n63
    have e46 : (d == 46) = false := by simpa using n46
    have ER : atomF (f + 1) s i g = .ok (.leaf (iOp 4), i + 1, g) := by rw [EO, if_neg (fun h => n46 (h46.2 h)), if_pos (h94.1 n94)]
    rw [ER]
    have ce := fun W (h : Par s pb B i g code bad W) => emit_calls s pb B i g code bad 4 0 ⟨#[]⟩ false 0 0 W h (by omega)
    have HX : Aside (code ++ (Re.leaf (iOp 4)).gen code.length g = code ++ [(iOp 4)]) := rfl
    clear h40 h41 h42 h43 h63 h46 h94 h36 h91 h92 ER EO n40 n41 n42 n43 n63 n46 n94
    go_enter Try.func63, Try.ntmps63
    go_wp2_with fail
    refine (ck _ HP.out).mono ?_
    rintro e q27 ⟨rfl, hb⟩
    have HP' : Aside (Par s pb B i g code bad q27) := HP.out.later hb
    have HB' : Aside (Below B w q27) := HB.out.trans (hb.mono HP.out.size.2)
    clear hb HP HB ck
    have HP : Aside (Par s pb B i g code bad q27) := HP'.out
    have HB : Aside (Below B w q27) := HB'.out
    clear HP' HB'
    go_wp2_with fail
    refine (ce _ HP.out).mono ?_
    rintro e q28 ⟨rfl, hp, hb⟩
    have HP' : Aside (Par s pb B i g (code ++ [(iOp 4)]) bad q28) := hp
    have HB' : Aside (Below B w q28) := HB.out.trans hb
    clear hp hb HP HB ce
    have HP : Aside (Par s pb B i g (code ++ [(iOp 4)]) bad q28) := HP'.out
    have HB : Aside (Below B w q28) := HB'.out
    clear HP' HB'
    obtain ⟨v, hv⟩ := HP.out.v
    have h1 := hv.hp
    have lt : pb < q28.heap.size := (Array.getElem?_eq_some_iff.1 h1).1
    have hp := hv.put (i + 1) g bad
    have hc1 : ((i + 1 : Nat) : Int) = (i : Int) + 1 := by omega
    rw [hc1] at hp
    have HPP : Aside (Par s pb B (i + 1) g (code ++ [(iOp 4)]) bad _) := hp.par
    have hB := hv.hB
    rw [holds_self h1]
    clear h1 hv hp hc1 HP
    go_wp2
    refine bodyPost_ret (v := .bool true) (by simp [results, Try.results63, go_sem, ↓IntWalk.iteOmega, *]) rfl ⟨rfl, HPP.out, below_holds HB.out hB _ _⟩
  by_cases n36 : d = 36
  · have e36 : (d == 36) = true := by rw [n36]; rfl
    have e40 : (d == 40) = false := by simpa using n40
    have e41 : (d == 41) = false := by simpa using n41
    have e42 : (d == 42) = false := by simpa using n42
    have e43 : (d == 43) = false := by simpa using n43
    have e63 : (d == 63) = false := by simpa using n63
    have e46 : (d == 46) = false := by simpa using n46
    have e94 : (d == 94) = false := by simpa using n94
    have ER : atomF (f + 1) s i g = .ok (.leaf (iOp 5), i + 1, g) := by rw [EO, if_neg (fun h => n46 (h46.2 h)), if_neg (fun h => n94 (h94.2 h)), if_pos (h36.1 n36)]
    rw [ER]
    have ce := fun W (h : Par s pb B i g code bad W) => emit_calls s pb B i g code bad 5 0 ⟨#[]⟩ false 0 0 W h (by omega)
    have HX : Aside (code ++ (Re.leaf (iOp 5)).gen code.length g = code ++ [(iOp 5)]) := rfl
    clear h40 h41 h42 h43 h63 h46 h94 h36 h91 h92 ER EO n40 n41 n42 n43 n63 n46 n94 n36
    go_enter Try.func63, Try.ntmps63
    go_wp2_with fail
    refine (ck _ HP.out).mono ?_
    rintro e q29 ⟨rfl, hb⟩
    have HP' : Aside (Par s pb B i g code bad q29) := HP.out.later hb
    have HB' : Aside (Below B w q29) := HB.out.trans (hb.mono HP.out.size.2)
    clear hb HP HB ck
    have HP : Aside (Par s pb B i g code bad q29) := HP'.out
    have HB : Aside (Below B w q29) := HB'.out
    clear HP' HB'
    go_wp2_with fail
    refine (ce _ HP.out).mono ?_
    rintro e q30 ⟨rfl, hp, hb⟩
    have HP' : Aside (Par s pb B i g (code ++ [(iOp 5)]) bad q30) := hp
    have HB' : Aside (Below B w q30) := HB.out.trans hb
    clear hp hb HP HB ce
    have HP : Aside (Par s pb B i g (code ++ [(iOp 5)]) bad q30) := HP'.out
    have HB : Aside (Below B w q30) := HB'.out
    clear HP' HB'
    obtain ⟨v, hv⟩ := HP.out.v
    have h1 := hv.hp
    have lt : pb < q30.heap.size := (Array.getElem?_eq_some_iff.1 h1).1
    have hp := hv.put (i + 1) g bad
    have hc1 : ((i + 1 : Nat) : Int) = (i : Int) + 1 := by omega
    rw [hc1] at hp
    have HPP : Aside (Par s pb B (i + 1) g (code ++ [(iOp 5)]) bad _) := hp.par
    have hB := hv.hB
    rw [holds_self h1]
    clear h1 hv hp hc1 HP
    go_wp2
    refine bodyPost_ret (v := .bool true) (by simp [results, Try.results63, go_sem, ↓IntWalk.iteOmega, *]) rfl ⟨rfl, HPP.out, below_holds HB.out hB _ _⟩
  by_cases n91 : d = 91
  · have e91 : (d == 91) = true := by rw [n91]; rfl
    have e40 : (d == 40) = false := by simpa using n40
    have e41 : (d == 41) = false := by simpa using n41
    have e42 : (d == 42) = false := by simpa using n42
    have e43 : (d == 43) = false := by simpa using n43
    have e63 : (d == 63) = false := by simpa using n63
    have e46 : (d == 46) = false := by simpa using n46
    have e94 : (d == 94) = false := by simpa using n94
    have e36 : (d == 36) = false := by simpa using n36
    have ER : atomF (f + 1) s i g = match classF s (i + 1) with | .error k => .error k | .ok (x, j) => .ok (.leaf x, j, g) := by rw [EO, if_neg (fun h => n46 (h46.2 h)), if_neg (fun h => n94 (h94.2 h)), if_neg (fun h => n36 (h36.2 h)), if_pos (h91.1 n91)]
    have cc := fun W (h0 : Below B w W) (h : Par s pb B (i + 1) g code bad W) => class_p s pb B (i + 1) g code bad w W h0 h (by omega) (by omega) (by omega)
    generalize classF s (i + 1) = r at ER cc
    clear h40 h41 h42 h43 h63 h46 h94 h36 h91 h92 EO n40 n41 n42 n43 n63 n46 n94 n36 n91
    cases r with
    | error k =>
      have ER : atomF (f + 1) s i g = .error k := ER
      rw [ER]
      clear ER
      go_enter Try.func63, Try.ntmps63
      go_wp2_with fail
      refine (ck _ HP.out).mono ?_
      rintro e q31 ⟨rfl, hb⟩
      have HP' : Aside (Par s pb B i g code bad q31) := HP.out.later hb
      have HB' : Aside (Below B w q31) := HB.out.trans (hb.mono HP.out.size.2)
      clear hb HP HB ck
      have HP : Aside (Par s pb B i g code bad q31) := HP'.out
      have HB : Aside (Below B w q31) := HB'.out
      clear HP' HB'
      obtain ⟨v, hv⟩ := HP.out.v
      have h1 := hv.hp
      have lt : pb < q31.heap.size := (Array.getElem?_eq_some_iff.1 h1).1
      have HV : Aside (ParV s pb B i g code bad v q31) := hv
      rw [holds_self h1]
      clear h1 hv HP
      have hp := HV.out.put (i + 1) g bad
      have hc1 : (((i + 1) : Nat) : Int) = ((i : Int) + 1) := by omega
      have hc2 : ((g : Nat) : Int) = (g : Int) := by omega
      rw [hc1, hc2] at hp
      have HP' : Aside (Par s pb B (i + 1) g code bad (holds q31 pb #[.string s, .int .i64 ((i : Int) + 1), .int .i64 (g : Int), v, .int .i64 bad] 46)) := hp.par
      have HB' : Aside (Below B w (holds q31 pb #[.string s, .int .i64 ((i : Int) + 1), .int .i64 (g : Int), v, .int .i64 bad] 46)) := below_holds HB.out HV.out.hB _ _
      clear hp hc1 hc2 HB HV
      go_wp2_with fail
      clear lt 
      generalize holds q31 pb #[.string s, .int .i64 ((i : Int) + 1), .int .i64 (g : Int), v, .int .i64 bad] 46 = q32 at HP' HB' ⊢
      have HP : Aside (Par s pb B (i + 1) g code bad q32) := HP'.out
      have HB : Aside (Below B w q32) := HB'.out
      clear HP' HB'
      refine (cc _ HB.out HP.out).mono ?_
      rintro e w9 ⟨rfl, hp, hb⟩
      have HE : Aside (Par s pb B k g code (k : Int) w9 ∧ Below B w w9) := ⟨hp, hb⟩
      clear hp hb cc HP HB
      go_wp2
      refine bodyPost_ret (v := .bool false) (by simp [results, Try.results63, go_sem, ↓IntWalk.iteOmega, *]) rfl ⟨rfl, ⟨_, _, _, HE.out.1⟩, HE.out.2⟩
    | ok r =>
      obtain ⟨x, j⟩ := r
      have ER : atomF (f + 1) s i g = .ok (.leaf x, j, g) := ER
      rw [ER]
      clear ER
      go_enter Try.func63, Try.ntmps63
      go_wp2_with fail
      refine (ck _ HP.out).mono ?_
      rintro e q33 ⟨rfl, hb⟩
      have HP' : Aside (Par s pb B i g code bad q33) := HP.out.later hb
      have HB' : Aside (Below B w q33) := HB.out.trans (hb.mono HP.out.size.2)
      clear hb HP HB ck
      have HP : Aside (Par s pb B i g code bad q33) := HP'.out
      have HB : Aside (Below B w q33) := HB'.out
      clear HP' HB'
      obtain ⟨v, hv⟩ := HP.out.v
      have h1 := hv.hp
      have lt : pb < q33.heap.size := (Array.getElem?_eq_some_iff.1 h1).1
      have HV : Aside (ParV s pb B i g code bad v q33) := hv
      rw [holds_self h1]
      clear h1 hv HP
      have hp := HV.out.put (i + 1) g bad
      have hc1 : (((i + 1) : Nat) : Int) = ((i : Int) + 1) := by omega
      have hc2 : ((g : Nat) : Int) = (g : Int) := by omega
      rw [hc1, hc2] at hp
      have HP' : Aside (Par s pb B (i + 1) g code bad (holds q33 pb #[.string s, .int .i64 ((i : Int) + 1), .int .i64 (g : Int), v, .int .i64 bad] 46)) := hp.par
      have HB' : Aside (Below B w (holds q33 pb #[.string s, .int .i64 ((i : Int) + 1), .int .i64 (g : Int), v, .int .i64 bad] 46)) := below_holds HB.out HV.out.hB _ _
      clear hp hc1 hc2 HB HV
      go_wp2_with fail
      clear lt 
      generalize holds q33 pb #[.string s, .int .i64 ((i : Int) + 1), .int .i64 (g : Int), v, .int .i64 bad] 46 = q34 at HP' HB' ⊢
      have HP : Aside (Par s pb B (i + 1) g code bad q34) := HP'.out
      have HB : Aside (Below B w q34) := HB'.out
      clear HP' HB'
      refine (cc _ HB.out HP.out).mono ?_
      rintro e w9 ⟨rfl, hp, hb⟩
      have HE : Aside (Par s pb B j g (code ++ [x]) bad w9 ∧ Below B w w9) := ⟨hp, hb⟩
      clear hp hb cc HP HB
      go_wp2
      refine bodyPost_ret (v := .bool true) (by simp [results, Try.results63, go_sem, ↓IntWalk.iteOmega, *]) rfl ⟨rfl, HE.out.1, HE.out.2⟩
  by_cases n92 : d = 92
  · have e92 : (d == 92) = true := by rw [n92]; rfl
    have e40 : (d == 40) = false := by simpa using n40
    have e41 : (d == 41) = false := by simpa using n41
    have e42 : (d == 42) = false := by simpa using n42
    have e43 : (d == 43) = false := by simpa using n43
    have e63 : (d == 63) = false := by simpa using n63
    have e46 : (d == 46) = false := by simpa using n46
    have e94 : (d == 94) = false := by simpa using n94
    have e36 : (d == 36) = false := by simpa using n36
    have e91 : (d == 91) = false := by simpa using n91
    have ER : atomF (f + 1) s i g = match escF s i with | .error k => .error k | .ok (c, j) => .ok (.leaf (iChar c), j, g) := by rw [EO, if_neg (fun h => n46 (h46.2 h)), if_neg (fun h => n94 (h94.2 h)), if_neg (fun h => n36 (h36.2 h)), if_neg (fun h => n91 (h91.2 h)), if_pos (h92.1 n92)]
    have cc := fun W (h0 : Below B w W) (h : Par s pb B i g code bad W) => esc_p s pb B i g code bad w W h0 h (by omega) hlt
    generalize escF s i = r at ER cc
    clear h40 h41 h42 h43 h63 h46 h94 h36 h91 h92 EO n40 n41 n42 n43 n63 n46 n94 n36 n91 n92
    cases r with
    | error k =>
      have ER : atomF (f + 1) s i g = .error k := ER
      rw [ER]
      clear ER
      go_enter Try.func63, Try.ntmps63
      go_wp2_with fail
      refine (ck _ HP.out).mono ?_
      rintro e q35 ⟨rfl, hb⟩
      have HP' : Aside (Par s pb B i g code bad q35) := HP.out.later hb
      have HB' : Aside (Below B w q35) := HB.out.trans (hb.mono HP.out.size.2)
      clear hb HP HB ck
      have HP : Aside (Par s pb B i g code bad q35) := HP'.out
      have HB : Aside (Below B w q35) := HB'.out
      clear HP' HB'
      go_wp2_with fail
      refine (cc _ HB.out HP.out).mono ?_
      rintro e w9 ⟨rfl, hp, hb⟩
      have HE : Aside (Par s pb B k g code (k : Int) w9 ∧ Below B w w9) := ⟨hp, hb⟩
      clear hp hb cc HP HB
      go_wp2
      refine bodyPost_ret (v := .bool false) (by simp [results, Try.results63, go_sem, ↓IntWalk.iteOmega, *]) rfl ⟨rfl, ⟨_, _, _, HE.out.1⟩, HE.out.2⟩
    | ok r =>
      obtain ⟨c, j⟩ := r
      have ER : atomF (f + 1) s i g = .ok (.leaf (iChar c), j, g) := ER
      rw [ER]
      clear ER
      have ce := fun W (h : Par s pb B j g code bad W) => emit_calls s pb B j g code bad 1 (c.toNat : Int) ⟨#[]⟩ false 0 0 W h (by omega)
      go_enter Try.func63, Try.ntmps63
      go_wp2_with fail
      refine (ck _ HP.out).mono ?_
      rintro e q36 ⟨rfl, hb⟩
      have HP' : Aside (Par s pb B i g code bad q36) := HP.out.later hb
      have HB' : Aside (Below B w q36) := HB.out.trans (hb.mono HP.out.size.2)
      clear hb HP HB ck
      have HP : Aside (Par s pb B i g code bad q36) := HP'.out
      have HB : Aside (Below B w q36) := HB'.out
      clear HP' HB'
      go_wp2_with fail
      refine (cc _ HB.out HP.out).mono ?_
      rintro e q37 ⟨rfl, hp, hb⟩
      clear HP HB cc
      have HP : Aside (Par s pb B j g code bad q37) := hp
      have HB : Aside (Below B w q37) := hb
      clear hp hb
      go_wp2_with fail
      refine (ce _ HP.out).mono ?_
      rintro e q38 ⟨rfl, hp, hb⟩
      have HP' : Aside (Par s pb B j g (code ++ [iChar c]) bad q38) := hp
      have HB' : Aside (Below B w q38) := HB.out.trans hb
      clear hp hb HP HB ce
      have HP : Aside (Par s pb B j g (code ++ [iChar c]) bad q38) := HP'.out
      have HB : Aside (Below B w q38) := HB'.out
      clear HP' HB'
      go_wp2
      refine bodyPost_ret (v := .bool true) (by simp [results, Try.results63, go_sem, ↓IntWalk.iteOmega, *]) rfl ⟨rfl, HP.out, HB.out⟩
  have e40 : (d == 40) = false := by simpa using n40
  have e41 : (d == 41) = false := by simpa using n41
  have e42 : (d == 42) = false := by simpa using n42
  have e43 : (d == 43) = false := by simpa using n43
  have e63 : (d == 63) = false := by simpa using n63
  have e46 : (d == 46) = false := by simpa using n46
  have e94 : (d == 94) = false := by simpa using n94
  have e36 : (d == 36) = false := by simpa using n36
  have e91 : (d == 91) = false := by simpa using n91
  have e92 : (d == 92) = false := by simpa using n92
  have ER : atomF (f + 1) s i g = .ok (.leaf (iChar s[i]!), i + 1, g) := by rw [EO, if_neg (fun h => n46 (h46.2 h)), if_neg (fun h => n94 (h94.2 h)), if_neg (fun h => n36 (h36.2 h)), if_neg (fun h => n91 (h91.2 h)), if_neg (fun h => n92 (h92.2 h))]
  rw [ER]
  have ce := fun W (h : Par s pb B i g code bad W) => emit_calls s pb B i g code bad 1 d ⟨#[]⟩ false 0 0 W h (by omega)
  rw [show (⟨1, d, ⟨#[]⟩, false, 0, 0⟩ : In) = iChar s[i]! from by unfold iChar; rw [PE.out]] at ce
  have HX : Aside (code ++ (Re.leaf (iChar s[i]!)).gen code.length g = code ++ [(iChar s[i]!)]) := rfl
  clear h40 h41 h42 h43 h63 h46 h94 h36 h91 h92 ER EO n40 n41 n42 n43 n63 n46 n94 n36 n91 n92
  go_enter Try.func63, Try.ntmps63
  go_wp2_with fail
  refine (ck _ HP.out).mono ?_
  rintro e q39 ⟨rfl, hb⟩
  have HP' : Aside (Par s pb B i g code bad q39) := HP.out.later hb
  have HB' : Aside (Below B w q39) := HB.out.trans (hb.mono HP.out.size.2)
  clear hb HP HB ck
  have HP : Aside (Par s pb B i g code bad q39) := HP'.out
  have HB : Aside (Below B w q39) := HB'.out
  clear HP' HB'
  go_wp2_with fail
  refine (ce _ HP.out).mono ?_
  rintro e q40 ⟨rfl, hp, hb⟩
  have HP' : Aside (Par s pb B i g (code ++ [(iChar s[i]!)]) bad q40) := hp
  have HB' : Aside (Below B w q40) := HB.out.trans hb
  clear hp hb HP HB ce
  have HP : Aside (Par s pb B i g (code ++ [(iChar s[i]!)]) bad q40) := HP'.out
  have HB : Aside (Below B w q40) := HB'.out
  clear HP' HB'
  obtain ⟨v, hv⟩ := HP.out.v
  have h1 := hv.hp
  have lt : pb < q40.heap.size := (Array.getElem?_eq_some_iff.1 h1).1
  have hp := hv.put (i + 1) g bad
  have hc1 : ((i + 1 : Nat) : Int) = (i : Int) + 1 := by omega
  rw [hc1] at hp
  have HPP : Aside (Par s pb B (i + 1) g (code ++ [(iChar s[i]!)]) bad _) := hp.par
  have hB := hv.hB
  rw [holds_self h1]
  clear h1 hv hp hc1 HP
  go_wp2
  refine bodyPost_ret (v := .bool true) (by simp [results, Try.results63, go_sem, ↓IntWalk.iteOmega, *]) rfl ⟨rfl, HPP.out, below_holds HB.out hB _ _⟩

end Go.Proofs.Ytfhccmegobbnaaa
