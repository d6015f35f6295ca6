/- This text gives the plain reading of bytes of a regular expression, and proves the walks of the parser's escaped and char. Conditions: those that each theorem names. -/
import Derived.Test.YtfhccmegobbnaaaRegexC
namespace Go.Proofs.Ytfhccmegobbnaaa
open Go.ChangeShapes Go.WideShapes Go.ChangeAt Go.RowKit
set_option linter.unusedVariables false
set_option linter.unusedSimpArgs false

/-- The byte that a backslash and a byte stand for. -/
def escV (c : UInt8) : UInt8 := if c = 110 then 10 else if c = 116 then 9 else c
/-- A backslash at a position: the byte, and the position behind it. -/
def escF (s : ByteArray) (i : Nat) : Except Nat (UInt8 × Nat) := if i + 1 < s.size then .ok (escV s[i + 1]!, i + 2) else .error (i + 1)
/-- A byte of a class. -/
def charF (s : ByteArray) (i : Nat) : Except Nat (UInt8 × Nat) :=
  if i < s.size ∧ s[i]! ≠ 93 ∧ s[i]! ≠ 45 then (if s[i]! = 92 then escF s i else .ok (s[i]!, i + 1)) else .error i
def CPost (s : ByteArray) (pb B g : Nat) (code : List In) (bad : Int) (v : Value) (w : World) (r : Except Nat (UInt8 × Nat)) (e : Ending) (w' : World) : Prop :=
  match r with
  | .ok (c, i) => e = .returned (.tuple #[.int .u8 (c.toNat : Int), .bool true]) ∧ ParV s pb B i g code bad v w' ∧ w.grownBy w' (some pb)
  | .error k => e = .returned (.tuple #[.int .u8 0, .bool false]) ∧ ParV s pb B k g code (k : Int) v w' ∧ w.grownBy w' (some pb)
theorem u8_at {c : UInt8} (n : UInt8) : ((c.toNat : Int) = (n.toNat : Int)) ↔ c = n := by
  rw [← UInt8.toNat_inj]
  omega
theorem pk_eq (s : ByteArray) (i : Nat) : pkB s i = (s[i]!.toNat : Int) := rfl

set_option maxHeartbeats 8000000 in
theorem escaped_calls (s : ByteArray) (pb B at' g : Nat) (code : List In) (bad : Int) (v : Value) (w u : World) (h0 : w.grownBy u (some pb)) (h : ParV s pb B at' g code bad v u) (hz : s.size ≤ 100000) (hat : at' < s.size) :
    Calls Try.prog 73 #[.pointer (some ⟨pb, 0, none⟩)] u fun e w' => CPost s pb B g code bad v w (escF s at') e w' := by
  have HP : Aside (ParV s pb B at' g code bad v u) := h
  have HB : Aside (w.grownBy u (some pb)) := h0
  clear h h0
  by_cases he : at' + 1 < s.size
  · have ER : Aside (escF s at' = .ok (escV s[at' + 1]!, at' + 2)) := if_pos he
    have ck := fun W (h : ParV s pb B (at' + 1) g code bad v W) => peek_here s pb B (at' + 1) g code bad W h.par he
    have pe := pk_eq s (at' + 1)
    generalize pkB s (at' + 1) = d at ck pe
    have h110 : d = 110 ↔ s[at' + 1]! = 110 := by rw [pe]; exact u8_at 110
    have h116 : d = 116 ↔ s[at' + 1]! = 116 := by rw [pe]; exact u8_at 116
    have EV : Aside (escV s[at' + 1]! = if s[at' + 1]! = 110 then 10 else if s[at' + 1]! = 116 then 9 else s[at' + 1]!) := rfl
    generalize s[at' + 1]! = c at ER EV pe h110 h116
    have KP : Aside (∀ r e w', escF s at' = r → CPost s pb B g code bad v w r e w' → CPost s pb B g code bad v w (escF s at') e w') := fun r e w' hr h => by rw [hr]; exact h
    by_cases c1 : d = 110
    · have k1 : (d == 110) = true := by rw [c1]; rfl
      have hv : escV c = 10 := by rw [EV.out, if_pos (h110.1 c1)]
      have ER2 : Aside (escF s at' = .ok (escV c, at' + 2)) := ER.out
      rw [hv] at ER2
      clear ER EV h110 h116 hv c1
      go_enter Try.func73, Try.ntmps73
      have h1 := HP.out.hp
      have lt : pb < u.heap.size := (Array.getElem?_eq_some_iff.1 h1).1
      have hwr : IntKind.i64.wrap ((((at' : Nat) : Int) + 1)) = (((at' : Nat) : Int) + 1) := by rw [IntKind.wrap_i64]; omega
      have hp := HP.out.put (at' + 1) g bad
      have hcast : (((at' + 1) : Nat) : Int) = (((at' : Nat) : Int) + 1) := by omega
      rw [hcast] at hp
      have hb := gholds u pb (#[.string s, .int .i64 (((at' : Nat) : Int) + 1), .int .i64 (g : Int), v, .int .i64 bad] : Array Value) 46
      rw [holds_self h1]
      clear h1 hcast
      go_wp2_with fail
      have HP' : Aside (ParV s pb B (at' + 1) g code bad v (holds u pb #[.string s, .int .i64 (((at' : Nat) : Int) + 1), .int .i64 (g : Int), v, .int .i64 bad] 46)) := hp
      have HB' : Aside (w.grownBy (holds u pb #[.string s, .int .i64 (((at' : Nat) : Int) + 1), .int .i64 (g : Int), v, .int .i64 bad] 46) (some pb)) := gtrans HB.out hb
      clear hp hb HP HB hwr
      clear lt
      generalize holds u pb #[.string s, .int .i64 (((at' : Nat) : Int) + 1), .int .i64 (g : Int), v, .int .i64 bad] 46 = u1 at HP' HB' ⊢
      have HP : Aside (ParV s pb B (at' + 1) g code bad v u1) := HP'.out
      have HB : Aside (w.grownBy u1 (some pb)) := HB'.out
      clear HP' HB'
      refine (ck _ HP.out).mono ?_
      rintro e u2 ⟨rfl, hb⟩
      have HP' : Aside (ParV s pb B (at' + 1) g code bad v u2) := HP.out.later hb
      have HB' : Aside (w.grownBy u2 (some pb)) := gtrans HB.out (grownBy_of_below hb _)
      clear hb HP HB 
      have HP : Aside (ParV s pb B (at' + 1) g code bad v u2) := HP'.out
      have HB : Aside (w.grownBy u2 (some pb)) := HB'.out
      clear HP' HB'
      have h1 := HP.out.hp
      have lt : pb < u2.heap.size := (Array.getElem?_eq_some_iff.1 h1).1
      have hp := HP.out.put (at' + 2) g bad
      have hc1 : ((at' + 2 : Nat) : Int) = (at' : Int) + 1 + 1 := by omega
      have hc2 : ((at' + 1 : Nat) : Int) = (at' : Int) + 1 := by omega
      rw [hc2] at h1
      rw [hc1] at hp
      have hwr : IntKind.i64.wrap ((at' : Int) + 1 + 1) = (at' : Int) + 1 + 1 := by rw [IntKind.wrap_i64]; omega
      have HPP : Aside (ParV s pb B (at' + 2) g code bad v _) := hp
      rw [holds_self h1]
      clear h1 hp hc1 hc2 ck
      go_wp2
      refine bodyPost_ret (v := .tuple #[.int .u8 10, .bool true]) (by simp [results, Try.results73, go_sem, ↓IntWalk.iteOmega, *]) rfl (KP.out _ _ _ ER2.out ⟨rfl, HPP.out, gtrans HB.out (gholds _ _ _ _)⟩)
    by_cases c2 : d = 116
    · have k1 : (d == 110) = false := by simpa using c1
      have k2 : (d == 116) = true := by rw [c2]; rfl
      have hv : escV c = 9 := by rw [EV.out, if_neg (fun h => c1 (h110.2 h)), if_pos (h116.1 c2)]
      have ER2 : Aside (escF s at' = .ok (escV c, at' + 2)) := ER.out
      rw [hv] at ER2
      clear ER EV h110 h116 hv c1 c2
      go_enter Try.func73, Try.ntmps73
      have h1 := HP.out.hp
      have lt : pb < u.heap.size := (Array.getElem?_eq_some_iff.1 h1).1
      have hwr : IntKind.i64.wrap ((((at' : Nat) : Int) + 1)) = (((at' : Nat) : Int) + 1) := by rw [IntKind.wrap_i64]; omega
      have hp := HP.out.put (at' + 1) g bad
      have hcast : (((at' + 1) : Nat) : Int) = (((at' : Nat) : Int) + 1) := by omega
      rw [hcast] at hp
      have hb := gholds u pb (#[.string s, .int .i64 (((at' : Nat) : Int) + 1), .int .i64 (g : Int), v, .int .i64 bad] : Array Value) 46
      rw [holds_self h1]
      clear h1 hcast
      go_wp2_with fail
      have HP' : Aside (ParV s pb B (at' + 1) g code bad v (holds u pb #[.string s, .int .i64 (((at' : Nat) : Int) + 1), .int .i64 (g : Int), v, .int .i64 bad] 46)) := hp
      have HB' : Aside (w.grownBy (holds u pb #[.string s, .int .i64 (((at' : Nat) : Int) + 1), .int .i64 (g : Int), v, .int .i64 bad] 46) (some pb)) := gtrans HB.out hb
      clear hp hb HP HB hwr
      clear lt
      generalize holds u pb #[.string s, .int .i64 (((at' : Nat) : Int) + 1), .int .i64 (g : Int), v, .int .i64 bad] 46 = u3 at HP' HB' ⊢
      have HP : Aside (ParV s pb B (at' + 1) g code bad v u3) := HP'.out
      have HB : Aside (w.grownBy u3 (some pb)) := HB'.out
      clear HP' HB'
      refine (ck _ HP.out).mono ?_
      rintro e u4 ⟨rfl, hb⟩
      have HP' : Aside (ParV s pb B (at' + 1) g code bad v u4) := HP.out.later hb
      have HB' : Aside (w.grownBy u4 (some pb)) := gtrans HB.out (grownBy_of_below hb _)
      clear hb HP HB 
      have HP : Aside (ParV s pb B (at' + 1) g code bad v u4) := HP'.out
      have HB : Aside (w.grownBy u4 (some pb)) := HB'.out
      clear HP' HB'
      have h1 := HP.out.hp
      have lt : pb < u4.heap.size := (Array.getElem?_eq_some_iff.1 h1).1
      have hp := HP.out.put (at' + 2) g bad
      have hc1 : ((at' + 2 : Nat) : Int) = (at' : Int) + 1 + 1 := by omega
      have hc2 : ((at' + 1 : Nat) : Int) = (at' : Int) + 1 := by omega
      rw [hc2] at h1
      rw [hc1] at hp
      have hwr : IntKind.i64.wrap ((at' : Int) + 1 + 1) = (at' : Int) + 1 + 1 := by rw [IntKind.wrap_i64]; omega
      have HPP : Aside (ParV s pb B (at' + 2) g code bad v _) := hp
      rw [holds_self h1]
      clear h1 hp hc1 hc2 ck
      go_wp2
      refine bodyPost_ret (v := .tuple #[.int .u8 9, .bool true]) (by simp [results, Try.results73, go_sem, ↓IntWalk.iteOmega, *]) rfl (KP.out _ _ _ ER2.out ⟨rfl, HPP.out, gtrans HB.out (gholds _ _ _ _)⟩)
    have k1 : (d == 110) = false := by simpa using c1
    have k2 : (d == 116) = false := by simpa using c2
    have hv : escV c = c := by rw [EV.out, if_neg (fun h => c1 (h110.2 h)), if_neg (fun h => c2 (h116.2 h))]
    have ER2 : Aside (escF s at' = .ok (escV c, at' + 2)) := ER.out
    rw [hv] at ER2
    clear ER EV h110 h116 hv c1 c2
    go_enter Try.func73, Try.ntmps73
    have h1 := HP.out.hp
    have lt : pb < u.heap.size := (Array.getElem?_eq_some_iff.1 h1).1
    have hwr : IntKind.i64.wrap ((((at' : Nat) : Int) + 1)) = (((at' : Nat) : Int) + 1) := by rw [IntKind.wrap_i64]; omega
    have hp := HP.out.put (at' + 1) g bad
    have hcast : (((at' + 1) : Nat) : Int) = (((at' : Nat) : Int) + 1) := by omega
    rw [hcast] at hp
    have hb := gholds u pb (#[.string s, .int .i64 (((at' : Nat) : Int) + 1), .int .i64 (g : Int), v, .int .i64 bad] : Array Value) 46
    rw [holds_self h1]
    clear h1 hcast
    go_wp2_with fail
    have HP' : Aside (ParV s pb B (at' + 1) g code bad v (holds u pb #[.string s, .int .i64 (((at' : Nat) : Int) + 1), .int .i64 (g : Int), v, .int .i64 bad] 46)) := hp
    have HB' : Aside (w.grownBy (holds u pb #[.string s, .int .i64 (((at' : Nat) : Int) + 1), .int .i64 (g : Int), v, .int .i64 bad] 46) (some pb)) := gtrans HB.out hb
    clear hp hb HP HB hwr
    clear lt
    generalize holds u pb #[.string s, .int .i64 (((at' : Nat) : Int) + 1), .int .i64 (g : Int), v, .int .i64 bad] 46 = u5 at HP' HB' ⊢
    have HP : Aside (ParV s pb B (at' + 1) g code bad v u5) := HP'.out
    have HB : Aside (w.grownBy u5 (some pb)) := HB'.out
    clear HP' HB'
    refine (ck _ HP.out).mono ?_
    rintro e u6 ⟨rfl, hb⟩
    have HP' : Aside (ParV s pb B (at' + 1) g code bad v u6) := HP.out.later hb
    have HB' : Aside (w.grownBy u6 (some pb)) := gtrans HB.out (grownBy_of_below hb _)
    clear hb HP HB 
    have HP : Aside (ParV s pb B (at' + 1) g code bad v u6) := HP'.out
    have HB : Aside (w.grownBy u6 (some pb)) := HB'.out
    clear HP' HB'
    have h1 := HP.out.hp
    have lt : pb < u6.heap.size := (Array.getElem?_eq_some_iff.1 h1).1
    have hp := HP.out.put (at' + 2) g bad
    have hc1 : ((at' + 2 : Nat) : Int) = (at' : Int) + 1 + 1 := by omega
    have hc2 : ((at' + 1 : Nat) : Int) = (at' : Int) + 1 := by omega
    rw [hc2] at h1
    rw [hc1] at hp
    have hwr : IntKind.i64.wrap ((at' : Int) + 1 + 1) = (at' : Int) + 1 + 1 := by rw [IntKind.wrap_i64]; omega
    have HPP : Aside (ParV s pb B (at' + 2) g code bad v _) := hp
    rw [holds_self h1]
    clear h1 hp hc1 hc2 ck
    go_wp2
    refine bodyPost_ret (v := .tuple #[.int .u8 d, .bool true]) (by simp [results, Try.results73, go_sem, ↓IntWalk.iteOmega, *]) rfl (KP.out _ _ _ ER2.out ⟨by rw [pe], HPP.out, gtrans HB.out (gholds _ _ _ _)⟩)
  · have ER : Aside (escF s at' = .error (at' + 1)) := if_neg he
    have ck := fun W (h : ParV s pb B (at' + 1) g code bad v W) => peek_end s pb B (at' + 1) g code bad W h.par (by omega)
    have cf := fun W (h : ParV s pb B (at' + 1) g code bad v W) => fail_calls s pb B (at' + 1) g code bad v W h
    go_enter Try.func73, Try.ntmps73
    have h1 := HP.out.hp
    have lt : pb < u.heap.size := (Array.getElem?_eq_some_iff.1 h1).1
    have hwr : IntKind.i64.wrap ((((at' : Nat) : Int) + 1)) = (((at' : Nat) : Int) + 1) := by rw [IntKind.wrap_i64]; omega
    have hp := HP.out.put (at' + 1) g bad
    have hcast : (((at' + 1) : Nat) : Int) = (((at' : Nat) : Int) + 1) := by omega
    rw [hcast] at hp
    have hb := gholds u pb (#[.string s, .int .i64 (((at' : Nat) : Int) + 1), .int .i64 (g : Int), v, .int .i64 bad] : Array Value) 46
    rw [holds_self h1]
    clear h1 hcast
    go_wp2_with fail
    have HP' : Aside (ParV s pb B (at' + 1) g code bad v (holds u pb #[.string s, .int .i64 (((at' : Nat) : Int) + 1), .int .i64 (g : Int), v, .int .i64 bad] 46)) := hp
    have HB' : Aside (w.grownBy (holds u pb #[.string s, .int .i64 (((at' : Nat) : Int) + 1), .int .i64 (g : Int), v, .int .i64 bad] 46) (some pb)) := gtrans HB.out hb
    clear hp hb HP HB hwr
    clear lt
    generalize holds u pb #[.string s, .int .i64 (((at' : Nat) : Int) + 1), .int .i64 (g : Int), v, .int .i64 bad] 46 = u7 at HP' HB' ⊢
    have HP : Aside (ParV s pb B (at' + 1) g code bad v u7) := HP'.out
    have HB : Aside (w.grownBy u7 (some pb)) := HB'.out
    clear HP' HB'
    refine (ck _ HP.out).mono ?_
    rintro e u8 ⟨rfl, hb⟩
    have HP' : Aside (ParV s pb B (at' + 1) g code bad v u8) := HP.out.later hb
    have HB' : Aside (w.grownBy u8 (some pb)) := gtrans HB.out (grownBy_of_below hb _)
    clear hb HP HB 
    have HP : Aside (ParV s pb B (at' + 1) g code bad v u8) := HP'.out
    have HB : Aside (w.grownBy u8 (some pb)) := HB'.out
    clear HP' HB'
    go_wp2_with fail
    refine (cf _ HP.out).mono ?_
    rintro e u9 ⟨rfl, hp, hb⟩
    have HP' : Aside (ParV s pb B (at' + 1) g code ((at' + 1 : Nat) : Int) v u9) := hp
    have HB' : Aside (w.grownBy u9 (some pb)) := gtrans HB.out hb
    clear hp hb HP HB 
    have HP : Aside (ParV s pb B (at' + 1) g code ((at' + 1 : Nat) : Int) v u9) := HP'.out
    have HB : Aside (w.grownBy u9 (some pb)) := HB'.out
    clear HP' HB'
    clear ck cf
    go_wp2
    refine bodyPost_ret (v := .tuple #[.int .u8 0, .bool false]) (by simp [results, Try.results73, go_sem, ↓IntWalk.iteOmega, *]) rfl ?_
    rw [ER.out]
    exact ⟨rfl, HP.out, HB.out⟩

set_option maxHeartbeats 8000000 in
theorem char_calls (s : ByteArray) (pb B at' g : Nat) (code : List In) (bad : Int) (v : Value) (w u : World) (h0 : w.grownBy u (some pb)) (h : ParV s pb B at' g code bad v u) (hz : s.size ≤ 100000) :
    Calls Try.prog 78 #[.pointer (some ⟨pb, 0, none⟩)] u fun e w' => CPost s pb B g code bad v w (charF s at') e w' := by
  have HP : Aside (ParV s pb B at' g code bad v u) := h
  have HB : Aside (w.grownBy u (some pb)) := h0
  clear h h0
  have cf := fun W (h : ParV s pb B at' g code bad v W) => fail_calls s pb B at' g code bad v W h
  by_cases he : at' < s.size
  rotate_left
  · have ER : Aside (charF s at' = .error at') := if_neg (fun h => he h.1)
    have ck := fun W (h : ParV s pb B at' g code bad v W) => peek_end s pb B at' g code bad W h.par (by omega)
    go_enter Try.func78, Try.ntmps78
    go_wp2_with fail
    refine (ck _ HP.out).mono ?_
    rintro e u10 ⟨rfl, hb⟩
    have HP' : Aside (ParV s pb B at' g code bad v u10) := HP.out.later hb
    have HB' : Aside (w.grownBy u10 (some pb)) := gtrans HB.out (grownBy_of_below hb _)
    clear hb HP HB 
    have HP : Aside (ParV s pb B at' g code bad v u10) := HP'.out
    have HB : Aside (w.grownBy u10 (some pb)) := HB'.out
    clear HP' HB'
    go_wp2_with fail
    refine (cf _ HP.out).mono ?_
    rintro e u11 ⟨rfl, hp, hb⟩
    have HP' : Aside (ParV s pb B at' g code ((at' : Nat) : Int) v u11) := hp
    have HB' : Aside (w.grownBy u11 (some pb)) := gtrans HB.out hb
    clear hp hb HP HB 
    have HP : Aside (ParV s pb B at' g code ((at' : Nat) : Int) v u11) := HP'.out
    have HB : Aside (w.grownBy u11 (some pb)) := HB'.out
    clear HP' HB'
    clear ck cf
    go_wp2
    refine bodyPost_ret (v := .tuple #[.int .u8 0, .bool false]) (by simp [results, Try.results78, go_sem, ↓IntWalk.iteOmega, *]) rfl ?_
    rw [ER.out]
    exact ⟨rfl, HP.out, HB.out⟩
  have ck := fun W (h : ParV s pb B at' g code bad v W) => peek_here s pb B at' g code bad W h.par he
  have pe := pk_eq s at'
  generalize pkB s at' = d at ck pe
  have h93 : d = 93 ↔ s[at']! = 93 := by rw [pe]; exact u8_at 93
  have h45 : d = 45 ↔ s[at']! = 45 := by rw [pe]; exact u8_at 45
  have h92 : d = 92 ↔ s[at']! = 92 := by rw [pe]; exact u8_at 92
  have PE : Aside (d = (s[at']!.toNat : Int)) := pe
  clear pe
  by_cases c1 : d = 93
  · have k1 : (d == 93) = true := by rw [c1]; rfl
    have m1 : decide (d = 93) = true := decide_eq_true c1
    have ER : Aside (charF s at' = .error at') := if_neg (fun h => h.2.1 (h93.1 c1))
    clear h93 h45 h92 c1
    go_enter Try.func78, Try.ntmps78
    go_wp2_with fail
    refine (ck _ HP.out).mono ?_
    rintro e u12 ⟨rfl, hb⟩
    have HP' : Aside (ParV s pb B at' g code bad v u12) := HP.out.later hb
    have HB' : Aside (w.grownBy u12 (some pb)) := gtrans HB.out (grownBy_of_below hb _)
    clear hb HP HB 
    have HP : Aside (ParV s pb B at' g code bad v u12) := HP'.out
    have HB : Aside (w.grownBy u12 (some pb)) := HB'.out
    clear HP' HB'
    go_wp2_with fail
    refine (cf _ HP.out).mono ?_
    rintro e u13 ⟨rfl, hp, hb⟩
    have HP' : Aside (ParV s pb B at' g code ((at' : Nat) : Int) v u13) := hp
    have HB' : Aside (w.grownBy u13 (some pb)) := gtrans HB.out hb
    clear hp hb HP HB 
    have HP : Aside (ParV s pb B at' g code ((at' : Nat) : Int) v u13) := HP'.out
    have HB : Aside (w.grownBy u13 (some pb)) := HB'.out
    clear HP' HB'
    clear ck cf
    go_wp2
    refine bodyPost_ret (v := .tuple #[.int .u8 0, .bool false]) (by simp [results, Try.results78, go_sem, ↓IntWalk.iteOmega, *]) rfl ?_
    rw [ER.out]
    exact ⟨rfl, HP.out, HB.out⟩
  have k1 : (d == 93) = false := by simpa using c1
  have m1 : decide (d = 93) = false := decide_eq_false c1
  by_cases c2 : d = 45
  · have k2 : (d == 45) = true := by rw [c2]; rfl
    have m2 : decide (d = 45) = true := decide_eq_true c2
    have ER : Aside (charF s at' = .error at') := if_neg (fun h => h.2.2 (h45.1 c2))
    clear h93 h45 h92 c1 c2
    go_enter Try.func78, Try.ntmps78
    go_wp2_with fail
    refine (ck _ HP.out).mono ?_
    rintro e u14 ⟨rfl, hb⟩
    have HP' : Aside (ParV s pb B at' g code bad v u14) := HP.out.later hb
    have HB' : Aside (w.grownBy u14 (some pb)) := gtrans HB.out (grownBy_of_below hb _)
    clear hb HP HB 
    have HP : Aside (ParV s pb B at' g code bad v u14) := HP'.out
    have HB : Aside (w.grownBy u14 (some pb)) := HB'.out
    clear HP' HB'
    go_wp2_with fail
    refine (cf _ HP.out).mono ?_
    rintro e u15 ⟨rfl, hp, hb⟩
    have HP' : Aside (ParV s pb B at' g code ((at' : Nat) : Int) v u15) := hp
    have HB' : Aside (w.grownBy u15 (some pb)) := gtrans HB.out hb
    clear hp hb HP HB 
    have HP : Aside (ParV s pb B at' g code ((at' : Nat) : Int) v u15) := HP'.out
    have HB : Aside (w.grownBy u15 (some pb)) := HB'.out
    clear HP' HB'
    clear ck cf
    go_wp2
    refine bodyPost_ret (v := .tuple #[.int .u8 0, .bool false]) (by simp [results, Try.results78, go_sem, ↓IntWalk.iteOmega, *]) rfl ?_
    rw [ER.out]
    exact ⟨rfl, HP.out, HB.out⟩
  have k2 : (d == 45) = false := by simpa using c2
  have m2 : decide (d = 45) = false := decide_eq_false c2
  have hin : at' < s.size ∧ s[at']! ≠ 93 ∧ s[at']! ≠ 45 := ⟨he, fun h => c1 (h93.2 h), fun h => c2 (h45.2 h)⟩
  by_cases c3 : d = 92
  · have k3 : (d == 92) = true := by rw [c3]; rfl
    have e1 : charF s at' = escF s at' := by unfold charF; rw [if_pos hin, if_pos (h92.1 c3)]
    have ce := fun W (h1 : w.grownBy W (some pb)) (h : ParV s pb B at' g code bad v W) => escaped_calls s pb B at' g code bad v w W h1 h hz he
    have ER : Aside (charF s at' = escF s at') := e1
    clear h93 h45 h92 c1 c2 c3 e1 hin
    cases hr : escF s at' with
    | error k =>
      rw [hr] at ce ER
      clear hr
      go_enter Try.func78, Try.ntmps78
      go_wp2_with fail
      refine (ck _ HP.out).mono ?_
      rintro e u16 ⟨rfl, hb⟩
      have HP' : Aside (ParV s pb B at' g code bad v u16) := HP.out.later hb
      have HB' : Aside (w.grownBy u16 (some pb)) := gtrans HB.out (grownBy_of_below hb _)
      clear hb HP HB 
      have HP : Aside (ParV s pb B at' g code bad v u16) := HP'.out
      have HB : Aside (w.grownBy u16 (some pb)) := HB'.out
      clear HP' HB'
      go_wp2_with fail
      refine (ce _ HB.out HP.out).mono ?_
      rintro e w2 ⟨rfl, hp, hb⟩
      have HP2 : Aside (ParV s pb B _ g code _ v w2) := hp
      have HB2 : Aside (w.grownBy w2 (some pb)) := hb
      clear hp hb ce cf ck HP HB
      go_wp2
      refine bodyPost_ret (v := .tuple #[.int .u8 0, .bool false]) (by simp [results, Try.results78, go_sem, ↓IntWalk.iteOmega, *]) rfl ?_
      rw [ER.out]
      exact ⟨rfl, HP2.out, HB2.out⟩
    | ok r =>
      obtain ⟨c, i⟩ := r
      rw [hr] at ce ER
      clear hr
      go_enter Try.func78, Try.ntmps78
      go_wp2_with fail
      refine (ck _ HP.out).mono ?_
      rintro e u17 ⟨rfl, hb⟩
      have HP' : Aside (ParV s pb B at' g code bad v u17) := HP.out.later hb
      have HB' : Aside (w.grownBy u17 (some pb)) := gtrans HB.out (grownBy_of_below hb _)
      clear hb HP HB 
      have HP : Aside (ParV s pb B at' g code bad v u17) := HP'.out
      have HB : Aside (w.grownBy u17 (some pb)) := HB'.out
      clear HP' HB'
      go_wp2_with fail
      refine (ce _ HB.out HP.out).mono ?_
      rintro e w2 ⟨rfl, hp, hb⟩
      have HP2 : Aside (ParV s pb B _ g code _ v w2) := hp
      have HB2 : Aside (w.grownBy w2 (some pb)) := hb
      clear hp hb ce cf ck HP HB
      go_wp2
      refine bodyPost_ret (v := .tuple #[.int .u8 (c.toNat : Int), .bool true]) (by simp [results, Try.results78, go_sem, ↓IntWalk.iteOmega, *]) rfl ?_
      rw [ER.out]
      exact ⟨rfl, HP2.out, HB2.out⟩
  have k3 : (d == 92) = false := by simpa using c3
  have ER : Aside (charF s at' = .ok (s[at']!, at' + 1)) := by show _ = _; unfold charF; rw [if_pos hin, if_neg (fun h => c3 (h92.2 h))]
  clear h93 h45 h92 c1 c2 c3 hin
  generalize s[at']! = c at ER PE
  go_enter Try.func78, Try.ntmps78
  go_wp2_with fail
  refine (ck _ HP.out).mono ?_
  rintro e u18 ⟨rfl, hb⟩
  have HP' : Aside (ParV s pb B at' g code bad v u18) := HP.out.later hb
  have HB' : Aside (w.grownBy u18 (some pb)) := gtrans HB.out (grownBy_of_below hb _)
  clear hb HP HB 
  have HP : Aside (ParV s pb B at' g code bad v u18) := HP'.out
  have HB : Aside (w.grownBy u18 (some pb)) := HB'.out
  clear HP' HB'
  have h1 := HP.out.hp
  have lt : pb < u18.heap.size := (Array.getElem?_eq_some_iff.1 h1).1
  have hp := HP.out.put (at' + 1) g bad
  have hc1 : (((at' + 1) : Nat) : Int) = ((at' : Nat) : Int) + 1 := by omega
  rw [hc1] at hp
  have hwr : IntKind.i64.wrap (((at' : Nat) : Int) + 1) = ((at' : Nat) : Int) + 1 := by rw [IntKind.wrap_i64]; omega
  have HPP : Aside (ParV s pb B (at' + 1) g code bad v _) := hp
  rw [holds_self h1]
  clear h1 hp hc1 ck cf
  go_wp2
  refine bodyPost_ret (v := .tuple #[.int .u8 d, .bool true]) (by simp [results, Try.results78, go_sem, ↓IntWalk.iteOmega, *]) rfl ?_
  rw [ER.out]
  exact ⟨by rw [PE.out], HPP.out, gtrans HB.out (gholds _ _ _ _)⟩

end Go.Proofs.Ytfhccmegobbnaaa
