/- This text proves the walks of special, char and insert of the reference. Conditions: those that each theorem names. -/
import Derived.Test.YtfhccmegobbnaaaRegexCA
namespace Go.Proofs.Ytfhccmegobbnaaa
open Go.ChangeShapes Go.WideShapes Go.ChangeAt Go.RowKit
set_option linter.unusedVariables false
set_option linter.unusedSimpArgs false

/-- The bytes that are not plain. -/
def specB : ByteArray := ⟨#[40, 41, 124, 42, 43, 63, 46, 94, 36, 91, 92]⟩
def specF (c : UInt8) : Bool := c == 40 || c == 41 || c == 124 || c == 42 || c == 43 || c == 63 || c == 46 || c == 94 || c == 36 || c == 91 || c == 92
theorem spec_yes {k : Nat} (hk : k < 11) {c : UInt8} (h : specB[k]! = c) : specF c = true := by
  have : k = 0 ∨ k = 1 ∨ k = 2 ∨ k = 3 ∨ k = 4 ∨ k = 5 ∨ k = 6 ∨ k = 7 ∨ k = 8 ∨ k = 9 ∨ k = 10 := by omega
  rcases this with rfl | rfl | rfl | rfl | rfl | rfl | rfl | rfl | rfl | rfl | rfl <;> (subst h; rfl)
theorem spec_no {c : UInt8} (h : ∀ k, k < 11 → specB[k]! ≠ c) : specF c = false := by
  have e : ∀ d : UInt8, d ≠ c → (c == d) = false := fun d hd => by rw [beq_eq_false_iff_ne]; exact fun e => hd e.symm
  unfold specF
  have h0 : (c == 40) = false := e 40 (h 0 (by omega))
  have h1 : (c == 41) = false := e 41 (h 1 (by omega))
  have h2 : (c == 124) = false := e 124 (h 2 (by omega))
  have h3 : (c == 42) = false := e 42 (h 3 (by omega))
  have h4 : (c == 43) = false := e 43 (h 4 (by omega))
  have h5 : (c == 63) = false := e 63 (h 5 (by omega))
  have h6 : (c == 46) = false := e 46 (h 6 (by omega))
  have h7 : (c == 94) = false := e 94 (h 7 (by omega))
  have h8 : (c == 36) = false := e 36 (h 8 (by omega))
  have h9 : (c == 91) = false := e 91 (h 9 (by omega))
  have h10 : (c == 92) = false := e 92 (h 10 (by omega))
  rw [h0, h1, h2, h3, h4, h5, h6, h7, h8, h9, h10]
  rfl
set_option maxRecDepth 20000 in
set_option maxHeartbeats 32000000 in
theorem rspecial_calls (c : UInt8) (w : World) : Calls Try.prog 76 #[.int .u8 (c.toNat : Int)] w fun e W => e = .returned (.bool (specF c)) ∧ Below w.heap.size w W := by
  obtain ⟨R, hR⟩ : ∃ R, specF c = R := ⟨_, rfl⟩
  have HR : Aside (specF c = R) := hR
  rw [hR]
  clear hR
  obtain ⟨A, hA⟩ : ∃ A, specB = A := ⟨_, rfl⟩
  have EA : Aside ((⟨#[40, 41, 124, 42, 43, 63, 46, 94, 36, 91, 92]⟩ : ByteArray) = A) := hA
  have YES : Aside (∀ k, k < 11 → A[k]! = c → specF c = true) := by rw [← hA]; exact fun k hk h => spec_yes hk h
  have NO : Aside ((∀ k, k < 11 → A[k]! ≠ c) → specF c = false) := by rw [← hA]; exact spec_no
  have hsz : A.size = 11 := by rw [← hA]; rfl
  clear hA
  go_enter Try.func76, Try.ntmps76
  go_wp2_with fail
  rw [EA.out]
  go_loopg [4] 12 (fun gk s4 wr => ∃ j : Nat, s4 = .int .i64 (j : Int) ∧ j + gk = 12 ∧ j ≤ 11 ∧ Aside (∀ k, k < j → A[k]! ≠ c) ∧ w = wr)
  case atStart => exact ⟨0, rfl, rfl, by omega, fun k hk => absurd hk (Nat.not_lt_zero _), rfl⟩
  case round =>
    obtain ⟨j, rfl, hg, hj, HN, rfl⟩ := hrel
    by_cases hj1 : j < 11
    rotate_left
    · have eR : R = false := HR.out.symm.trans (NO.out (fun k hk => HN.out k (by omega)))
      have dj : decide ((j : Int) < (11 : Int)) = false := decide_eq_false (by omega)
      have dz : ¬ (j : Int) < (11 : Int) := by omega
      subst eR
      go_wp2
      all_goals refine bodyPost_ret (v := .bool false) (by simp [results, Try.results76, go_sem, ↓IntWalk.iteOmega, *]) rfl ⟨rfl, Below.refl _ _⟩
    have hjs : j < A.size := by omega
    have hjz : (j : Int) < (A.size : Int) := by omega
    have hjz2 : (j : Int) < (11 : Int) := by omega
    have wj : IntKind.i64.wrap ((j : Int) + 1) = ((j + 1 : Nat) : Int) := by rw [IntKind.wrap_i64]; omega
    obtain ⟨y, hy⟩ : ∃ y, A[j] = y := ⟨_, rfl⟩
    have HYB : Aside (A[j]! = y) := by show _ = _; rw [getElem!_pos A j hjs, hy]
    by_cases hc : y = c
    · have eR : R = true := HR.out.symm.trans (YES.out j hj1 (HYB.out.trans hc))
      have e2 : ((y.toNat : Int) == (c.toNat : Int)) = true := by rw [hc]; simp
      have e3 : decide ((y.toNat : Int) = (c.toNat : Int)) = true := by rw [hc]; simp
      subst eR
      clear hc
      go_wp2
      all_goals refine bodyPost_ret (v := .bool true) (by simp [results, Try.results76, go_sem, ↓IntWalk.iteOmega, *]) rfl ⟨rfl, Below.refl _ _⟩
    · have hne : ¬ (y.toNat : Int) = (c.toNat : Int) := fun h => hc ((u8_at c).1 h)
      have e2 : ((y.toNat : Int) == (c.toNat : Int)) = false := by rw [beq_eq_false_iff_ne]; exact hne
      have e3 : decide ((y.toNat : Int) = (c.toNat : Int)) = false := decide_eq_false hne
      have NN : Aside (∀ k, k < j + 1 → A[k]! ≠ c) := fun k hk => by
        by_cases e : k = j
        · rw [e, HYB.out]; exact hc
        · exact HN.out k (by omega)
      clear hc hne
      go_wp2
      go_roundg (11 - j)
      case measure => omega
      case rel => exact ⟨j + 1, rfl, by omega, by omega, NN.out, rfl⟩

/-- What char of the reference reads: the position behind it, an error, the byte. -/
def charR (s : ByteArray) (i : Nat) : Nat × Bool × UInt8 :=
  if s[i]! ≠ 92 then (i + 1, false, s[i]!) else if i + 1 = s.size then (i + 1, true, 0) else (i + 2, false, escV s[i + 1]!)
set_option maxRecDepth 20000 in
set_option maxHeartbeats 32000000 in
theorem rchar_calls (s : ByteArray) (la : Option Addr) (n lc i g : Nat) (w : World) (hs : s.size ≤ 1000000) (hi : i < s.size) :
    Calls Try.prog 77 #[.string s, .agg #[.slice la n lc, .int .i64 (i : Int), .int .i64 (g : Int), .bool false]] w fun e W => e = .returned (.tuple #[.agg #[.slice la n lc, .int .i64 ((charR s i).1 : Int), .int .i64 (g : Int), .bool (charR s i).2.1], .int .u8 ((charR s i).2.2.toNat : Int)]) ∧ Below w.heap.size w W := by
  obtain ⟨R, hR⟩ : ∃ R, charR s i = R := ⟨_, rfl⟩
  rw [hR]
  obtain ⟨R1, R2, R3⟩ := R
  obtain ⟨Q, hQ⟩ : ∃ Q : Ending → World → Prop, (fun e W => e = .returned (.tuple #[.agg #[.slice la n lc, .int .i64 (R1 : Int), .int .i64 (g : Int), .bool R2], .int .u8 (R3.toNat : Int)]) ∧ Below w.heap.size w W) = Q := ⟨_, rfl⟩
  simp only []
  rw [hQ]
  have HQ : Aside (∀ W, Below w.heap.size w W → Q (.returned (.tuple #[.agg #[.slice la n lc, .int .i64 (R1 : Int), .int .i64 (g : Int), .bool R2], .int .u8 (R3.toNat : Int)])) W) := fun W h => by rw [← hQ]; exact ⟨rfl, h⟩
  have HR : Aside (charR s i = (R1, R2, R3)) := hR
  clear hQ hR
  have hiz : (i : Int) < (s.size : Int) := by omega
  obtain ⟨ip, hip⟩ : ∃ x, i + 1 = x := ⟨_, rfl⟩
  have wi : IntKind.i64.wrap ((i : Int) + 1) = (ip : Int) := by rw [IntKind.wrap_i64]; omega
  obtain ⟨y, hy⟩ : ∃ y, s[i] = y := ⟨_, rfl⟩
  have hyb : s[i]! = y := by rw [getElem!_pos s i hi, hy]
  by_cases h92 : y = 92
  rotate_left
  · have e1 : ((y.toNat : Int) != 92) = true := by rw [bne_iff_ne]; exact fun h => h92 ((u8_at 92).1 h)
    have h := HR.out
    unfold charR at h
    rw [hyb, if_pos h92, hip] at h
    simp only [Prod.mk.injEq] at h
    obtain ⟨rfl, rfl, rfl⟩ := h
    clear h92 HR hyb
    go_enter Try.func77, Try.ntmps77
    go_wp2
    refine bodyPost_ret (v := .tuple #[.agg #[.slice la n lc, .int .i64 (ip : Int), .int .i64 (g : Int), .bool false], .int .u8 (y.toNat : Int)]) (by simp [results, Try.results77, go_sem, ↓IntWalk.iteOmega, *]) rfl ?_
    refine HQ.out _ ?_
    repeat (first | (with_reducible exact Below.refl _ _) | (with_reducible assumption) | (with_reducible refine below_to_plus ?_ ?_ _) | (with_reducible refine below_holds ?_ ?_ _ _) | (with_reducible refine Below.alloc ?_ ?_ _) | (with_reducible refine Below.drew ?_) | (with_reducible refine below_drewN ?_ _) | (with_reducible refine Below.setCell ?_ ?_ _))
    all_goals first | omega | (simp; done) | (simp [go_sem]; done) | (simp [go_sem]; omega)
  have HR2 : Aside ((if ip = s.size then (ip, true, (0 : UInt8)) else (ip + 1, false, escV s[ip]!)) = (R1, R2, R3)) := by
    have h := HR.out
    unfold charR at h
    rw [hyb, if_neg (fun h => h h92), show i + 2 = ip + 1 by omega, hip] at h
    exact h
  have hy9 : s[i] = 92 := hy.trans h92
  clear HR hyb hy
  subst h92
  by_cases hie : ip = s.size
  · have h := HR2.out
    rw [if_pos hie] at h
    simp only [Prod.mk.injEq] at h
    obtain ⟨rfl, rfl, rfl⟩ := h
    have e1 : ((ip : Int) == (s.size : Int)) = true := by rw [hie]; simp
    have e2 : decide ((ip : Int) = (s.size : Int)) = true := decide_eq_true (by omega)
    clear hie HR2 
    go_enter Try.func77, Try.ntmps77
    go_wp2
    refine bodyPost_ret (v := .tuple #[.agg #[.slice la n lc, .int .i64 (ip : Int), .int .i64 (g : Int), .bool true], .int .u8 0]) (by simp [results, Try.results77, go_sem, ↓IntWalk.iteOmega, *]) rfl ?_
    refine HQ.out _ ?_
    repeat (first | (with_reducible exact Below.refl _ _) | (with_reducible assumption) | (with_reducible refine below_to_plus ?_ ?_ _) | (with_reducible refine below_holds ?_ ?_ _ _) | (with_reducible refine Below.alloc ?_ ?_ _) | (with_reducible refine Below.drew ?_) | (with_reducible refine below_drewN ?_ _) | (with_reducible refine Below.setCell ?_ ?_ _))
    all_goals first | omega | (simp; done) | (simp [go_sem]; done) | (simp [go_sem]; omega)
  have hil : ip < s.size := by omega
  have hilz : (ip : Int) < (s.size : Int) := by omega
  have e1 : ((ip : Int) == (s.size : Int)) = false := by rw [beq_eq_false_iff_ne]; omega
  have e2 : decide ((ip : Int) = (s.size : Int)) = false := decide_eq_false (by omega)
  have e3 : ¬ (ip : Int) = (s.size : Int) := by omega
  obtain ⟨iq, hiq⟩ : ∃ x, ip + 1 = x := ⟨_, rfl⟩
  have wi2 : IntKind.i64.wrap ((ip : Int) + 1) = (iq : Int) := by rw [IntKind.wrap_i64]; omega
  obtain ⟨d, hd⟩ : ∃ d, s[ip] = d := ⟨_, rfl⟩
  have hdb : s[ip]! = d := by rw [getElem!_pos s ip hil, hd]
  have h := HR2.out
  rw [if_neg hie, hdb, hiq] at h
  simp only [Prod.mk.injEq] at h
  obtain ⟨rfl, rfl, rfl⟩ := h
  clear HR2 hdb hie
  by_cases d110 : d = 110
  · subst d110
    have ev : escV 110 = 10 := rfl
    rw [ev] at HQ
    clear ev
    go_enter Try.func77, Try.ntmps77
    go_wp2
    refine bodyPost_ret (v := .tuple #[.agg #[.slice la n lc, .int .i64 (iq : Int), .int .i64 (g : Int), .bool false], .int .u8 10]) (by simp [results, Try.results77, go_sem, ↓IntWalk.iteOmega, *]) rfl ?_
    refine HQ.out _ ?_
    repeat (first | (with_reducible exact Below.refl _ _) | (with_reducible assumption) | (with_reducible refine below_to_plus ?_ ?_ _) | (with_reducible refine below_holds ?_ ?_ _ _) | (with_reducible refine Below.alloc ?_ ?_ _) | (with_reducible refine Below.drew ?_) | (with_reducible refine below_drewN ?_ _) | (with_reducible refine Below.setCell ?_ ?_ _))
    all_goals first | omega | (simp; done) | (simp [go_sem]; done) | (simp [go_sem]; omega)
  have f1 : ((d.toNat : Int) == 110) = false := by rw [beq_eq_false_iff_ne]; exact fun h => d110 ((u8_at 110).1 h)
  have f2 : decide ((d.toNat : Int) = 110) = false := decide_eq_false (fun h => d110 ((u8_at 110).1 h))
  by_cases d116 : d = 116
  · subst d116
    have ev : escV 116 = 9 := rfl
    rw [ev] at HQ
    clear ev d110
    go_enter Try.func77, Try.ntmps77
    go_wp2
    refine bodyPost_ret (v := .tuple #[.agg #[.slice la n lc, .int .i64 (iq : Int), .int .i64 (g : Int), .bool false], .int .u8 9]) (by simp [results, Try.results77, go_sem, ↓IntWalk.iteOmega, *]) rfl ?_
    refine HQ.out _ ?_
    repeat (first | (with_reducible exact Below.refl _ _) | (with_reducible assumption) | (with_reducible refine below_to_plus ?_ ?_ _) | (with_reducible refine below_holds ?_ ?_ _ _) | (with_reducible refine Below.alloc ?_ ?_ _) | (with_reducible refine Below.drew ?_) | (with_reducible refine below_drewN ?_ _) | (with_reducible refine Below.setCell ?_ ?_ _))
    all_goals first | omega | (simp; done) | (simp [go_sem]; done) | (simp [go_sem]; omega)
  have f3 : ((d.toNat : Int) == 116) = false := by rw [beq_eq_false_iff_ne]; exact fun h => d116 ((u8_at 116).1 h)
  have f4 : decide ((d.toNat : Int) = 116) = false := decide_eq_false (fun h => d116 ((u8_at 116).1 h))
  have ev : escV d = d := by unfold escV; rw [if_neg d110, if_neg d116]
  rw [ev] at HQ
  clear ev d110 d116
  go_enter Try.func77, Try.ntmps77
  go_wp2
  refine bodyPost_ret (v := .tuple #[.agg #[.slice la n lc, .int .i64 (iq : Int), .int .i64 (g : Int), .bool false], .int .u8 (d.toNat : Int)]) (by simp [results, Try.results77, go_sem, ↓IntWalk.iteOmega, *]) rfl ?_
  refine HQ.out _ ?_
  repeat (first | (with_reducible exact Below.refl _ _) | (with_reducible assumption) | (with_reducible refine below_to_plus ?_ ?_ _) | (with_reducible refine below_holds ?_ ?_ _ _) | (with_reducible refine Below.alloc ?_ ?_ _) | (with_reducible refine Below.drew ?_) | (with_reducible refine below_drewN ?_ _) | (with_reducible refine Below.setCell ?_ ?_ _))
  all_goals first | omega | (simp; done) | (simp [go_sem]; done) | (simp [go_sem]; omega)

end Go.Proofs.Ytfhccmegobbnaaa
