/- This text proves the walks of Right, Find, Uses, Same and Ints of the reference. Conditions: those that each theorem names. -/
import Derived.Test.YtjnfllcbkkcfiaaFidsE
namespace Go.Proofs.Ytjnfllcbkkcfiaa
open Go.ChangeShapes Go.WideShapes Go.ChangeAt Go.RowKit
set_option linter.unusedVariables false
set_option linter.unusedSimpArgs false

set_option maxHeartbeats 8000000 in
theorem rright_calls (ao : Option Addr) (n cap : Nat) (xs : List Fi) (w : World) (h : Sl w 7 ao n cap (xs.map Fi.enc)) :
    Calls Try.prog 8 #[.slice ao n cap] w fun e w' => e = .returned (.bool (rightB xs)) ∧ Below w.heap.size w w' := by
  have hbig : n ≤ 9223372036854775807 := Nat.le_trans h.hcap h.hmax
  have HL : Aside (xs.length = n) := Sl.lenE h
  have HC : Aside (CellsFi w ao xs) := cellsFi h
  have H1 : Aside (∀ i, i < xs.length → (vB xs[i]! = false ∨ (0 < i ∧ xs[i]!.num ≤ xs[i - 1]!.num)) → rightB xs = false) := fun i hi hh => right_bad xs (.inr ⟨i, hi, hh⟩)
  have H2 : Aside (xs.length ≤ 256 → (∀ i, i < xs.length → vB xs[i]! = true ∧ (0 < i → xs[i - 1]!.num < xs[i]!.num)) → rightB xs = true) := right_good xs
  have H0 : Aside (¬ xs.length ≤ 256 → rightB xs = false) := fun h => right_bad xs (.inl h)
  generalize rightB xs = r at H0 H1 H2 ⊢
  clear h
  by_cases i1 : 256 < n
  · have hnz : (256 : Int) < (n : Int) := by omega
    have e1 := H0.out (by have := HL.out; omega)
    subst e1
    clear H0 H1 H2 HC
    go_enter Try.func8, Try.ntmps8
    go_wp2
    go_ret
    exact ⟨rfl, Below.refl _ _⟩
  have hnz : ¬ (256 : Int) < (n : Int) := by omega
  clear H0
  go_enter Try.func8, Try.ntmps8
  go_wp2
  go_loopg [3] n (fun k s3 wr => ∃ (idx : Nat) (x : World), s3 = .int .i64 (idx : Int) ∧ wr = plus w x ∧ k + idx = n ∧ Aside (∀ j, j < idx → vB xs[j]! = true ∧ (0 < j → xs[j - 1]!.num < xs[j]!.num)))
  case atStart => exact ⟨0, _, rfl, plus_self _, by omega, fun j hj => absurd hj (Nat.not_lt_zero _)⟩
  case round =>
    obtain ⟨idx, x, rfl, rfl, hk, A⟩ := hrel
    by_cases hi : idx < n
    · have hiz : (idx : Int) < (n : Int) := by omega
      have HS : Aside (CellsFi w ao xs) := HC.out
      obtain ⟨b, off, rfl, hbw, l0, l1, l2, l3, l4, l5, l6⟩ := HC.out idx (by have := HL.out; omega)
      have PL : Aside (0 < idx → w.cell? ⟨b, off + (idx - 1) * 7, none⟩ = some (.int .i64 xs[idx - 1]!.num)) := fun h0 => by
        obtain ⟨b2, off2, eb2, _, m0, _⟩ := HS.out (idx - 1) (by have := HL.out; omega)
        cases eb2
        exact m0
      have SG : Aside ((vB xs[idx]! = true ∧ (0 < idx → xs[idx - 1]!.num < xs[idx]!.num)) → ∀ j, j < idx + 1 → vB xs[j]! = true ∧ (0 < j → xs[j - 1]!.num < xs[j]!.num)) := fun hh j hj => by
        rcases (by omega : j < idx ∨ j = idx) with h' | h'
        · exact A.out j h'
        · rw [h']; exact hh
      have SB : Aside ((vB xs[idx]! = false ∨ (0 < idx ∧ xs[idx]!.num ≤ xs[idx - 1]!.num)) → r = false) := H1.out idx (by have := HL.out; omega)
      generalize xs[idx - 1]!.num = pv at PL SG SB
      clear H1 H2 A HS
      generalize xs[idx]! = y at l0 l1 l2 l3 l4 l5 l6 SG SB
      obtain ⟨y1, y2, y3, y4, y5, y6, y7⟩ := y
      simp only [] at l0 l1 l2 l3 l4 l5 l6
      have cv := fun U => rvalid_calls y1 y2 y3 y4 y5 y6 y7 U
      cases hv : vB ⟨y1, y2, y3, y4, y5, y6, y7⟩ with
      | false =>
        rw [hv] at cv
        have e1 := SB.out (.inl hv)
        subst e1
        clear SB SG HC PL
        go_wp2
        refine wp_region_plus (by kernel_rfl) (by kernel_rfl) ?_
        repeat (go_big_quiet_step ((first | (go_at_call 25; exact calls_plus (cv _)))))
        refine wpQuiet_nil ?_
        rintro _ ⟨x1, rfl⟩
        go_wp2
        go_ret
        refine ⟨rfl, ?_⟩
        repeat (first | (with_reducible exact Below.refl _ _) | (with_reducible assumption) | (with_reducible refine below_to_plus ?_ ?_ _) | (with_reducible refine below_holds ?_ ?_ _ _) | (with_reducible refine Below.alloc ?_ ?_ _) | (with_reducible refine Below.drew ?_) | (with_reducible refine below_drewN ?_ _) | (with_reducible refine Below.setCell ?_ ?_ _))
        all_goals first | omega | (simp; done) | (simp [go_sem]; done) | (simp [go_sem]; omega)
      | true =>
        rw [hv] at cv
        by_cases z0 : idx = 0
        · have fz : decide ((0 : Int) < (idx : Int)) = false := decide_eq_false (by omega)
          have fn : decide (0 < idx) = false := decide_eq_false (by omega)
          have PZ : Aside (0 < idx → pv < y1) := fun h => absurd h (by omega)
          clear z0
          have A2 := SG.out ⟨hv, PZ.out⟩
          have A3 : Aside (∀ j, j < idx + 1 → vB xs[j]! = true ∧ (0 < j → xs[j - 1]!.num < xs[j]!.num)) := A2
          clear SB SG HC PL A2
          go_wp2
          refine wp_region_plus (by kernel_rfl) (by kernel_rfl) ?_
          repeat (go_big_quiet_step ((first | (go_at_call 25; exact calls_plus (cv _)))))
          refine wpQuiet_nil ?_
          rintro _ ⟨x1, rfl⟩
          go_wp2
          go_roundg (gk - 1)
          case measure => omega
          case rel =>
            obtain ⟨z5, hz5⟩ := plus_of_below (show Below w.heap.size w (plus (plus w x) x1) from by
              repeat (first | (with_reducible exact Below.refl _ _) | (with_reducible assumption) | (with_reducible refine below_to_plus ?_ ?_ _) | (with_reducible refine below_holds ?_ ?_ _ _) | (with_reducible refine Below.alloc ?_ ?_ _) | (with_reducible refine Below.drew ?_) | (with_reducible refine below_drewN ?_ _) | (with_reducible refine Below.setCell ?_ ?_ _))
              all_goals first | omega | (simp; done) | (simp [go_sem]; done) | (simp [go_sem]; omega))
            exact ⟨idx + 1, z5, by simp, hz5, by omega, A3⟩
        · have zp : (0 : Int) < (idx : Int) := by omega
          have zr : (idx : Int) - 1 < (n : Int) := by omega
          have fz : decide ((0 : Int) < (idx : Int)) = true := decide_eq_true zp
          have fn : decide (0 < idx) = true := decide_eq_true (by omega)
          have pl := PL.out (by omega)
          by_cases t2 : y1 ≤ pv
          · have f2 : decide (y1 ≤ pv) = true := decide_eq_true t2
            have e1 := SB.out (.inr ⟨by omega, t2⟩)
            subst e1
            clear SB SG HC PL
            go_wp2
            refine wp_region_plus (by kernel_rfl) (by kernel_rfl) ?_
            repeat (go_big_quiet_step ((first | (go_at_call 25; exact calls_plus (cv _)))))
            refine wpQuiet_nil ?_
            rintro _ ⟨x1, rfl⟩
            go_wp2
            go_ret
            refine ⟨rfl, ?_⟩
            repeat (first | (with_reducible exact Below.refl _ _) | (with_reducible assumption) | (with_reducible refine below_to_plus ?_ ?_ _) | (with_reducible refine below_holds ?_ ?_ _ _) | (with_reducible refine Below.alloc ?_ ?_ _) | (with_reducible refine Below.drew ?_) | (with_reducible refine below_drewN ?_ _) | (with_reducible refine Below.setCell ?_ ?_ _))
            all_goals first | omega | (simp; done) | (simp [go_sem]; done) | (simp [go_sem]; omega)
          · have f2 : decide (y1 ≤ pv) = false := decide_eq_false t2
            have PZ : Aside (0 < idx → pv < y1) := fun _ => by omega
            have A2 := SG.out ⟨hv, PZ.out⟩
            have A3 : Aside (∀ j, j < idx + 1 → vB xs[j]! = true ∧ (0 < j → xs[j - 1]!.num < xs[j]!.num)) := A2
            clear SB SG HC PL A2
            go_wp2
            refine wp_region_plus (by kernel_rfl) (by kernel_rfl) ?_
            repeat (go_big_quiet_step ((first | (go_at_call 25; exact calls_plus (cv _)))))
            refine wpQuiet_nil ?_
            rintro _ ⟨x1, rfl⟩
            go_wp2
            go_roundg (gk - 1)
            case measure => omega
            case rel =>
              obtain ⟨z5, hz5⟩ := plus_of_below (show Below w.heap.size w (plus (plus w x) x1) from by
                repeat (first | (with_reducible exact Below.refl _ _) | (with_reducible assumption) | (with_reducible refine below_to_plus ?_ ?_ _) | (with_reducible refine below_holds ?_ ?_ _ _) | (with_reducible refine Below.alloc ?_ ?_ _) | (with_reducible refine Below.drew ?_) | (with_reducible refine below_drewN ?_ _) | (with_reducible refine Below.setCell ?_ ?_ _))
                all_goals first | omega | (simp; done) | (simp [go_sem]; done) | (simp [go_sem]; omega))
              exact ⟨idx + 1, z5, by simp, hz5, by omega, A3⟩
    · have hiz : ¬ (idx : Int) < (n : Int) := by omega
      have e1 := H2.out (by have := HL.out; omega) (fun j hj => A.out j (by have := HL.out; omega))
      subst e1
      clear HC A H1 H2
      go_wp2
      go_ret
      exact ⟨rfl, below_plus _ _⟩

theorem find_hit (num : Int) (xs : List Fi) (hs : xs.Pairwise (fun x y => x.num < y.num)) (i : Nat) (hi : i < xs.length) (h : xs[i]!.num = num) : plF num xs = i ∧ ixF num xs = (i : Nat) ∧ fdF num xs = (xs[i]!, true) := by
  have e : plF num xs = i := plF_of num xs i (by omega) (fun a ha => by have := asc_get hs ha hi; omega) (fun a _ ha e => by subst e; omega)
  have e2 : ixF num xs = (i : Nat) := by unfold ixF; rw [e, if_pos ⟨hi, h⟩]
  refine ⟨e, e2, ?_⟩
  unfold fdF
  rw [e2, if_neg (by omega), e]
theorem find_miss (num : Int) (xs : List Fi) (h : ∀ i, i < xs.length → xs[i]!.num ≠ num) : ixF num xs = -1 ∧ fdF num xs = (default, false) := by
  have e2 : ixF num xs = -1 := by
    unfold ixF
    rw [if_neg (fun hh => h _ hh.1 hh.2)]
  refine ⟨e2, ?_⟩
  unfold fdF
  rw [e2]; rfl

set_option maxHeartbeats 4000000 in
theorem rfind_calls (num : Int) (ao : Option Addr) (n cap : Nat) (xs : List Fi) (w : World) (h : Sl w 7 ao n cap (xs.map Fi.enc)) (hs : xs.Pairwise (fun x y => x.num < y.num)) :
    Calls Try.prog 21 #[.slice ao n cap, .int .i64 num] w fun e w' => e = .returned (.tuple #[Fi.val (fdF num xs).1, .bool (fdF num xs).2]) ∧ Below w.heap.size w w' := by
  have hbig : n ≤ 9223372036854775807 := Nat.le_trans h.hcap h.hmax
  have HL : Aside (xs.length = n) := Sl.lenE h
  have HC : Aside (CellsFi w ao xs) := cellsFi h
  have H1 : Aside (∀ i, i < xs.length → xs[i]!.num = num → fdF num xs = (xs[i]!, true)) := fun i hi hh => (find_hit num xs hs i hi hh).2.2
  have H2 : Aside ((∀ i, i < xs.length → xs[i]!.num ≠ num) → fdF num xs = (default, false)) := fun hh => (find_miss num xs hh).2
  generalize fdF num xs = r at H1 H2 ⊢
  clear h hs
  go_enter Try.func21, Try.ntmps21
  go_wp2
  go_loopg [6] n (fun k s6 wr => ∃ idx : Nat, s6 = .int .i64 (idx : Int) ∧ wr = (w.alloc (.cells #[.int .i64 0, .int .i64 0, .string ⟨#[]⟩, .bool false, .bool false, .int .i64 0, .int .i64 0] 24)) ∧ k + idx = n ∧ Aside (∀ j, j < idx → xs[j]!.num ≠ num))
  case atStart => exact ⟨0, rfl, rfl, by omega, fun j hj => absurd hj (Nat.not_lt_zero _)⟩
  case round =>
    obtain ⟨idx, rfl, rfl, hk, A⟩ := hrel
    by_cases hi : idx < n
    · have hiz : (idx : Int) < (n : Int) := by omega
      obtain ⟨b, off, rfl, hbw, l0, l1, l2, l3, l4, l5, l6⟩ := HC.out idx (by have := HL.out; omega)
      have AH : Aside (xs[idx]!.num = num → r = (xs[idx]!, true)) := H1.out idx (by have := HL.out; omega)
      have AS : Aside (xs[idx]!.num ≠ num → ∀ j, j < idx + 1 → xs[j]!.num ≠ num) := fun hh j hj => by
        rcases (by omega : j < idx ∨ j = idx) with h' | h'
        · exact A.out j h'
        · rw [h']; exact hh
      clear H1 H2 A HC
      generalize xs[idx]! = y at l0 l1 l2 l3 l4 l5 l6 AH AS
      obtain ⟨y1, y2, y3, y4, y5, y6, y7⟩ := y
      simp only [] at l0 l1 l2 l3 l4 l5 l6
      by_cases hq : y1 = num
      · have e1 := AH.out hq
        subst e1
        have hf : (y1 == num) = true := by simp [hq]
        clear hq AH AS
        go_wp2
        refine bodyPost_ret (v := .tuple #[.agg #[.int .i64 y1, .int .i64 y2, .string y3, .bool y4, .bool y5, .int .i64 y6, .int .i64 y7], .bool true]) (by simp [results, Try.results21, go_sem, ↓IntWalk.iteOmega]) rfl ⟨rfl, ?_⟩
        repeat (first | (with_reducible exact Below.refl _ _) | (with_reducible assumption) | (with_reducible refine below_to_plus ?_ ?_ _) | (with_reducible refine below_holds ?_ ?_ _ _) | (with_reducible refine Below.alloc ?_ ?_ _) | (with_reducible refine Below.drew ?_) | (with_reducible refine below_drewN ?_ _) | (with_reducible refine Below.setCell ?_ ?_ _))
        all_goals first | omega | (simp; done) | (simp [go_sem]; done) | (simp [go_sem]; omega)
      · have A2 := AS.out hq
        have A3 : Aside (∀ j, j < idx + 1 → xs[j]!.num ≠ num) := A2
        have hf : (y1 == num) = false := by simp [hq]
        clear hq AH AS A2
        go_wp2
        go_roundg (gk - 1)
        case measure => omega
        case rel => exact ⟨idx + 1, by simp, rfl, by omega, A3⟩
    · have hiz : ¬ (idx : Int) < (n : Int) := by omega
      have e1 := H2.out (fun j hj => A.out j (by have := HL.out; omega))
      subst e1
      clear HC A H1 H2
      go_wp2
      refine bodyPost_ret (v := .tuple #[.agg #[.int .i64 0, .int .i64 0, .string ⟨#[]⟩, .bool false, .bool false, .int .i64 0, .int .i64 0], .bool false]) (by simp [results, Try.results21, go_sem, ↓IntWalk.iteOmega]) rfl ⟨rfl, ?_⟩
      repeat (first | (with_reducible exact Below.refl _ _) | (with_reducible assumption) | (with_reducible refine below_to_plus ?_ ?_ _) | (with_reducible refine below_holds ?_ ?_ _ _) | (with_reducible refine Below.alloc ?_ ?_ _) | (with_reducible refine Below.drew ?_) | (with_reducible refine below_drewN ?_ _) | (with_reducible refine Below.setCell ?_ ?_ _))
      all_goals first | omega | (simp; done) | (simp [go_sem]; done) | (simp [go_sem]; omega)

set_option maxHeartbeats 4000000 in
theorem ruses_calls (id : Int) (ao : Option Addr) (n cap : Nat) (xs : List Fi) (w : World) (h : Sl w 7 ao n cap (xs.map Fi.enc)) :
    Calls Try.prog 22 #[.slice ao n cap, .int .i64 id] w fun e w' => e = .returned (.int .i64 (usesF id xs : Nat)) ∧ Below w.heap.size w w' := by
  have hbig : n ≤ 9223372036854775807 := Nat.le_trans h.hcap h.hmax
  have HL : Aside (xs.length = n) := Sl.lenE h
  have HC : Aside (CellsFi w ao xs) := cellsFi h
  clear h
  go_enter Try.func22, Try.ntmps22
  go_wp2
  go_loopg [5, 6] n (fun k s5 s6 wr => ∃ (idx m : Nat), s6 = .int .i64 (idx : Int) ∧ s5 = .int .i64 (m : Int) ∧ wr = w ∧ k + idx = n ∧ m ≤ idx ∧ Aside (usesF id (xs.take idx) = m))
  case atStart => exact ⟨0, 0, rfl, rfl, rfl, by omega, by omega, rfl⟩
  case round =>
    obtain ⟨idx, m, rfl, rfl, rfl, hk, hm, A⟩ := hrel
    by_cases hi : idx < n
    · have hiz : (idx : Int) < (n : Int) := by omega
      have AK : Aside (usB id xs[idx]! = true → usesF id (xs.take (idx + 1)) = m + 1) := fun hh => by rw [uses_keep id xs idx (by have := HL.out; omega) hh, A.out]
      have AS : Aside (usB id xs[idx]! = false → usesF id (xs.take (idx + 1)) = m) := fun hh => by rw [uses_skip id xs idx (by have := HL.out; omega) hh, A.out]
      obtain ⟨b, off, rfl, hbw, l0, l1, l2, l3, l4, l5, l6⟩ := HC.out idx (by have := HL.out; omega)
      clear HC A
      generalize xs[idx]! = y at l0 l1 l2 l3 l4 l5 l6 AK AS
      obtain ⟨y1, y2, y3, y4, y5, y6, y7⟩ := y
      simp only [] at l0 l1 l2 l3 l4 l5 l6
      cases hq : usB id ⟨y1, y2, y3, y4, y5, y6, y7⟩ with
      | true =>
        have A2 := AK.out hq
        have A3 : Aside (_ = m + 1) := A2
        have hb1 : y4 = false ∧ y2 = id := by simpa [usB] using hq
        obtain ⟨rfl, rfl⟩ := hb1
        clear A2 AK AS hq
        go_wp2
        go_roundg (gk - 1)
        case measure => omega
        case rel => exact ⟨idx + 1, m + 1, by simp, by simp, rfl, by omega, by omega, A3⟩
      | false =>
        have A2 := AS.out hq
        have A3 : Aside (_ = m) := A2
        clear A2 AK AS
        by_cases h2 : y2 = id
        · have h4 : y4 = true := by cases y4 <;> simp_all [usB]
          subst h4
          have hf : (y2 == id) = true := by simp [h2]
          clear hq h2
          go_wp2
          go_roundg (gk - 1)
          case measure => omega
          case rel => exact ⟨idx + 1, m, by simp, rfl, rfl, by omega, by omega, A3⟩
        · have hf : (y2 == id) = false := by simp [h2]
          clear hq h2
          go_wp2
          go_roundg (gk - 1)
          case measure => omega
          case rel => exact ⟨idx + 1, m, by simp, rfl, rfl, by omega, by omega, A3⟩
    · have hiz : ¬ (idx : Int) < (n : Int) := by omega
      have e1 : m = usesF id xs := by rw [← A.out, List.take_of_length_le (by have := HL.out; omega)]
      subst e1
      clear HC A
      go_wp2
      refine bodyPost_ret (v := .int .i64 (usesF id xs : Nat)) (by simp [results, Try.results22, go_sem, ↓IntWalk.iteOmega]) rfl ⟨rfl, Below.refl _ _⟩

/-! ### How fids are compared -/
def eqFi (y z : Fi) : Bool := y.num == z.num && (y.id == z.id && (decide (y.user.toList = z.user.toList) && (y.auth == z.auth && (y.opn == z.opn && (y.mode == z.mode && y.nxt == z.nxt)))))
theorem str_inj (a b : ByteArray) : a.toList = b.toList ↔ a = b := ⟨fun h => bytes_inj (by rw [ByteArray.toList_eq, ByteArray.toList_eq] at h; exact h), fun h => by rw [h]⟩
theorem eqFi_iff (a b : Fi) : eqFi a b = true ↔ a = b := by
  obtain ⟨a1, a2, a3, a4, a5, a6, a7⟩ := a
  obtain ⟨b1, b2, b3, b4, b5, b6, b7⟩ := b
  simp only [eqFi, Bool.and_eq_true, beq_iff_eq, decide_eq_true_eq, str_inj, Fi.mk.injEq]
theorem eqFi_refl (a : Fi) : eqFi a a = true := (eqFi_iff a a).2 rfl
theorem neq_fi (y1 y2 : Int) (y3 : ByteArray) (y4 y5 : Bool) (y6 y7 : Int) (z1 z2 : Int) (z3 : ByteArray) (z4 z5 : Bool) (z6 z7 : Int) (w : World) : (binOp .neq 24 (.agg #[.int .i64 y1, .int .i64 y2, .string y3, .bool y4, .bool y5, .int .i64 y6, .int .i64 y7]) (.agg #[.int .i64 z1, .int .i64 z2, .string z3, .bool z4, .bool z5, .int .i64 z6, .int .i64 z7])).run Try.prog w = .ok (.bool (!(eqFi ⟨y1, y2, y3, y4, y5, y6, y7⟩ ⟨z1, z2, z3, z4, z5, z6, z7⟩))) w := by
  rw [run_neq_struct]
  simp [go_sem]
  repeat' split
  all_goals simp_all [eqFi]
theorem eq_fi (y1 y2 : Int) (y3 : ByteArray) (y4 y5 : Bool) (y6 y7 : Int) (z1 z2 : Int) (z3 : ByteArray) (z4 z5 : Bool) (z6 z7 : Int) (w : World) : (binOp .eql 24 (.agg #[.int .i64 y1, .int .i64 y2, .string y3, .bool y4, .bool y5, .int .i64 y6, .int .i64 y7]) (.agg #[.int .i64 z1, .int .i64 z2, .string z3, .bool z4, .bool z5, .int .i64 z6, .int .i64 z7])).run Try.prog w = .ok (.bool (eqFi ⟨y1, y2, y3, y4, y5, y6, y7⟩ ⟨z1, z2, z3, z4, z5, z6, z7⟩)) w := by
  rw [run_eql_struct]
  simp [go_sem]
  repeat' split
  all_goals simp_all [eqFi]
/-- Two tables are the same. -/
def sameB (xs ys : List Fi) : Bool := decide (xs.length = ys.length) && (List.range xs.length).all fun j => eqFi xs[j]! ys[j]!
theorem same_iff (xs ys : List Fi) : sameB xs ys = true ↔ xs = ys := by
  simp only [sameB, Bool.and_eq_true, decide_eq_true_eq, List.all_eq_true, List.mem_range, eqFi_iff]
  constructor
  · rintro ⟨h2, h3⟩
    refine List.ext_getElem h2 (fun i hi hj => ?_)
    have := h3 i hi
    rwa [getElem!_pos xs i hi, getElem!_pos ys i hj] at this
  · rintro rfl
    exact ⟨rfl, fun _ _ => rfl⟩

set_option maxHeartbeats 4000000 in
theorem same_calls (ao bo : Option Addr) (n cap m cap2 : Nat) (xs ys : List Fi) (w : World) (ha : Sl w 7 ao n cap (xs.map Fi.enc)) (hb : Sl w 7 bo m cap2 (ys.map Fi.enc)) :
    Calls Try.prog 17 #[.slice ao n cap, .slice bo m cap2] w fun e w' => e = .returned (.bool (sameB xs ys)) ∧ Below w.heap.size w w' := by
  have hbig : n ≤ 9223372036854775807 := Nat.le_trans ha.hcap ha.hmax
  have hbig2 : m ≤ 9223372036854775807 := Nat.le_trans hb.hcap hb.hmax
  have HL : Aside (xs.length = n) := Sl.lenE ha
  have HM : Aside (ys.length = m) := Sl.lenE hb
  have HA : Aside (CellsFi w ao xs) := cellsFi ha
  have HB : Aside (CellsFi w bo ys) := cellsFi hb
  have HS : Aside (sameB xs ys = true ↔ xs = ys) := same_iff xs ys
  generalize sameB xs ys = r at HS ⊢
  clear ha hb
  by_cases h2 : n = m
  · subst h2
    go_enter Try.func17, Try.ntmps17
    go_wp2
    go_loopg [5] n (fun k s5 wr => ∃ (idx : Nat) (x : World), s5 = .int .i64 (idx : Int) ∧ wr = plus w x ∧ k + idx = n ∧ Aside (∀ j, j < idx → xs[j]! = ys[j]!))
    case atStart => exact ⟨0, _, rfl, plus_self _, by omega, fun j hj => absurd hj (Nat.not_lt_zero _)⟩
    case round =>
      obtain ⟨idx, x, rfl, rfl, hk, A⟩ := hrel
      by_cases hi : idx < n
      · have hiz : (idx : Int) < (n : Int) := by omega
        obtain ⟨b, off, rfl, hbw, l0, l1, l2, l3, l4, l5, l6⟩ := HA.out idx (by have := HL.out; omega)
        obtain ⟨b2, off2, rfl, hbw2, m0, m1, m2, m3, m4, m5, m6⟩ := HB.out idx (by have := HM.out; omega)
        have AS : Aside (xs[idx]! = ys[idx]! → ∀ j, j < idx + 1 → xs[j]! = ys[j]!) := fun hh j hj => by
          rcases (by omega : j < idx ∨ j = idx) with h' | h'
          · exact A.out j h'
          · rw [h']; exact hh
        have AN : Aside (eqFi xs[idx]! ys[idx]! = false → r = false) := fun e => by
          cases r with
          | false => rfl
          | true =>
            have := HS.out.1 rfl
            subst this
            rw [eqFi_refl] at e; cases e
        generalize xs[idx]! = y at l0 l1 l2 l3 l4 l5 l6 AS AN
        generalize ys[idx]! = z at m0 m1 m2 m3 m4 m5 m6 AS AN
        obtain ⟨y1, y2, y3, y4, y5, y6, y7⟩ := y
        obtain ⟨z1, z2, z3, z4, z5, z6, z7⟩ := z
        simp only [] at l0 l1 l2 l3 l4 l5 l6 m0 m1 m2 m3 m4 m5 m6
        have nq := fun w => neq_fi y1 y2 y3 y4 y5 y6 y7 z1 z2 z3 z4 z5 z6 z7 w
        cases hq : eqFi ⟨y1, y2, y3, y4, y5, y6, y7⟩ ⟨z1, z2, z3, z4, z5, z6, z7⟩ with
        | true =>
          have A2 := AS.out ((eqFi_iff _ _).1 hq)
          have A3 : Aside (∀ j, j < idx + 1 → xs[j]! = ys[j]!) := A2
          rw [hq] at nq
          clear hq A2 AS AN A HA HB HS
          go_wp2
          refine wp_region_plus (by kernel_rfl) (by kernel_rfl) ?_
          repeat (go_big_quiet_step (fail))
          refine wpQuiet_nil ?_
          rintro _ ⟨x1, rfl⟩
          go_wp2
          go_roundg (gk - 1)
          case measure => omega
          case rel =>
            obtain ⟨z5, hz5⟩ := plus_plus w _ x1
            exact ⟨idx + 1, z5, by simp, hz5, by omega, A3⟩
        | false =>
          have e1 := AN.out hq
          subst e1
          rw [hq] at nq
          clear hq AS AN A HA HB HS
          go_wp2
          refine wp_region_plus (by kernel_rfl) (by kernel_rfl) ?_
          repeat (go_big_quiet_step (fail))
          refine wpQuiet_nil ?_
          rintro _ ⟨x1, rfl⟩
          go_wp2
          go_ret
          refine ⟨rfl, ?_⟩
          repeat (first | (with_reducible exact Below.refl _ _) | (with_reducible assumption) | (with_reducible refine below_to_plus ?_ ?_ _) | (with_reducible refine below_holds ?_ ?_ _ _) | (with_reducible refine Below.alloc ?_ ?_ _) | (with_reducible refine Below.drew ?_) | (with_reducible refine below_drewN ?_ _) | (with_reducible refine Below.setCell ?_ ?_ _))
          all_goals first | omega | (simp; done) | (simp [go_sem]; done) | (simp [go_sem]; omega)
      · have hiz : ¬ (idx : Int) < (n : Int) := by omega
        have exy : xs = ys := List.ext_getElem (by rw [HL.out, HM.out]) (fun j h1 h2 => by
          have := A.out j (by have := HL.out; omega)
          rwa [getElem!_pos xs j h1, getElem!_pos ys j h2] at this)
        have e1 : r = true := HS.out.2 exy
        subst e1
        clear HA HB HS A
        go_wp2
        go_ret
        refine ⟨rfl, ?_⟩
        repeat (first | (with_reducible exact Below.refl _ _) | (with_reducible assumption) | (with_reducible refine below_to_plus ?_ ?_ _) | (with_reducible refine below_holds ?_ ?_ _ _) | (with_reducible refine Below.alloc ?_ ?_ _) | (with_reducible refine Below.drew ?_) | (with_reducible refine below_drewN ?_ _) | (with_reducible refine Below.setCell ?_ ?_ _))
        all_goals first | omega | (simp; done) | (simp [go_sem]; done) | (simp [go_sem]; omega)
  · have e1 : r = false := by
      cases r with
      | false => rfl
      | true =>
        have := HS.out.1 rfl
        subst this
        have := HL.out
        have := HM.out
        omega
    subst e1
    have hne : ((n : Int) != (m : Int)) = true := by simp; omega
    clear HA HB HS
    go_enter Try.func17, Try.ntmps17
    go_wp2
    go_ret
    exact ⟨rfl, Below.refl _ _⟩

/-! ### Lists of numbers -/
def iEnc (z : Int) : List Value := [.int .i64 z]
theorem i_len (z : Int) : (iEnc z).length = 1 := rfl
theorem i_one (z : Int) : ∀ u ∈ iEnc z, u.oneCell' = true := by
  intro u hu
  simp only [iEnc, List.mem_cons, List.not_mem_nil, or_false] at hu
  subst hu; rfl
def CellsI (W : World) (ao : Option Addr) (ys : List Int) : Prop := ∀ j, j < ys.length → ∃ b off, ao = some ⟨b, off, none⟩ ∧ b < W.heap.size ∧ W.cell? ⟨b, off + j, none⟩ = some (.int .i64 ys[j]!)
theorem cellsI {W : World} {ao : Option Addr} {n cap : Nat} {ys : List Int} (h : Sl W 1 ao n cap (ys.map iEnc)) : CellsI W ao ys := by
  intro j hj
  have hl := Sl.lenE h
  obtain ⟨b, off, rfl, hb, hc⟩ := h.here (by omega)
  have hx : (ys.map iEnc)[j]? = some (iEnc ys[j]!) := by rw [List.getElem?_map, List.getElem?_eq_getElem hj, getElem!_pos ys j hj]; rfl
  have := hc j _ hx 0 _ rfl
  rw [Nat.mul_one] at this
  exact ⟨b, off, rfl, hb, this⟩
def intsB (xs ys : List Int) : Bool := decide (xs = ys)

set_option maxHeartbeats 4000000 in
theorem ints_calls (ao bo : Option Addr) (n cap m cap2 : Nat) (xs ys : List Int) (w : World) (ha : Sl w 1 ao n cap (xs.map iEnc)) (hb : Sl w 1 bo m cap2 (ys.map iEnc)) :
    Calls Try.prog 23 #[.slice ao n cap, .slice bo m cap2] w fun e w' => e = .returned (.bool (intsB xs ys)) ∧ Below w.heap.size w w' := by
  have hbig : n ≤ 9223372036854775807 := Nat.le_trans ha.hcap ha.hmax
  have hbig2 : m ≤ 9223372036854775807 := Nat.le_trans hb.hcap hb.hmax
  have HL : Aside (xs.length = n) := Sl.lenE ha
  have HM : Aside (ys.length = m) := Sl.lenE hb
  have HA : Aside (CellsI w ao xs) := cellsI ha
  have HB : Aside (CellsI w bo ys) := cellsI hb
  have HS : Aside (intsB xs ys = true ↔ xs = ys) := by show _ ↔ _; unfold intsB; exact decide_eq_true_iff
  generalize intsB xs ys = r at HS ⊢
  clear ha hb
  by_cases h2 : n = m
  · subst h2
    go_enter Try.func23, Try.ntmps23
    go_wp2
    go_loopg [5] n (fun k s5 wr => ∃ (idx : Nat) (x : World), s5 = .int .i64 (idx : Int) ∧ wr = plus w x ∧ k + idx = n ∧ Aside (∀ j, j < idx → xs[j]! = ys[j]!))
    case atStart => exact ⟨0, _, rfl, plus_self _, by omega, fun j hj => absurd hj (Nat.not_lt_zero _)⟩
    case round =>
      obtain ⟨idx, x, rfl, rfl, hk, A⟩ := hrel
      by_cases hi : idx < n
      · have hiz : (idx : Int) < (n : Int) := by omega
        obtain ⟨b, off, rfl, hbw, l0⟩ := HA.out idx (by have := HL.out; omega)
        obtain ⟨b2, off2, rfl, hbw2, m0⟩ := HB.out idx (by have := HM.out; omega)
        have AS : Aside (xs[idx]! = ys[idx]! → ∀ j, j < idx + 1 → xs[j]! = ys[j]!) := fun hh j hj => by
          rcases (by omega : j < idx ∨ j = idx) with h' | h'
          · exact A.out j h'
          · rw [h']; exact hh
        have AN : Aside (¬ xs[idx]! = ys[idx]! → r = false) := fun e => by
          cases r with
          | false => rfl
          | true =>
            have := HS.out.1 rfl
            subst this
            exact absurd rfl e
        generalize xs[idx]! = y at l0 AS AN
        generalize ys[idx]! = z at m0 AS AN
        by_cases hq : y = z
        · have A2 := AS.out hq
          have A3 : Aside (∀ j, j < idx + 1 → xs[j]! = ys[j]!) := A2
          have hf : (y != z) = false := by simp [hq]
          clear hq A2 AS AN A HA HB HS
          go_wp2
          refine wp_region_plus (by kernel_rfl) (by kernel_rfl) ?_
          repeat (go_big_quiet_step (fail))
          refine wpQuiet_nil ?_
          rintro _ ⟨x1, rfl⟩
          go_wp2
          go_roundg (gk - 1)
          case measure => omega
          case rel =>
            obtain ⟨z5, hz5⟩ := plus_plus w _ x1
            exact ⟨idx + 1, z5, by simp, hz5, by omega, A3⟩
        · have e1 := AN.out hq
          subst e1
          have hf : (y != z) = true := by simp [hq]
          clear hq AS AN A HA HB HS
          go_wp2
          refine wp_region_plus (by kernel_rfl) (by kernel_rfl) ?_
          repeat (go_big_quiet_step (fail))
          refine wpQuiet_nil ?_
          rintro _ ⟨x1, rfl⟩
          go_wp2
          go_ret
          refine ⟨rfl, ?_⟩
          repeat (first | (with_reducible exact Below.refl _ _) | (with_reducible assumption) | (with_reducible refine below_to_plus ?_ ?_ _) | (with_reducible refine below_holds ?_ ?_ _ _) | (with_reducible refine Below.alloc ?_ ?_ _) | (with_reducible refine Below.drew ?_) | (with_reducible refine below_drewN ?_ _) | (with_reducible refine Below.setCell ?_ ?_ _))
          all_goals first | omega | (simp; done) | (simp [go_sem]; done) | (simp [go_sem]; omega)
      · have hiz : ¬ (idx : Int) < (n : Int) := by omega
        have exy : xs = ys := List.ext_getElem (by rw [HL.out, HM.out]) (fun j h1 h2 => by
          have := A.out j (by have := HL.out; omega)
          rwa [getElem!_pos xs j h1, getElem!_pos ys j h2] at this)
        have e1 : r = true := HS.out.2 exy
        subst e1
        clear HA HB HS A
        go_wp2
        go_ret
        refine ⟨rfl, ?_⟩
        repeat (first | (with_reducible exact Below.refl _ _) | (with_reducible assumption) | (with_reducible refine below_to_plus ?_ ?_ _) | (with_reducible refine below_holds ?_ ?_ _ _) | (with_reducible refine Below.alloc ?_ ?_ _) | (with_reducible refine Below.drew ?_) | (with_reducible refine below_drewN ?_ _) | (with_reducible refine Below.setCell ?_ ?_ _))
        all_goals first | omega | (simp; done) | (simp [go_sem]; done) | (simp [go_sem]; omega)
  · have e1 : r = false := by
      cases r with
      | false => rfl
      | true =>
        have := HS.out.1 rfl
        subst this
        have := HL.out
        have := HM.out
        omega
    subst e1
    have hne : ((n : Int) != (m : Int)) = true := by simp; omega
    clear HA HB HS
    go_enter Try.func23, Try.ntmps23
    go_wp2
    go_ret
    exact ⟨rfl, Below.refl _ _⟩

end Go.Proofs.Ytjnfllcbkkcfiaa
