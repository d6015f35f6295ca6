/- This text proves the walks of Same and Right of the reference. Conditions: those that each theorem names. -/
import Derived.Test.YtodmgdihkhakpaaLeaseO
namespace Go.Proofs.Ytodmgdihkhakpaa
open Go.ChangeShapes Go.WideShapes Go.ChangeAt Go.RowKit
set_option linter.unusedVariables false

theorem stepB_ref (xs : List Le) (j : Nat) : stepB xs j = (okB xs[j]! && (decide (j = 0) || beforeB xs[j - 1]! xs[j]!)) := by
  unfold stepB
  congr 2
  have := order_lt xs[j - 1]! xs[j]!
  by_cases h : orderI xs[j - 1]! xs[j]! < 0
  · rw [decide_eq_true h, this.1 h]
  · rw [decide_eq_false h]
    cases hb : beforeB xs[j - 1]! xs[j]! with
    | false => rfl
    | true => exact absurd (this.2 hb) h

set_option maxHeartbeats 4000000 in
theorem rright_calls (ao : Option Addr) (n cap : Nat) (xs : List Le) (w : World) (h : Sl w 4 ao n cap (xs.map Le.enc)) :
    Calls Try.prog 11 #[.slice ao n cap] w fun e w' => e = .returned (.bool (rightB xs)) ∧ Below w.heap.size w w' := by
  have hbig : n ≤ 9223372036854775807 := Nat.le_trans h.hcap h.hmax
  have hln := Sl.len h
  by_cases h0 : n = 0
  · subst h0
    have hxs : xs = [] := List.eq_nil_of_length_eq_zero hln
    subst hxs
    clear h
    go_enter Try.func11, Try.ntmps11
    go_wp2
    go_loopg [3] 0 (fun k s10 wr => ∃ x, s10 = .int .i64 0 ∧ wr = plus w x)
    case atStart => exact ⟨_, rfl, plus_self w⟩
    case round =>
      obtain ⟨x, rfl, rfl⟩ := hrel
      go_wp2
      go_ret
      exact ⟨rfl, below_plus _ _⟩
  obtain ⟨b, off, rfl, hb, hc⟩ := Sl.open4 h (by omega)
  have HC : Aside (∀ j, j < n → w.cell? ⟨b, off + j * 4, none⟩ = some (.int .i64 xs[j]!.conn) ∧ w.cell? ⟨b, off + j * 4 + 1, none⟩ = some (.int .i64 xs[j]!.id) ∧ w.cell? ⟨b, off + j * 4 + 2, none⟩ = some (.int .i64 xs[j]!.kind) ∧ w.cell? ⟨b, off + j * 4 + 3, none⟩ = some (.int .i64 xs[j]!.til)) := hc
  clear hc h
  go_enter Try.func11, Try.ntmps11
  go_wp2
  go_loopg [3] n (fun k s10 wr => ∃ (idx : Nat) (x : World), s10 = .int .i64 (idx : Int) ∧ wr = plus w x ∧ k + idx = n ∧ Aside (∀ j, j < idx → stepB xs j = true))
  case atStart => exact ⟨0, _, rfl, plus_self w, by omega, fun j hj => absurd hj (Nat.not_lt_zero _)⟩
  case round =>
    obtain ⟨idx, x, rfl, rfl, hk, FA⟩ := hrel
    by_cases hi : idx < n
    · obtain ⟨l0, l1, l2, l3⟩ := HC.out idx hi
      have NO : Aside (stepB xs idx = false → rightB xs = false) := rightB_no xs idx (by omega)
      have SB : Aside (stepB xs idx = (okB xs[idx]! && (decide (idx = 0) || beforeB xs[idx - 1]! xs[idx]!))) := stepB_ref xs idx
      have PV : Aside (0 < idx → w.cell? ⟨b, off + (idx - 1) * 4, none⟩ = some (.int .i64 xs[idx - 1]!.conn) ∧ w.cell? ⟨b, off + (idx - 1) * 4 + 1, none⟩ = some (.int .i64 xs[idx - 1]!.id) ∧ w.cell? ⟨b, off + (idx - 1) * 4 + 2, none⟩ = some (.int .i64 xs[idx - 1]!.kind) ∧ w.cell? ⟨b, off + (idx - 1) * 4 + 3, none⟩ = some (.int .i64 xs[idx - 1]!.til)) := fun h1 => HC.out (idx - 1) (by omega)
      clear HC
      generalize xs[idx - 1]! = z at SB PV
      generalize xs[idx]! = y at l0 l1 l2 l3 SB
      obtain ⟨y1, y2, y3, y4⟩ := y
      obtain ⟨z1, z2, z3, z4⟩ := z
      simp only [] at l0 l1 l2 l3 PV
      have w1 := fun w => in_calls y2 1 1099511627776 w
      have w2 := fun w => in_calls y1 1 1099511627776 w
      have w3 := fun w => kindly_calls y3 w
      have w4 := fun w => in_calls y4 0 1099512676352 w
      have OK : Aside (okB ⟨y1, y2, y3, y4⟩ = (inB y2 1 1099511627776 && inB y1 1 1099511627776 && kindB y3 && inB y4 0 1099512676352)) := rfl
      generalize inB y2 1 1099511627776 = b1 at w1 OK
      generalize inB y1 1 1099511627776 = b2 at w2 OK
      generalize kindB y3 = b3 at w3 OK
      generalize inB y4 0 1099512676352 = b4 at w4 OK
      have FAIL : Aside (okB ⟨y1, y2, y3, y4⟩ = false → rightB xs = false) := fun h => NO.out (by rw [SB.out, h]; rfl)
      cases b1 with
      | false =>
        have RF : Aside (rightB xs = false) := FAIL.out (by rw [OK.out]; rfl)
        clear NO SB PV OK FAIL FA
        go_wp2_with (first | (go_at_call 30; (with_reducible refine (w1 _).mono ?_); (rintro e w1 ⟨rfl, hb⟩; obtain ⟨x, hx⟩ := plus_of_below hb; subst hx); clear hb) | (go_at_call 30; (with_reducible refine (w2 _).mono ?_); (rintro e w1 ⟨rfl, hb⟩; obtain ⟨x, hx⟩ := plus_of_below hb; subst hx); clear hb) | (go_at_call 31; (with_reducible refine (w3 _).mono ?_); (rintro e w1 ⟨rfl, hb⟩; obtain ⟨x, hx⟩ := plus_of_below hb; subst hx); clear hb) | (go_at_call 30; (with_reducible refine (w4 _).mono ?_); (rintro e w1 ⟨rfl, hb⟩; obtain ⟨x, hx⟩ := plus_of_below hb; subst hx); clear hb))
        go_ret
        refine ⟨ret_bool RF.out.symm, ?_⟩
        repeat (first | (with_reducible exact Below.refl _ _) | (with_reducible assumption) | (with_reducible refine below_to_plus ?_ ?_ _) | (with_reducible refine below_holds ?_ ?_ _ _) | (with_reducible refine Below.alloc ?_ ?_ _) | (with_reducible refine Below.drew ?_) | (with_reducible refine below_drewN ?_ _) | (with_reducible refine Below.setCell ?_ ?_ _))
        all_goals first | omega | (simp; done) | (simp [go_sem]; done) | (simp [go_sem]; omega)
      | true =>
      cases b2 with
      | false =>
        have RF : Aside (rightB xs = false) := FAIL.out (by rw [OK.out]; rfl)
        clear NO SB PV OK FAIL FA
        go_wp2_with (first | (go_at_call 30; (with_reducible refine (w1 _).mono ?_); (rintro e w1 ⟨rfl, hb⟩; obtain ⟨x, hx⟩ := plus_of_below hb; subst hx); clear hb) | (go_at_call 30; (with_reducible refine (w2 _).mono ?_); (rintro e w1 ⟨rfl, hb⟩; obtain ⟨x, hx⟩ := plus_of_below hb; subst hx); clear hb) | (go_at_call 31; (with_reducible refine (w3 _).mono ?_); (rintro e w1 ⟨rfl, hb⟩; obtain ⟨x, hx⟩ := plus_of_below hb; subst hx); clear hb) | (go_at_call 30; (with_reducible refine (w4 _).mono ?_); (rintro e w1 ⟨rfl, hb⟩; obtain ⟨x, hx⟩ := plus_of_below hb; subst hx); clear hb))
        go_ret
        refine ⟨ret_bool RF.out.symm, ?_⟩
        repeat (first | (with_reducible exact Below.refl _ _) | (with_reducible assumption) | (with_reducible refine below_to_plus ?_ ?_ _) | (with_reducible refine below_holds ?_ ?_ _ _) | (with_reducible refine Below.alloc ?_ ?_ _) | (with_reducible refine Below.drew ?_) | (with_reducible refine below_drewN ?_ _) | (with_reducible refine Below.setCell ?_ ?_ _))
        all_goals first | omega | (simp; done) | (simp [go_sem]; done) | (simp [go_sem]; omega)
      | true =>
      cases b3 with
      | false =>
        have RF : Aside (rightB xs = false) := FAIL.out (by rw [OK.out]; rfl)
        clear NO SB PV OK FAIL FA
        go_wp2_with (first | (go_at_call 30; (with_reducible refine (w1 _).mono ?_); (rintro e w1 ⟨rfl, hb⟩; obtain ⟨x, hx⟩ := plus_of_below hb; subst hx); clear hb) | (go_at_call 30; (with_reducible refine (w2 _).mono ?_); (rintro e w1 ⟨rfl, hb⟩; obtain ⟨x, hx⟩ := plus_of_below hb; subst hx); clear hb) | (go_at_call 31; (with_reducible refine (w3 _).mono ?_); (rintro e w1 ⟨rfl, hb⟩; obtain ⟨x, hx⟩ := plus_of_below hb; subst hx); clear hb) | (go_at_call 30; (with_reducible refine (w4 _).mono ?_); (rintro e w1 ⟨rfl, hb⟩; obtain ⟨x, hx⟩ := plus_of_below hb; subst hx); clear hb))
        go_ret
        refine ⟨ret_bool RF.out.symm, ?_⟩
        repeat (first | (with_reducible exact Below.refl _ _) | (with_reducible assumption) | (with_reducible refine below_to_plus ?_ ?_ _) | (with_reducible refine below_holds ?_ ?_ _ _) | (with_reducible refine Below.alloc ?_ ?_ _) | (with_reducible refine Below.drew ?_) | (with_reducible refine below_drewN ?_ _) | (with_reducible refine Below.setCell ?_ ?_ _))
        all_goals first | omega | (simp; done) | (simp [go_sem]; done) | (simp [go_sem]; omega)
      | true =>
      cases b4 with
      | false =>
        have RF : Aside (rightB xs = false) := FAIL.out (by rw [OK.out]; rfl)
        clear NO SB PV OK FAIL FA
        go_wp2_with (first | (go_at_call 30; (with_reducible refine (w1 _).mono ?_); (rintro e w1 ⟨rfl, hb⟩; obtain ⟨x, hx⟩ := plus_of_below hb; subst hx); clear hb) | (go_at_call 30; (with_reducible refine (w2 _).mono ?_); (rintro e w1 ⟨rfl, hb⟩; obtain ⟨x, hx⟩ := plus_of_below hb; subst hx); clear hb) | (go_at_call 31; (with_reducible refine (w3 _).mono ?_); (rintro e w1 ⟨rfl, hb⟩; obtain ⟨x, hx⟩ := plus_of_below hb; subst hx); clear hb) | (go_at_call 30; (with_reducible refine (w4 _).mono ?_); (rintro e w1 ⟨rfl, hb⟩; obtain ⟨x, hx⟩ := plus_of_below hb; subst hx); clear hb))
        go_ret
        refine ⟨ret_bool RF.out.symm, ?_⟩
        repeat (first | (with_reducible exact Below.refl _ _) | (with_reducible assumption) | (with_reducible refine below_to_plus ?_ ?_ _) | (with_reducible refine below_holds ?_ ?_ _ _) | (with_reducible refine Below.alloc ?_ ?_ _) | (with_reducible refine Below.drew ?_) | (with_reducible refine below_drewN ?_ _) | (with_reducible refine Below.setCell ?_ ?_ _))
        all_goals first | omega | (simp; done) | (simp [go_sem]; done) | (simp [go_sem]; omega)
      | true =>
      have SB2 : Aside (stepB xs idx = (decide (idx = 0) || beforeB ⟨z1, z2, z3, z4⟩ ⟨y1, y2, y3, y4⟩)) := by show _ = _; rw [SB.out, OK.out]; rfl
      clear FAIL OK SB
      have key : ∀ wr', Below w.heap.size w wr' → Aside (stepB xs idx = true) →
          ∃ (idx' : Nat) (x' : World), Value.int .i64 ((idx : Int) + 1) = .int .i64 (idx' : Int) ∧ wr' = plus w x' ∧ (gk - 1) + idx' = n ∧ Aside (∀ j, j < idx' → stepB xs j = true) := fun wr' hb hs =>
        let ⟨z, hz⟩ := plus_of_below hb
        ⟨idx + 1, z, by simp, hz, by omega, fun j hj => by
          rcases (by omega : j < idx ∨ j = idx) with h | h
          · exact FA.out j h
          · rw [h]; exact hs.out⟩
      by_cases h00 : idx = 0
      · have ST : Aside (stepB xs idx = true) := by show _ = _; rw [SB2.out, h00]; rfl
        clear SB2 NO PV FA
        subst h00
        simp only [Nat.zero_mul, Nat.add_zero] at l0 l1 l2 l3
        go_wp2_with (first | (go_at_call 30; (with_reducible refine (w1 _).mono ?_); (rintro e w1 ⟨rfl, hb⟩; obtain ⟨x, hx⟩ := plus_of_below hb; subst hx); clear hb) | (go_at_call 30; (with_reducible refine (w2 _).mono ?_); (rintro e w1 ⟨rfl, hb⟩; obtain ⟨x, hx⟩ := plus_of_below hb; subst hx); clear hb) | (go_at_call 31; (with_reducible refine (w3 _).mono ?_); (rintro e w1 ⟨rfl, hb⟩; obtain ⟨x, hx⟩ := plus_of_below hb; subst hx); clear hb) | (go_at_call 30; (with_reducible refine (w4 _).mono ?_); (rintro e w1 ⟨rfl, hb⟩; obtain ⟨x, hx⟩ := plus_of_below hb; subst hx); clear hb))
        refine wp_region_plus (by kernel_rfl) (by kernel_rfl) ?_
        repeat (go_big_quiet_step (fail))
        refine wpQuiet_nil ?_
        rintro _ ⟨x, rfl⟩
        go_wp2
        go_roundg (gk - 1)
        case measure => omega
        case rel =>
          refine key _ ?_ ST
          repeat (first | (with_reducible exact Below.refl _ _) | (with_reducible assumption) | (with_reducible refine below_to_plus ?_ ?_ _) | (with_reducible refine below_holds ?_ ?_ _ _) | (with_reducible refine Below.alloc ?_ ?_ _) | (with_reducible refine Below.drew ?_) | (with_reducible refine below_drewN ?_ _) | (with_reducible refine Below.setCell ?_ ?_ _))
          all_goals first | omega | (simp; done) | (simp [go_sem]; done) | (simp [go_sem]; omega)
      · obtain ⟨m, rfl⟩ : ∃ m, idx = m + 1 := ⟨idx - 1, by omega⟩
        obtain ⟨p0, p1, p2, p3⟩ := PV.out (by omega)
        simp only [Nat.add_sub_cancel] at p0 p1 p2 p3
        have co := fun w => before_calls z1 z2 z3 z4 y1 y2 y3 y4 w
        have SB3 : Aside (stepB xs (m + 1) = beforeB ⟨z1, z2, z3, z4⟩ ⟨y1, y2, y3, y4⟩) := by show _ = _; rw [SB2.out]; rfl
        generalize beforeB ⟨z1, z2, z3, z4⟩ ⟨y1, y2, y3, y4⟩ = r at co SB3
        clear SB2 PV FA
        by_cases hr : r = true
        · rw [hr] at co
          have ST : Aside (stepB xs (m + 1) = true) := by show _ = _; rw [SB3.out, hr]
          clear SB3 NO
          go_wp2_with (first | (go_at_call 30; (with_reducible refine (w1 _).mono ?_); (rintro e w1 ⟨rfl, hb⟩; obtain ⟨x, hx⟩ := plus_of_below hb; subst hx); clear hb) | (go_at_call 30; (with_reducible refine (w2 _).mono ?_); (rintro e w1 ⟨rfl, hb⟩; obtain ⟨x, hx⟩ := plus_of_below hb; subst hx); clear hb) | (go_at_call 31; (with_reducible refine (w3 _).mono ?_); (rintro e w1 ⟨rfl, hb⟩; obtain ⟨x, hx⟩ := plus_of_below hb; subst hx); clear hb) | (go_at_call 30; (with_reducible refine (w4 _).mono ?_); (rintro e w1 ⟨rfl, hb⟩; obtain ⟨x, hx⟩ := plus_of_below hb; subst hx); clear hb))
          refine wp_region_plus (by kernel_rfl) (by kernel_rfl) ?_
          repeat (go_big_quiet_step (first | (go_at_call 32; exact calls_plus (co _))))
          refine wpQuiet_nil ?_
          rintro _ ⟨x, rfl⟩
          go_wp2
          go_roundg (gk - 1)
          case measure => omega
          case rel =>
            refine key _ ?_ ST
            repeat (first | (with_reducible exact Below.refl _ _) | (with_reducible assumption) | (with_reducible refine below_to_plus ?_ ?_ _) | (with_reducible refine below_holds ?_ ?_ _ _) | (with_reducible refine Below.alloc ?_ ?_ _) | (with_reducible refine Below.drew ?_) | (with_reducible refine below_drewN ?_ _) | (with_reducible refine Below.setCell ?_ ?_ _))
            all_goals first | omega | (simp; done) | (simp [go_sem]; done) | (simp [go_sem]; omega)
        · have hr : r = false := by simpa using hr
          rw [hr] at co
          have RF : Aside (rightB xs = false) := NO.out (by rw [SB3.out, hr])
          clear SB3 NO key
          go_wp2_with (first | (go_at_call 30; (with_reducible refine (w1 _).mono ?_); (rintro e w1 ⟨rfl, hb⟩; obtain ⟨x, hx⟩ := plus_of_below hb; subst hx); clear hb) | (go_at_call 30; (with_reducible refine (w2 _).mono ?_); (rintro e w1 ⟨rfl, hb⟩; obtain ⟨x, hx⟩ := plus_of_below hb; subst hx); clear hb) | (go_at_call 31; (with_reducible refine (w3 _).mono ?_); (rintro e w1 ⟨rfl, hb⟩; obtain ⟨x, hx⟩ := plus_of_below hb; subst hx); clear hb) | (go_at_call 30; (with_reducible refine (w4 _).mono ?_); (rintro e w1 ⟨rfl, hb⟩; obtain ⟨x, hx⟩ := plus_of_below hb; subst hx); clear hb))
          refine wp_region_plus (by kernel_rfl) (by kernel_rfl) ?_
          repeat (go_big_quiet_step (first | (go_at_call 32; exact calls_plus (co _))))
          refine wpQuiet_nil ?_
          rintro _ ⟨x, rfl⟩
          go_wp2
          go_ret
          refine ⟨ret_bool RF.out.symm, ?_⟩
          repeat (first | (with_reducible exact Below.refl _ _) | (with_reducible assumption) | (with_reducible refine below_to_plus ?_ ?_ _) | (with_reducible refine below_holds ?_ ?_ _ _) | (with_reducible refine Below.alloc ?_ ?_ _) | (with_reducible refine Below.drew ?_) | (with_reducible refine below_drewN ?_ _) | (with_reducible refine Below.setCell ?_ ?_ _))
          all_goals first | omega | (simp; done) | (simp [go_sem]; done) | (simp [go_sem]; omega)
    · have hin : ¬ (idx : Int) < (n : Int) := by omega
      by_cases h64 : n ≤ 64
      · have YS : Aside (rightB xs = true) := rightB_yes xs (by omega) (fun j hj => FA.out j (by omega))
        clear FA HC
        go_wp2
        go_ret
        exact ⟨ret_bool (by rw [YS.out, decide_eq_true_iff]; omega), below_plus _ _⟩
      · have YS : Aside (rightB xs = false) := by show _ = _; unfold rightB; rw [decide_eq_false (by omega), Bool.false_and]
        clear FA HC
        go_wp2
        go_ret
        exact ⟨ret_bool (by rw [YS.out, decide_eq_false_iff_not]; omega), below_plus _ _⟩


def eqL (a b : Le) : Bool := a.conn == b.conn && (a.id == b.id && (a.kind == b.kind && a.til == b.til))
theorem eqL_iff (a b : Le) : eqL a b = true ↔ a = b := by
  obtain ⟨a1, a2, a3, a4⟩ := a
  obtain ⟨b1, b2, b3, b4⟩ := b
  simp [eqL]

theorem neq_lease (y1 y2 y3 y4 z1 z2 z3 z4 : Int) (w : World) : (binOp .neq 36 (.agg #[.int .i64 y1, .int .i64 y2, .int .i64 y3, .int .i64 y4]) (.agg #[.int .i64 z1, .int .i64 z2, .int .i64 z3, .int .i64 z4])).run Try.prog w = .ok (.bool (!(eqL ⟨y1, y2, y3, y4⟩ ⟨z1, z2, z3, z4⟩))) w := by
  rw [run_neq_struct]
  simp [go_sem]
  repeat' split
  all_goals simp_all [eqL]

set_option maxHeartbeats 4000000 in
theorem rsame_calls (ao bo : Option Addr) (n cap cap2 : Nat) (xs : List Le) (w : World) (ha : Sl w 4 ao n cap (xs.map Le.enc)) (hb : Sl w 4 bo n cap2 (xs.map Le.enc)) :
    Calls Try.prog 14 #[.slice ao n cap, .slice bo n cap2] w fun e w' => e = .returned (.bool true) ∧ Below w.heap.size w w' := by
  have hbig : n ≤ 9223372036854775807 := Nat.le_trans ha.hcap ha.hmax
  have hln := Sl.len ha
  have HA : Aside (CellsL w ao xs) := cellsL ha
  have HB : Aside (CellsL w bo xs) := cellsL hb
  clear ha hb
  go_enter Try.func14, Try.ntmps14
  go_wp2
  go_loopg [5] n (fun k s5 wr => ∃ (idx : Nat) (x : World), s5 = .int .i64 (idx : Int) ∧ wr = plus w x ∧ k + idx = n)
  case atStart => exact ⟨0, _, rfl, plus_self w, by omega⟩
  case round =>
    obtain ⟨idx, x, rfl, rfl, hk⟩ := hrel
    by_cases hi : idx < n
    · obtain ⟨b, off, rfl, hbw, l0, l1, l2, l3⟩ := HA.out idx (by omega)
      obtain ⟨b2, off2, rfl, hbw2, m0, m1, m2, m3⟩ := HB.out idx (by omega)
      generalize xs[idx]! = y at l0 l1 l2 l3 m0 m1 m2 m3
      obtain ⟨y1, y2, y3, y4⟩ := y
      simp only [] at l0 l1 l2 l3 m0 m1 m2 m3
      have nq := fun w => neq_lease y1 y2 y3 y4 y1 y2 y3 y4 w
      rw [show (!(eqL ⟨y1, y2, y3, y4⟩ ⟨y1, y2, y3, y4⟩)) = false by simp [eqL]] at nq
      go_wp2
      refine wp_region_plus (by kernel_rfl) (by kernel_rfl) ?_
      repeat (go_big_quiet_step (fail))
      refine wpQuiet_nil ?_
      rintro _ ⟨x, rfl⟩
      go_wp2
      go_roundg (gk - 1)
      case measure => omega
      case rel =>
        obtain ⟨z, hz⟩ := plus_plus w _ x
        exact ⟨idx + 1, z, by simp, hz, by omega⟩
    · have hin : ¬ (idx : Int) < (n : Int) := by omega
      go_wp2
      go_ret
      exact ⟨rfl, below_plus _ _⟩

end Go.Proofs.Ytodmgdihkhakpaa
