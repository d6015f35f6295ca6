/- This text proves the walk of Right of package lease. Conditions: those that each theorem names. -/
import Derived.Test.YtodmgdihkhakpaaLeaseH
namespace Go.Proofs.Ytodmgdihkhakpaa
open Go.ChangeShapes Go.WideShapes Go.ChangeAt Go.RowKit
set_option linter.unusedVariables false

def okB (x : Le) : Bool := inB x.id 1 1099511627776 && inB x.conn 1 1099511627776 && kindB x.kind && inB x.til 0 1099512676352
def stepB (xs : List Le) (j : Nat) : Bool := okB xs[j]! && (decide (j = 0) || decide (orderI xs[j - 1]! xs[j]! < 0))
def rightB (xs : List Le) : Bool := decide (xs.length ≤ 64) && (List.range xs.length).all (stepB xs)
theorem rightB_no (xs : List Le) (j : Nat) (hj : j < xs.length) (h : stepB xs j = false) : rightB xs = false := by
  unfold rightB
  have : (List.range xs.length).all (stepB xs) = false := by
    rw [List.all_eq_false]
    exact ⟨j, List.mem_range.2 hj, by rw [h]; simp⟩
  rw [this, Bool.and_false]
theorem rightB_yes (xs : List Le) (h64 : xs.length ≤ 64) (h : ∀ j, j < xs.length → stepB xs j = true) : rightB xs = true := by
  unfold rightB
  rw [decide_eq_true h64, Bool.true_and, List.all_eq_true]
  exact fun j hj => h j (List.mem_range.1 hj)

set_option maxHeartbeats 4000000 in
theorem right_calls (ao : Option Addr) (n cap : Nat) (xs : List Le) (w : World) (h : Sl w 4 ao n cap (xs.map Le.enc)) :
    Calls Try.prog 10 #[.slice ao n cap] w fun e w' => e = .returned (.bool (rightB xs)) ∧ Below w.heap.size w w' := by
  have hbig : n ≤ 9223372036854775807 := Nat.le_trans h.hcap h.hmax
  have hln := Sl.len h
  by_cases h64 : 64 < n
  · have hr : rightB xs = false := by unfold rightB; rw [decide_eq_false (by omega), Bool.false_and]
    rw [hr]
    clear h hr
    go_enter Try.func10, Try.ntmps10
    go_wp2
    go_ret
    exact ⟨rfl, Below.refl _ _⟩
  by_cases h0 : n = 0
  · subst h0
    have hxs : xs = [] := List.eq_nil_of_length_eq_zero hln
    subst hxs
    clear h
    go_enter Try.func10, Try.ntmps10
    go_wp2
    go_loopg [10] 0 (fun k s10 wr => ∃ x, s10 = .int .i64 0 ∧ wr = plus w x)
    case atStart => exact ⟨_, rfl, plus_self w⟩
    case round =>
      obtain ⟨x, rfl, rfl⟩ := hrel
      go_wp2
      go_ret
      exact ⟨rfl, below_plus _ _⟩
  obtain ⟨b, off, rfl, hb, hc⟩ := Sl.open4 h (by omega)
  have HC : Aside (∀ j, j < n → w.cell? ⟨b, off + j * 4, none⟩ = some (.int .i64 xs[j]!.conn) ∧ w.cell? ⟨b, off + j * 4 + 1, none⟩ = some (.int .i64 xs[j]!.id) ∧ w.cell? ⟨b, off + j * 4 + 2, none⟩ = some (.int .i64 xs[j]!.kind) ∧ w.cell? ⟨b, off + j * 4 + 3, none⟩ = some (.int .i64 xs[j]!.til)) := hc
  clear hc h
  go_enter Try.func10, Try.ntmps10
  go_wp2
  go_loopg [10] n (fun k s10 wr => ∃ (idx : Nat) (x : World), s10 = .int .i64 (idx : Int) ∧ wr = plus w x ∧ k + idx = n ∧ Aside (∀ j, j < idx → stepB xs j = true))
  case atStart => exact ⟨0, _, rfl, plus_self w, by omega, fun j hj => absurd hj (Nat.not_lt_zero _)⟩
  case round =>
    obtain ⟨idx, x, rfl, rfl, hk, FA⟩ := hrel
    by_cases hi : idx < n
    · obtain ⟨l0, l1, l2, l3⟩ := HC.out idx hi
      have NO : Aside (stepB xs idx = false → rightB xs = false) := rightB_no xs idx (by omega)
      have SB : Aside (stepB xs idx = (okB xs[idx]! && (decide (idx = 0) || decide (orderI xs[idx - 1]! xs[idx]! < 0)))) := rfl
      have PV : Aside (0 < idx → w.cell? ⟨b, off + (idx - 1) * 4, none⟩ = some (.int .i64 xs[idx - 1]!.conn) ∧ w.cell? ⟨b, off + (idx - 1) * 4 + 1, none⟩ = some (.int .i64 xs[idx - 1]!.id) ∧ w.cell? ⟨b, off + (idx - 1) * 4 + 2, none⟩ = some (.int .i64 xs[idx - 1]!.kind) ∧ w.cell? ⟨b, off + (idx - 1) * 4 + 3, none⟩ = some (.int .i64 xs[idx - 1]!.til)) := fun h1 => HC.out (idx - 1) (by omega)
      clear HC
      generalize xs[idx - 1]! = z at SB PV
      generalize xs[idx]! = y at l0 l1 l2 l3 SB
      obtain ⟨y1, y2, y3, y4⟩ := y
      obtain ⟨z1, z2, z3, z4⟩ := z
      simp only [] at l0 l1 l2 l3 PV
      have w1 := fun w => within_calls y2 1 1099511627776 w
      have w2 := fun w => within_calls y1 1 1099511627776 w
      have w3 := fun w => isKind_calls y3 w
      have w4 := fun w => within_calls y4 0 1099512676352 w
      have OK : Aside (okB ⟨y1, y2, y3, y4⟩ = (inB y2 1 1099511627776 && inB y1 1 1099511627776 && kindB y3 && inB y4 0 1099512676352)) := rfl
      generalize inB y2 1 1099511627776 = b1 at w1 OK
      generalize inB y1 1 1099511627776 = b2 at w2 OK
      generalize kindB y3 = b3 at w3 OK
      generalize inB y4 0 1099512676352 = b4 at w4 OK
      have FAIL : Aside (okB ⟨y1, y2, y3, y4⟩ = false → rightB xs = false) := fun h => NO.out (by rw [SB.out, h]; rfl)
      cases b1 with
      | false =>
        have RF : Aside (rightB xs = false) := FAIL.out (by rw [OK.out]; rfl)
        clear NO SB PV OK FAIL FA
        go_wp2_with (first | (go_at_call 27; (with_reducible refine (w1 _).mono ?_); (rintro e w1 ⟨rfl, hb⟩; obtain ⟨x, hx⟩ := plus_of_below hb; subst hx); clear hb) | (go_at_call 27; (with_reducible refine (w2 _).mono ?_); (rintro e w1 ⟨rfl, hb⟩; obtain ⟨x, hx⟩ := plus_of_below hb; subst hx); clear hb) | (go_at_call 28; (with_reducible refine (w3 _).mono ?_); (rintro e w1 ⟨rfl, hb⟩; obtain ⟨x, hx⟩ := plus_of_below hb; subst hx); clear hb) | (go_at_call 27; (with_reducible refine (w4 _).mono ?_); (rintro e w1 ⟨rfl, hb⟩; obtain ⟨x, hx⟩ := plus_of_below hb; subst hx); clear hb))
        go_ret
        refine ⟨ret_bool RF.out.symm, ?_⟩
        repeat (first | (with_reducible exact Below.refl _ _) | (with_reducible assumption) | (with_reducible refine below_to_plus ?_ ?_ _) | (with_reducible refine below_holds ?_ ?_ _ _) | (with_reducible refine Below.alloc ?_ ?_ _) | (with_reducible refine Below.drew ?_) | (with_reducible refine below_drewN ?_ _) | (with_reducible refine Below.setCell ?_ ?_ _))
        all_goals first | omega | (simp; done) | (simp [go_sem]; done) | (simp [go_sem]; omega)
      | true =>
      cases b2 with
      | false =>
        have RF : Aside (rightB xs = false) := FAIL.out (by rw [OK.out]; rfl)
        clear NO SB PV OK FAIL FA
        go_wp2_with (first | (go_at_call 27; (with_reducible refine (w1 _).mono ?_); (rintro e w1 ⟨rfl, hb⟩; obtain ⟨x, hx⟩ := plus_of_below hb; subst hx); clear hb) | (go_at_call 27; (with_reducible refine (w2 _).mono ?_); (rintro e w1 ⟨rfl, hb⟩; obtain ⟨x, hx⟩ := plus_of_below hb; subst hx); clear hb) | (go_at_call 28; (with_reducible refine (w3 _).mono ?_); (rintro e w1 ⟨rfl, hb⟩; obtain ⟨x, hx⟩ := plus_of_below hb; subst hx); clear hb) | (go_at_call 27; (with_reducible refine (w4 _).mono ?_); (rintro e w1 ⟨rfl, hb⟩; obtain ⟨x, hx⟩ := plus_of_below hb; subst hx); clear hb))
        go_ret
        refine ⟨ret_bool RF.out.symm, ?_⟩
        repeat (first | (with_reducible exact Below.refl _ _) | (with_reducible assumption) | (with_reducible refine below_to_plus ?_ ?_ _) | (with_reducible refine below_holds ?_ ?_ _ _) | (with_reducible refine Below.alloc ?_ ?_ _) | (with_reducible refine Below.drew ?_) | (with_reducible refine below_drewN ?_ _) | (with_reducible refine Below.setCell ?_ ?_ _))
        all_goals first | omega | (simp; done) | (simp [go_sem]; done) | (simp [go_sem]; omega)
      | true =>
      cases b3 with
      | false =>
        have RF : Aside (rightB xs = false) := FAIL.out (by rw [OK.out]; rfl)
        clear NO SB PV OK FAIL FA
        go_wp2_with (first | (go_at_call 27; (with_reducible refine (w1 _).mono ?_); (rintro e w1 ⟨rfl, hb⟩; obtain ⟨x, hx⟩ := plus_of_below hb; subst hx); clear hb) | (go_at_call 27; (with_reducible refine (w2 _).mono ?_); (rintro e w1 ⟨rfl, hb⟩; obtain ⟨x, hx⟩ := plus_of_below hb; subst hx); clear hb) | (go_at_call 28; (with_reducible refine (w3 _).mono ?_); (rintro e w1 ⟨rfl, hb⟩; obtain ⟨x, hx⟩ := plus_of_below hb; subst hx); clear hb) | (go_at_call 27; (with_reducible refine (w4 _).mono ?_); (rintro e w1 ⟨rfl, hb⟩; obtain ⟨x, hx⟩ := plus_of_below hb; subst hx); clear hb))
        go_ret
        refine ⟨ret_bool RF.out.symm, ?_⟩
        repeat (first | (with_reducible exact Below.refl _ _) | (with_reducible assumption) | (with_reducible refine below_to_plus ?_ ?_ _) | (with_reducible refine below_holds ?_ ?_ _ _) | (with_reducible refine Below.alloc ?_ ?_ _) | (with_reducible refine Below.drew ?_) | (with_reducible refine below_drewN ?_ _) | (with_reducible refine Below.setCell ?_ ?_ _))
        all_goals first | omega | (simp; done) | (simp [go_sem]; done) | (simp [go_sem]; omega)
      | true =>
      cases b4 with
      | false =>
        have RF : Aside (rightB xs = false) := FAIL.out (by rw [OK.out]; rfl)
        clear NO SB PV OK FAIL FA
        go_wp2_with (first | (go_at_call 27; (with_reducible refine (w1 _).mono ?_); (rintro e w1 ⟨rfl, hb⟩; obtain ⟨x, hx⟩ := plus_of_below hb; subst hx); clear hb) | (go_at_call 27; (with_reducible refine (w2 _).mono ?_); (rintro e w1 ⟨rfl, hb⟩; obtain ⟨x, hx⟩ := plus_of_below hb; subst hx); clear hb) | (go_at_call 28; (with_reducible refine (w3 _).mono ?_); (rintro e w1 ⟨rfl, hb⟩; obtain ⟨x, hx⟩ := plus_of_below hb; subst hx); clear hb) | (go_at_call 27; (with_reducible refine (w4 _).mono ?_); (rintro e w1 ⟨rfl, hb⟩; obtain ⟨x, hx⟩ := plus_of_below hb; subst hx); clear hb))
        go_ret
        refine ⟨ret_bool RF.out.symm, ?_⟩
        repeat (first | (with_reducible exact Below.refl _ _) | (with_reducible assumption) | (with_reducible refine below_to_plus ?_ ?_ _) | (with_reducible refine below_holds ?_ ?_ _ _) | (with_reducible refine Below.alloc ?_ ?_ _) | (with_reducible refine Below.drew ?_) | (with_reducible refine below_drewN ?_ _) | (with_reducible refine Below.setCell ?_ ?_ _))
        all_goals first | omega | (simp; done) | (simp [go_sem]; done) | (simp [go_sem]; omega)
      | true =>
      have SB2 : Aside (stepB xs idx = (decide (idx = 0) || decide (orderI ⟨z1, z2, z3, z4⟩ ⟨y1, y2, y3, y4⟩ < 0))) := by show _ = _; rw [SB.out, OK.out]; rfl
      clear FAIL OK SB
      have key : ∀ wr', Below w.heap.size w wr' → Aside (stepB xs idx = true) →
          ∃ (idx' : Nat) (x' : World), Value.int .i64 ((idx : Int) + 1) = .int .i64 (idx' : Int) ∧ wr' = plus w x' ∧ (gk - 1) + idx' = n ∧ Aside (∀ j, j < idx' → stepB xs j = true) := fun wr' hb hs =>
        let ⟨z, hz⟩ := plus_of_below hb
        ⟨idx + 1, z, by simp, hz, by omega, fun j hj => by
          rcases (by omega : j < idx ∨ j = idx) with h | h
          · exact FA.out j h
          · rw [h]; exact hs.out⟩
      by_cases h00 : idx = 0
      · have ST : Aside (stepB xs idx = true) := by show _ = _; rw [SB2.out, h00]; rfl
        clear SB2 NO PV FA
        subst h00
        simp only [Nat.zero_mul, Nat.add_zero] at l0 l1 l2 l3
        go_wp2_with (first | (go_at_call 27; (with_reducible refine (w1 _).mono ?_); (rintro e w1 ⟨rfl, hb⟩; obtain ⟨x, hx⟩ := plus_of_below hb; subst hx); clear hb) | (go_at_call 27; (with_reducible refine (w2 _).mono ?_); (rintro e w1 ⟨rfl, hb⟩; obtain ⟨x, hx⟩ := plus_of_below hb; subst hx); clear hb) | (go_at_call 28; (with_reducible refine (w3 _).mono ?_); (rintro e w1 ⟨rfl, hb⟩; obtain ⟨x, hx⟩ := plus_of_below hb; subst hx); clear hb) | (go_at_call 27; (with_reducible refine (w4 _).mono ?_); (rintro e w1 ⟨rfl, hb⟩; obtain ⟨x, hx⟩ := plus_of_below hb; subst hx); clear hb))
        refine wp_region_plus (by kernel_rfl) (by kernel_rfl) ?_
        repeat (go_big_quiet_step (fail))
        refine wpQuiet_nil ?_
        rintro _ ⟨x, rfl⟩
        go_wp2
        go_roundg (gk - 1)
        case measure => omega
        case rel =>
          refine key _ ?_ ST
          repeat (first | (with_reducible exact Below.refl _ _) | (with_reducible assumption) | (with_reducible refine below_to_plus ?_ ?_ _) | (with_reducible refine below_holds ?_ ?_ _ _) | (with_reducible refine Below.alloc ?_ ?_ _) | (with_reducible refine Below.drew ?_) | (with_reducible refine below_drewN ?_ _) | (with_reducible refine Below.setCell ?_ ?_ _))
          all_goals first | omega | (simp; done) | (simp [go_sem]; done) | (simp [go_sem]; omega)
      · obtain ⟨m, rfl⟩ : ∃ m, idx = m + 1 := ⟨idx - 1, by omega⟩
        obtain ⟨p0, p1, p2, p3⟩ := PV.out (by omega)
        simp only [Nat.add_sub_cancel] at p0 p1 p2 p3
        have co := fun w => order_calls z1 z2 z3 z4 y1 y2 y3 y4 w
        have SB3 : Aside (stepB xs (m + 1) = decide (orderI ⟨z1, z2, z3, z4⟩ ⟨y1, y2, y3, y4⟩ < 0)) := by show _ = _; rw [SB2.out]; rfl
        generalize orderI ⟨z1, z2, z3, z4⟩ ⟨y1, y2, y3, y4⟩ = r at co SB3
        clear SB2 PV FA
        by_cases hr : r < 0
        · have ST : Aside (stepB xs (m + 1) = true) := by show _ = _; rw [SB3.out, decide_eq_true hr]
          clear SB3 NO
          go_wp2_with (first | (go_at_call 27; (with_reducible refine (w1 _).mono ?_); (rintro e w1 ⟨rfl, hb⟩; obtain ⟨x, hx⟩ := plus_of_below hb; subst hx); clear hb) | (go_at_call 27; (with_reducible refine (w2 _).mono ?_); (rintro e w1 ⟨rfl, hb⟩; obtain ⟨x, hx⟩ := plus_of_below hb; subst hx); clear hb) | (go_at_call 28; (with_reducible refine (w3 _).mono ?_); (rintro e w1 ⟨rfl, hb⟩; obtain ⟨x, hx⟩ := plus_of_below hb; subst hx); clear hb) | (go_at_call 27; (with_reducible refine (w4 _).mono ?_); (rintro e w1 ⟨rfl, hb⟩; obtain ⟨x, hx⟩ := plus_of_below hb; subst hx); clear hb))
          refine wp_region_plus (by kernel_rfl) (by kernel_rfl) ?_
          repeat (go_big_quiet_step (first | (go_at_call 29; exact calls_plus (co _))))
          refine wpQuiet_nil ?_
          rintro _ ⟨x, rfl⟩
          go_wp2
          go_roundg (gk - 1)
          case measure => omega
          case rel =>
            refine key _ ?_ ST
            repeat (first | (with_reducible exact Below.refl _ _) | (with_reducible assumption) | (with_reducible refine below_to_plus ?_ ?_ _) | (with_reducible refine below_holds ?_ ?_ _ _) | (with_reducible refine Below.alloc ?_ ?_ _) | (with_reducible refine Below.drew ?_) | (with_reducible refine below_drewN ?_ _) | (with_reducible refine Below.setCell ?_ ?_ _))
            all_goals first | omega | (simp; done) | (simp [go_sem]; done) | (simp [go_sem]; omega)
        · have RF : Aside (rightB xs = false) := NO.out (by rw [SB3.out, decide_eq_false hr])
          clear SB3 NO key
          go_wp2_with (first | (go_at_call 27; (with_reducible refine (w1 _).mono ?_); (rintro e w1 ⟨rfl, hb⟩; obtain ⟨x, hx⟩ := plus_of_below hb; subst hx); clear hb) | (go_at_call 27; (with_reducible refine (w2 _).mono ?_); (rintro e w1 ⟨rfl, hb⟩; obtain ⟨x, hx⟩ := plus_of_below hb; subst hx); clear hb) | (go_at_call 28; (with_reducible refine (w3 _).mono ?_); (rintro e w1 ⟨rfl, hb⟩; obtain ⟨x, hx⟩ := plus_of_below hb; subst hx); clear hb) | (go_at_call 27; (with_reducible refine (w4 _).mono ?_); (rintro e w1 ⟨rfl, hb⟩; obtain ⟨x, hx⟩ := plus_of_below hb; subst hx); clear hb))
          refine wp_region_plus (by kernel_rfl) (by kernel_rfl) ?_
          repeat (go_big_quiet_step (first | (go_at_call 29; exact calls_plus (co _))))
          refine wpQuiet_nil ?_
          rintro _ ⟨x, rfl⟩
          go_wp2
          go_ret
          refine ⟨ret_bool RF.out.symm, ?_⟩
          repeat (first | (with_reducible exact Below.refl _ _) | (with_reducible assumption) | (with_reducible refine below_to_plus ?_ ?_ _) | (with_reducible refine below_holds ?_ ?_ _ _) | (with_reducible refine Below.alloc ?_ ?_ _) | (with_reducible refine Below.drew ?_) | (with_reducible refine below_drewN ?_ _) | (with_reducible refine Below.setCell ?_ ?_ _))
          all_goals first | omega | (simp; done) | (simp [go_sem]; done) | (simp [go_sem]; omega)
    · have hin : ¬ (idx : Int) < (n : Int) := by omega
      have YS : Aside (rightB xs = true) := rightB_yes xs (by omega) (fun j hj => FA.out j (by omega))
      clear FA HC
      go_wp2
      go_ret
      exact ⟨ret_bool YS.out.symm, below_plus _ _⟩

end Go.Proofs.Ytodmgdihkhakpaa
