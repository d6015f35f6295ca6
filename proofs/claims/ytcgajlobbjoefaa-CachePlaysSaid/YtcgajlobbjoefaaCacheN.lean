/- This text proves the walk of holds of package cache: the holds are in range, ascend, and are at most 64. Conditions: those that each theorem names. -/
import Derived.Test.YtcgajlobbjoefaaCacheE
namespace Go.Proofs.Ytcgajlobbjoefaa
open Go.ChangeShapes Go.WideShapes Go.ChangeAt Go.RowKit
set_option linter.unusedVariables false
set_option linter.unusedSimpArgs false

/-- The hold at an index is in range, and above the one ahead of it. -/
def stepH (hs : List Hd) (j : Nat) : Bool := rangedB hs[j]! && (decide (j = 0) || decide (hs[j - 1]!.hid < hs[j]!.hid))
def upH (hs : List Hd) (k : Nat) : Bool := (List.range k).all fun j => stepH hs j
theorem upH_succ (hs : List Hd) (k : Nat) : upH hs (k + 1) = (upH hs k && stepH hs k) := by
  unfold upH
  rw [List.range_succ, List.all_append]; simp
theorem upH_later {hs : List Hd} {k n : Nat} (h : upH hs k = true) (hs' : stepH hs k = false) (hk : k < n) : upH hs n = false := by
  cases e : upH hs n with
  | false => rfl
  | true =>
    unfold upH at e
    rw [List.all_eq_true] at e
    rw [e k (List.mem_range.2 hk)] at hs'
    cases hs'
def holdsB (hs : List Hd) : Bool := upH hs hs.length && decide (hs.length ≤ 64)

set_option maxHeartbeats 16000000 in
theorem holds_calls (ao2 : Option Addr) (n2 c2 : Nat) (hs : List Hd) (w : World) (h2 : Sl w 3 ao2 n2 c2 (hs.map Hd.enc)) :
    Calls Try.prog 25 #[.slice ao2 n2 c2] w fun e w' => e = .returned (.bool (holdsB hs)) ∧ Below w.heap.size w w' := by
  have hbig : n2 ≤ 9223372036854775807 := Nat.le_trans h2.hcap h2.hmax
  have HL : Aside (hs.length = n2) := Sl.lenE h2
  have HC : Aside (CellsHd w ao2 hs) := cellsHd h2
  have HR : Aside (holdsB hs = (upH hs n2 && decide (n2 ≤ 64))) := by show _ = _; unfold holdsB; rw [HL.out]
  generalize holdsB hs = r at HR ⊢
  clear h2
  go_enter Try.func25, Try.ntmps25
  go_wp2
  go_loopg [7] n2 (fun k s7 wr => ∃ idx : Nat, s7 = .int .i64 (idx : Int) ∧ k + idx = n2 ∧ Aside (Below w.heap.size w wr) ∧ Aside (upH hs idx = true))
  case atStart => exact ⟨0, rfl, by omega, Below.refl _ _, rfl⟩
  case round =>
    obtain ⟨idx, rfl, hk, BW, A⟩ := hrel
    by_cases hi : idx < n2
    · have hiz : (idx : Int) < (n2 : Int) := by omega
      have hix : idx < hs.length := by have := HL.out; omega
      obtain ⟨b, off, rfl, hbw, q0, q1, q2⟩ := HC.out idx hix
      have l0 := (BW.out.cell (p := ⟨b, off + idx * 3, none⟩) hbw).trans q0
      have l1 := (BW.out.cell (p := ⟨b, off + idx * 3 + 1, none⟩) hbw).trans q1
      have l2 := (BW.out.cell (p := ⟨b, off + idx * 3 + 2, none⟩) hbw).trans q2
      have hbr : b < wr.heap.size := Nat.lt_of_lt_of_le hbw BW.out.size
      have PC' : Aside (0 < idx → wr.cell? ⟨b, off + (idx - 1) * 3, none⟩ = some (.int .i64 hs[idx - 1]!.hid)) := fun h0 => by
        obtain ⟨b9, off9, e9, _, p0, _, _⟩ := HC.out (idx - 1) (by omega)
        cases e9
        exact (BW.out.cell (p := ⟨b, off + (idx - 1) * 3, none⟩) hbw).trans p0
      have BAD : Aside (stepH hs idx = false → r = false) := fun h => by rw [HR.out, upH_later A.out h hi]; rfl
      have GOOD : Aside (stepH hs idx = true → upH hs (idx + 1) = true) := fun h => by rw [upH_succ, A.out, h]; rfl
      have SD : Aside (stepH hs idx = (decide (1 ≤ hs[idx]!.hid ∧ hs[idx]!.hid ≤ 1099511627776 ∧ 0 ≤ hs[idx]!.vers ∧ hs[idx]!.vers ≤ 2147483647 ∧ 0 ≤ hs[idx]!.til ∧ hs[idx]!.til ≤ 1099512676352) && (decide (idx = 0) || decide (hs[idx - 1]!.hid < hs[idx]!.hid)))) := rfl
      have hBW := BW.out
      have hsz := BW.out.size
      clear HC HR A q0 q1 q2 HL
      generalize hs[idx - 1]!.hid = z at PC' SD
      generalize hs[idx]! = y at l0 l1 l2 SD
      obtain ⟨y1, y2, y3⟩ := y
      simp only [] at l0 l1 l2 SD
      by_cases d1 : y1 < 1
      · have d1t : decide (y1 < 1) = true := decide_eq_true d1
        have e1 := BAD.out (by rw [SD.out, decide_eq_false (by omega)]; rfl)
        subst e1
        clear BAD GOOD SD PC' BW
        go_wp2
        refine wp_region_plus (by kernel_rfl) (by kernel_rfl) ?_
        repeat (go_big_quiet_step (fail))
        refine wpQuiet_nil ?_
        rintro _ ⟨x1, rfl⟩
        go_wp2
        go_ret
        refine ⟨rfl, ?_⟩
        repeat (first | (with_reducible exact Below.refl _ _) | (with_reducible assumption) | (with_reducible refine below_to_plus ?_ ?_ _) | (with_reducible refine below_holds ?_ ?_ _ _) | (with_reducible refine Below.alloc ?_ ?_ _) | (with_reducible refine Below.drew ?_) | (with_reducible refine below_drewN ?_ _) | (with_reducible refine Below.setCell ?_ ?_ _))
        all_goals first | omega | (simp; done) | (simp [go_sem]; done) | (simp [go_sem]; omega)
      · have d1f : decide (y1 < 1) = false := decide_eq_false d1
        by_cases d2 : 1099511627776 < y1
        · have d2t : decide (1099511627776 < y1) = true := decide_eq_true d2
          have e1 := BAD.out (by rw [SD.out, decide_eq_false (by omega)]; rfl)
          subst e1
          clear BAD GOOD SD PC' BW
          go_wp2
          refine wp_region_plus (by kernel_rfl) (by kernel_rfl) ?_
          repeat (go_big_quiet_step (fail))
          refine wpQuiet_nil ?_
          rintro _ ⟨x1, rfl⟩
          go_wp2
          go_ret
          refine ⟨rfl, ?_⟩
          repeat (first | (with_reducible exact Below.refl _ _) | (with_reducible assumption) | (with_reducible refine below_to_plus ?_ ?_ _) | (with_reducible refine below_holds ?_ ?_ _ _) | (with_reducible refine Below.alloc ?_ ?_ _) | (with_reducible refine Below.drew ?_) | (with_reducible refine below_drewN ?_ _) | (with_reducible refine Below.setCell ?_ ?_ _))
          all_goals first | omega | (simp; done) | (simp [go_sem]; done) | (simp [go_sem]; omega)
        · have d2f : decide (1099511627776 < y1) = false := decide_eq_false d2
          by_cases d3 : y2 < 0
          · have d3t : decide (y2 < 0) = true := decide_eq_true d3
            have e1 := BAD.out (by rw [SD.out, decide_eq_false (by omega)]; rfl)
            subst e1
            clear BAD GOOD SD PC' BW
            go_wp2
            refine wp_region_plus (by kernel_rfl) (by kernel_rfl) ?_
            repeat (go_big_quiet_step (fail))
            refine wpQuiet_nil ?_
            rintro _ ⟨x1, rfl⟩
            go_wp2
            go_ret
            refine ⟨rfl, ?_⟩
            repeat (first | (with_reducible exact Below.refl _ _) | (with_reducible assumption) | (with_reducible refine below_to_plus ?_ ?_ _) | (with_reducible refine below_holds ?_ ?_ _ _) | (with_reducible refine Below.alloc ?_ ?_ _) | (with_reducible refine Below.drew ?_) | (with_reducible refine below_drewN ?_ _) | (with_reducible refine Below.setCell ?_ ?_ _))
            all_goals first | omega | (simp; done) | (simp [go_sem]; done) | (simp [go_sem]; omega)
          · have d3f : decide (y2 < 0) = false := decide_eq_false d3
            by_cases d4 : 2147483647 < y2
            · have d4t : decide (2147483647 < y2) = true := decide_eq_true d4
              have e1 := BAD.out (by rw [SD.out, decide_eq_false (by omega)]; rfl)
              subst e1
              clear BAD GOOD SD PC' BW
              go_wp2
              refine wp_region_plus (by kernel_rfl) (by kernel_rfl) ?_
              repeat (go_big_quiet_step (fail))
              refine wpQuiet_nil ?_
              rintro _ ⟨x1, rfl⟩
              go_wp2
              go_ret
              refine ⟨rfl, ?_⟩
              repeat (first | (with_reducible exact Below.refl _ _) | (with_reducible assumption) | (with_reducible refine below_to_plus ?_ ?_ _) | (with_reducible refine below_holds ?_ ?_ _ _) | (with_reducible refine Below.alloc ?_ ?_ _) | (with_reducible refine Below.drew ?_) | (with_reducible refine below_drewN ?_ _) | (with_reducible refine Below.setCell ?_ ?_ _))
              all_goals first | omega | (simp; done) | (simp [go_sem]; done) | (simp [go_sem]; omega)
            · have d4f : decide (2147483647 < y2) = false := decide_eq_false d4
              by_cases d5 : y3 < 0
              · have d5t : decide (y3 < 0) = true := decide_eq_true d5
                have e1 := BAD.out (by rw [SD.out, decide_eq_false (by omega)]; rfl)
                subst e1
                clear BAD GOOD SD PC' BW
                go_wp2
                refine wp_region_plus (by kernel_rfl) (by kernel_rfl) ?_
                repeat (go_big_quiet_step (fail))
                refine wpQuiet_nil ?_
                rintro _ ⟨x1, rfl⟩
                go_wp2
                go_ret
                refine ⟨rfl, ?_⟩
                repeat (first | (with_reducible exact Below.refl _ _) | (with_reducible assumption) | (with_reducible refine below_to_plus ?_ ?_ _) | (with_reducible refine below_holds ?_ ?_ _ _) | (with_reducible refine Below.alloc ?_ ?_ _) | (with_reducible refine Below.drew ?_) | (with_reducible refine below_drewN ?_ _) | (with_reducible refine Below.setCell ?_ ?_ _))
                all_goals first | omega | (simp; done) | (simp [go_sem]; done) | (simp [go_sem]; omega)
              · have d5f : decide (y3 < 0) = false := decide_eq_false d5
                by_cases d6 : 1099512676352 < y3
                · have d6t : decide (1099512676352 < y3) = true := decide_eq_true d6
                  have e1 := BAD.out (by rw [SD.out, decide_eq_false (by omega)]; rfl)
                  subst e1
                  clear BAD GOOD SD PC' BW
                  go_wp2
                  refine wp_region_plus (by kernel_rfl) (by kernel_rfl) ?_
                  repeat (go_big_quiet_step (fail))
                  refine wpQuiet_nil ?_
                  rintro _ ⟨x1, rfl⟩
                  go_wp2
                  go_ret
                  refine ⟨rfl, ?_⟩
                  repeat (first | (with_reducible exact Below.refl _ _) | (with_reducible assumption) | (with_reducible refine below_to_plus ?_ ?_ _) | (with_reducible refine below_holds ?_ ?_ _ _) | (with_reducible refine Below.alloc ?_ ?_ _) | (with_reducible refine Below.drew ?_) | (with_reducible refine below_drewN ?_ _) | (with_reducible refine Below.setCell ?_ ?_ _))
                  all_goals first | omega | (simp; done) | (simp [go_sem]; done) | (simp [go_sem]; omega)
                · have d6f : decide (1099512676352 < y3) = false := decide_eq_false d6
                  by_cases h0 : 0 < idx
                  · have h0z : (0 : Int) < (idx : Int) := by omega
                    have e0 : decide ((0 : Int) < (idx : Int)) = true := decide_eq_true h0z
                    have e0n : decide (0 < idx) = true := decide_eq_true h0
                    have hpw : IntKind.i64.wrap ((idx : Int) - 1) = (idx : Int) - 1 := by rw [IntKind.wrap_i64]; omega
                    have hpt : ((idx : Int) - 1).toNat = idx - 1 := by omega
                    have hpg : (0 : Int) ≤ (idx : Int) - 1 := by omega
                    have hpl : (idx : Int) - 1 < (n2 : Int) := by omega
                    have p0 := PC'.out h0
                    by_cases hz : z < y1
                    · have hz1 : decide (y1 ≤ z) = false := decide_eq_false (by omega)
                      have hz2 : ¬ y1 ≤ z := by omega
                      have G3 : Aside (upH hs (idx + 1) = true) := GOOD.out (by rw [SD.out, decide_eq_true (by omega), decide_eq_true hz, Bool.or_true]; rfl)
                      clear BAD GOOD SD PC' BW
                      go_wp2
                      refine wp_region_plus (by kernel_rfl) (by kernel_rfl) ?_
                      repeat (go_big_quiet_step (fail))
                      refine wpQuiet_nil ?_
                      rintro _ ⟨x1, rfl⟩
                      go_wp2
                      go_roundg (n2 - (idx + 1))
                      case measure => omega
                      case rel => exact ⟨idx + 1, by simp, by omega, (by
                        show Below _ _ _
                        repeat (first | (with_reducible exact Below.refl _ _) | (with_reducible assumption) | (with_reducible refine below_to_plus ?_ ?_ _) | (with_reducible refine below_holds ?_ ?_ _ _) | (with_reducible refine Below.alloc ?_ ?_ _) | (with_reducible refine Below.drew ?_) | (with_reducible refine below_drewN ?_ _) | (with_reducible refine Below.setCell ?_ ?_ _))
                        all_goals first | omega | (simp; done) | (simp [go_sem]; done) | (simp [go_sem]; omega)), G3⟩
                    · have hz1 : decide (y1 ≤ z) = true := decide_eq_true (by omega)
                      have hz2 : y1 ≤ z := by omega
                      have e1 := BAD.out (by rw [SD.out, decide_eq_true (by omega), decide_eq_false (by omega : ¬ idx = 0), decide_eq_false (by omega : ¬ z < y1)]; rfl)
                      subst e1
                      clear BAD GOOD SD PC' BW
                      go_wp2
                      refine wp_region_plus (by kernel_rfl) (by kernel_rfl) ?_
                      repeat (go_big_quiet_step (fail))
                      refine wpQuiet_nil ?_
                      rintro _ ⟨x1, rfl⟩
                      go_wp2
                      go_ret
                      refine ⟨rfl, ?_⟩
                      repeat (first | (with_reducible exact Below.refl _ _) | (with_reducible assumption) | (with_reducible refine below_to_plus ?_ ?_ _) | (with_reducible refine below_holds ?_ ?_ _ _) | (with_reducible refine Below.alloc ?_ ?_ _) | (with_reducible refine Below.drew ?_) | (with_reducible refine below_drewN ?_ _) | (with_reducible refine Below.setCell ?_ ?_ _))
                      all_goals first | omega | (simp; done) | (simp [go_sem]; done) | (simp [go_sem]; omega)
                  · have h0z : ¬ (0 : Int) < (idx : Int) := by omega
                    have e0 : decide ((0 : Int) < (idx : Int)) = false := decide_eq_false h0z
                    have e0n : decide (0 < idx) = false := decide_eq_false h0
                    have G3 : Aside (upH hs (idx + 1) = true) := GOOD.out (by rw [SD.out, decide_eq_true (by omega), decide_eq_true (by omega : idx = 0)]; rfl)
                    clear BAD GOOD SD PC' BW
                    go_wp2
                    refine wp_region_plus (by kernel_rfl) (by kernel_rfl) ?_
                    repeat (go_big_quiet_step (fail))
                    refine wpQuiet_nil ?_
                    rintro _ ⟨x1, rfl⟩
                    go_wp2
                    go_roundg (n2 - (idx + 1))
                    case measure => omega
                    case rel => exact ⟨idx + 1, by simp, by omega, (by
                      show Below _ _ _
                      repeat (first | (with_reducible exact Below.refl _ _) | (with_reducible assumption) | (with_reducible refine below_to_plus ?_ ?_ _) | (with_reducible refine below_holds ?_ ?_ _ _) | (with_reducible refine Below.alloc ?_ ?_ _) | (with_reducible refine Below.drew ?_) | (with_reducible refine below_drewN ?_ _) | (with_reducible refine Below.setCell ?_ ?_ _))
                      all_goals first | omega | (simp; done) | (simp [go_sem]; done) | (simp [go_sem]; omega)), G3⟩
    · have hiz : ¬ (idx : Int) < (n2 : Int) := by omega
      have ei : idx = n2 := by omega
      have er : Aside (r = decide (n2 ≤ 64)) := by show _ = _; rw [HR.out, ← ei, A.out, Bool.true_and]
      have hBW := BW.out
      have hsz := BW.out.size
      clear HC HR A HL ei
      by_cases h64 : n2 ≤ 64
      · have h64z : (n2 : Int) ≤ 64 := by omega
        go_wp2
        go_ret
        exact ⟨by rw [er.out, decide_eq_true h64]; rfl, hBW⟩
      · have h64z : ¬ (n2 : Int) ≤ 64 := by omega
        go_wp2
        go_ret
        exact ⟨by rw [er.out, decide_eq_false h64]; rfl, hBW⟩

end Go.Proofs.Ytcgajlobbjoefaa
