/- This text proves the walks of fresh and Close of the reference. Conditions: those that each theorem names. -/
import Derived.Test.YtbifanenoejjgaaFdsS
namespace Go.Proofs.Ytbifanenoejjgaa
open Go.ChangeShapes Go.WideShapes Go.ChangeAt Go.RowKit
set_option linter.unusedVariables false
set_option linter.unusedSimpArgs false

theorem keyAt_take (key : Fd → Int) (k : Int) (xs : List Fd) (i : Nat) (hi : i < xs.length) : keyAt key k (xs.take (i + 1)) = (keyAt key k (xs.take i) || decide (key xs[i]! = k)) := by
  unfold keyAt
  rw [List.take_add_one, List.getElem?_eq_getElem hi, List.any_append, getElem!_pos xs i hi]
  simp

set_option maxHeartbeats 4000000 in
theorem fresh_calls (id : Int) (ao : Option Addr) (n cap : Nat) (xs : List Fd) (w : World) (h : Sl w 9 ao n cap (xs.map Fd.enc)) :
    Calls Try.prog 49 #[.agg #[.int .i64 id, .slice ao n cap]] w fun e w' => e = .returned (.int .i64 ((min 64 (lowF Fd.copy xs) : Nat) : Int)) ∧ Below w.heap.size w w' := by
  have hbig : n ≤ 9223372036854775807 := Nat.le_trans h.hcap h.hmax
  have HL : Aside (xs.length = n) := Sl.lenE h
  have HC : Aside (CellsFd w ao xs) := cellsFd h
  have HS : Aside (∀ k : Nat, k < 64 → (∀ j : Nat, j < k → keyAt Fd.copy j xs = true) → keyAt Fd.copy k xs = false → min 64 (lowF Fd.copy xs) = k) := fun k hk h1 h2 => by
    rw [lowF_eq Fd.copy xs k h1 h2]; omega
  have HF : Aside ((∀ j : Nat, j < 64 → keyAt Fd.copy j xs = true) → min 64 (lowF Fd.copy xs) = 64) := fun h1 => by
    have h2 := (lowF_spec Fd.copy xs).2.1
    rcases Nat.lt_or_ge (lowF Fd.copy xs) 64 with h3 | h3
    · rw [h1 _ h3] at h2; cases h2
    · omega
  generalize min 64 (lowF Fd.copy xs) = r at HS HF ⊢
  clear h
  go_enter Try.func49, Try.ntmps49
  go_wp2
  go_loopg [3] 64 (fun g s3 wr => ∃ (k : Nat) (x : World), s3 = .int .i64 (k : Int) ∧ wr = plus (w.alloc (.cells #[.int .i64 id, .slice ao n cap] 24)) x ∧ g + k = 64 ∧ Aside (∀ j : Nat, j < k → keyAt Fd.copy j xs = true))
  case atStart => exact ⟨0, _, rfl, plus_self _, by omega, fun j hj => absurd hj (Nat.not_lt_zero _)⟩
  case round =>
    obtain ⟨kk, x, rfl, rfl, hk, A⟩ := hrel
    by_cases hi : kk < 64
    · have hiz : (kk : Int) < 64 := by omega
      go_wp2
      go_loopg [4, 13] n (fun g2 s4 s13 wr2 => ∃ (idx : Nat) (x2 : World), s13 = .int .i64 (idx : Int) ∧ s4 = .bool (keyAt Fd.copy kk (xs.take idx)) ∧ wr2 = plus (w.alloc (.cells #[.int .i64 id, .slice ao n cap] 24)) x2 ∧ g2 + idx = n)
      case atStart => exact ⟨0, x, rfl, rfl, rfl, by omega⟩
      case round =>
        obtain ⟨idx, x2, rfl, rfl, rfl, hk2⟩ := hrel
        by_cases hj : idx < n
        · have hjz : (idx : Int) < (n : Int) := by omega
          have KT := keyAt_take Fd.copy kk xs idx (by have := HL.out; omega)
          have KT2 : Aside (keyAt Fd.copy kk (xs.take (idx + 1)) = (keyAt Fd.copy kk (xs.take idx) || decide (xs[idx]!.copy = kk))) := KT
          obtain ⟨b, off, rfl, hbw, l0, l1, l2, l3, l4, l5, l6, l7, l8⟩ := HC.out idx (by have := HL.out; omega)
          clear KT l0 l1 l2 l3 l4 l5 l6 l7 HC A HS HF
          generalize xs[idx]!.copy = q at l8 KT2
          generalize keyAt Fd.copy kk (xs.take idx) = u at KT2 ⊢
          cases u with
          | true =>
            have E : Aside (keyAt Fd.copy kk (xs.take (idx + 1)) = true) := by show _ = _; rw [KT2.out]; rfl
            clear KT2
            go_wp2
            go_roundg (n - (idx + 1))
            case measure => omega
            case rel => exact ⟨idx + 1, _, by simp, by rw [E.out], rfl, by omega⟩
          | false =>
            have E : Aside (keyAt Fd.copy kk (xs.take (idx + 1)) = (q == (kk : Int))) := by
              show _ = _
              rw [KT2.out]
              by_cases e : q = (kk : Int) <;> simp [e]
            clear KT2
            go_wp2
            go_roundg (n - (idx + 1))
            case measure => omega
            case rel => exact ⟨idx + 1, _, by simp, by rw [E.out], rfl, by omega⟩
        · have hjz : ¬ (idx : Int) < (n : Int) := by omega
          have hx : xs.take idx = xs := by
            rw [List.take_of_length_le]
            have := HL.out; omega
          rw [hx]
          clear hx
          cases hq : keyAt Fd.copy kk xs with
          | true =>
            have A2 : Aside (∀ j : Nat, j < kk + 1 → keyAt Fd.copy j xs = true) := fun j hj => by
              rcases (by omega : j < kk ∨ j = kk) with h' | h'
              · exact A.out j h'
              · rw [h']; exact hq
            clear A HS HF HC hq
            go_wp2
            go_roundg (64 - (kk + 1))
            case measure => omega
            case rel => exact ⟨kk + 1, _, by simp, rfl, by omega, A2⟩
          | false =>
            have e1 := HS.out kk hi A.out hq
            subst e1
            clear A HS HF HC hq
            go_wp2
            go_ret
            refine ⟨rfl, ?_⟩
            repeat (first | (with_reducible exact Below.refl _ _) | (with_reducible assumption) | (with_reducible refine below_to_plus ?_ ?_ _) | (with_reducible refine below_holds ?_ ?_ _ _) | (with_reducible refine Below.alloc ?_ ?_ _) | (with_reducible refine Below.drew ?_) | (with_reducible refine below_drewN ?_ _) | (with_reducible refine Below.setCell ?_ ?_ _))
            all_goals first | omega | (simp; done) | (simp [go_sem]; done) | (simp [go_sem]; omega)
    · have hiz : ¬ (kk : Int) < 64 := by omega
      have e1 := HF.out (fun j hj => A.out j (by omega))
      subst e1
      clear A HS HF HC
      go_wp2
      go_ret
      refine ⟨rfl, ?_⟩
      repeat (first | (with_reducible exact Below.refl _ _) | (with_reducible assumption) | (with_reducible refine below_to_plus ?_ ?_ _) | (with_reducible refine below_holds ?_ ?_ _ _) | (with_reducible refine Below.alloc ?_ ?_ _) | (with_reducible refine Below.drew ?_) | (with_reducible refine below_drewN ?_ _) | (with_reducible refine Below.setCell ?_ ?_ _))
      all_goals first | omega | (simp; done) | (simp [go_sem]; done) | (simp [go_sem]; omega)

/-- What Close of the reference returns. -/
def rcloseF (num : Int) (xs : List Fd) : List Fd × Fd × Bool × Int :=
  if findI num xs < 0 then (xs, default, false, 44) else (xs.filter (fun y => decide (y.num ≠ num)), xs[(findI num xs).toNat]!, !((xs.filter (fun y => decide (y.num ≠ num))).any (fun y => decide (y.copy = xs[(findI num xs).toNat]!.copy))), 0)
/-- What a group of the reference's is: the one that came in, or a row of its own. -/
def RRow (w : World) (ao : Option Addr) (cap : Nat) (xs : List Fd) (ao2 : Option Addr) (cap2 : Nat) (ys : List Fd) (w' : World) : Prop :=
  (ao2 = ao ∧ cap2 = cap ∧ ys = xs) ∨ w'.ownsRow w.heap.size 30 9 (.slice ao2 ys.length cap2) ys.length (flatE Fd.enc ys)
theorem RRow.sl {w w' : World} {ao : Option Addr} {n cap : Nat} {xs : List Fd} {ao2 : Option Addr} {cap2 : Nat} {ys : List Fd} (h : RRow w ao cap xs ao2 cap2 ys w') (hs : Sl w 9 ao n cap (xs.map Fd.enc)) (hb : Below w.heap.size w w') : Sl w' 9 ao2 ys.length cap2 (ys.map Fd.enc) := by
  rcases h with ⟨rfl, rfl, rfl⟩ | h
  · have := Sl.lenE hs
    rw [this]
    exact hs.stays hb
  · obtain ⟨a9, c9, hv9, hsl9⟩ := ownE_sl fd_len (by omega) h
    cases hv9
    exact hsl9
def RClosePost (w : World) (id : Int) (ao : Option Addr) (cap : Nat) (xs : List Fd) (r : List Fd × Fd × Bool × Int) (e : Ending) (w' : World) : Prop :=
  ∃ ao2 cap2, e = .returned (.tuple #[.agg #[.int .i64 id, .slice ao2 r.1.length cap2], Fd.val r.2.1, .bool r.2.2.1, .int .i64 r.2.2.2]) ∧ RRow w ao cap xs ao2 cap2 r.1 w' ∧ Below w.heap.size w w'

set_option maxHeartbeats 8000000 in
theorem rclose_calls (id num : Int) (ao : Option Addr) (n cap : Nat) (xs : List Fd) (w : World) (h : Sl w 9 ao n cap (xs.map Fd.enc)) (hn : n ≤ 1000) :
    Calls Try.prog 33 #[.agg #[.int .i64 id, .slice ao n cap], .int .i64 num] w fun e w' => RClosePost w id ao cap xs (rcloseF num xs) e w' := by
  have HL : Aside (xs.length = n) := Sl.lenE h
  obtain ⟨i0, hi0, hz0, hs0, hb0⟩ := fdInfo
  have hbc : Below w.heap.size w (((w.alloc (.cells #[.int .i64 id, .slice ao n cap] 24)).alloc (.cells #[.int .i64 0, .slice none 0 0] 24)).alloc (.cells #[.int .i64 0, .int .i64 0, .int .i64 0, .int .i64 0, .string ⟨#[]⟩, .string ⟨#[]⟩, .int .i64 0, .int .i64 0, .int .i64 0] 30)) := by
    repeat (first | (with_reducible exact Below.refl _ _) | (with_reducible assumption) | (with_reducible refine below_to_plus ?_ ?_ _) | (with_reducible refine below_holds ?_ ?_ _ _) | (with_reducible refine Below.alloc ?_ ?_ _) | (with_reducible refine Below.drew ?_) | (with_reducible refine below_drewN ?_ _) | (with_reducible refine Below.setCell ?_ ?_ _))
    all_goals first | omega | (simp; done) | (simp [go_sem]; done) | (simp [go_sem]; omega)
  have c0 := rFind_calls id num ao n cap xs (((w.alloc (.cells #[.int .i64 id, .slice ao n cap] 24)).alloc (.cells #[.int .i64 0, .slice none 0 0] 24)).alloc (.cells #[.int .i64 0, .int .i64 0, .int .i64 0, .int .i64 0, .string ⟨#[]⟩, .string ⟨#[]⟩, .int .i64 0, .int .i64 0, .int .i64 0] 30)) (h.stays hbc)
  have H : Aside (Sl w 9 ao n cap (xs.map Fd.enc)) := h
  have HBC : Aside (Below w.heap.size w (((w.alloc (.cells #[.int .i64 id, .slice ao n cap] 24)).alloc (.cells #[.int .i64 0, .slice none 0 0] 24)).alloc (.cells #[.int .i64 0, .int .i64 0, .int .i64 0, .int .i64 0, .string ⟨#[]⟩, .string ⟨#[]⟩, .int .i64 0, .int .i64 0, .int .i64 0] 30))) := hbc
  clear h hbc
  rcases findI_spec num xs with ⟨e1, _⟩ | ⟨kf, hkf, e1, _⟩
  · have ER : Aside (rcloseF num xs = (xs, default, false, 44)) := by show _ = _; unfold rcloseF; rw [e1]; rfl
    rw [show findF num xs = (default, 44) by unfold findF; rw [e1]; rfl] at c0
    have c0' : Calls Try.prog 13 #[.agg #[.int .i64 id, .slice ao n cap], .int .i64 num] (((w.alloc (.cells #[.int .i64 id, .slice ao n cap] 24)).alloc (.cells #[.int .i64 0, .slice none 0 0] 24)).alloc (.cells #[.int .i64 0, .int .i64 0, .int .i64 0, .int .i64 0, .string ⟨#[]⟩, .string ⟨#[]⟩, .int .i64 0, .int .i64 0, .int .i64 0] 30)) fun e w' => e = .returned (.tuple #[.agg #[.int .i64 0, .int .i64 0, .int .i64 0, .int .i64 0, .string ⟨#[]⟩, .string ⟨#[]⟩, .int .i64 0, .int .i64 0, .int .i64 0], .int .i64 44]) ∧ Below (((w.alloc (.cells #[.int .i64 id, .slice ao n cap] 24)).alloc (.cells #[.int .i64 0, .slice none 0 0] 24)).alloc (.cells #[.int .i64 0, .int .i64 0, .int .i64 0, .int .i64 0, .string ⟨#[]⟩, .string ⟨#[]⟩, .int .i64 0, .int .i64 0, .int .i64 0] 30)).heap.size (((w.alloc (.cells #[.int .i64 id, .slice ao n cap] 24)).alloc (.cells #[.int .i64 0, .slice none 0 0] 24)).alloc (.cells #[.int .i64 0, .int .i64 0, .int .i64 0, .int .i64 0, .string ⟨#[]⟩, .string ⟨#[]⟩, .int .i64 0, .int .i64 0, .int .i64 0] 30)) w' := c0
    clear c0 e1
    go_enter Try.func33, Try.ntmps33
    go_wp2_with fail
    refine (c0').mono ?_
    rintro e w2 ⟨rfl, hb⟩
    obtain ⟨x, rfl⟩ := plus_of_below hb
    clear hb
    clear c0'
    go_wp2
    refine bodyPost_ret (v := .tuple #[.agg #[.int .i64 id, .slice ao n cap], .agg #[.int .i64 0, .int .i64 0, .int .i64 0, .int .i64 0, .string ⟨#[]⟩, .string ⟨#[]⟩, .int .i64 0, .int .i64 0, .int .i64 0], .bool false, .int .i64 44]) (by simp [results, Try.results33, go_sem, ↓IntWalk.iteOmega]) rfl ⟨ao, cap, ?_, ?_, ?_⟩
    · rw [ER.out, HL.out]; rfl
    · rw [ER.out]; exact .inl ⟨rfl, rfl, rfl⟩
    · repeat (first | (with_reducible exact Below.refl _ _) | (with_reducible assumption) | (with_reducible refine below_to_plus ?_ ?_ _) | (with_reducible refine below_holds ?_ ?_ _ _) | (with_reducible refine Below.alloc ?_ ?_ _) | (with_reducible refine Below.drew ?_) | (with_reducible refine below_drewN ?_ _) | (with_reducible refine Below.setCell ?_ ?_ _))
      all_goals first | omega | (simp; done) | (simp [go_sem]; done) | (simp [go_sem]; omega)
  · have ef : findF num xs = (xs[kf]!, 0) := by unfold findF; rw [e1, if_neg (by omega)]; rfl
    rw [ef] at c0
    have ER : Aside (rcloseF num xs = (xs.filter (fun y => decide (y.num ≠ num)), xs[kf]!, !((xs.filter (fun y => decide (y.num ≠ num))).any (fun y => decide (y.copy = xs[kf]!.copy))), 0)) := by
      show _ = _
      unfold rcloseF
      rw [e1, if_neg (by omega)]
      rfl
    clear ef e1
    generalize xs[kf]! = d at c0 ER
    obtain ⟨d1, d2, d3, d4, d5, d6, d7, d8, d9⟩ := d
    simp only [] at ER
    have c0' : Calls Try.prog 13 #[.agg #[.int .i64 id, .slice ao n cap], .int .i64 num] (((w.alloc (.cells #[.int .i64 id, .slice ao n cap] 24)).alloc (.cells #[.int .i64 0, .slice none 0 0] 24)).alloc (.cells #[.int .i64 0, .int .i64 0, .int .i64 0, .int .i64 0, .string ⟨#[]⟩, .string ⟨#[]⟩, .int .i64 0, .int .i64 0, .int .i64 0] 30)) fun e w' => e = .returned (.tuple #[.agg #[.int .i64 d1, .int .i64 d2, .int .i64 d3, .int .i64 d4, .string d5, .string d6, .int .i64 d7, .int .i64 d8, .int .i64 d9], .int .i64 0]) ∧ Below (((w.alloc (.cells #[.int .i64 id, .slice ao n cap] 24)).alloc (.cells #[.int .i64 0, .slice none 0 0] 24)).alloc (.cells #[.int .i64 0, .int .i64 0, .int .i64 0, .int .i64 0, .string ⟨#[]⟩, .string ⟨#[]⟩, .int .i64 0, .int .i64 0, .int .i64 0] 30)).heap.size (((w.alloc (.cells #[.int .i64 id, .slice ao n cap] 24)).alloc (.cells #[.int .i64 0, .slice none 0 0] 24)).alloc (.cells #[.int .i64 0, .int .i64 0, .int .i64 0, .int .i64 0, .string ⟨#[]⟩, .string ⟨#[]⟩, .int .i64 0, .int .i64 0, .int .i64 0] 30)) w' := c0
    clear c0 hkf
    go_enter Try.func33, Try.ntmps33
    go_wp2_with fail
    refine (c0').mono ?_
    rintro e w2 ⟨rfl, hb⟩
    obtain ⟨x, rfl⟩ := plus_of_below hb
    clear hb
    clear c0'
    have hb4 : Below w.heap.size w ((plus (((w.alloc (.cells #[.int .i64 id, .slice ao n cap] 24)).alloc (.cells #[.int .i64 0, .slice none 0 0] 24)).alloc (.cells #[.int .i64 0, .int .i64 0, .int .i64 0, .int .i64 0, .string ⟨#[]⟩, .string ⟨#[]⟩, .int .i64 0, .int .i64 0, .int .i64 0] 30)) x).alloc (.cells #[.int .i64 d1, .int .i64 d2, .int .i64 d3, .int .i64 d4, .string d5, .string d6, .int .i64 d7, .int .i64 d8, .int .i64 d9] 30)) := by
      repeat (first | (with_reducible exact Below.refl _ _) | (with_reducible assumption) | (with_reducible refine below_to_plus ?_ ?_ _) | (with_reducible refine below_holds ?_ ?_ _ _) | (with_reducible refine Below.alloc ?_ ?_ _) | (with_reducible refine Below.drew ?_) | (with_reducible refine below_drewN ?_ _) | (with_reducible refine Below.setCell ?_ ?_ _))
      all_goals first | omega | (simp; done) | (simp [go_sem]; done) | (simp [go_sem]; omega)
    have HC : Aside (CellsFd ((plus (((w.alloc (.cells #[.int .i64 id, .slice ao n cap] 24)).alloc (.cells #[.int .i64 0, .slice none 0 0] 24)).alloc (.cells #[.int .i64 0, .int .i64 0, .int .i64 0, .int .i64 0, .string ⟨#[]⟩, .string ⟨#[]⟩, .int .i64 0, .int .i64 0, .int .i64 0] 30)) x).alloc (.cells #[.int .i64 d1, .int .i64 d2, .int .i64 d3, .int .i64 d4, .string d5, .string d6, .int .i64 d7, .int .i64 d8, .int .i64 d9] 30)) ao xs) := cellsFd (H.out.stays hb4)
    clear hb4
    have BX : Aside (((plus (((w.alloc (.cells #[.int .i64 id, .slice ao n cap] 24)).alloc (.cells #[.int .i64 0, .slice none 0 0] 24)).alloc (.cells #[.int .i64 0, .int .i64 0, .int .i64 0, .int .i64 0, .string ⟨#[]⟩, .string ⟨#[]⟩, .int .i64 0, .int .i64 0, .int .i64 0] 30)) x).alloc (.cells #[.int .i64 d1, .int .i64 d2, .int .i64 d3, .int .i64 d4, .string d5, .string d6, .int .i64 d7, .int .i64 d8, .int .i64 d9] 30)).cell? ⟨w.heap.size, 0, none⟩ = some (.int .i64 id) ∧ ((plus (((w.alloc (.cells #[.int .i64 id, .slice ao n cap] 24)).alloc (.cells #[.int .i64 0, .slice none 0 0] 24)).alloc (.cells #[.int .i64 0, .int .i64 0, .int .i64 0, .int .i64 0, .string ⟨#[]⟩, .string ⟨#[]⟩, .int .i64 0, .int .i64 0, .int .i64 0] 30)) x).alloc (.cells #[.int .i64 d1, .int .i64 d2, .int .i64 d3, .int .i64 d4, .string d5, .string d6, .int .i64 d7, .int .i64 d8, .int .i64 d9] 30)).cell? ⟨w.heap.size, 1, none⟩ = some (.slice ao n cap)) := ⟨by simp [go_sem, ↓IntWalk.iteOmega], by simp [go_sem, ↓IntWalk.iteOmega]⟩
    have BD : Aside (((plus (((w.alloc (.cells #[.int .i64 id, .slice ao n cap] 24)).alloc (.cells #[.int .i64 0, .slice none 0 0] 24)).alloc (.cells #[.int .i64 0, .int .i64 0, .int .i64 0, .int .i64 0, .string ⟨#[]⟩, .string ⟨#[]⟩, .int .i64 0, .int .i64 0, .int .i64 0] 30)) x).alloc (.cells #[.int .i64 d1, .int .i64 d2, .int .i64 d3, .int .i64 d4, .string d5, .string d6, .int .i64 d7, .int .i64 d8, .int .i64 d9] 30)).cell? ⟨(w.heap.size + 1 + 1 + 1 + x.heap.size), 0, none⟩ = some (.int .i64 d1) ∧ ((plus (((w.alloc (.cells #[.int .i64 id, .slice ao n cap] 24)).alloc (.cells #[.int .i64 0, .slice none 0 0] 24)).alloc (.cells #[.int .i64 0, .int .i64 0, .int .i64 0, .int .i64 0, .string ⟨#[]⟩, .string ⟨#[]⟩, .int .i64 0, .int .i64 0, .int .i64 0] 30)) x).alloc (.cells #[.int .i64 d1, .int .i64 d2, .int .i64 d3, .int .i64 d4, .string d5, .string d6, .int .i64 d7, .int .i64 d8, .int .i64 d9] 30)).cell? ⟨(w.heap.size + 1 + 1 + 1 + x.heap.size), 1, none⟩ = some (.int .i64 d2) ∧ ((plus (((w.alloc (.cells #[.int .i64 id, .slice ao n cap] 24)).alloc (.cells #[.int .i64 0, .slice none 0 0] 24)).alloc (.cells #[.int .i64 0, .int .i64 0, .int .i64 0, .int .i64 0, .string ⟨#[]⟩, .string ⟨#[]⟩, .int .i64 0, .int .i64 0, .int .i64 0] 30)) x).alloc (.cells #[.int .i64 d1, .int .i64 d2, .int .i64 d3, .int .i64 d4, .string d5, .string d6, .int .i64 d7, .int .i64 d8, .int .i64 d9] 30)).cell? ⟨(w.heap.size + 1 + 1 + 1 + x.heap.size), 2, none⟩ = some (.int .i64 d3) ∧ ((plus (((w.alloc (.cells #[.int .i64 id, .slice ao n cap] 24)).alloc (.cells #[.int .i64 0, .slice none 0 0] 24)).alloc (.cells #[.int .i64 0, .int .i64 0, .int .i64 0, .int .i64 0, .string ⟨#[]⟩, .string ⟨#[]⟩, .int .i64 0, .int .i64 0, .int .i64 0] 30)) x).alloc (.cells #[.int .i64 d1, .int .i64 d2, .int .i64 d3, .int .i64 d4, .string d5, .string d6, .int .i64 d7, .int .i64 d8, .int .i64 d9] 30)).cell? ⟨(w.heap.size + 1 + 1 + 1 + x.heap.size), 3, none⟩ = some (.int .i64 d4) ∧ ((plus (((w.alloc (.cells #[.int .i64 id, .slice ao n cap] 24)).alloc (.cells #[.int .i64 0, .slice none 0 0] 24)).alloc (.cells #[.int .i64 0, .int .i64 0, .int .i64 0, .int .i64 0, .string ⟨#[]⟩, .string ⟨#[]⟩, .int .i64 0, .int .i64 0, .int .i64 0] 30)) x).alloc (.cells #[.int .i64 d1, .int .i64 d2, .int .i64 d3, .int .i64 d4, .string d5, .string d6, .int .i64 d7, .int .i64 d8, .int .i64 d9] 30)).cell? ⟨(w.heap.size + 1 + 1 + 1 + x.heap.size), 4, none⟩ = some (.string d5) ∧ ((plus (((w.alloc (.cells #[.int .i64 id, .slice ao n cap] 24)).alloc (.cells #[.int .i64 0, .slice none 0 0] 24)).alloc (.cells #[.int .i64 0, .int .i64 0, .int .i64 0, .int .i64 0, .string ⟨#[]⟩, .string ⟨#[]⟩, .int .i64 0, .int .i64 0, .int .i64 0] 30)) x).alloc (.cells #[.int .i64 d1, .int .i64 d2, .int .i64 d3, .int .i64 d4, .string d5, .string d6, .int .i64 d7, .int .i64 d8, .int .i64 d9] 30)).cell? ⟨(w.heap.size + 1 + 1 + 1 + x.heap.size), 5, none⟩ = some (.string d6) ∧ ((plus (((w.alloc (.cells #[.int .i64 id, .slice ao n cap] 24)).alloc (.cells #[.int .i64 0, .slice none 0 0] 24)).alloc (.cells #[.int .i64 0, .int .i64 0, .int .i64 0, .int .i64 0, .string ⟨#[]⟩, .string ⟨#[]⟩, .int .i64 0, .int .i64 0, .int .i64 0] 30)) x).alloc (.cells #[.int .i64 d1, .int .i64 d2, .int .i64 d3, .int .i64 d4, .string d5, .string d6, .int .i64 d7, .int .i64 d8, .int .i64 d9] 30)).cell? ⟨(w.heap.size + 1 + 1 + 1 + x.heap.size), 6, none⟩ = some (.int .i64 d7) ∧ ((plus (((w.alloc (.cells #[.int .i64 id, .slice ao n cap] 24)).alloc (.cells #[.int .i64 0, .slice none 0 0] 24)).alloc (.cells #[.int .i64 0, .int .i64 0, .int .i64 0, .int .i64 0, .string ⟨#[]⟩, .string ⟨#[]⟩, .int .i64 0, .int .i64 0, .int .i64 0] 30)) x).alloc (.cells #[.int .i64 d1, .int .i64 d2, .int .i64 d3, .int .i64 d4, .string d5, .string d6, .int .i64 d7, .int .i64 d8, .int .i64 d9] 30)).cell? ⟨(w.heap.size + 1 + 1 + 1 + x.heap.size), 7, none⟩ = some (.int .i64 d8) ∧ ((plus (((w.alloc (.cells #[.int .i64 id, .slice ao n cap] 24)).alloc (.cells #[.int .i64 0, .slice none 0 0] 24)).alloc (.cells #[.int .i64 0, .int .i64 0, .int .i64 0, .int .i64 0, .string ⟨#[]⟩, .string ⟨#[]⟩, .int .i64 0, .int .i64 0, .int .i64 0] 30)) x).alloc (.cells #[.int .i64 d1, .int .i64 d2, .int .i64 d3, .int .i64 d4, .string d5, .string d6, .int .i64 d7, .int .i64 d8, .int .i64 d9] 30)).cell? ⟨(w.heap.size + 1 + 1 + 1 + x.heap.size), 8, none⟩ = some (.int .i64 d9)) := ⟨by simp [go_sem, ↓IntWalk.iteOmega], by simp [go_sem, ↓IntWalk.iteOmega], by simp [go_sem, ↓IntWalk.iteOmega], by simp [go_sem, ↓IntWalk.iteOmega], by simp [go_sem, ↓IntWalk.iteOmega], by simp [go_sem, ↓IntWalk.iteOmega], by simp [go_sem, ↓IntWalk.iteOmega], by simp [go_sem, ↓IntWalk.iteOmega], by simp [go_sem, ↓IntWalk.iteOmega]⟩
    go_wp2
    go_loopg [10, 11, 27] n (fun k s10 s11 s27 wr => ∃ (idx : Nat) (ao' : Option Addr) (cap' : Nat) (l : List Fd) (la : Bool), s27 = .int .i64 (idx : Int) ∧ s10 = .slice ao' l.length cap' ∧ s11 = .bool la ∧ k + idx = n ∧ l.length ≤ idx ∧ Aside ((xs.take idx).filter (fun y => decide (y.num ≠ num)) = l ∧ la = !(l.any (fun y => decide (y.copy = d9)))) ∧ Aside (Below ((plus (((w.alloc (.cells #[.int .i64 id, .slice ao n cap] 24)).alloc (.cells #[.int .i64 0, .slice none 0 0] 24)).alloc (.cells #[.int .i64 0, .int .i64 0, .int .i64 0, .int .i64 0, .string ⟨#[]⟩, .string ⟨#[]⟩, .int .i64 0, .int .i64 0, .int .i64 0] 30)) x).alloc (.cells #[.int .i64 d1, .int .i64 d2, .int .i64 d3, .int .i64 d4, .string d5, .string d6, .int .i64 d7, .int .i64 d8, .int .i64 d9] 30)).heap.size ((plus (((w.alloc (.cells #[.int .i64 id, .slice ao n cap] 24)).alloc (.cells #[.int .i64 0, .slice none 0 0] 24)).alloc (.cells #[.int .i64 0, .int .i64 0, .int .i64 0, .int .i64 0, .string ⟨#[]⟩, .string ⟨#[]⟩, .int .i64 0, .int .i64 0, .int .i64 0] 30)) x).alloc (.cells #[.int .i64 d1, .int .i64 d2, .int .i64 d3, .int .i64 d4, .string d5, .string d6, .int .i64 d7, .int .i64 d8, .int .i64 d9] 30)) wr ∧ wr.ownsRow (w.heap.size + 1 + 1 + 1 + x.heap.size + 1) 30 9 (.slice ao' l.length cap') l.length (flatE Fd.enc l)))
    case atStart => exact ⟨0, none, 0, [], true, rfl, rfl, rfl, by omega, by simp, ⟨rfl, rfl⟩, ⟨Below.refl _ _, World.ownsRow_nil _ _ _ _⟩⟩
    case round =>
      obtain ⟨idx, ao', cap', l, la, rfl, rfl, rfl, hk, hll, A, ST⟩ := hrel
      by_cases hi : idx < n
      · have hiz : (idx : Int) < (n : Int) := by omega
        have SK : Aside (decide (xs[idx]!.num ≠ num) = false → (xs.take (idx + 1)).filter (fun y => decide (y.num ≠ num)) = l) := fun hh => by rw [← A.out.1]; exact filt_skipE _ xs idx (by have := HL.out; omega) hh
        have SP : Aside (decide (xs[idx]!.num ≠ num) = true → (xs.take (idx + 1)).filter (fun y => decide (y.num ≠ num)) = l ++ [xs[idx]!]) := fun hh => by rw [← A.out.1]; exact filt_keepE _ xs idx (by have := HL.out; omega) hh
        have LA : Aside (la = !(l.any (fun y => decide (y.copy = d9)))) := A.out.2
        obtain ⟨b, off, rfl, hby, l0, l1, l2, l3, l4, l5, l6, l7, l8⟩ := HC.out idx (by have := HL.out; omega)
        generalize xs[idx]! = y at l0 l1 l2 l3 l4 l5 l6 l7 l8 SK SP
        obtain ⟨y1, y2, y3, y4, y5, y6, y7, y8, y9⟩ := y
        simp only [] at l0 l1 l2 l3 l4 l5 l6 l7 l8
        have YC : Aside (_ ∧ _ ∧ _ ∧ _ ∧ _ ∧ _ ∧ _ ∧ _ ∧ _) := ⟨l0, l1, l2, l3, l4, l5, l6, l7, l8⟩
        clear l0 l1 l2 l3 l4 l5 l6 l7 l8 HC A ER H HBC
        by_cases hq : y1 = num
        · have hf : (y1 != num) = false := by simp [hq]
          have A2 : Aside ((xs.take (idx + 1)).filter (fun y => decide (y.num ≠ num)) = l ∧ la = !(l.any (fun y => decide (y.copy = d9)))) := ⟨SK.out (by simp [hq]), LA.out⟩
          clear SK SP LA hq
          have hsw := ST.out.1.size
          have hbry : b < wr.heap.size := Nat.lt_of_lt_of_le hby hsw
          simp [size_plus] at hsw
          have bf0 := (ST.out.1.cell (p := ⟨w.heap.size, 0, none⟩) (by first | (simp [size_plus]; done) | (simp [size_plus]; omega))).trans BX.out.1
          have bf1 := (ST.out.1.cell (p := ⟨w.heap.size, 1, none⟩) (by first | (simp [size_plus]; done) | (simp [size_plus]; omega))).trans BX.out.2
          have l0 := (ST.out.1.cell (p := ⟨b, off + idx * 9, none⟩) hby).trans YC.out.1
          have l1 := (ST.out.1.cell (p := ⟨b, off + idx * 9 + 1, none⟩) hby).trans YC.out.2.1
          have l2 := (ST.out.1.cell (p := ⟨b, off + idx * 9 + 2, none⟩) hby).trans YC.out.2.2.1
          have l3 := (ST.out.1.cell (p := ⟨b, off + idx * 9 + 3, none⟩) hby).trans YC.out.2.2.2.1
          have l4 := (ST.out.1.cell (p := ⟨b, off + idx * 9 + 4, none⟩) hby).trans YC.out.2.2.2.2.1
          have l5 := (ST.out.1.cell (p := ⟨b, off + idx * 9 + 5, none⟩) hby).trans YC.out.2.2.2.2.2.1
          have l6 := (ST.out.1.cell (p := ⟨b, off + idx * 9 + 6, none⟩) hby).trans YC.out.2.2.2.2.2.2.1
          have l7 := (ST.out.1.cell (p := ⟨b, off + idx * 9 + 7, none⟩) hby).trans YC.out.2.2.2.2.2.2.2.1
          have l8 := (ST.out.1.cell (p := ⟨b, off + idx * 9 + 8, none⟩) hby).trans YC.out.2.2.2.2.2.2.2.2
          go_wp2
          go_roundg (gk - 1)
          case measure => omega
          case rel => exact ⟨idx + 1, ao', cap', l, la, by simp, rfl, rfl, by omega, by omega, A2, ST⟩
        · have hf : (y1 != num) = true := by simp [hq]
          have A2 := SP.out (by simp [hq])
          have A3 : Aside ((xs.take (idx + 1)).filter (fun y => decide (y.num ≠ num)) = l ++ [(⟨y1, y2, y3, y4, y5, y6, y7, y8, y9⟩ : Fd)]) := A2
          clear SK SP A2 hq
          have hl2 : l.length ≤ n := by omega
          cases la with
          | true =>
            by_cases hc : y9 = d9
            · have hg : (y9 != d9) = false := by simp [hc]
              have A4 : Aside ((xs.take (idx + 1)).filter (fun y => decide (y.num ≠ num)) = l ++ [(⟨y1, y2, y3, y4, y5, y6, y7, y8, y9⟩ : Fd)] ∧ false = !((l ++ [(⟨y1, y2, y3, y4, y5, y6, y7, y8, y9⟩ : Fd)]).any (fun y => decide (y.copy = d9)))) := ⟨A3.out, by simp [hc]⟩
              clear A3 LA hc
              have hsw := ST.out.1.size
              have hbry : b < wr.heap.size := Nat.lt_of_lt_of_le hby hsw
              simp [size_plus] at hsw
              have hown := ST.out.2
              have bf0 := (ST.out.1.cell (p := ⟨w.heap.size, 0, none⟩) (by first | (simp [size_plus]; done) | (simp [size_plus]; omega))).trans BX.out.1
              have bf1 := (ST.out.1.cell (p := ⟨w.heap.size, 1, none⟩) (by first | (simp [size_plus]; done) | (simp [size_plus]; omega))).trans BX.out.2
              have l0 := (ST.out.1.cell (p := ⟨b, off + idx * 9, none⟩) hby).trans YC.out.1
              have l1 := (ST.out.1.cell (p := ⟨b, off + idx * 9 + 1, none⟩) hby).trans YC.out.2.1
              have l2 := (ST.out.1.cell (p := ⟨b, off + idx * 9 + 2, none⟩) hby).trans YC.out.2.2.1
              have l3 := (ST.out.1.cell (p := ⟨b, off + idx * 9 + 3, none⟩) hby).trans YC.out.2.2.2.1
              have l4 := (ST.out.1.cell (p := ⟨b, off + idx * 9 + 4, none⟩) hby).trans YC.out.2.2.2.2.1
              have l5 := (ST.out.1.cell (p := ⟨b, off + idx * 9 + 5, none⟩) hby).trans YC.out.2.2.2.2.2.1
              have l6 := (ST.out.1.cell (p := ⟨b, off + idx * 9 + 6, none⟩) hby).trans YC.out.2.2.2.2.2.2.1
              have l7 := (ST.out.1.cell (p := ⟨b, off + idx * 9 + 7, none⟩) hby).trans YC.out.2.2.2.2.2.2.2.1
              have l8 := (ST.out.1.cell (p := ⟨b, off + idx * 9 + 8, none⟩) hby).trans YC.out.2.2.2.2.2.2.2.2
              go_wp2_with (at_builtin; refine wpList_append_own _ rfl _ _ 22 rfl (w.heap.size + 1 + 1 + 1 + x.heap.size + 1) 30 i0 _ 9 88 Try.underlying22 hi0 hz0 hs0 hb0 rfl (by omega) _ _ _ rfl (hown.alloc _) ⟨wr.heap.size, 0, none⟩ 1 1 [.int .i64 y1, .int .i64 y2, .int .i64 y3, .int .i64 y4, .string y5, .string y6, .int .i64 y7, .int .i64 y8, .int .i64 y9] rfl rfl (cells_new _ _ _ _ rfl) (fd_one ⟨y1, y2, y3, y4, y5, y6, y7, y8, y9⟩) (by unfold maxLen; omega) (by omega) (by first | (simp; omega) | (simp [size_plus]; omega)) ?_)
              intro v' w6 hown' hgrow _
              obtain ⟨ao6, cap6, rfl, hb6, ho6⟩ := app_stateB (U1 := ((plus (((w.alloc (.cells #[.int .i64 id, .slice (some ⟨b, off, none⟩) n cap] 24)).alloc (.cells #[.int .i64 0, .slice none 0 0] 24)).alloc (.cells #[.int .i64 0, .int .i64 0, .int .i64 0, .int .i64 0, .string ⟨#[]⟩, .string ⟨#[]⟩, .int .i64 0, .int .i64 0, .int .i64 0] 30)) x).alloc (.cells #[.int .i64 d1, .int .i64 d2, .int .i64 d3, .int .i64 d4, .string d5, .string d6, .int .i64 d7, .int .i64 d8, .int .i64 d9] 30))) (by simp [size_plus]) fd_len (by omega) (y := ⟨y1, y2, y3, y4, y5, y6, y7, y8, y9⟩) (ST.out.1.alloc ST.out.1.size _) (hown.alloc _) hown' hgrow
              have ST6 : Aside (Below ((plus (((w.alloc (.cells #[.int .i64 id, .slice (some ⟨b, off, none⟩) n cap] 24)).alloc (.cells #[.int .i64 0, .slice none 0 0] 24)).alloc (.cells #[.int .i64 0, .int .i64 0, .int .i64 0, .int .i64 0, .string ⟨#[]⟩, .string ⟨#[]⟩, .int .i64 0, .int .i64 0, .int .i64 0] 30)) x).alloc (.cells #[.int .i64 d1, .int .i64 d2, .int .i64 d3, .int .i64 d4, .string d5, .string d6, .int .i64 d7, .int .i64 d8, .int .i64 d9] 30)).heap.size ((plus (((w.alloc (.cells #[.int .i64 id, .slice (some ⟨b, off, none⟩) n cap] 24)).alloc (.cells #[.int .i64 0, .slice none 0 0] 24)).alloc (.cells #[.int .i64 0, .int .i64 0, .int .i64 0, .int .i64 0, .string ⟨#[]⟩, .string ⟨#[]⟩, .int .i64 0, .int .i64 0, .int .i64 0] 30)) x).alloc (.cells #[.int .i64 d1, .int .i64 d2, .int .i64 d3, .int .i64 d4, .string d5, .string d6, .int .i64 d7, .int .i64 d8, .int .i64 d9] 30)) w6 ∧ w6.ownsRow (w.heap.size + 1 + 1 + 1 + x.heap.size + 1) 30 9 (.slice ao6 (l.length + 1) cap6) (l.length + 1) (flatE Fd.enc (l ++ [(⟨y1, y2, y3, y4, y5, y6, y7, y8, y9⟩ : Fd)]))) := ⟨hb6, ho6⟩
              clear hown' hgrow hb6 ho6 hown
              clear bf0 bf1 l0 l1 l2 l3 l4 l5 l6 l7 l8
              clear hsw hbry
              have hsw := ST6.out.1.size
              have hbry : b < w6.heap.size := Nat.lt_of_lt_of_le hby hsw
              simp [size_plus] at hsw
              have bf0 := (ST6.out.1.cell (p := ⟨w.heap.size, 0, none⟩) (by first | (simp [size_plus]; done) | (simp [size_plus]; omega))).trans BX.out.1
              have bf1 := (ST6.out.1.cell (p := ⟨w.heap.size, 1, none⟩) (by first | (simp [size_plus]; done) | (simp [size_plus]; omega))).trans BX.out.2
              have bd0 := (ST6.out.1.cell (p := ⟨(w.heap.size + 1 + 1 + 1 + x.heap.size), 0, none⟩) (by first | (simp [size_plus]; done) | (simp [size_plus]; omega))).trans BD.out.1
              have bd1 := (ST6.out.1.cell (p := ⟨(w.heap.size + 1 + 1 + 1 + x.heap.size), 1, none⟩) (by first | (simp [size_plus]; done) | (simp [size_plus]; omega))).trans BD.out.2.1
              have bd2 := (ST6.out.1.cell (p := ⟨(w.heap.size + 1 + 1 + 1 + x.heap.size), 2, none⟩) (by first | (simp [size_plus]; done) | (simp [size_plus]; omega))).trans BD.out.2.2.1
              have bd3 := (ST6.out.1.cell (p := ⟨(w.heap.size + 1 + 1 + 1 + x.heap.size), 3, none⟩) (by first | (simp [size_plus]; done) | (simp [size_plus]; omega))).trans BD.out.2.2.2.1
              have bd4 := (ST6.out.1.cell (p := ⟨(w.heap.size + 1 + 1 + 1 + x.heap.size), 4, none⟩) (by first | (simp [size_plus]; done) | (simp [size_plus]; omega))).trans BD.out.2.2.2.2.1
              have bd5 := (ST6.out.1.cell (p := ⟨(w.heap.size + 1 + 1 + 1 + x.heap.size), 5, none⟩) (by first | (simp [size_plus]; done) | (simp [size_plus]; omega))).trans BD.out.2.2.2.2.2.1
              have bd6 := (ST6.out.1.cell (p := ⟨(w.heap.size + 1 + 1 + 1 + x.heap.size), 6, none⟩) (by first | (simp [size_plus]; done) | (simp [size_plus]; omega))).trans BD.out.2.2.2.2.2.2.1
              have bd7 := (ST6.out.1.cell (p := ⟨(w.heap.size + 1 + 1 + 1 + x.heap.size), 7, none⟩) (by first | (simp [size_plus]; done) | (simp [size_plus]; omega))).trans BD.out.2.2.2.2.2.2.2.1
              have bd8 := (ST6.out.1.cell (p := ⟨(w.heap.size + 1 + 1 + 1 + x.heap.size), 8, none⟩) (by first | (simp [size_plus]; done) | (simp [size_plus]; omega))).trans BD.out.2.2.2.2.2.2.2.2
              have l0 := (ST6.out.1.cell (p := ⟨b, off + idx * 9, none⟩) hby).trans YC.out.1
              have l1 := (ST6.out.1.cell (p := ⟨b, off + idx * 9 + 1, none⟩) hby).trans YC.out.2.1
              have l2 := (ST6.out.1.cell (p := ⟨b, off + idx * 9 + 2, none⟩) hby).trans YC.out.2.2.1
              have l3 := (ST6.out.1.cell (p := ⟨b, off + idx * 9 + 3, none⟩) hby).trans YC.out.2.2.2.1
              have l4 := (ST6.out.1.cell (p := ⟨b, off + idx * 9 + 4, none⟩) hby).trans YC.out.2.2.2.2.1
              have l5 := (ST6.out.1.cell (p := ⟨b, off + idx * 9 + 5, none⟩) hby).trans YC.out.2.2.2.2.2.1
              have l6 := (ST6.out.1.cell (p := ⟨b, off + idx * 9 + 6, none⟩) hby).trans YC.out.2.2.2.2.2.2.1
              have l7 := (ST6.out.1.cell (p := ⟨b, off + idx * 9 + 7, none⟩) hby).trans YC.out.2.2.2.2.2.2.2.1
              have l8 := (ST6.out.1.cell (p := ⟨b, off + idx * 9 + 8, none⟩) hby).trans YC.out.2.2.2.2.2.2.2.2
              clear ST
              go_wp2
              refine wp_region_plus (by kernel_rfl) (by kernel_rfl) ?_
              repeat (go_big_quiet_step (fail))
              refine wpQuiet_nil ?_
              rintro _ ⟨x1, rfl⟩
              have ST8 : Aside (Below ((plus (((w.alloc (.cells #[.int .i64 id, .slice (some ⟨b, off, none⟩) n cap] 24)).alloc (.cells #[.int .i64 0, .slice none 0 0] 24)).alloc (.cells #[.int .i64 0, .int .i64 0, .int .i64 0, .int .i64 0, .string ⟨#[]⟩, .string ⟨#[]⟩, .int .i64 0, .int .i64 0, .int .i64 0] 30)) x).alloc (.cells #[.int .i64 d1, .int .i64 d2, .int .i64 d3, .int .i64 d4, .string d5, .string d6, .int .i64 d7, .int .i64 d8, .int .i64 d9] 30)).heap.size ((plus (((w.alloc (.cells #[.int .i64 id, .slice (some ⟨b, off, none⟩) n cap] 24)).alloc (.cells #[.int .i64 0, .slice none 0 0] 24)).alloc (.cells #[.int .i64 0, .int .i64 0, .int .i64 0, .int .i64 0, .string ⟨#[]⟩, .string ⟨#[]⟩, .int .i64 0, .int .i64 0, .int .i64 0] 30)) x).alloc (.cells #[.int .i64 d1, .int .i64 d2, .int .i64 d3, .int .i64 d4, .string d5, .string d6, .int .i64 d7, .int .i64 d8, .int .i64 d9] 30)) (plus w6 x1) ∧ (plus w6 x1).ownsRow (w.heap.size + 1 + 1 + 1 + x.heap.size + 1) 30 9 (.slice ao6 (l.length + 1) cap6) (l.length + 1) (flatE Fd.enc (l ++ [(⟨y1, y2, y3, y4, y5, y6, y7, y8, y9⟩ : Fd)]))) := ⟨ST6.out.1.trans ((below_plus w6 x1).mono ST6.out.1.size), own_plus ST6.out.2⟩
              clear ST6 hsw hbry
              generalize plus w6 x1 = w8 at ST8 ⊢
              go_wp2
              go_roundg (gk - 1)
              case measure => omega
              case rel => exact ⟨idx + 1, ao6, cap6, l ++ [(⟨y1, y2, y3, y4, y5, y6, y7, y8, y9⟩ : Fd)], false, by simp, by simp, by first | rfl | (simp; done), by omega, by simp; omega, A4, by first | exact ST8 | simpa using ST8⟩
            · have hg : (y9 != d9) = true := by simp [hc]
              have A4 : Aside ((xs.take (idx + 1)).filter (fun y => decide (y.num ≠ num)) = l ++ [(⟨y1, y2, y3, y4, y5, y6, y7, y8, y9⟩ : Fd)] ∧ true = !((l ++ [(⟨y1, y2, y3, y4, y5, y6, y7, y8, y9⟩ : Fd)]).any (fun y => decide (y.copy = d9)))) := ⟨A3.out, by
                rw [List.any_append]
                have := LA.out
                simp only [Bool.true_eq, Bool.not_eq_true'] at this
                rw [this]
                simp [hc]⟩
              clear A3 LA hc
              have hsw := ST.out.1.size
              have hbry : b < wr.heap.size := Nat.lt_of_lt_of_le hby hsw
              simp [size_plus] at hsw
              have hown := ST.out.2
              have bf0 := (ST.out.1.cell (p := ⟨w.heap.size, 0, none⟩) (by first | (simp [size_plus]; done) | (simp [size_plus]; omega))).trans BX.out.1
              have bf1 := (ST.out.1.cell (p := ⟨w.heap.size, 1, none⟩) (by first | (simp [size_plus]; done) | (simp [size_plus]; omega))).trans BX.out.2
              have l0 := (ST.out.1.cell (p := ⟨b, off + idx * 9, none⟩) hby).trans YC.out.1
              have l1 := (ST.out.1.cell (p := ⟨b, off + idx * 9 + 1, none⟩) hby).trans YC.out.2.1
              have l2 := (ST.out.1.cell (p := ⟨b, off + idx * 9 + 2, none⟩) hby).trans YC.out.2.2.1
              have l3 := (ST.out.1.cell (p := ⟨b, off + idx * 9 + 3, none⟩) hby).trans YC.out.2.2.2.1
              have l4 := (ST.out.1.cell (p := ⟨b, off + idx * 9 + 4, none⟩) hby).trans YC.out.2.2.2.2.1
              have l5 := (ST.out.1.cell (p := ⟨b, off + idx * 9 + 5, none⟩) hby).trans YC.out.2.2.2.2.2.1
              have l6 := (ST.out.1.cell (p := ⟨b, off + idx * 9 + 6, none⟩) hby).trans YC.out.2.2.2.2.2.2.1
              have l7 := (ST.out.1.cell (p := ⟨b, off + idx * 9 + 7, none⟩) hby).trans YC.out.2.2.2.2.2.2.2.1
              have l8 := (ST.out.1.cell (p := ⟨b, off + idx * 9 + 8, none⟩) hby).trans YC.out.2.2.2.2.2.2.2.2
              go_wp2_with (at_builtin; refine wpList_append_own _ rfl _ _ 22 rfl (w.heap.size + 1 + 1 + 1 + x.heap.size + 1) 30 i0 _ 9 88 Try.underlying22 hi0 hz0 hs0 hb0 rfl (by omega) _ _ _ rfl (hown.alloc _) ⟨wr.heap.size, 0, none⟩ 1 1 [.int .i64 y1, .int .i64 y2, .int .i64 y3, .int .i64 y4, .string y5, .string y6, .int .i64 y7, .int .i64 y8, .int .i64 y9] rfl rfl (cells_new _ _ _ _ rfl) (fd_one ⟨y1, y2, y3, y4, y5, y6, y7, y8, y9⟩) (by unfold maxLen; omega) (by omega) (by first | (simp; omega) | (simp [size_plus]; omega)) ?_)
              intro v' w6 hown' hgrow _
              obtain ⟨ao6, cap6, rfl, hb6, ho6⟩ := app_stateB (U1 := ((plus (((w.alloc (.cells #[.int .i64 id, .slice (some ⟨b, off, none⟩) n cap] 24)).alloc (.cells #[.int .i64 0, .slice none 0 0] 24)).alloc (.cells #[.int .i64 0, .int .i64 0, .int .i64 0, .int .i64 0, .string ⟨#[]⟩, .string ⟨#[]⟩, .int .i64 0, .int .i64 0, .int .i64 0] 30)) x).alloc (.cells #[.int .i64 d1, .int .i64 d2, .int .i64 d3, .int .i64 d4, .string d5, .string d6, .int .i64 d7, .int .i64 d8, .int .i64 d9] 30))) (by simp [size_plus]) fd_len (by omega) (y := ⟨y1, y2, y3, y4, y5, y6, y7, y8, y9⟩) (ST.out.1.alloc ST.out.1.size _) (hown.alloc _) hown' hgrow
              have ST6 : Aside (Below ((plus (((w.alloc (.cells #[.int .i64 id, .slice (some ⟨b, off, none⟩) n cap] 24)).alloc (.cells #[.int .i64 0, .slice none 0 0] 24)).alloc (.cells #[.int .i64 0, .int .i64 0, .int .i64 0, .int .i64 0, .string ⟨#[]⟩, .string ⟨#[]⟩, .int .i64 0, .int .i64 0, .int .i64 0] 30)) x).alloc (.cells #[.int .i64 d1, .int .i64 d2, .int .i64 d3, .int .i64 d4, .string d5, .string d6, .int .i64 d7, .int .i64 d8, .int .i64 d9] 30)).heap.size ((plus (((w.alloc (.cells #[.int .i64 id, .slice (some ⟨b, off, none⟩) n cap] 24)).alloc (.cells #[.int .i64 0, .slice none 0 0] 24)).alloc (.cells #[.int .i64 0, .int .i64 0, .int .i64 0, .int .i64 0, .string ⟨#[]⟩, .string ⟨#[]⟩, .int .i64 0, .int .i64 0, .int .i64 0] 30)) x).alloc (.cells #[.int .i64 d1, .int .i64 d2, .int .i64 d3, .int .i64 d4, .string d5, .string d6, .int .i64 d7, .int .i64 d8, .int .i64 d9] 30)) w6 ∧ w6.ownsRow (w.heap.size + 1 + 1 + 1 + x.heap.size + 1) 30 9 (.slice ao6 (l.length + 1) cap6) (l.length + 1) (flatE Fd.enc (l ++ [(⟨y1, y2, y3, y4, y5, y6, y7, y8, y9⟩ : Fd)]))) := ⟨hb6, ho6⟩
              clear hown' hgrow hb6 ho6 hown
              clear bf0 bf1 l0 l1 l2 l3 l4 l5 l6 l7 l8
              clear hsw hbry
              have hsw := ST6.out.1.size
              have hbry : b < w6.heap.size := Nat.lt_of_lt_of_le hby hsw
              simp [size_plus] at hsw
              have bf0 := (ST6.out.1.cell (p := ⟨w.heap.size, 0, none⟩) (by first | (simp [size_plus]; done) | (simp [size_plus]; omega))).trans BX.out.1
              have bf1 := (ST6.out.1.cell (p := ⟨w.heap.size, 1, none⟩) (by first | (simp [size_plus]; done) | (simp [size_plus]; omega))).trans BX.out.2
              have bd0 := (ST6.out.1.cell (p := ⟨(w.heap.size + 1 + 1 + 1 + x.heap.size), 0, none⟩) (by first | (simp [size_plus]; done) | (simp [size_plus]; omega))).trans BD.out.1
              have bd1 := (ST6.out.1.cell (p := ⟨(w.heap.size + 1 + 1 + 1 + x.heap.size), 1, none⟩) (by first | (simp [size_plus]; done) | (simp [size_plus]; omega))).trans BD.out.2.1
              have bd2 := (ST6.out.1.cell (p := ⟨(w.heap.size + 1 + 1 + 1 + x.heap.size), 2, none⟩) (by first | (simp [size_plus]; done) | (simp [size_plus]; omega))).trans BD.out.2.2.1
              have bd3 := (ST6.out.1.cell (p := ⟨(w.heap.size + 1 + 1 + 1 + x.heap.size), 3, none⟩) (by first | (simp [size_plus]; done) | (simp [size_plus]; omega))).trans BD.out.2.2.2.1
              have bd4 := (ST6.out.1.cell (p := ⟨(w.heap.size + 1 + 1 + 1 + x.heap.size), 4, none⟩) (by first | (simp [size_plus]; done) | (simp [size_plus]; omega))).trans BD.out.2.2.2.2.1
              have bd5 := (ST6.out.1.cell (p := ⟨(w.heap.size + 1 + 1 + 1 + x.heap.size), 5, none⟩) (by first | (simp [size_plus]; done) | (simp [size_plus]; omega))).trans BD.out.2.2.2.2.2.1
              have bd6 := (ST6.out.1.cell (p := ⟨(w.heap.size + 1 + 1 + 1 + x.heap.size), 6, none⟩) (by first | (simp [size_plus]; done) | (simp [size_plus]; omega))).trans BD.out.2.2.2.2.2.2.1
              have bd7 := (ST6.out.1.cell (p := ⟨(w.heap.size + 1 + 1 + 1 + x.heap.size), 7, none⟩) (by first | (simp [size_plus]; done) | (simp [size_plus]; omega))).trans BD.out.2.2.2.2.2.2.2.1
              have bd8 := (ST6.out.1.cell (p := ⟨(w.heap.size + 1 + 1 + 1 + x.heap.size), 8, none⟩) (by first | (simp [size_plus]; done) | (simp [size_plus]; omega))).trans BD.out.2.2.2.2.2.2.2.2
              have l0 := (ST6.out.1.cell (p := ⟨b, off + idx * 9, none⟩) hby).trans YC.out.1
              have l1 := (ST6.out.1.cell (p := ⟨b, off + idx * 9 + 1, none⟩) hby).trans YC.out.2.1
              have l2 := (ST6.out.1.cell (p := ⟨b, off + idx * 9 + 2, none⟩) hby).trans YC.out.2.2.1
              have l3 := (ST6.out.1.cell (p := ⟨b, off + idx * 9 + 3, none⟩) hby).trans YC.out.2.2.2.1
              have l4 := (ST6.out.1.cell (p := ⟨b, off + idx * 9 + 4, none⟩) hby).trans YC.out.2.2.2.2.1
              have l5 := (ST6.out.1.cell (p := ⟨b, off + idx * 9 + 5, none⟩) hby).trans YC.out.2.2.2.2.2.1
              have l6 := (ST6.out.1.cell (p := ⟨b, off + idx * 9 + 6, none⟩) hby).trans YC.out.2.2.2.2.2.2.1
              have l7 := (ST6.out.1.cell (p := ⟨b, off + idx * 9 + 7, none⟩) hby).trans YC.out.2.2.2.2.2.2.2.1
              have l8 := (ST6.out.1.cell (p := ⟨b, off + idx * 9 + 8, none⟩) hby).trans YC.out.2.2.2.2.2.2.2.2
              clear ST
              go_wp2
              refine wp_region_plus (by kernel_rfl) (by kernel_rfl) ?_
              repeat (go_big_quiet_step (fail))
              refine wpQuiet_nil ?_
              rintro _ ⟨x1, rfl⟩
              have ST8 : Aside (Below ((plus (((w.alloc (.cells #[.int .i64 id, .slice (some ⟨b, off, none⟩) n cap] 24)).alloc (.cells #[.int .i64 0, .slice none 0 0] 24)).alloc (.cells #[.int .i64 0, .int .i64 0, .int .i64 0, .int .i64 0, .string ⟨#[]⟩, .string ⟨#[]⟩, .int .i64 0, .int .i64 0, .int .i64 0] 30)) x).alloc (.cells #[.int .i64 d1, .int .i64 d2, .int .i64 d3, .int .i64 d4, .string d5, .string d6, .int .i64 d7, .int .i64 d8, .int .i64 d9] 30)).heap.size ((plus (((w.alloc (.cells #[.int .i64 id, .slice (some ⟨b, off, none⟩) n cap] 24)).alloc (.cells #[.int .i64 0, .slice none 0 0] 24)).alloc (.cells #[.int .i64 0, .int .i64 0, .int .i64 0, .int .i64 0, .string ⟨#[]⟩, .string ⟨#[]⟩, .int .i64 0, .int .i64 0, .int .i64 0] 30)) x).alloc (.cells #[.int .i64 d1, .int .i64 d2, .int .i64 d3, .int .i64 d4, .string d5, .string d6, .int .i64 d7, .int .i64 d8, .int .i64 d9] 30)) (plus w6 x1) ∧ (plus w6 x1).ownsRow (w.heap.size + 1 + 1 + 1 + x.heap.size + 1) 30 9 (.slice ao6 (l.length + 1) cap6) (l.length + 1) (flatE Fd.enc (l ++ [(⟨y1, y2, y3, y4, y5, y6, y7, y8, y9⟩ : Fd)]))) := ⟨ST6.out.1.trans ((below_plus w6 x1).mono ST6.out.1.size), own_plus ST6.out.2⟩
              clear ST6 hsw hbry
              generalize plus w6 x1 = w8 at ST8 ⊢
              go_wp2
              go_roundg (gk - 1)
              case measure => omega
              case rel => exact ⟨idx + 1, ao6, cap6, l ++ [(⟨y1, y2, y3, y4, y5, y6, y7, y8, y9⟩ : Fd)], true, by simp, by simp, by first | rfl | (simp; done), by omega, by simp; omega, A4, by first | exact ST8 | simpa using ST8⟩
          | false =>
            have A4 : Aside ((xs.take (idx + 1)).filter (fun y => decide (y.num ≠ num)) = l ++ [(⟨y1, y2, y3, y4, y5, y6, y7, y8, y9⟩ : Fd)] ∧ false = !((l ++ [(⟨y1, y2, y3, y4, y5, y6, y7, y8, y9⟩ : Fd)]).any (fun y => decide (y.copy = d9)))) := ⟨A3.out, by
              rw [List.any_append]
              have := LA.out
              simp only [Bool.false_eq, Bool.not_eq_false'] at this
              rw [this]
              rfl⟩
            clear A3 LA
            have hsw := ST.out.1.size
            have hbry : b < wr.heap.size := Nat.lt_of_lt_of_le hby hsw
            simp [size_plus] at hsw
            have hown := ST.out.2
            have bf0 := (ST.out.1.cell (p := ⟨w.heap.size, 0, none⟩) (by first | (simp [size_plus]; done) | (simp [size_plus]; omega))).trans BX.out.1
            have bf1 := (ST.out.1.cell (p := ⟨w.heap.size, 1, none⟩) (by first | (simp [size_plus]; done) | (simp [size_plus]; omega))).trans BX.out.2
            have l0 := (ST.out.1.cell (p := ⟨b, off + idx * 9, none⟩) hby).trans YC.out.1
            have l1 := (ST.out.1.cell (p := ⟨b, off + idx * 9 + 1, none⟩) hby).trans YC.out.2.1
            have l2 := (ST.out.1.cell (p := ⟨b, off + idx * 9 + 2, none⟩) hby).trans YC.out.2.2.1
            have l3 := (ST.out.1.cell (p := ⟨b, off + idx * 9 + 3, none⟩) hby).trans YC.out.2.2.2.1
            have l4 := (ST.out.1.cell (p := ⟨b, off + idx * 9 + 4, none⟩) hby).trans YC.out.2.2.2.2.1
            have l5 := (ST.out.1.cell (p := ⟨b, off + idx * 9 + 5, none⟩) hby).trans YC.out.2.2.2.2.2.1
            have l6 := (ST.out.1.cell (p := ⟨b, off + idx * 9 + 6, none⟩) hby).trans YC.out.2.2.2.2.2.2.1
            have l7 := (ST.out.1.cell (p := ⟨b, off + idx * 9 + 7, none⟩) hby).trans YC.out.2.2.2.2.2.2.2.1
            have l8 := (ST.out.1.cell (p := ⟨b, off + idx * 9 + 8, none⟩) hby).trans YC.out.2.2.2.2.2.2.2.2
            go_wp2_with (at_builtin; refine wpList_append_own _ rfl _ _ 22 rfl (w.heap.size + 1 + 1 + 1 + x.heap.size + 1) 30 i0 _ 9 88 Try.underlying22 hi0 hz0 hs0 hb0 rfl (by omega) _ _ _ rfl (hown.alloc _) ⟨wr.heap.size, 0, none⟩ 1 1 [.int .i64 y1, .int .i64 y2, .int .i64 y3, .int .i64 y4, .string y5, .string y6, .int .i64 y7, .int .i64 y8, .int .i64 y9] rfl rfl (cells_new _ _ _ _ rfl) (fd_one ⟨y1, y2, y3, y4, y5, y6, y7, y8, y9⟩) (by unfold maxLen; omega) (by omega) (by first | (simp; omega) | (simp [size_plus]; omega)) ?_)
            intro v' w6 hown' hgrow _
            obtain ⟨ao6, cap6, rfl, hb6, ho6⟩ := app_stateB (U1 := ((plus (((w.alloc (.cells #[.int .i64 id, .slice (some ⟨b, off, none⟩) n cap] 24)).alloc (.cells #[.int .i64 0, .slice none 0 0] 24)).alloc (.cells #[.int .i64 0, .int .i64 0, .int .i64 0, .int .i64 0, .string ⟨#[]⟩, .string ⟨#[]⟩, .int .i64 0, .int .i64 0, .int .i64 0] 30)) x).alloc (.cells #[.int .i64 d1, .int .i64 d2, .int .i64 d3, .int .i64 d4, .string d5, .string d6, .int .i64 d7, .int .i64 d8, .int .i64 d9] 30))) (by simp [size_plus]) fd_len (by omega) (y := ⟨y1, y2, y3, y4, y5, y6, y7, y8, y9⟩) (ST.out.1.alloc ST.out.1.size _) (hown.alloc _) hown' hgrow
            have ST6 : Aside (Below ((plus (((w.alloc (.cells #[.int .i64 id, .slice (some ⟨b, off, none⟩) n cap] 24)).alloc (.cells #[.int .i64 0, .slice none 0 0] 24)).alloc (.cells #[.int .i64 0, .int .i64 0, .int .i64 0, .int .i64 0, .string ⟨#[]⟩, .string ⟨#[]⟩, .int .i64 0, .int .i64 0, .int .i64 0] 30)) x).alloc (.cells #[.int .i64 d1, .int .i64 d2, .int .i64 d3, .int .i64 d4, .string d5, .string d6, .int .i64 d7, .int .i64 d8, .int .i64 d9] 30)).heap.size ((plus (((w.alloc (.cells #[.int .i64 id, .slice (some ⟨b, off, none⟩) n cap] 24)).alloc (.cells #[.int .i64 0, .slice none 0 0] 24)).alloc (.cells #[.int .i64 0, .int .i64 0, .int .i64 0, .int .i64 0, .string ⟨#[]⟩, .string ⟨#[]⟩, .int .i64 0, .int .i64 0, .int .i64 0] 30)) x).alloc (.cells #[.int .i64 d1, .int .i64 d2, .int .i64 d3, .int .i64 d4, .string d5, .string d6, .int .i64 d7, .int .i64 d8, .int .i64 d9] 30)) w6 ∧ w6.ownsRow (w.heap.size + 1 + 1 + 1 + x.heap.size + 1) 30 9 (.slice ao6 (l.length + 1) cap6) (l.length + 1) (flatE Fd.enc (l ++ [(⟨y1, y2, y3, y4, y5, y6, y7, y8, y9⟩ : Fd)]))) := ⟨hb6, ho6⟩
            clear hown' hgrow hb6 ho6 hown
            clear bf0 bf1 l0 l1 l2 l3 l4 l5 l6 l7 l8
            clear hsw hbry
            have hsw := ST6.out.1.size
            have hbry : b < w6.heap.size := Nat.lt_of_lt_of_le hby hsw
            simp [size_plus] at hsw
            have bf0 := (ST6.out.1.cell (p := ⟨w.heap.size, 0, none⟩) (by first | (simp [size_plus]; done) | (simp [size_plus]; omega))).trans BX.out.1
            have bf1 := (ST6.out.1.cell (p := ⟨w.heap.size, 1, none⟩) (by first | (simp [size_plus]; done) | (simp [size_plus]; omega))).trans BX.out.2
            have bd0 := (ST6.out.1.cell (p := ⟨(w.heap.size + 1 + 1 + 1 + x.heap.size), 0, none⟩) (by first | (simp [size_plus]; done) | (simp [size_plus]; omega))).trans BD.out.1
            have bd1 := (ST6.out.1.cell (p := ⟨(w.heap.size + 1 + 1 + 1 + x.heap.size), 1, none⟩) (by first | (simp [size_plus]; done) | (simp [size_plus]; omega))).trans BD.out.2.1
            have bd2 := (ST6.out.1.cell (p := ⟨(w.heap.size + 1 + 1 + 1 + x.heap.size), 2, none⟩) (by first | (simp [size_plus]; done) | (simp [size_plus]; omega))).trans BD.out.2.2.1
            have bd3 := (ST6.out.1.cell (p := ⟨(w.heap.size + 1 + 1 + 1 + x.heap.size), 3, none⟩) (by first | (simp [size_plus]; done) | (simp [size_plus]; omega))).trans BD.out.2.2.2.1
            have bd4 := (ST6.out.1.cell (p := ⟨(w.heap.size + 1 + 1 + 1 + x.heap.size), 4, none⟩) (by first | (simp [size_plus]; done) | (simp [size_plus]; omega))).trans BD.out.2.2.2.2.1
            have bd5 := (ST6.out.1.cell (p := ⟨(w.heap.size + 1 + 1 + 1 + x.heap.size), 5, none⟩) (by first | (simp [size_plus]; done) | (simp [size_plus]; omega))).trans BD.out.2.2.2.2.2.1
            have bd6 := (ST6.out.1.cell (p := ⟨(w.heap.size + 1 + 1 + 1 + x.heap.size), 6, none⟩) (by first | (simp [size_plus]; done) | (simp [size_plus]; omega))).trans BD.out.2.2.2.2.2.2.1
            have bd7 := (ST6.out.1.cell (p := ⟨(w.heap.size + 1 + 1 + 1 + x.heap.size), 7, none⟩) (by first | (simp [size_plus]; done) | (simp [size_plus]; omega))).trans BD.out.2.2.2.2.2.2.2.1
            have bd8 := (ST6.out.1.cell (p := ⟨(w.heap.size + 1 + 1 + 1 + x.heap.size), 8, none⟩) (by first | (simp [size_plus]; done) | (simp [size_plus]; omega))).trans BD.out.2.2.2.2.2.2.2.2
            have l0 := (ST6.out.1.cell (p := ⟨b, off + idx * 9, none⟩) hby).trans YC.out.1
            have l1 := (ST6.out.1.cell (p := ⟨b, off + idx * 9 + 1, none⟩) hby).trans YC.out.2.1
            have l2 := (ST6.out.1.cell (p := ⟨b, off + idx * 9 + 2, none⟩) hby).trans YC.out.2.2.1
            have l3 := (ST6.out.1.cell (p := ⟨b, off + idx * 9 + 3, none⟩) hby).trans YC.out.2.2.2.1
            have l4 := (ST6.out.1.cell (p := ⟨b, off + idx * 9 + 4, none⟩) hby).trans YC.out.2.2.2.2.1
            have l5 := (ST6.out.1.cell (p := ⟨b, off + idx * 9 + 5, none⟩) hby).trans YC.out.2.2.2.2.2.1
            have l6 := (ST6.out.1.cell (p := ⟨b, off + idx * 9 + 6, none⟩) hby).trans YC.out.2.2.2.2.2.2.1
            have l7 := (ST6.out.1.cell (p := ⟨b, off + idx * 9 + 7, none⟩) hby).trans YC.out.2.2.2.2.2.2.2.1
            have l8 := (ST6.out.1.cell (p := ⟨b, off + idx * 9 + 8, none⟩) hby).trans YC.out.2.2.2.2.2.2.2.2
            clear ST
            go_wp2
            refine wp_region_plus (by kernel_rfl) (by kernel_rfl) ?_
            repeat (go_big_quiet_step (fail))
            refine wpQuiet_nil ?_
            rintro _ ⟨x1, rfl⟩
            have ST8 : Aside (Below ((plus (((w.alloc (.cells #[.int .i64 id, .slice (some ⟨b, off, none⟩) n cap] 24)).alloc (.cells #[.int .i64 0, .slice none 0 0] 24)).alloc (.cells #[.int .i64 0, .int .i64 0, .int .i64 0, .int .i64 0, .string ⟨#[]⟩, .string ⟨#[]⟩, .int .i64 0, .int .i64 0, .int .i64 0] 30)) x).alloc (.cells #[.int .i64 d1, .int .i64 d2, .int .i64 d3, .int .i64 d4, .string d5, .string d6, .int .i64 d7, .int .i64 d8, .int .i64 d9] 30)).heap.size ((plus (((w.alloc (.cells #[.int .i64 id, .slice (some ⟨b, off, none⟩) n cap] 24)).alloc (.cells #[.int .i64 0, .slice none 0 0] 24)).alloc (.cells #[.int .i64 0, .int .i64 0, .int .i64 0, .int .i64 0, .string ⟨#[]⟩, .string ⟨#[]⟩, .int .i64 0, .int .i64 0, .int .i64 0] 30)) x).alloc (.cells #[.int .i64 d1, .int .i64 d2, .int .i64 d3, .int .i64 d4, .string d5, .string d6, .int .i64 d7, .int .i64 d8, .int .i64 d9] 30)) (plus w6 x1) ∧ (plus w6 x1).ownsRow (w.heap.size + 1 + 1 + 1 + x.heap.size + 1) 30 9 (.slice ao6 (l.length + 1) cap6) (l.length + 1) (flatE Fd.enc (l ++ [(⟨y1, y2, y3, y4, y5, y6, y7, y8, y9⟩ : Fd)]))) := ⟨ST6.out.1.trans ((below_plus w6 x1).mono ST6.out.1.size), own_plus ST6.out.2⟩
            clear ST6 hsw hbry
            generalize plus w6 x1 = w8 at ST8 ⊢
            go_wp2
            go_roundg (gk - 1)
            case measure => omega
            case rel => exact ⟨idx + 1, ao6, cap6, l ++ [(⟨y1, y2, y3, y4, y5, y6, y7, y8, y9⟩ : Fd)], false, by simp, by simp, by first | rfl | (simp; done), by omega, by simp; omega, A4, by first | exact ST8 | simpa using ST8⟩
      · have hiz : ¬ (idx : Int) < (n : Int) := by omega
        have AF : Aside (rcloseF num xs = (l, ⟨d1, d2, d3, d4, d5, d6, d7, d8, d9⟩, la, 0)) := by
          show _ = _
          rw [ER.out, A.out.2, ← A.out.1, List.take_of_length_le]
          have := HL.out; omega
        clear A ER HC
        obtain ⟨z, rfl⟩ := plus_of_below ST.out.1
        go_wp2
        go_region
        all_goals go_wp2
        refine bodyPost_ret (v := .tuple #[.agg #[.int .i64 id, .slice ao' l.length cap'], .agg #[.int .i64 d1, .int .i64 d2, .int .i64 d3, .int .i64 d4, .string d5, .string d6, .int .i64 d7, .int .i64 d8, .int .i64 d9], .bool la, .int .i64 0]) (by simp [results, Try.results33, go_sem, ↓IntWalk.iteOmega]) rfl ⟨ao', cap', ?_, ?_, ?_⟩
        · rw [AF.out]; rfl
        · rw [AF.out]
          exact .inr (own_lower (own_past (W := ((plus (((w.alloc (.cells #[.int .i64 id, .slice ao n cap] 24)).alloc (.cells #[.int .i64 0, .slice none 0 0] 24)).alloc (.cells #[.int .i64 0, .int .i64 0, .int .i64 0, .int .i64 0, .string ⟨#[]⟩, .string ⟨#[]⟩, .int .i64 0, .int .i64 0, .int .i64 0] 30)) x).alloc (.cells #[.int .i64 d1, .int .i64 d2, .int .i64 d3, .int .i64 d4, .string d5, .string d6, .int .i64 d7, .int .i64 d8, .int .i64 d9] 30))) (x := z.drew) (W' := ((plus (((w.alloc (.cells #[.int .i64 id, .slice ao' l.length cap'] 24)).alloc (.cells #[.int .i64 id, .slice ao' l.length cap'] 24)).alloc (.cells #[.int .i64 d1, .int .i64 d2, .int .i64 d3, .int .i64 d4, .string d5, .string d6, .int .i64 d7, .int .i64 d8, .int .i64 d9] 30)) x).alloc (.cells #[.int .i64 d1, .int .i64 d2, .int .i64 d3, .int .i64 d4, .string d5, .string d6, .int .i64 d7, .int .i64 d8, .int .i64 d9] 30))) (show (plus ((plus (((w.alloc (.cells #[.int .i64 id, .slice ao n cap] 24)).alloc (.cells #[.int .i64 0, .slice none 0 0] 24)).alloc (.cells #[.int .i64 0, .int .i64 0, .int .i64 0, .int .i64 0, .string ⟨#[]⟩, .string ⟨#[]⟩, .int .i64 0, .int .i64 0, .int .i64 0] 30)) x).alloc (.cells #[.int .i64 d1, .int .i64 d2, .int .i64 d3, .int .i64 d4, .string d5, .string d6, .int .i64 d7, .int .i64 d8, .int .i64 d9] 30)) z.drew).ownsRow _ _ _ _ _ _ from ST.out.2.drew) (by simp [size_plus]) (by simp [size_plus])) (by first | omega | (simp [size_plus]; omega)))
        · repeat (first | (with_reducible exact Below.refl _ _) | (with_reducible assumption) | (with_reducible refine below_to_plus ?_ ?_ _) | (with_reducible refine below_holds ?_ ?_ _ _) | (with_reducible refine Below.alloc ?_ ?_ _) | (with_reducible refine Below.drew ?_) | (with_reducible refine below_drewN ?_ _) | (with_reducible refine Below.setCell ?_ ?_ _))
          all_goals first | omega | (simp; done) | (simp [go_sem]; done) | (simp [go_sem]; omega)

end Go.Proofs.Ytbifanenoejjgaa
