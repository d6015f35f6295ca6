/- This text proves the walks of at, Find, free, fresh, Copy and Same of the reference. Conditions: those that each theorem names. -/
import Derived.Test.YtbifanenoejjgaaFdsL
import Derived.Test.YtbifanenoejjgaaFdsP
namespace Go.Proofs.Ytbifanenoejjgaa
open Go.ChangeShapes Go.WideShapes Go.ChangeAt Go.RowKit
set_option linter.unusedVariables false
set_option linter.unusedSimpArgs false

theorem findI_hit (num : Int) (xs : List Fd) (k : Nat) (hk : k < xs.length) (h : xs[k]!.num = num) (hm : ∀ j, j < k → xs[j]!.num ≠ num) : findI num xs = (k : Int) := by
  rcases findI_spec num xs with ⟨e, h1⟩ | ⟨m, h1, e, h2, h3⟩
  · exact absurd h (h1 k hk)
  · rcases Nat.lt_trichotomy m k with h4 | h4 | h4
    · exact absurd h2 (hm m h4)
    · rw [e, h4]
    · exact absurd h (h3 k h4)
theorem findI_miss (num : Int) (xs : List Fd) (hm : ∀ j, j < xs.length → xs[j]!.num ≠ num) : findI num xs = -1 := by
  rcases findI_spec num xs with ⟨e, h1⟩ | ⟨m, h1, e, h2, h3⟩
  · exact e
  · exact absurd h2 (hm m h1)
theorem findI_keyAt (k : Int) (xs : List Fd) : 0 ≤ findI k xs ↔ keyAt Fd.num k xs = true := by
  rw [keyAt_iff]
  rcases findI_spec k xs with ⟨e, h1⟩ | ⟨m, h1, e, h2, h3⟩
  · refine ⟨fun h => by omega, fun ⟨y, hy, e2⟩ => ?_⟩
    obtain ⟨i, hi, rfl⟩ := get_of_mem hy
    exact absurd e2 (h1 i hi)
  · exact ⟨fun _ => ⟨_, mem_of_get h1, h2⟩, fun _ => by omega⟩

set_option maxHeartbeats 2000000 in
theorem at_calls (id num : Int) (ao : Option Addr) (n cap : Nat) (xs : List Fd) (w : World) (h : Sl w 9 ao n cap (xs.map Fd.enc)) :
    Calls Try.prog 29 #[.agg #[.int .i64 id, .slice ao n cap], .int .i64 num] w fun e w' => e = .returned (.int .i64 (findI num xs)) ∧ Below w.heap.size w w' := by
  have hbig : n ≤ 9223372036854775807 := Nat.le_trans h.hcap h.hmax
  have HL : Aside (xs.length = n) := Sl.lenE h
  have HC : Aside (CellsFd w ao xs) := cellsFd h
  have HH : Aside (∀ k : Nat, k < xs.length → xs[k]!.num = num → (∀ j, j < k → xs[j]!.num ≠ num) → findI num xs = (k : Int)) := findI_hit num xs
  have HM : Aside ((∀ j, j < xs.length → xs[j]!.num ≠ num) → findI num xs = -1) := findI_miss num xs
  generalize findI num xs = r at HH HM ⊢
  clear h
  go_enter Try.func29, Try.ntmps29
  go_wp2
  go_loopg [9] n (fun k s9 wr => ∃ idx : Nat, s9 = .int .i64 (idx : Int) ∧ wr = (w.alloc (.cells #[.int .i64 id, .slice ao n cap] 24)) ∧ k + idx = n ∧ Aside (∀ j, j < idx → xs[j]!.num ≠ num))
  case atStart => exact ⟨0, rfl, rfl, by omega, fun j hj => absurd hj (Nat.not_lt_zero _)⟩
  case round =>
    obtain ⟨idx, rfl, rfl, hk, A⟩ := hrel
    by_cases hi : idx < n
    · have hiz : (idx : Int) < (n : Int) := by omega
      obtain ⟨b, off, rfl, hbw, l0, l1, l2, l3, l4, l5, l6, l7, l8⟩ := HC.out idx (by have := HL.out; omega)
      clear l1 l2 l3 l4 l5 l6 l7 l8
      by_cases hq : xs[idx]!.num = num
      · have e1 := HH.out idx (by have := HL.out; omega) hq A.out
        subst e1
        rw [hq] at l0
        clear hq HC A HH HM
        go_wp2
        go_ret
        refine ⟨rfl, ?_⟩
        repeat (first | (with_reducible exact Below.refl _ _) | (with_reducible assumption) | (with_reducible refine below_to_plus ?_ ?_ _) | (with_reducible refine below_holds ?_ ?_ _ _) | (with_reducible refine Below.alloc ?_ ?_ _) | (with_reducible refine Below.drew ?_) | (with_reducible refine below_drewN ?_ _) | (with_reducible refine Below.setCell ?_ ?_ _))
        all_goals first | omega | (simp; done) | (simp [go_sem]; done) | (simp [go_sem]; omega)
      · have A2 : Aside (∀ j, j < idx + 1 → xs[j]!.num ≠ num) := fun j hj => by
          rcases (by omega : j < idx ∨ j = idx) with h' | h'
          · exact A.out j h'
          · rw [h']; exact hq
        generalize xs[idx]!.num = q at l0 hq
        have e1 : (q == num) = false := by simp [hq]
        clear hq HC A HH HM
        go_wp2
        go_roundg (gk - 1)
        case measure => omega
        case rel => exact ⟨idx + 1, by simp, rfl, by omega, A2⟩
    · have hiz : ¬ (idx : Int) < (n : Int) := by omega
      have e1 := HM.out (fun j hj => A.out j (by have := HL.out; omega))
      subst e1
      clear HC A HH HM
      go_wp2
      go_ret
      refine ⟨rfl, ?_⟩
      repeat (first | (with_reducible exact Below.refl _ _) | (with_reducible assumption) | (with_reducible refine below_to_plus ?_ ?_ _) | (with_reducible refine below_holds ?_ ?_ _ _) | (with_reducible refine Below.alloc ?_ ?_ _) | (with_reducible refine Below.drew ?_) | (with_reducible refine below_drewN ?_ _) | (with_reducible refine Below.setCell ?_ ?_ _))
      all_goals first | omega | (simp; done) | (simp [go_sem]; done) | (simp [go_sem]; omega)

set_option maxHeartbeats 2000000 in
theorem rFind_calls (id num : Int) (ao : Option Addr) (n cap : Nat) (xs : List Fd) (w : World) (h : Sl w 9 ao n cap (xs.map Fd.enc)) :
    Calls Try.prog 13 #[.agg #[.int .i64 id, .slice ao n cap], .int .i64 num] w fun e w' => e = .returned (.tuple #[Fd.val (findF num xs).1, .int .i64 (findF num xs).2]) ∧ Below w.heap.size w w' := by
  have hbig : n ≤ 9223372036854775807 := Nat.le_trans h.hcap h.hmax
  have HL : Aside (xs.length = n) := Sl.lenE h
  have hb0 : Below w.heap.size w ((w.alloc (.cells #[.int .i64 id, .slice ao n cap] 24)).alloc (.cells #[.int .i64 0, .int .i64 0, .int .i64 0, .int .i64 0, .string ⟨#[]⟩, .string ⟨#[]⟩, .int .i64 0, .int .i64 0, .int .i64 0] 30)) := by
    repeat (first | (with_reducible exact Below.refl _ _) | (with_reducible assumption) | (with_reducible refine below_to_plus ?_ ?_ _) | (with_reducible refine below_holds ?_ ?_ _ _) | (with_reducible refine Below.alloc ?_ ?_ _) | (with_reducible refine Below.drew ?_) | (with_reducible refine below_drewN ?_ _) | (with_reducible refine Below.setCell ?_ ?_ _))
    all_goals first | omega | (simp; done) | (simp [go_sem]; done) | (simp [go_sem]; omega)
  have c0 := at_calls id num ao n cap xs ((w.alloc (.cells #[.int .i64 id, .slice ao n cap] 24)).alloc (.cells #[.int .i64 0, .int .i64 0, .int .i64 0, .int .i64 0, .string ⟨#[]⟩, .string ⟨#[]⟩, .int .i64 0, .int .i64 0, .int .i64 0] 30)) (h.stays hb0)
  rcases findI_spec num xs with ⟨e1, _⟩ | ⟨k, hk, e1, _⟩
  · rw [show findF num xs = (default, 44) by unfold findF; rw [e1]; rfl]
    rw [e1] at c0
    clear e1 h hb0
    go_enter Try.func13, Try.ntmps13
    go_wp2_with fail
    refine (c0).mono ?_
    rintro e w2 ⟨rfl, hb⟩
    obtain ⟨x, rfl⟩ := plus_of_below hb
    clear hb
    clear c0
    go_wp2
    refine bodyPost_ret (v := .tuple #[.agg #[.int .i64 0, .int .i64 0, .int .i64 0, .int .i64 0, .string ⟨#[]⟩, .string ⟨#[]⟩, .int .i64 0, .int .i64 0, .int .i64 0], .int .i64 44]) (by simp [results, Try.results13, go_sem, ↓IntWalk.iteOmega]) rfl ⟨rfl, ?_⟩
    repeat (first | (with_reducible exact Below.refl _ _) | (with_reducible assumption) | (with_reducible refine below_to_plus ?_ ?_ _) | (with_reducible refine below_holds ?_ ?_ _ _) | (with_reducible refine Below.alloc ?_ ?_ _) | (with_reducible refine Below.drew ?_) | (with_reducible refine below_drewN ?_ _) | (with_reducible refine Below.setCell ?_ ?_ _))
    all_goals first | omega | (simp; done) | (simp [go_sem]; done) | (simp [go_sem]; omega)
  · have ef : findF num xs = (xs[k]!, 0) := by unfold findF; rw [e1, if_neg (by omega)]; rfl
    rw [ef]
    rw [e1] at c0
    have hkn : k < n := by have := HL.out; omega
    have hkz : (k : Int) < (n : Int) := by omega
    obtain ⟨b, off, rfl, hbw, l0, l1, l2, l3, l4, l5, l6, l7, l8⟩ := cellsFd h k hk
    clear e1 h hb0 ef hk
    generalize xs[k]! = d at l0 l1 l2 l3 l4 l5 l6 l7 l8 ⊢
    obtain ⟨d1, d2, d3, d4, d5, d6, d7, d8, d9⟩ := d
    simp only [] at l0 l1 l2 l3 l4 l5 l6 l7 l8
    go_enter Try.func13, Try.ntmps13
    go_wp2_with fail
    refine (c0).mono ?_
    rintro e w2 ⟨rfl, hb⟩
    obtain ⟨x, rfl⟩ := plus_of_below hb
    clear hb
    clear c0
    go_wp2
    refine bodyPost_ret (v := .tuple #[.agg #[.int .i64 d1, .int .i64 d2, .int .i64 d3, .int .i64 d4, .string d5, .string d6, .int .i64 d7, .int .i64 d8, .int .i64 d9], .int .i64 0]) (by simp [results, Try.results13, go_sem, ↓IntWalk.iteOmega]) rfl ⟨rfl, ?_⟩
    repeat (first | (with_reducible exact Below.refl _ _) | (with_reducible assumption) | (with_reducible refine below_to_plus ?_ ?_ _) | (with_reducible refine below_holds ?_ ?_ _ _) | (with_reducible refine Below.alloc ?_ ?_ _) | (with_reducible refine Below.drew ?_) | (with_reducible refine below_drewN ?_ _) | (with_reducible refine Below.setCell ?_ ?_ _))
    all_goals first | omega | (simp; done) | (simp [go_sem]; done) | (simp [go_sem]; omega)

set_option maxHeartbeats 2000000 in
theorem free_calls (id : Int) (ao : Option Addr) (n cap : Nat) (xs : List Fd) (w : World) (h : Sl w 9 ao n cap (xs.map Fd.enc)) :
    Calls Try.prog 47 #[.agg #[.int .i64 id, .slice ao n cap]] w fun e w' => e = .returned (.int .i64 ((min 64 (lowF Fd.num xs) : Nat) : Int)) ∧ Below w.heap.size w w' := by
  have hb0 : Below w.heap.size w (w.alloc (.cells #[.int .i64 id, .slice ao n cap] 24)) := by
    repeat (first | (with_reducible exact Below.refl _ _) | (with_reducible assumption) | (with_reducible refine below_to_plus ?_ ?_ _) | (with_reducible refine below_holds ?_ ?_ _ _) | (with_reducible refine Below.alloc ?_ ?_ _) | (with_reducible refine Below.drew ?_) | (with_reducible refine below_drewN ?_ _) | (with_reducible refine Below.setCell ?_ ?_ _))
    all_goals first | omega | (simp; done) | (simp [go_sem]; done) | (simp [go_sem]; omega)
  have c0 : ∀ x k, Calls Try.prog 29 #[.agg #[.int .i64 id, .slice ao n cap], .int .i64 k] (plus (w.alloc (.cells #[.int .i64 id, .slice ao n cap] 24)) x) fun e w' => e = .returned (.int .i64 (findI k xs)) ∧ Below (plus (w.alloc (.cells #[.int .i64 id, .slice ao n cap] 24)) x).heap.size (plus (w.alloc (.cells #[.int .i64 id, .slice ao n cap] 24)) x) w' := fun x k => at_calls id k ao n cap xs _ ((h.stays hb0).stays (below_plus _ _))
  have HS : Aside (∀ k : Nat, k < 64 → (∀ j : Nat, j < k → keyAt Fd.num j xs = true) → keyAt Fd.num k xs = false → min 64 (lowF Fd.num xs) = k) := fun k hk h1 h2 => by
    rw [lowF_eq Fd.num xs k h1 h2]; omega
  have HF : Aside ((∀ j : Nat, j < 64 → keyAt Fd.num j xs = true) → min 64 (lowF Fd.num xs) = 64) := fun h1 => by
    have h2 := (lowF_spec Fd.num xs).2.1
    rcases Nat.lt_or_ge (lowF Fd.num xs) 64 with h3 | h3
    · rw [h1 _ h3] at h2; cases h2
    · omega
  generalize min 64 (lowF Fd.num xs) = r at HS HF ⊢
  clear h hb0
  go_enter Try.func47, Try.ntmps47
  go_wp2
  go_loopg [3] 64 (fun g s3 wr => ∃ (k : Nat) (x : World), s3 = .int .i64 (k : Int) ∧ wr = plus (w.alloc (.cells #[.int .i64 id, .slice ao n cap] 24)) x ∧ g + k = 64 ∧ Aside (∀ j : Nat, j < k → keyAt Fd.num j xs = true))
  case atStart => exact ⟨0, _, rfl, plus_self _, by omega, fun j hj => absurd hj (Nat.not_lt_zero _)⟩
  case round =>
    obtain ⟨k, x, rfl, rfl, hk, A⟩ := hrel
    by_cases hi : k < 64
    · have hiz : (k : Int) < 64 := by omega
      have c1 := c0 x (k : Int)
      have hfk := findI_keyAt (k : Int) xs
      cases hq : keyAt Fd.num k xs with
      | true =>
        have A2 : Aside (∀ j : Nat, j < k + 1 → keyAt Fd.num j xs = true) := fun j hj => by
          rcases (by omega : j < k ∨ j = k) with h' | h'
          · exact A.out j h'
          · rw [h']; exact hq
        have hf : 0 ≤ findI (k : Int) xs := hfk.2 hq
        generalize findI (k : Int) xs = fi at c1 hf
        clear hfk hq A HS HF
        go_wp2_with fail
        refine (c1).mono ?_
        rintro e w2 ⟨rfl, hb⟩
        obtain ⟨y, rfl⟩ := plus_next hb
        clear hb
        clear c1
        go_wp2
        go_roundg (gk - 1)
        case measure => omega
        case rel => exact ⟨k + 1, _, by simp, rfl, by omega, A2⟩
      | false =>
        have hf : findI (k : Int) xs < 0 := by
          rcases Int.lt_or_le (findI (k : Int) xs) 0 with h1 | h1
          · exact h1
          · rw [hfk.1 h1] at hq; cases hq
        have e1 := HS.out k hi A.out hq
        subst e1
        generalize findI (r : Int) xs = fi at c1 hf
        clear hfk hq A HS HF
        go_wp2_with fail
        refine (c1).mono ?_
        rintro e w2 ⟨rfl, hb⟩
        obtain ⟨y, rfl⟩ := plus_next hb
        clear hb
        clear c1
        go_wp2
        go_ret
        refine ⟨rfl, ?_⟩
        repeat (first | (with_reducible exact Below.refl _ _) | (with_reducible assumption) | (with_reducible refine below_to_plus ?_ ?_ _) | (with_reducible refine below_holds ?_ ?_ _ _) | (with_reducible refine Below.alloc ?_ ?_ _) | (with_reducible refine Below.drew ?_) | (with_reducible refine below_drewN ?_ _) | (with_reducible refine Below.setCell ?_ ?_ _))
        all_goals first | omega | (simp; done) | (simp [go_sem]; done) | (simp [go_sem]; omega)
    · have hk64 : k = 64 := by omega
      subst hk64
      have e1 := HF.out A.out
      subst e1
      clear A HS HF c0
      go_wp2
      go_ret
      refine ⟨rfl, ?_⟩
      repeat (first | (with_reducible exact Below.refl _ _) | (with_reducible assumption) | (with_reducible refine below_to_plus ?_ ?_ _) | (with_reducible refine below_holds ?_ ?_ _ _) | (with_reducible refine Below.alloc ?_ ?_ _) | (with_reducible refine Below.drew ?_) | (with_reducible refine below_drewN ?_ _) | (with_reducible refine Below.setCell ?_ ?_ _))
      all_goals first | omega | (simp; done) | (simp [go_sem]; done) | (simp [go_sem]; omega)

end Go.Proofs.Ytbifanenoejjgaa
