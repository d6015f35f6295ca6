/- This text proves the walks of lowest and sum of package fds. Conditions: those that each theorem names. -/
import Derived.Test.YtbifanenoejjgaaFdsC
namespace Go.Proofs.Ytbifanenoejjgaa
open Go.ChangeShapes Go.WideShapes Go.ChangeAt Go.RowKit
set_option linter.unusedVariables false

def keyAt (key : Fd → Int) (k : Int) (xs : List Fd) : Bool := xs.any fun y => decide (key y = k)
theorem keyAt_iff (key : Fd → Int) (k : Int) (xs : List Fd) : keyAt key k xs = true ↔ ∃ y ∈ xs, key y = k := by
  unfold keyAt; rw [List.any_eq_true]; simp
def lowFrom (key : Fd → Int) (xs : List Fd) : Nat → Nat → Nat
  | 0, k => k
  | fuel + 1, k => if keyAt key k xs then lowFrom key xs fuel (k + 1) else k
/-- The least number that is no descriptor's key. -/
def lowF (key : Fd → Int) (xs : List Fd) : Nat := lowFrom key xs (xs.length + 1) 0
theorem pigeon (key : Fd → Int) : ∀ (k : Nat) (xs : List Fd), (∀ j : Nat, j < k → keyAt key j xs = true) → k ≤ xs.length
  | 0, _, _ => Nat.zero_le _
  | k + 1, xs, h => by
    have h1 := (keyAt_iff _ _ _).1 (h k (by omega))
    obtain ⟨y, hy, hk⟩ := h1
    have hlt : (xs.filter fun y => !(decide (key y = (k : Int)))).length < xs.length := List.length_filter_lt_length_iff_exists.2 ⟨y, hy, by simp [hk]⟩
    have := pigeon key k (xs.filter fun y => !(decide (key y = (k : Int)))) (fun j hj => by
      obtain ⟨z, hz, hzk⟩ := (keyAt_iff _ _ _).1 (h j (by omega))
      exact (keyAt_iff _ _ _).2 ⟨z, List.mem_filter.2 ⟨hz, by simp [hzk]; omega⟩, hzk⟩)
    omega
theorem lowFrom_eq (key : Fd → Int) (xs : List Fd) : ∀ (fuel k m : Nat), k ≤ m → m < k + fuel → (∀ j : Nat, k ≤ j → j < m → keyAt key j xs = true) → keyAt key m xs = false → lowFrom key xs fuel k = m
  | 0, k, m, h1, h2, _, _ => by omega
  | fuel + 1, k, m, h1, h2, h3, h4 => by
    unfold lowFrom
    by_cases e : k = m
    · subst e; rw [h4]; rfl
    · rw [h3 k (Nat.le_refl _) (by omega), if_pos rfl]
      exact lowFrom_eq key xs fuel (k + 1) m (by omega) (by omega) (fun j hj => h3 j (by omega)) h4
theorem lowF_eq (key : Fd → Int) (xs : List Fd) (m : Nat) (h3 : ∀ j : Nat, j < m → keyAt key j xs = true) (h4 : keyAt key m xs = false) : lowF key xs = m :=
  lowFrom_eq key xs _ 0 m (Nat.zero_le _) (by have := pigeon key m xs h3; omega) (fun j _ hj => h3 j hj) h4

set_option maxHeartbeats 2000000 in
theorem pred_lowest (key : Fd → Int) (g : Nat) (eg : ∀ args w, (callFunc g args).run Try.prog w = .ok (.enter g args) w) (kc : ∀ y W, Calls Try.prog g #[Fd.val y] W fun e w' => e = .returned (.int .i64 (key y)) ∧ Below W.heap.size W w')
    (k : Int) (B C : Nat) (w : World) (hB : B < w.heap.size) (hC : C < w.heap.size) (cB : w.cell? ⟨B, 0, none⟩ = some (.func (.func g) #[] #[])) (cC : w.cell? ⟨C, 0, none⟩ = some (.int .i64 k)) :
    PredE Try.prog 51 #[.pointer (some ⟨B, 0, none⟩), .pointer (some ⟨C, 0, none⟩)] Fd.val (fun y => decide (key y = k)) w := fun W y hW => by
  have HB : B < W.heap.size := Nat.lt_of_lt_of_le hB hW.size
  have HC : C < W.heap.size := Nat.lt_of_lt_of_le hC hW.size
  have CB : W.cell? ⟨B, 0, none⟩ = some (.func (.func g) #[] #[]) := (hW.cell (p := ⟨B, 0, none⟩) hB).trans cB
  have CC : W.cell? ⟨C, 0, none⟩ = some (.int .i64 k) := (hW.cell (p := ⟨C, 0, none⟩) hC).trans cC
  clear cB cC hW
  have co0 := fun W => kc y W
  have HD : Aside (decide (key y = k) = (key y == k)) := by show _ = _; rw [Bool.eq_iff_iff]; simp
  show Calls _ _ _ _ (fun e w' => e = .returned (.bool (decide (key y = k))) ∧ Below W.heap.size W w')
  rw [HD.out]
  clear HD kc
  generalize key y = r at co0 ⊢
  obtain ⟨y1, y2, y3, y4, y5, y6, y7, y8, y9⟩ := y
  have co : ∀ W, Calls Try.prog g #[.agg #[.int .i64 y1, .int .i64 y2, .int .i64 y3, .int .i64 y4, .string y5, .string y6, .int .i64 y7, .int .i64 y8, .int .i64 y9]] W fun e w' => e = .returned (.int .i64 r) ∧ Below W.heap.size W w' := co0
  clear co0
  show Calls Try.prog 51 #[.agg #[.int .i64 y1, .int .i64 y2, .int .i64 y3, .int .i64 y4, .string y5, .string y6, .int .i64 y7, .int .i64 y8, .int .i64 y9], .pointer (some ⟨B, 0, none⟩), .pointer (some ⟨C, 0, none⟩)] W _
  go_enter Try.func51, Try.ntmps51
  go_wp2
  refine wp_region_plus (by kernel_rfl) (by kernel_rfl) ?_
  repeat (go_big_quiet_step (first | (go_at_fn g; exact calls_plus (co _))))
  refine wpQuiet_nil ?_
  rintro _ ⟨x, rfl⟩
  go_wp2
  go_ret
  refine ⟨rfl, ?_⟩
  repeat (first | (with_reducible exact Below.refl _ _) | (with_reducible assumption) | (with_reducible refine below_to_plus ?_ ?_ _) | (with_reducible refine below_holds ?_ ?_ _ _) | (with_reducible refine Below.alloc ?_ ?_ _) | (with_reducible refine Below.drew ?_) | (with_reducible refine below_drewN ?_ _) | (with_reducible refine Below.setCell ?_ ?_ _))
  all_goals first | omega | (simp; done) | (simp [go_sem]; done) | (simp [go_sem]; omega)

set_option maxHeartbeats 4000000 in
theorem lowest_calls (key : Fd → Int) (g : Nat) (eg : ∀ args w, (callFunc g args).run Try.prog w = .ok (.enter g args) w) (kc : ∀ y W, Calls Try.prog g #[Fd.val y] W fun e w' => e = .returned (.int .i64 (key y)) ∧ Below W.heap.size W w')
    (id : Int) (ao : Option Addr) (n cap : Nat) (xs : List Fd) (w : World) (h : Sl w 9 ao n cap (xs.map Fd.enc)) (hn : n ≤ 1000000) :
    Calls Try.prog 36 #[.agg #[.int .i64 id, .slice ao n cap], .func (.func g) #[] #[]] w fun e w' => e = .returned (.int .i64 (lowF key xs : Nat)) ∧ Below w.heap.size w w' := by
  have e1 : ∀ args w, (callFunc 51 args).run Try.prog w = .ok (.enter 51 args) w := enters_of Try.func51 (by kernel_rfl) rfl
  have hln := Sl.lenE h
  have hbig : n ≤ 9223372036854775807 := Nat.le_trans h.hcap h.hmax
  have hb0 : ∀ k x, Below w.heap.size w (plus (((w.alloc (.cells #[.int .i64 id, .slice ao n cap] 24)).alloc (.cells #[.func (.func g) #[] #[]] 60)).alloc (.cells #[.int .i64 k] 3)) x) := fun k x => below_to_plus ((((Below.refl _ w).alloc (Nat.le_refl _) _).alloc (by simp) _).alloc (by simp; omega) _) (by simp; omega) x
  have c : ∀ (k : Int) x, Calls Try.prog 42 #[.slice ao n cap, .func (.func 51) #[] #[.pointer (some ⟨w.heap.size + 1, 0, none⟩), .pointer (some ⟨w.heap.size + 1 + 1, 0, none⟩)]] (plus (((w.alloc (.cells #[.int .i64 id, .slice ao n cap] 24)).alloc (.cells #[.func (.func g) #[] #[]] 60)).alloc (.cells #[.int .i64 k] 3)) x) fun e w' => e = .returned (.bool (keyAt key k xs)) ∧ Below (plus (((w.alloc (.cells #[.int .i64 id, .slice ao n cap] 24)).alloc (.cells #[.func (.func g) #[] #[]] 60)).alloc (.cells #[.int .i64 k] 3)) x).heap.size (plus (((w.alloc (.cells #[.int .i64 id, .slice ao n cap] 24)).alloc (.cells #[.func (.func g) #[] #[]] 60)).alloc (.cells #[.int .i64 k] 3)) x) w' := fun k x =>
    fdContainsFunc_calls (fun y => decide (key y = k)) 51 _ e1 ao n cap xs _ (h.stays (hb0 k x)) (pred_lowest key g eg kc k (w.heap.size + 1) (w.heap.size + 1 + 1) _ (by rw [size_plus]; simp; omega) (by rw [size_plus]; simp; omega) (by simp [go_sem]) (by simp [go_sem]))
  have HP : Aside (∀ k : Nat, (∀ j : Nat, j < k → keyAt key j xs = true) → k ≤ n) := fun k hk => by have := pigeon key k xs hk; omega
  clear h hln eg kc hb0
  go_enter Try.func36, Try.ntmps36
  go_wp2
  go_loopg [] (n + 1) (fun gg wr => ∃ (k : Nat) (x : World), wr = plus (((w.alloc (.cells #[.int .i64 id, .slice ao n cap] 24)).alloc (.cells #[.func (.func g) #[] #[]] 60)).alloc (.cells #[.int .i64 (k : Int)] 3)) x ∧ n + 1 - k ≤ gg ∧ Aside (∀ j : Nat, j < k → keyAt key j xs = true))
  case atStart => exact ⟨0, _, plus_self _, by omega, fun j hj => absurd hj (Nat.not_lt_zero _)⟩
  case round =>
    obtain ⟨k, x, rfl, hg, A⟩ := hrel
    have hkn := HP.out k A.out
    have ck := c (k : Int) x
    clear c
    have hkb : (k : Int) + 1 ≤ 9223372036854775807 := by omega
    cases hq : keyAt key k xs with
    | true =>
      have A2 : Aside (∀ j : Nat, j < k + 1 → keyAt key j xs = true) := fun j hj => by
        rcases (by omega : j < k ∨ j = k) with h' | h'
        · exact A.out j h'
        · rw [h']; exact hq
      rw [hq] at ck
      clear A HP hq
      go_wp2_with fail
      refine ck.mono ?_
      rintro e w1 ⟨rfl, hb⟩
      obtain ⟨x1, rfl⟩ := plus_next hb
      clear hb
      go_wp2
      go_roundg (gk - 1)
      case measure => omega
      case rel => exact ⟨k + 1, x1, by rw [show ((k + 1 : Nat) : Int) = (k : Int) + 1 from by simp], by omega, A2⟩
    | false =>
      have HF : Aside (lowF key xs = k) := lowF_eq key xs k A.out hq
      rw [hq] at ck
      go_wp2_with fail
      refine ck.mono ?_
      rintro e w1 ⟨rfl, hb⟩
      obtain ⟨x1, rfl⟩ := plus_next hb
      clear hb
      go_wp2
      go_ret
      refine ⟨ret_int (by rw [HF.out]), ?_⟩
      repeat (first | (with_reducible exact Below.refl _ _) | (with_reducible assumption) | (with_reducible refine below_to_plus ?_ ?_ _) | (with_reducible refine below_holds ?_ ?_ _ _) | (with_reducible refine Below.alloc ?_ ?_ _) | (with_reducible refine Below.drew ?_) | (with_reducible refine below_drewN ?_ _) | (with_reducible refine Below.setCell ?_ ?_ _))
      all_goals first | omega | (simp; done) | (simp [go_sem]; done) | (simp [go_sem]; omega)

def sumF (a b : Int) : Int × Bool := if 0 < a ∧ (9007199254740991 < a ∨ 9007199254740991 - a < b) then (0, false) else (a + b, decide (0 ≤ a + b ∧ a + b ≤ 9007199254740991))
set_option maxHeartbeats 2000000 in
theorem sum_calls (a b : Int) (w : World) (ha : -9223372036854775808 ≤ a ∧ a ≤ 9223372036854775807) (hb : 0 ≤ b ∧ b ≤ 9223372036854775807) :
    Calls Try.prog 39 #[.int .i64 a, .int .i64 b] w fun e w' => e = .returned (.tuple #[.int .i64 (sumF a b).1, .bool (sumF a b).2]) ∧ Below w.heap.size w w' := by
  obtain ⟨ha1, ha2⟩ := ha
  obtain ⟨hb1, hb2⟩ := hb
  by_cases h1 : 0 < a
  · by_cases h2 : 9007199254740991 < a
    · have e : sumF a b = (0, false) := by unfold sumF; rw [if_pos ⟨h1, .inl h2⟩]
      rw [e]
      go_enter Try.func39, Try.ntmps39
      go_wp2
      go_ret2
      exact ⟨rfl, Below.refl _ _⟩
    · by_cases h3 : 9007199254740991 - a < b
      · have e : sumF a b = (0, false) := by unfold sumF; rw [if_pos ⟨h1, .inr h3⟩]
        rw [e]
        go_enter Try.func39, Try.ntmps39
        go_wp2
        go_ret2
        exact ⟨rfl, Below.refl _ _⟩
      · have e : sumF a b = (a + b, true) := by unfold sumF; rw [if_neg (by omega), decide_eq_true (by omega)]
        rw [e]
        have h4 : 0 ≤ a + b := by omega
        have h5 : a + b ≤ 9007199254740991 := by omega
        go_enter Try.func39, Try.ntmps39
        go_wp2
        go_ret2
        exact ⟨rfl, Below.refl _ _⟩
  · have e : sumF a b = (a + b, decide (0 ≤ a + b ∧ a + b ≤ 9007199254740991)) := by unfold sumF; rw [if_neg (fun h => h1 h.1)]
    rw [e]
    by_cases h4 : 0 ≤ a + b
    · by_cases h5 : a + b ≤ 9007199254740991
      · rw [decide_eq_true ⟨h4, h5⟩]
        go_enter Try.func39, Try.ntmps39
        go_wp2
        go_ret2
        exact ⟨rfl, Below.refl _ _⟩
      · rw [decide_eq_false (fun h => h5 h.2)]
        go_enter Try.func39, Try.ntmps39
        go_wp2
        go_ret2
        exact ⟨rfl, Below.refl _ _⟩
    · rw [decide_eq_false (fun h => h4 h.1)]
      go_enter Try.func39, Try.ntmps39
      go_wp2
      go_ret2
      exact ⟨rfl, Below.refl _ _⟩

end Go.Proofs.Ytbifanenoejjgaa
