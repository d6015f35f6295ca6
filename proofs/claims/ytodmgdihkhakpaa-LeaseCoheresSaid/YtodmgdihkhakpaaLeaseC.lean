/- This text proves the walks of the closures of package lease, of slices.IndexFunc and of slices.ContainsFunc at leases. Conditions: those that each theorem names. -/
import Derived.Test.YtodmgdihkhakpaaLeaseB
namespace Go.Proofs.Ytodmgdihkhakpaa
open Go.ChangeShapes Go.WideShapes Go.ChangeAt Go.RowKit
set_option linter.unusedVariables false

/-- What is asked of a predicate: it may lay blocks of its own; all else stays as it is in the world of the call. -/
def PredB (P : Program) (g : Nat) (lb : Array Value) (enc : Le → Value) (p : Le → Bool) (w : World) : Prop :=
  ∀ (W : World) (x : Le), Below w.heap.size w W → Calls P g (#[enc x] ++ lb) W fun e w' => e = .returned (.bool (p x)) ∧ Below W.heap.size W w'
theorem PredB.later {P : Program} {g : Nat} {lb : Array Value} {enc : Le → Value} {p : Le → Bool} {w w1 : World} (h : PredB P g lb enc p w) (hb : Below w.heap.size w w1) : PredB P g lb enc p w1 :=
  fun W x hW => h W x (hb.trans (hW.mono hb.size))

theorem Sl.open4 {w : World} {ao : Option Addr} {n cap : Nat} {xs : List Le} (h : Sl w 4 ao n cap (xs.map Le.enc)) (hn : 0 < n) : ∃ b off, ao = some ⟨b, off, none⟩ ∧ b < w.heap.size ∧
    ∀ j, j < n → w.cell? ⟨b, off + j * 4, none⟩ = some (.int .i64 xs[j]!.conn) ∧ w.cell? ⟨b, off + j * 4 + 1, none⟩ = some (.int .i64 xs[j]!.id) ∧ w.cell? ⟨b, off + j * 4 + 2, none⟩ = some (.int .i64 xs[j]!.kind) ∧
      w.cell? ⟨b, off + j * 4 + 3, none⟩ = some (.int .i64 xs[j]!.til) := by
  obtain ⟨b, off, rfl, hb, hc⟩ := h.here hn
  refine ⟨b, off, rfl, hb, fun j hj => ?_⟩
  have hl : xs.length = n := by have := h.hlen; simpa using this
  have hx : (xs.map Le.enc)[j]? = some xs[j]!.enc := by rw [List.getElem?_map, List.getElem?_eq_getElem (by omega), getElem!_pos xs j (by omega)]; rfl
  exact ⟨hc j _ hx 0 _ rfl, hc j _ hx 1 _ rfl, hc j _ hx 2 _ rfl, hc j _ hx 3 _ rfl⟩
theorem Sl.len {w : World} {ao : Option Addr} {n cap : Nat} {xs : List Le} (h : Sl w 4 ao n cap (xs.map Le.enc)) : xs.length = n := by have := h.hlen; simpa using this

set_option maxHeartbeats 1000000 in
theorem pred_clean (now : Int) (B : Nat) (w : World) (hB : B < w.heap.size) (cB0 : w.cell? ⟨B, 0, none⟩ = some (.int .i64 now)) :
    PredB Try.prog 43 #[.pointer (some ⟨B, 0, none⟩)] Le.val (fun y => decide (y.til ≤ now)) w := fun W y hW => by
  have HB : B < W.heap.size := Nat.lt_of_lt_of_le hB hW.size
  have CB0 : W.cell? ⟨B, 0, none⟩ = some (.int .i64 now) := (hW.cell (p := ⟨B, 0, none⟩) hB).trans cB0
  clear cB0
  have hsz := hW.size
  obtain ⟨y1, y2, y3, y4⟩ := y
  have BW : Aside (Below w.heap.size w W) := hW
  clear hW
  show Calls Try.prog 43 #[.agg #[.int .i64 y1, .int .i64 y2, .int .i64 y3, .int .i64 y4], .pointer (some ⟨B, 0, none⟩)] W _
  go_enter Try.func43, Try.ntmps43
  go_wp2
  all_goals go_ret
  all_goals refine ⟨ret_bool (by first | (simp [*]; done) | (rw [Bool.eq_iff_iff]; simp [*]; done) | (rw [Bool.eq_iff_iff]; simp; omega) | (rw [Bool.eq_iff_iff]; simp [*]; omega)), ?_⟩
  all_goals try (
    repeat (first | (with_reducible exact Below.refl _ _) | (with_reducible assumption) | (with_reducible refine below_to_plus ?_ ?_ _) | (with_reducible refine below_holds ?_ ?_ _ _) | (with_reducible refine Below.alloc ?_ ?_ _) | (with_reducible refine Below.drew ?_) | (with_reducible refine below_drewN ?_ _) | (with_reducible refine Below.setCell ?_ ?_ _))
    all_goals first | omega | (simp; done) | (simp [go_sem]; done) | (simp [go_sem]; omega))

set_option maxHeartbeats 1000000 in
theorem pred_forget (cn : Int) (B : Nat) (w : World) (hB : B < w.heap.size) (cB0 : w.cell? ⟨B, 0, none⟩ = some (.int .i64 cn)) :
    PredB Try.prog 44 #[.pointer (some ⟨B, 0, none⟩)] Le.val (fun y => decide (y.conn = cn)) w := fun W y hW => by
  have HB : B < W.heap.size := Nat.lt_of_lt_of_le hB hW.size
  have CB0 : W.cell? ⟨B, 0, none⟩ = some (.int .i64 cn) := (hW.cell (p := ⟨B, 0, none⟩) hB).trans cB0
  clear cB0
  have hsz := hW.size
  obtain ⟨y1, y2, y3, y4⟩ := y
  have BW : Aside (Below w.heap.size w W) := hW
  clear hW
  show Calls Try.prog 44 #[.agg #[.int .i64 y1, .int .i64 y2, .int .i64 y3, .int .i64 y4], .pointer (some ⟨B, 0, none⟩)] W _
  go_enter Try.func44, Try.ntmps44
  go_wp2
  all_goals go_ret
  all_goals refine ⟨ret_bool (by first | (simp [*]; done) | (rw [Bool.eq_iff_iff]; simp [*]; done) | (rw [Bool.eq_iff_iff]; simp; omega) | (rw [Bool.eq_iff_iff]; simp [*]; omega)), ?_⟩
  all_goals try (
    repeat (first | (with_reducible exact Below.refl _ _) | (with_reducible assumption) | (with_reducible refine below_to_plus ?_ ?_ _) | (with_reducible refine below_holds ?_ ?_ _ _) | (with_reducible refine Below.alloc ?_ ?_ _) | (with_reducible refine Below.drew ?_) | (with_reducible refine below_drewN ?_ _) | (with_reducible refine Below.setCell ?_ ?_ _))
    all_goals first | omega | (simp; done) | (simp [go_sem]; done) | (simp [go_sem]; omega))

set_option maxHeartbeats 1000000 in
theorem pred_drop (cn fid : Int) (B D : Nat) (w : World) (hB : B < w.heap.size) (hD : D < w.heap.size) (cB0 : w.cell? ⟨B, 0, none⟩ = some (.int .i64 cn)) (cD0 : w.cell? ⟨D, 0, none⟩ = some (.int .i64 fid)) :
    PredB Try.prog 42 #[.pointer (some ⟨B, 0, none⟩), .pointer (some ⟨D, 0, none⟩)] Le.val (fun y => decide (y.conn = cn ∧ y.id = fid)) w := fun W y hW => by
  have HB : B < W.heap.size := Nat.lt_of_lt_of_le hB hW.size
  have HD : D < W.heap.size := Nat.lt_of_lt_of_le hD hW.size
  have CB0 : W.cell? ⟨B, 0, none⟩ = some (.int .i64 cn) := (hW.cell (p := ⟨B, 0, none⟩) hB).trans cB0
  have CD0 : W.cell? ⟨D, 0, none⟩ = some (.int .i64 fid) := (hW.cell (p := ⟨D, 0, none⟩) hD).trans cD0
  clear cB0 cD0
  have hsz := hW.size
  obtain ⟨y1, y2, y3, y4⟩ := y
  have BW : Aside (Below w.heap.size w W) := hW
  clear hW
  show Calls Try.prog 42 #[.agg #[.int .i64 y1, .int .i64 y2, .int .i64 y3, .int .i64 y4], .pointer (some ⟨B, 0, none⟩), .pointer (some ⟨D, 0, none⟩)] W _
  go_enter Try.func42, Try.ntmps42
  go_wp2
  all_goals go_ret
  all_goals refine ⟨ret_bool (by first | (simp [*]; done) | (rw [Bool.eq_iff_iff]; simp [*]; done) | (rw [Bool.eq_iff_iff]; simp; omega) | (rw [Bool.eq_iff_iff]; simp [*]; omega)), ?_⟩
  all_goals try (
    repeat (first | (with_reducible exact Below.refl _ _) | (with_reducible assumption) | (with_reducible refine below_to_plus ?_ ?_ _) | (with_reducible refine below_holds ?_ ?_ _ _) | (with_reducible refine Below.alloc ?_ ?_ _) | (with_reducible refine Below.drew ?_) | (with_reducible refine below_drewN ?_ _) | (with_reducible refine Below.setCell ?_ ?_ _))
    all_goals first | omega | (simp; done) | (simp [go_sem]; done) | (simp [go_sem]; omega))

set_option maxHeartbeats 1000000 in
theorem pred_blocks (fid cn now kd : Int) (A B C D : Nat) (w : World) (hA : A < w.heap.size) (hB : B < w.heap.size) (hC : C < w.heap.size) (hD : D < w.heap.size) (cA0 : w.cell? ⟨A, 0, none⟩ = some (.int .i64 fid)) (cB0 : w.cell? ⟨B, 0, none⟩ = some (.int .i64 cn)) (cC0 : w.cell? ⟨C, 0, none⟩ = some (.int .i64 now)) (cD0 : w.cell? ⟨D, 0, none⟩ = some (.int .i64 kd)) :
    PredB Try.prog 39 #[.pointer (some ⟨A, 0, none⟩), .pointer (some ⟨B, 0, none⟩), .pointer (some ⟨C, 0, none⟩), .pointer (some ⟨D, 0, none⟩)] Le.val (fun y => decide (y.id = fid ∧ y.conn ≠ cn ∧ now < y.til ∧ (kd = 2 ∨ y.kind = 2))) w := fun W y hW => by
  have HA : A < W.heap.size := Nat.lt_of_lt_of_le hA hW.size
  have HB : B < W.heap.size := Nat.lt_of_lt_of_le hB hW.size
  have HC : C < W.heap.size := Nat.lt_of_lt_of_le hC hW.size
  have HD : D < W.heap.size := Nat.lt_of_lt_of_le hD hW.size
  have CA0 : W.cell? ⟨A, 0, none⟩ = some (.int .i64 fid) := (hW.cell (p := ⟨A, 0, none⟩) hA).trans cA0
  have CB0 : W.cell? ⟨B, 0, none⟩ = some (.int .i64 cn) := (hW.cell (p := ⟨B, 0, none⟩) hB).trans cB0
  have CC0 : W.cell? ⟨C, 0, none⟩ = some (.int .i64 now) := (hW.cell (p := ⟨C, 0, none⟩) hC).trans cC0
  have CD0 : W.cell? ⟨D, 0, none⟩ = some (.int .i64 kd) := (hW.cell (p := ⟨D, 0, none⟩) hD).trans cD0
  clear cA0 cB0 cC0 cD0
  have hsz := hW.size
  obtain ⟨y1, y2, y3, y4⟩ := y
  have BW : Aside (Below w.heap.size w W) := hW
  clear hW
  show Calls Try.prog 39 #[.agg #[.int .i64 y1, .int .i64 y2, .int .i64 y3, .int .i64 y4], .pointer (some ⟨A, 0, none⟩), .pointer (some ⟨B, 0, none⟩), .pointer (some ⟨C, 0, none⟩), .pointer (some ⟨D, 0, none⟩)] W _
  go_enter Try.func39, Try.ntmps39
  go_wp2
  all_goals go_ret
  all_goals refine ⟨ret_bool (by first | (simp [*]; done) | (rw [Bool.eq_iff_iff]; simp [*]; done) | (rw [Bool.eq_iff_iff]; simp; omega) | (rw [Bool.eq_iff_iff]; simp [*]; omega)), ?_⟩
  all_goals try (
    repeat (first | (with_reducible exact Below.refl _ _) | (with_reducible assumption) | (with_reducible refine below_to_plus ?_ ?_ _) | (with_reducible refine below_holds ?_ ?_ _ _) | (with_reducible refine Below.alloc ?_ ?_ _) | (with_reducible refine Below.drew ?_) | (with_reducible refine below_drewN ?_ _) | (with_reducible refine Below.setCell ?_ ?_ _))
    all_goals first | omega | (simp; done) | (simp [go_sem]; done) | (simp [go_sem]; omega))

set_option maxHeartbeats 1000000 in
theorem pred_valid (fid cn now kd : Int) (A B C D : Nat) (w : World) (hA : A < w.heap.size) (hB : B < w.heap.size) (hC : C < w.heap.size) (hD : D < w.heap.size) (cA0 : w.cell? ⟨A, 0, none⟩ = some (.int .i64 fid)) (cB0 : w.cell? ⟨B, 0, none⟩ = some (.int .i64 cn)) (cC0 : w.cell? ⟨C, 0, none⟩ = some (.int .i64 now)) (cD0 : w.cell? ⟨D, 0, none⟩ = some (.int .i64 kd)) :
    PredB Try.prog 40 #[.pointer (some ⟨A, 0, none⟩), .pointer (some ⟨B, 0, none⟩), .pointer (some ⟨C, 0, none⟩), .pointer (some ⟨D, 0, none⟩)] Le.val (fun y => decide (y.id = fid ∧ y.conn = cn ∧ now < y.til ∧ (kd = 1 ∨ y.kind = 2))) w := fun W y hW => by
  have HA : A < W.heap.size := Nat.lt_of_lt_of_le hA hW.size
  have HB : B < W.heap.size := Nat.lt_of_lt_of_le hB hW.size
  have HC : C < W.heap.size := Nat.lt_of_lt_of_le hC hW.size
  have HD : D < W.heap.size := Nat.lt_of_lt_of_le hD hW.size
  have CA0 : W.cell? ⟨A, 0, none⟩ = some (.int .i64 fid) := (hW.cell (p := ⟨A, 0, none⟩) hA).trans cA0
  have CB0 : W.cell? ⟨B, 0, none⟩ = some (.int .i64 cn) := (hW.cell (p := ⟨B, 0, none⟩) hB).trans cB0
  have CC0 : W.cell? ⟨C, 0, none⟩ = some (.int .i64 now) := (hW.cell (p := ⟨C, 0, none⟩) hC).trans cC0
  have CD0 : W.cell? ⟨D, 0, none⟩ = some (.int .i64 kd) := (hW.cell (p := ⟨D, 0, none⟩) hD).trans cD0
  clear cA0 cB0 cC0 cD0
  have hsz := hW.size
  obtain ⟨y1, y2, y3, y4⟩ := y
  have BW : Aside (Below w.heap.size w W) := hW
  clear hW
  show Calls Try.prog 40 #[.agg #[.int .i64 y1, .int .i64 y2, .int .i64 y3, .int .i64 y4], .pointer (some ⟨A, 0, none⟩), .pointer (some ⟨B, 0, none⟩), .pointer (some ⟨C, 0, none⟩), .pointer (some ⟨D, 0, none⟩)] W _
  go_enter Try.func40, Try.ntmps40
  go_wp2
  all_goals go_ret
  all_goals refine ⟨ret_bool (by first | (simp [*]; done) | (rw [Bool.eq_iff_iff]; simp [*]; done) | (rw [Bool.eq_iff_iff]; simp; omega) | (rw [Bool.eq_iff_iff]; simp [*]; omega)), ?_⟩
  all_goals try (
    repeat (first | (with_reducible exact Below.refl _ _) | (with_reducible assumption) | (with_reducible refine below_to_plus ?_ ?_ _) | (with_reducible refine below_holds ?_ ?_ _ _) | (with_reducible refine Below.alloc ?_ ?_ _) | (with_reducible refine Below.drew ?_) | (with_reducible refine below_drewN ?_ _) | (with_reducible refine Below.setCell ?_ ?_ _))
    all_goals first | omega | (simp; done) | (simp [go_sem]; done) | (simp [go_sem]; omega))

set_option maxHeartbeats 1000000 in
theorem pred_grant (x1 x2 x3 x4 : Int) (B : Nat) (w : World) (hB : B < w.heap.size) (cB0 : w.cell? ⟨B, 0, none⟩ = some (.int .i64 x1)) (cB1 : w.cell? ⟨B, 1, none⟩ = some (.int .i64 x2)) (cB2 : w.cell? ⟨B, 2, none⟩ = some (.int .i64 x3)) (cB3 : w.cell? ⟨B, 3, none⟩ = some (.int .i64 x4)) :
    PredB Try.prog 35 #[.pointer (some ⟨B, 0, none⟩)] Le.val (fun y => conflictB ⟨x1, x2, x3, x4⟩ y) w := fun W y hW => by
  have HB : B < W.heap.size := Nat.lt_of_lt_of_le hB hW.size
  have CB0 : W.cell? ⟨B, 0, none⟩ = some (.int .i64 x1) := (hW.cell (p := ⟨B, 0, none⟩) hB).trans cB0
  have CB1 : W.cell? ⟨B, 1, none⟩ = some (.int .i64 x2) := (hW.cell (p := ⟨B, 1, none⟩) hB).trans cB1
  have CB2 : W.cell? ⟨B, 2, none⟩ = some (.int .i64 x3) := (hW.cell (p := ⟨B, 2, none⟩) hB).trans cB2
  have CB3 : W.cell? ⟨B, 3, none⟩ = some (.int .i64 x4) := (hW.cell (p := ⟨B, 3, none⟩) hB).trans cB3
  clear cB0 cB1 cB2 cB3
  have hsz := hW.size
  obtain ⟨y1, y2, y3, y4⟩ := y
  have BW : Aside (Below w.heap.size w W) := hW
  clear hW
  have cc := fun w => conflicts_calls x1 x2 x3 x4 y1 y2 y3 y4 w
  show Calls _ _ _ _ (fun e w' => e = .returned (.bool (conflictB ⟨x1, x2, x3, x4⟩ ⟨y1, y2, y3, y4⟩)) ∧ Below W.heap.size W w')
  generalize conflictB ⟨x1, x2, x3, x4⟩ ⟨y1, y2, y3, y4⟩ = r at cc ⊢
  show Calls Try.prog 35 #[.agg #[.int .i64 y1, .int .i64 y2, .int .i64 y3, .int .i64 y4], .pointer (some ⟨B, 0, none⟩)] W _
  go_enter Try.func35, Try.ntmps35
  go_wp2_with (first | (go_at_call 36; (with_reducible refine (cc _).mono ?_); (rintro e w1 ⟨rfl, hb⟩; obtain ⟨x, hx⟩ := plus_of_below hb; subst hx); clear hb))
  all_goals go_ret
  all_goals refine ⟨rfl, ?_⟩
  all_goals try (
    repeat (first | (with_reducible exact Below.refl _ _) | (with_reducible assumption) | (with_reducible refine below_to_plus ?_ ?_ _) | (with_reducible refine below_holds ?_ ?_ _ _) | (with_reducible refine Below.alloc ?_ ?_ _) | (with_reducible refine Below.drew ?_) | (with_reducible refine below_drewN ?_ _) | (with_reducible refine Below.setCell ?_ ?_ _))
    all_goals first | omega | (simp; done) | (simp [go_sem]; done) | (simp [go_sem]; omega))

set_option maxHeartbeats 2000000 in
theorem indexFunc_calls (p : Le → Bool) (g : Nat) (lb : Array Value) (eg : ∀ args w, (callFunc g args).run Try.prog w = .ok (.enter g args) w) (ao : Option Addr) (n cap : Nat) (xs : List Le) (w : World)
    (h : Sl w 4 ao n cap (xs.map Le.enc)) (hp : PredB Try.prog g lb Le.val p w) :
    Calls Try.prog 47 #[.slice ao n cap, .func (.func g) #[] lb] w fun e w' => e = .returned (.int .i64 (Lib.idxBy (fun _ y => p y) xs default)) ∧ Below w.heap.size w w' := by
  have hbig : n ≤ 9223372036854775807 := Nat.le_trans h.hcap h.hmax
  have hln := Sl.len h
  by_cases hn : n = 0
  · subst hn
    have hxs : xs = [] := List.eq_nil_of_length_eq_zero hln
    subst hxs
    clear h hp
    go_enter Try.func47, Try.ntmps47
    go_wp2
    go_loopg [5, 8] 0 (fun gg _ s8 wr => s8 = .int .i64 0 ∧ Aside (Below w.heap.size w wr))
    case atStart => exact ⟨rfl, Below.refl _ w⟩
    case round =>
      obtain ⟨rfl, BW⟩ := hrel
      go_wp2
      go_ret
      exact ⟨rfl, BW.out⟩
  obtain ⟨b, off, rfl, hb, hc⟩ := Sl.open4 h (by omega)
  have HC : Aside (∀ j, j < n → w.cell? ⟨b, off + j * 4, none⟩ = some (.int .i64 xs[j]!.conn) ∧ w.cell? ⟨b, off + j * 4 + 1, none⟩ = some (.int .i64 xs[j]!.id) ∧ w.cell? ⟨b, off + j * 4 + 2, none⟩ = some (.int .i64 xs[j]!.kind) ∧
      w.cell? ⟨b, off + j * 4 + 3, none⟩ = some (.int .i64 xs[j]!.til)) := hc
  clear hc h
  go_enter Try.func47, Try.ntmps47
  go_wp2
  go_loopg [5, 8] n (fun gg _ s8 wr => ∃ kk : Nat, kk ≤ n ∧ n - kk ≤ gg ∧ s8 = .int .i64 kk ∧ Aside (Below w.heap.size w wr) ∧ Aside (∀ j, j < kk → p xs[j]! = false))
  case atStart => exact ⟨0, Nat.zero_le _, by omega, rfl, Below.refl _ w, fun j hj => absurd hj (Nat.not_lt_zero _)⟩
  case round =>
    obtain ⟨kk, hkk, hg, rfl, BW, A⟩ := hrel
    by_cases hlt : kk < n
    · have hltz : (kk : Int) < (n : Int) := by omega
      obtain ⟨q0, q1, q2, q3⟩ := HC.out kk hlt
      have l0 := (BW.out.cell (p := ⟨b, off + kk * 4, none⟩) hb).trans q0
      have l1 := (BW.out.cell (p := ⟨b, off + kk * 4 + 1, none⟩) hb).trans q1
      have l2 := (BW.out.cell (p := ⟨b, off + kk * 4 + 2, none⟩) hb).trans q2
      have l3 := (BW.out.cell (p := ⟨b, off + kk * 4 + 3, none⟩) hb).trans q3
      have hcall := hp wr xs[kk]! BW.out
      clear hp q0 q1 q2 q3
      generalize hy : xs[kk]! = y at l0 l1 l2 l3 hcall
      have B : Aside (xs[kk]! = y) := hy
      clear hy
      have hcall' : Calls Try.prog g (#[.agg #[.int .i64 y.conn, .int .i64 y.id, .int .i64 y.kind, .int .i64 y.til]] ++ lb) wr fun e w' => e = .returned (.bool (p y)) ∧ Below wr.heap.size wr w' := hcall
      clear hcall
      cases hq : p y with
      | true =>
        rw [hq] at hcall'
        go_wp2_with (go_at_fn g; refine hcall'.mono ?_; rintro e w' ⟨rfl, hb'⟩)
        go_ret
        refine ⟨?_, BW.out.trans (hb'.mono BW.out.size)⟩
        rw [← List.take_of_length_le (Nat.le_of_eq hln), Lib.idxBy_hit (fun _ y => p y) xs n kk default hlt (by omega) (by show p xs[kk]! = true; rw [B.out]; exact hq) A.out]
        rfl
      | false =>
        rw [hq] at hcall'
        go_wp2_with (go_at_fn g; refine hcall'.mono ?_; rintro e w' ⟨rfl, hb'⟩)
        go_roundg (n - (kk + 1))
        case measure => omega
        case rel =>
          refine ⟨kk + 1, by omega, by omega, by go_num, BW.out.trans (hb'.mono BW.out.size), (show Aside _ from fun j hj => ?_)⟩
          by_cases e : j = kk
          · subst e
            rw [B.out]; exact hq
          · exact A.out j (by omega)
    · have hltz : ¬ (kk : Int) < (n : Int) := by omega
      have : kk = n := by omega
      subst this
      go_wp2
      go_ret
      refine ⟨?_, BW.out⟩
      rw [← List.take_of_length_le (Nat.le_of_eq hln), Lib.idxBy_miss (fun _ y => p y) xs kk default A.out]
      rfl

theorem containsFunc_calls (p : Le → Bool) (g : Nat) (lb : Array Value) (eg : ∀ args w, (callFunc g args).run Try.prog w = .ok (.enter g args) w) (ao : Option Addr) (n cap : Nat) (xs : List Le) (w : World)
    (h : Sl w 4 ao n cap (xs.map Le.enc)) (hp : PredB Try.prog g lb Le.val p w) :
    Calls Try.prog 34 #[.slice ao n cap, .func (.func g) #[] lb] w fun e w' => e = .returned (.bool (xs.any p)) ∧ Below w.heap.size w w' := by
  rw [show xs.any p = decide (0 ≤ Lib.idxBy (fun _ y => p y) xs default) from (Lib.idxBy_nonneg_iff (fun _ y => p y) xs default).symm]
  have hi := indexFunc_calls p g lb eg ao n cap xs w h hp
  clear h hp
  generalize Lib.idxBy (fun _ y => p y) xs default = r at hi ⊢
  go_enter Try.func34, Try.ntmps34
  go_wp2_with (go_at_call 47; refine hi.mono ?_; rintro e w' ⟨rfl, hb'⟩)
  go_ret
  exact ⟨rfl, hb'⟩

end Go.Proofs.Ytodmgdihkhakpaa
