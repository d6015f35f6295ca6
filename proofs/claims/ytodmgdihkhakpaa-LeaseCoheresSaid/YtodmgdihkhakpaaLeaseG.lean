/- This text proves the walks of Drop, Blocks and Valid of package lease. Conditions: those that each theorem names. -/
import Derived.Test.YtodmgdihkhakpaaLeaseF
namespace Go.Proofs.Ytodmgdihkhakpaa
open Go.ChangeShapes Go.WideShapes Go.ChangeAt Go.RowKit
set_option linter.unusedVariables false

set_option maxHeartbeats 2000000 in
theorem blocks_calls (ao : Option Addr) (n cap : Nat) (xs : List Le) (cn fid kd now : Int) (w : World) (h : Sl w 4 ao n cap (xs.map Le.enc)) :
    Calls Try.prog 15 #[.slice ao n cap, .int .i64 cn, .int .i64 fid, .int .i64 kd, .int .i64 now] w fun e w' => e = .returned (.bool (kindB kd && xs.any fun y => decide (y.id = fid ∧ y.conn ≠ cn ∧ now < y.til ∧ (kd = 2 ∨ y.kind = 2)))) ∧ Below w.heap.size w w' := by
  have eg : ∀ args w, (callFunc 39 args).run Try.prog w = .ok (.enter 39 args) w := enters_of Try.func39 (by kernel_rfl) rfl
  have hb0 : Below w.heap.size w ((((w.alloc (.cells #[.int .i64 cn] 3)).alloc (.cells #[.int .i64 fid] 3)).alloc (.cells #[.int .i64 kd] 3)).alloc (.cells #[.int .i64 now] 3)) := (((((Below.refl _ w).alloc (Nat.le_refl _) _).alloc (by simp) _).alloc (by first | (simp; done) | (simp; omega)) _).alloc (by first | (simp; done) | (simp; omega)) _)
  have ci := fun w => isKind_calls kd w
  have c := fun (w1 : World) (hb1 : Below ((((w.alloc (.cells #[.int .i64 cn] 3)).alloc (.cells #[.int .i64 fid] 3)).alloc (.cells #[.int .i64 kd] 3)).alloc (.cells #[.int .i64 now] 3)).heap.size ((((w.alloc (.cells #[.int .i64 cn] 3)).alloc (.cells #[.int .i64 fid] 3)).alloc (.cells #[.int .i64 kd] 3)).alloc (.cells #[.int .i64 now] 3)) w1) => containsFunc_calls (fun y => decide (y.id = fid ∧ y.conn ≠ cn ∧ now < y.til ∧ (kd = 2 ∨ y.kind = 2))) 39 #[.pointer (some ⟨w.heap.size + 1, 0, none⟩), .pointer (some ⟨w.heap.size, 0, none⟩), .pointer (some ⟨w.heap.size + 1 + 1 + 1, 0, none⟩), .pointer (some ⟨w.heap.size + 1 + 1, 0, none⟩)] eg ao n cap xs w1
    ((h.stays hb0).stays hb1) ((pred_blocks fid cn now kd (w.heap.size + 1) w.heap.size (w.heap.size + 1 + 1 + 1) (w.heap.size + 1 + 1) ((((w.alloc (.cells #[.int .i64 cn] 3)).alloc (.cells #[.int .i64 fid] 3)).alloc (.cells #[.int .i64 kd] 3)).alloc (.cells #[.int .i64 now] 3)) (by first | (simp; done) | (simp; omega)) (by first | (simp; done) | (simp; omega)) (by simp) (by simp) (by simp [go_sem]) (by simp [go_sem]) (by simp [go_sem]) (by simp [go_sem])).later hb1)
  clear h
  generalize xs.any (fun y => decide (y.id = fid ∧ y.conn ≠ cn ∧ now < y.til ∧ (kd = 2 ∨ y.kind = 2))) = r at c ⊢
  cases hk : kindB kd with
  | false =>
    rw [hk] at ci
    go_enter Try.func15, Try.ntmps15
    go_wp2_with (go_at_call 28; (with_reducible refine (ci _).mono ?_); (rintro e w1 ⟨rfl, hb⟩; obtain ⟨x, hx⟩ := plus_of_below hb; subst hx); clear hb)
    go_ret
    refine ⟨rfl, ?_⟩
    repeat (first | (with_reducible exact Below.refl _ _) | (with_reducible assumption) | (with_reducible refine below_to_plus ?_ ?_ _) | (with_reducible refine below_holds ?_ ?_ _ _) | (with_reducible refine Below.alloc ?_ ?_ _) | (with_reducible refine Below.drew ?_) | (with_reducible refine below_drewN ?_ _) | (with_reducible refine Below.setCell ?_ ?_ _))
    all_goals first | omega | (simp; done) | (simp [go_sem]; done) | (simp [go_sem]; omega)
  | true =>
    rw [hk] at ci
    go_enter Try.func15, Try.ntmps15
    go_wp2_with (first | (go_at_call 28; (with_reducible refine (ci _).mono ?_); (rintro e w1 ⟨rfl, hb⟩; obtain ⟨x, hx⟩ := plus_of_below hb; subst hx); clear hb) | (go_at_call 34; refine (c _ (below_plus _ _)).mono ?_; rintro e w2 ⟨rfl, hb2⟩))
    go_ret
    exact ⟨by simp, (hb0.trans ((below_plus _ _).mono hb0.size)).trans (hb2.mono (Nat.le_trans hb0.size (below_plus _ _).size))⟩

set_option maxHeartbeats 2000000 in
theorem valid_calls (ao : Option Addr) (n cap : Nat) (xs : List Le) (cn fid kd now : Int) (w : World) (h : Sl w 4 ao n cap (xs.map Le.enc)) :
    Calls Try.prog 17 #[.slice ao n cap, .int .i64 cn, .int .i64 fid, .int .i64 kd, .int .i64 now] w fun e w' => e = .returned (.bool (kindB kd && xs.any fun y => decide (y.id = fid ∧ y.conn = cn ∧ now < y.til ∧ (kd = 1 ∨ y.kind = 2)))) ∧ Below w.heap.size w w' := by
  have eg : ∀ args w, (callFunc 40 args).run Try.prog w = .ok (.enter 40 args) w := enters_of Try.func40 (by kernel_rfl) rfl
  have hb0 : Below w.heap.size w ((((w.alloc (.cells #[.int .i64 cn] 3)).alloc (.cells #[.int .i64 fid] 3)).alloc (.cells #[.int .i64 kd] 3)).alloc (.cells #[.int .i64 now] 3)) := (((((Below.refl _ w).alloc (Nat.le_refl _) _).alloc (by simp) _).alloc (by first | (simp; done) | (simp; omega)) _).alloc (by first | (simp; done) | (simp; omega)) _)
  have ci := fun w => isKind_calls kd w
  have c := fun (w1 : World) (hb1 : Below ((((w.alloc (.cells #[.int .i64 cn] 3)).alloc (.cells #[.int .i64 fid] 3)).alloc (.cells #[.int .i64 kd] 3)).alloc (.cells #[.int .i64 now] 3)).heap.size ((((w.alloc (.cells #[.int .i64 cn] 3)).alloc (.cells #[.int .i64 fid] 3)).alloc (.cells #[.int .i64 kd] 3)).alloc (.cells #[.int .i64 now] 3)) w1) => containsFunc_calls (fun y => decide (y.id = fid ∧ y.conn = cn ∧ now < y.til ∧ (kd = 1 ∨ y.kind = 2))) 40 #[.pointer (some ⟨w.heap.size + 1, 0, none⟩), .pointer (some ⟨w.heap.size, 0, none⟩), .pointer (some ⟨w.heap.size + 1 + 1 + 1, 0, none⟩), .pointer (some ⟨w.heap.size + 1 + 1, 0, none⟩)] eg ao n cap xs w1
    ((h.stays hb0).stays hb1) ((pred_valid fid cn now kd (w.heap.size + 1) w.heap.size (w.heap.size + 1 + 1 + 1) (w.heap.size + 1 + 1) ((((w.alloc (.cells #[.int .i64 cn] 3)).alloc (.cells #[.int .i64 fid] 3)).alloc (.cells #[.int .i64 kd] 3)).alloc (.cells #[.int .i64 now] 3)) (by first | (simp; done) | (simp; omega)) (by first | (simp; done) | (simp; omega)) (by simp) (by simp) (by simp [go_sem]) (by simp [go_sem]) (by simp [go_sem]) (by simp [go_sem])).later hb1)
  clear h
  generalize xs.any (fun y => decide (y.id = fid ∧ y.conn = cn ∧ now < y.til ∧ (kd = 1 ∨ y.kind = 2))) = r at c ⊢
  cases hk : kindB kd with
  | false =>
    rw [hk] at ci
    go_enter Try.func17, Try.ntmps17
    go_wp2_with (go_at_call 28; (with_reducible refine (ci _).mono ?_); (rintro e w1 ⟨rfl, hb⟩; obtain ⟨x, hx⟩ := plus_of_below hb; subst hx); clear hb)
    go_ret
    refine ⟨rfl, ?_⟩
    repeat (first | (with_reducible exact Below.refl _ _) | (with_reducible assumption) | (with_reducible refine below_to_plus ?_ ?_ _) | (with_reducible refine below_holds ?_ ?_ _ _) | (with_reducible refine Below.alloc ?_ ?_ _) | (with_reducible refine Below.drew ?_) | (with_reducible refine below_drewN ?_ _) | (with_reducible refine Below.setCell ?_ ?_ _))
    all_goals first | omega | (simp; done) | (simp [go_sem]; done) | (simp [go_sem]; omega)
  | true =>
    rw [hk] at ci
    go_enter Try.func17, Try.ntmps17
    go_wp2_with (first | (go_at_call 28; (with_reducible refine (ci _).mono ?_); (rintro e w1 ⟨rfl, hb⟩; obtain ⟨x, hx⟩ := plus_of_below hb; subst hx); clear hb) | (go_at_call 34; refine (c _ (below_plus _ _)).mono ?_; rintro e w2 ⟨rfl, hb2⟩))
    go_ret
    exact ⟨by simp, (hb0.trans ((below_plus _ _).mono hb0.size)).trans (hb2.mono (Nat.le_trans hb0.size (below_plus _ _).size))⟩

end Go.Proofs.Ytodmgdihkhakpaa
