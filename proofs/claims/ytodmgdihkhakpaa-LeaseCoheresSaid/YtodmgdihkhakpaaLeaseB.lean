/- This text proves the walks of cmp.Or, of order and of the closures of package lease. Conditions: those that each theorem names. -/
import Derived.Test.YtodmgdihkhakpaaLeaseA
import Derived.Deep.LoopGhost
import Derived.Shelf.SlicesQ.IndexFunc
namespace Go.Proofs.Ytodmgdihkhakpaa
open Go.ChangeShapes Go.WideShapes Go.ChangeAt Go.RowKit
set_option linter.unusedVariables false

theorem plus_self (w : World) : w = plus w { w with heap := #[] } := by simp [plus]
theorem plus_plus (w x y : World) : ∃ z, plus (plus w x) y = plus w z := plus_next (below_plus (plus w x) y)

set_option maxHeartbeats 1000000 in
theorem or_calls (p q : Int) (b cap : Nat) (w : World) (hb : b < w.heap.size) (hp : w.cell? ⟨b, 0, none⟩ = some (.int .i64 p)) (hq : w.cell? ⟨b, 1, none⟩ = some (.int .i64 q)) (hcap : 2 ≤ cap) (hmax : cap ≤ 9223372036854775807) :
    Calls Try.prog 45 #[.slice (some ⟨b, 0, none⟩) 2 cap] w fun e w' => e = .returned (.int .i64 (if p ≠ 0 then p else q)) ∧ Below w.heap.size w w' := by
  go_enter Try.func45, Try.ntmps45
  go_wp2
  go_loopg [8] 2 (fun k i wr => ∃ (idx : Nat) (x : World), i = .int .i64 (idx : Int) ∧ wr = plus w x ∧ k + idx = 2 ∧ (0 < idx → p = 0) ∧ (1 < idx → q = 0))
  · exact ⟨0, _, rfl, plus_self w, by omega, by omega, by omega⟩
  · obtain ⟨idx, x, rfl, rfl, hk, h1, h2⟩ := hrel
    obtain rfl | rfl | rfl : idx = 0 ∨ idx = 1 ∨ idx = 2 := by omega
    · clear h1 h2
      by_cases h0 : p = 0
      · subst h0
        go_wp2
        go_roundg 1
        case measure => omega
        case rel => exact ⟨1, x, rfl, rfl, by omega, by simp, by omega⟩
      · have h0' : (p != 0) = true := by simp [h0]
        go_wp2
        go_ret
        refine ⟨ret_int (by simp), ?_⟩
        repeat (first | (with_reducible exact Below.refl _ _) | (with_reducible assumption) | (with_reducible refine below_to_plus ?_ ?_ _) | (with_reducible refine below_holds ?_ ?_ _ _) | (with_reducible refine Below.alloc ?_ ?_ _) | (with_reducible refine Below.drew ?_) | (with_reducible refine below_drewN ?_ _) | (with_reducible refine Below.setCell ?_ ?_ _))
        all_goals first | omega | (simp; done) | (simp [go_sem]; done) | (simp [go_sem]; omega)
    · have h3 := h1 (by omega)
      subst h3
      clear h1 h2
      by_cases h0 : q = 0
      · subst h0
        go_wp2
        go_roundg 0
        case measure => omega
        case rel => exact ⟨2, x, rfl, rfl, by omega, by simp, by simp⟩
      · have h0' : (q != 0) = true := by simp [h0]
        go_wp2
        go_ret
        refine ⟨ret_int (by simp), ?_⟩
        repeat (first | (with_reducible exact Below.refl _ _) | (with_reducible assumption) | (with_reducible refine below_to_plus ?_ ?_ _) | (with_reducible refine below_holds ?_ ?_ _ _) | (with_reducible refine Below.alloc ?_ ?_ _) | (with_reducible refine Below.drew ?_) | (with_reducible refine below_drewN ?_ _) | (with_reducible refine Below.setCell ?_ ?_ _))
        all_goals first | omega | (simp; done) | (simp [go_sem]; done) | (simp [go_sem]; omega)
    · have h3 := h1 (by omega)
      have h4 := h2 (by omega)
      subst h3
      subst h4
      clear h1 h2
      go_wp2
      go_ret
      refine ⟨ret_int (by simp), ?_⟩
      repeat (first | (with_reducible exact Below.refl _ _) | (with_reducible assumption) | (with_reducible refine below_to_plus ?_ ?_ _) | (with_reducible refine below_holds ?_ ?_ _ _) | (with_reducible refine Below.alloc ?_ ?_ _) | (with_reducible refine Below.drew ?_) | (with_reducible refine below_drewN ?_ _) | (with_reducible refine Below.setCell ?_ ?_ _))
      all_goals first | omega | (simp; done) | (simp [go_sem]; done) | (simp [go_sem]; omega)

set_option maxHeartbeats 1000000 in
theorem order_calls (a1 a2 a3 a4 b1 b2 b3 b4 : Int) (w : World) :
    Calls Try.prog 29 #[.agg #[.int .i64 a1, .int .i64 a2, .int .i64 a3, .int .i64 a4], .agg #[.int .i64 b1, .int .i64 b2, .int .i64 b3, .int .i64 b4]] w fun e w' => e = .returned (.int .i64 (orderI ⟨a1, a2, a3, a4⟩ ⟨b1, b2, b3, b4⟩)) ∧ Below w.heap.size w w' := by
  have c1 := fun w => compare_calls a2 b2 w
  have c2 := fun w => compare_calls a1 b1 w
  have ho : orderI ⟨a1, a2, a3, a4⟩ ⟨b1, b2, b3, b4⟩ = if cmpI a2 b2 ≠ 0 then cmpI a2 b2 else cmpI a1 b1 := rfl
  rw [ho]
  clear ho
  generalize cmpI a2 b2 = r1 at c1 ⊢
  generalize cmpI a1 b1 = r2 at c2 ⊢
  generalize hr : (if r1 ≠ 0 then r1 else r2) = r
  have hor : ∀ (b : Nat) (w : World), b < w.heap.size → w.cell? ⟨b, 0, none⟩ = some (.int .i64 r1) → w.cell? ⟨b, 1, none⟩ = some (.int .i64 r2) →
      Calls Try.prog 45 #[.slice (some ⟨b, 0, none⟩) 2 2] w fun e w' => e = .returned (.int .i64 r) ∧ Below w.heap.size w w' := by
    intro b w h1 h2 h3
    rw [← hr]
    exact or_calls r1 r2 b 2 w h1 h2 h3 (by omega) (by omega)
  clear hr
  go_enter Try.func29, Try.ntmps29
  go_wp2
  refine wp_region_mix_plus 10 [] (by kernel_rfl) (by kernel_rfl) ?_
  simp only [List.take, List.drop]
  refine mix_quiet rfl rfl (fun K hK => ?_)
  simp [go_sem]
  refine hK _ ?_
  clear hK
  clear K
  refine mix_quiet rfl rfl (fun K hK => ?_)
  simp [go_sem]
  refine hK _ ?_
  clear hK
  clear K
  refine mix_quiet rfl rfl (fun K hK => ?_)
  simp [go_sem]
  refine hK _ ?_
  clear hK
  clear K
  refine mix_quiet rfl rfl (fun K hK => ?_)
  simp [go_sem]
  refine hK _ ?_
  clear hK
  clear K
  refine mix_quiet rfl rfl (fun K hK => ?_)
  simp [go_sem]
  refine ⟨_, fun x => c1 _, hK _ ?_⟩
  clear hK
  clear K
  refine mix_quiet rfl rfl (fun K hK => ?_)
  simp [go_sem]
  refine hK _ ?_
  clear hK
  clear K
  refine mix_quiet rfl rfl (fun K hK => ?_)
  simp [go_sem]
  refine hK _ ?_
  clear hK
  clear K
  refine mix_quiet rfl rfl (fun K hK => ?_)
  simp [go_sem]
  refine hK _ ?_
  clear hK
  clear K
  refine mix_quiet rfl rfl (fun K hK => ?_)
  simp [go_sem]
  refine hK _ ?_
  clear hK
  clear K
  refine mix_quiet rfl rfl (fun K hK => ?_)
  simp [go_sem]
  refine ⟨_, fun x => c2 _, hK _ ?_⟩
  clear hK
  clear K
  refine mix_nil ?_
  rintro _ ⟨y, rfl⟩
  refine specEnd_nil ?_
  go_wp2_with (first | (go_at_call 45; (with_reducible refine (hor _ _ ?_ ?_ ?_).mono ?_); (rotate_left 3); (rintro e w1 ⟨rfl, hb⟩; obtain ⟨x, hx⟩ := plus_of_below hb; subst hx); clear hb))
  go_ret
  refine ⟨rfl, ?_⟩
  repeat (first | (with_reducible exact Below.refl _ _) | (with_reducible assumption) | (with_reducible refine below_to_plus ?_ ?_ _) | (with_reducible refine below_holds ?_ ?_ _ _) | (with_reducible refine Below.alloc ?_ ?_ _) | (with_reducible refine Below.drew ?_) | (with_reducible refine below_drewN ?_ _) | (with_reducible refine Below.setCell ?_ ?_ _))
  all_goals first | omega | (simp; done) | (simp [go_sem]; done) | (simp [go_sem]; omega)

end Go.Proofs.Ytodmgdihkhakpaa
