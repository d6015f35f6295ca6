/- This text proves the walk of awake of the statements on leases: it returns true. It has no conditions. -/
import Derived.Test.YtodmgdihkhakpaaLeaseR
namespace Go.Proofs.Ytodmgdihkhakpaa
open Go.ChangeShapes Go.WideShapes Go.ChangeAt Go.RowKit
set_option linter.unusedVariables false

theorem sl_nil (w : World) : Sl w 4 none 0 0 (([] : List Le).map Le.enc) := ⟨rfl, Nat.le_refl _, by omega, by simp, fun h => absurd h (Nat.lt_irrefl _), fun _ => rfl⟩
theorem awake_g1 (ao : Option Addr) (cap : Nat) (w : World) (h : Sl w 4 ao 0 cap ((([] : List Le)).map Le.enc)) :
    Calls Try.prog 12 #[.slice ao 0 cap, .int .i64 1, .int .i64 7, .int .i64 1, .int .i64 10, .int .i64 5] w fun e w' => ∃ ao' cap', e = .returned (.tuple #[.slice ao' 1 cap', .int .i64 15, .int .i64 0]) ∧ Sl w' 4 ao' 1 cap' ((([⟨1, 7, 1, 15⟩] : List Le)).map Le.enc) ∧ Below w.heap.size w w' := by
  have e : grantF [] 1 7 1 10 5 = ([⟨1, 7, 1, 15⟩], 15, 0) := rfl
  have hs : SortedL [] := ((rightB_iff _).1 (show rightB [] = true from rfl)).2.2
  refine (grant_calls ao 0 cap [] 1 7 1 10 5 w h (by omega) hs).mono ?_
  rw [e]
  rintro en w' ⟨ao', cap', rfl, ho, hb⟩
  obtain ⟨a2, c2, hv, hsl⟩ := own_sl ho
  cases hv
  exact ⟨_, _, rfl, hsl, hb⟩

theorem awake_g2 (ao : Option Addr) (cap : Nat) (w : World) (h : Sl w 4 ao 1 cap ((([⟨1, 7, 1, 15⟩] : List Le)).map Le.enc)) :
    Calls Try.prog 12 #[.slice ao 1 cap, .int .i64 2, .int .i64 7, .int .i64 2, .int .i64 10, .int .i64 6] w fun e w' => ∃ ao' cap', e = .returned (.tuple #[.slice ao' 1 cap', .int .i64 0, .int .i64 32]) ∧ Sl w' 4 ao' 1 cap' ((([⟨1, 7, 1, 15⟩] : List Le)).map Le.enc) ∧ Below w.heap.size w w' := by
  have e : grantF [⟨1, 7, 1, 15⟩] 2 7 2 10 6 = ([⟨1, 7, 1, 15⟩], 0, 32) := rfl
  have hs : SortedL [⟨1, 7, 1, 15⟩] := ((rightB_iff _).1 (show rightB [⟨1, 7, 1, 15⟩] = true from rfl)).2.2
  refine (grant_calls ao 1 cap [⟨1, 7, 1, 15⟩] 2 7 2 10 6 w h (by omega) hs).mono ?_
  rw [e]
  rintro en w' ⟨ao', cap', rfl, ho, hb⟩
  obtain ⟨a2, c2, hv, hsl⟩ := own_sl ho
  cases hv
  exact ⟨_, _, rfl, hsl, hb⟩

theorem awake_g3 (ao : Option Addr) (cap : Nat) (w : World) (h : Sl w 4 ao 1 cap ((([⟨1, 7, 1, 15⟩] : List Le)).map Le.enc)) :
    Calls Try.prog 12 #[.slice ao 1 cap, .int .i64 2, .int .i64 7, .int .i64 1, .int .i64 20, .int .i64 6] w fun e w' => ∃ ao' cap', e = .returned (.tuple #[.slice ao' 2 cap', .int .i64 26, .int .i64 0]) ∧ Sl w' 4 ao' 2 cap' ((([⟨1, 7, 1, 15⟩, ⟨2, 7, 1, 26⟩] : List Le)).map Le.enc) ∧ Below w.heap.size w w' := by
  have e : grantF [⟨1, 7, 1, 15⟩] 2 7 1 20 6 = ([⟨1, 7, 1, 15⟩, ⟨2, 7, 1, 26⟩], 26, 0) := rfl
  have hs : SortedL [⟨1, 7, 1, 15⟩] := ((rightB_iff _).1 (show rightB [⟨1, 7, 1, 15⟩] = true from rfl)).2.2
  refine (grant_calls ao 1 cap [⟨1, 7, 1, 15⟩] 2 7 1 20 6 w h (by omega) hs).mono ?_
  rw [e]
  rintro en w' ⟨ao', cap', rfl, ho, hb⟩
  obtain ⟨a2, c2, hv, hsl⟩ := own_sl ho
  cases hv
  exact ⟨_, _, rfl, hsl, hb⟩

set_option maxHeartbeats 4000000 in
theorem awake_calls (w : World) : Calls Try.prog 9 #[] w fun e w' => e = .returned (.bool true) ∧ Below w.heap.size w w' := by
  have kr : ∀ ao cap w, Sl w 4 ao 2 cap ((([⟨1, 7, 1, 15⟩, ⟨2, 7, 1, 26⟩] : List Le)).map Le.enc) → Calls Try.prog 10 #[.slice ao 2 cap] w fun e w' => e = .returned (.bool true) ∧ Below w.heap.size w w' := fun ao cap w h => right_calls ao 2 cap [⟨1, 7, 1, 15⟩, ⟨2, 7, 1, 26⟩] w h
  have kb1 : ∀ ao cap w, Sl w 4 ao 2 cap ((([⟨1, 7, 1, 15⟩, ⟨2, 7, 1, 26⟩] : List Le)).map Le.enc) → Calls Try.prog 15 #[.slice ao 2 cap, .int .i64 1, .int .i64 7, .int .i64 2, .int .i64 6] w fun e w' => e = .returned (.bool true) ∧ Below w.heap.size w w' := fun ao cap w h => blocks_calls ao 2 cap [⟨1, 7, 1, 15⟩, ⟨2, 7, 1, 26⟩] 1 7 2 6 w h
  have kb2 : ∀ ao cap w, Sl w 4 ao 2 cap ((([⟨1, 7, 1, 15⟩, ⟨2, 7, 1, 26⟩] : List Le)).map Le.enc) → Calls Try.prog 15 #[.slice ao 2 cap, .int .i64 1, .int .i64 7, .int .i64 1, .int .i64 6] w fun e w' => e = .returned (.bool false) ∧ Below w.heap.size w w' := fun ao cap w h => blocks_calls ao 2 cap [⟨1, 7, 1, 15⟩, ⟨2, 7, 1, 26⟩] 1 7 1 6 w h
  have kn : ∀ ao cap w, Sl w 4 ao 2 cap ((([⟨1, 7, 1, 15⟩, ⟨2, 7, 1, 26⟩] : List Le)).map Le.enc) → Calls Try.prog 19 #[.slice ao 2 cap, .int .i64 6] w fun e w' => e = .returned (.int .i64 15) ∧ Below w.heap.size w w' := fun ao cap w h => next_calls ao 2 cap [⟨1, 7, 1, 15⟩, ⟨2, 7, 1, 26⟩] 6 w h
  have kv : ∀ ao cap w, Sl w 4 ao 2 cap ((([⟨1, 7, 1, 15⟩, ⟨2, 7, 1, 26⟩] : List Le)).map Le.enc) → Calls Try.prog 17 #[.slice ao 2 cap, .int .i64 2, .int .i64 7, .int .i64 1, .int .i64 25] w fun e w' => e = .returned (.bool true) ∧ Below w.heap.size w w' := fun ao cap w h => valid_calls ao 2 cap [⟨1, 7, 1, 15⟩, ⟨2, 7, 1, 26⟩] 2 7 1 25 w h
  go_enter Try.func9, Try.ntmps9
  go_wp2_with fail
  refine (awake_g1 none 0 w (sl_nil w)).mono ?_
  rintro e W1 ⟨a1, c1, rfl, h1, b1⟩
  go_wp2_with fail
  refine (awake_g2 a1 c1 W1 h1).mono ?_
  rintro e W2 ⟨a2, c2, rfl, _, b2⟩
  have h2 := h1.stays b2
  have B2 := b1.trans (b2.mono b1.size)
  clear h1 b1 b2
  go_wp2_with fail
  refine (awake_g3 a1 c1 W2 h2).mono ?_
  rintro e W3 ⟨a3, c3, rfl, h3, b3⟩
  have B3 := B2.trans (b3.mono B2.size)
  clear h2 b3 B2
  go_wp2_with fail
  refine (kr a3 c3 W3 h3).mono ?_
  rintro e W4 ⟨rfl, b4⟩
  have h4 := h3.stays b4
  have B4 := B3.trans (b4.mono B3.size)
  clear h3 b4 B3
  go_wp2_with fail
  refine (kb1 a3 c3 W4 h4).mono ?_
  rintro e W5 ⟨rfl, b5⟩
  have h5 := h4.stays b5
  have B5 := B4.trans (b5.mono B4.size)
  clear h4 b5 B4
  go_wp2_with fail
  refine (kb2 a3 c3 W5 h5).mono ?_
  rintro e W6 ⟨rfl, b6⟩
  have h6 := h5.stays b6
  have B6 := B5.trans (b6.mono B5.size)
  clear h5 b6 B5
  go_wp2_with fail
  refine (kn a3 c3 W6 h6).mono ?_
  rintro e W7 ⟨rfl, b7⟩
  have h7 := h6.stays b7
  have B7 := B6.trans (b7.mono B6.size)
  clear h6 b7 B6
  go_wp2_with fail
  refine (kv a3 c3 W7 h7).mono ?_
  rintro e W8 ⟨rfl, b8⟩
  have B8 := B7.trans (b8.mono B7.size)
  clear h7 b8 B7
  go_wp2_with fail
  go_ret
  exact ⟨rfl, B8⟩

end Go.Proofs.Ytodmgdihkhakpaa
