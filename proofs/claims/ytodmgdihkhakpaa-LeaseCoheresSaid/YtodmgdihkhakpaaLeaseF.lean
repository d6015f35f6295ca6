/- This text proves the walks of without, Clean and Forget of package lease. Conditions: those that each theorem names. -/
import Derived.Test.YtodmgdihkhakpaaLeaseE
namespace Go.Proofs.Ytodmgdihkhakpaa
open Go.ChangeShapes Go.WideShapes Go.ChangeAt Go.RowKit
set_option linter.unusedVariables false

set_option maxHeartbeats 1000000 in
theorem without_calls (p : Le → Bool) (f : Nat) (lb : Array Value) (eg : ∀ args w, (callFunc f args).run Try.prog w = .ok (.enter f args) w) (ao : Option Addr) (n cap : Nat) (xs : List Le) (w : World)
    (h : Sl w 4 ao n cap (xs.map Le.enc)) (hp : PredB Try.prog f lb Le.val p w) (hn : n ≤ 1000000) :
    Calls Try.prog 41 #[.slice ao n cap, .func (.func f) #[] lb] w fun e w' => ∃ v', e = .returned v' ∧ w'.ownsRow w.heap.size 36 4 v' (xs.filter fun x => !p x).length (flat (xs.filter fun x => !p x)) ∧ Below w.heap.size w w' := by
  have c1 := clone_calls ao n cap xs w h hn
  have c2 : ∀ v w1, w1.ownsRow w.heap.size 36 4 v n (flat xs) → Below w.heap.size w w1 → Calls Try.prog 50 #[v, .func (.func f) #[] lb] w1 fun e w' => ∃ v', e = .returned v' ∧ w'.ownsRow w.heap.size 36 4 v' (xs.filter fun x => !p x).length (flat (xs.filter fun x => !p x)) ∧ Below w.heap.size w1 w' :=
    fun v w1 hown hb => deleteFunc_calls p f lb eg v n _ xs w1 hown hb.size (hp.later hb) hn w hb hp rfl
  clear h hp
  generalize xs.filter (fun x => !p x) = ys at c2 ⊢
  go_enter Try.func41, Try.ntmps41
  go_wp2_with (first | (go_at_call 33; refine c1.mono ?_; rintro e w1 ⟨v', rfl, hown, hb⟩; have c3 := c2 _ _ hown hb; clear c2 c1) | (go_at_call 50; refine c3.mono ?_; rintro e w2 ⟨v2, rfl, hown2, hb2⟩))
  go_ret
  exact ⟨v2, rfl, hown2, hb.trans hb2⟩

theorem own_lower {w : World} {B B' : Nat} {v : Value} {n : Nat} {l : List Value} (h : w.ownsRow B 36 4 v n l) (hB : B' ≤ B) : w.ownsRow B' 36 4 v n l := by
  obtain ⟨h1, h2 | ⟨g, cap, cur, h3, h4, h5⟩⟩ := h
  · exact ⟨h1, .inl h2⟩
  · exact ⟨h1, .inr ⟨g, cap, cur, h3, Nat.le_trans hB h4, h5⟩⟩

set_option maxHeartbeats 1000000 in
theorem clean_calls (ao : Option Addr) (n cap : Nat) (xs : List Le) (k : Int) (w : World) (h : Sl w 4 ao n cap (xs.map Le.enc)) (hn : n ≤ 1000000) :
    Calls Try.prog 23 #[.slice ao n cap, .int .i64 k] w fun e w' => ∃ v', e = .returned v' ∧ w'.ownsRow w.heap.size 36 4 v' (xs.filter fun x => !(decide (x.til ≤ k))).length (flat (xs.filter fun x => !(decide (x.til ≤ k)))) ∧ Below w.heap.size w w' := by
  have eg : ∀ args w, (callFunc 43 args).run Try.prog w = .ok (.enter 43 args) w := enters_of Try.func43 (by kernel_rfl) rfl
  have hb0 : Below w.heap.size w (w.alloc (.cells #[.int .i64 k] 3)) := (Below.refl _ w).alloc (Nat.le_refl _) _
  have c := without_calls (fun x => decide (x.til ≤ k)) 43 #[.pointer (some ⟨w.heap.size, 0, none⟩)] eg ao n cap xs (w.alloc (.cells #[.int .i64 k] 3)) (h.stays hb0) (pred_clean k w.heap.size _ (by simp) (by simp)) hn
  clear h
  generalize xs.filter (fun x => !(decide (x.til ≤ k))) = ys at c ⊢
  go_enter Try.func23, Try.ntmps23
  go_wp2_with (go_at_call 41; refine c.mono ?_; rintro e w1 ⟨v', rfl, hown, hb⟩)
  go_ret
  refine ⟨v', rfl, own_lower hown (by simp), hb0.trans (hb.mono (by simp))⟩

set_option maxHeartbeats 1000000 in
theorem forget_calls (ao : Option Addr) (n cap : Nat) (xs : List Le) (k : Int) (w : World) (h : Sl w 4 ao n cap (xs.map Le.enc)) (hn : n ≤ 1000000) :
    Calls Try.prog 24 #[.slice ao n cap, .int .i64 k] w fun e w' => ∃ v', e = .returned v' ∧ w'.ownsRow w.heap.size 36 4 v' (xs.filter fun x => !(decide (x.conn = k))).length (flat (xs.filter fun x => !(decide (x.conn = k)))) ∧ Below w.heap.size w w' := by
  have eg : ∀ args w, (callFunc 44 args).run Try.prog w = .ok (.enter 44 args) w := enters_of Try.func44 (by kernel_rfl) rfl
  have hb0 : Below w.heap.size w (w.alloc (.cells #[.int .i64 k] 3)) := (Below.refl _ w).alloc (Nat.le_refl _) _
  have c := without_calls (fun x => decide (x.conn = k)) 44 #[.pointer (some ⟨w.heap.size, 0, none⟩)] eg ao n cap xs (w.alloc (.cells #[.int .i64 k] 3)) (h.stays hb0) (pred_forget k w.heap.size _ (by simp) (by simp)) hn
  clear h
  generalize xs.filter (fun x => !(decide (x.conn = k))) = ys at c ⊢
  go_enter Try.func24, Try.ntmps24
  go_wp2_with (go_at_call 41; refine c.mono ?_; rintro e w1 ⟨v', rfl, hown, hb⟩)
  go_ret
  refine ⟨v', rfl, own_lower hown (by simp), hb0.trans (hb.mono (by simp))⟩

end Go.Proofs.Ytodmgdihkhakpaa
