/- This text gives the steps of the rule for a region that draws its order whose operations look at values that differ from run to run. It has no conditions. -/
import Derived.Test.YtcgajlobbjoefaaLoose
import Derived.Test.YtcgajlobbjoefaaFlat
namespace Go.Proofs.Ytcgajlobbjoefaa
open Go.ChangeShapes Go.WideShapes Go.ChangeAt Go.RowKit
set_option linter.unusedVariables false

/-- A block that holds a list's cells reads as the list. -/
theorem sl_block {α : Type} {enc : α → List Value} {k : Nat} (hk : ∀ x, (enc x).length = k) (hk0 : 0 < k) {w : World} {nb n : Nat} {T : TypeId} (xs : List α) (hn : xs.length = n) (hm : n ≤ 1000000) (h : w.heap[nb]? = some (.cells (flatE enc xs).toArray T (0, 0))) :
    Sl w k (some ⟨nb, 0, none⟩) n n (xs.map enc) := by
  have hl := flatE_length hk xs
  have ho : w.ownsRow 0 T k (.slice (some ⟨nb, 0, none⟩) n n) n (flatE enc xs) := ⟨by rw [hl, hn], .inr ⟨nb, n, _, rfl, Nat.zero_le _, h, Nat.le_refl _, by unfold maxLen; omega, by simp [hl, hn], by rw [← hn, ← hl]; simp⟩⟩
  obtain ⟨a9, c9, hv9, hsl9⟩ := ownE_sl hk hk0 ho
  cases hv9
  exact hsl9

section
variable {P : Program} {ops : Array Oper} {W : World} {S : List Nat} {Q : List (Option Tmp × SpecV) → Act → Prop} {o : Oper} {rest : List Oper} {k : Nat} {acc : List (Option Tmp × SpecV)} {a : Act}

theorem lo_nil (h : Q acc a) : wpLo P ops (fun w' => ∃ x, w' = plus W x) S Q [] k acc a := h
theorem lo_skip (hs : S.contains k = false) (hw : Region.wanted o (yielded ops a.tmps) = false) (h : wpLo P ops (fun w' => ∃ x, w' = plus W x) S Q rest (k + 1) acc (a.put o.dst undef)) : wpLo P ops (fun w' => ∃ x, w' = plus W x) S Q (o :: rest) k acc a := by
  unfold wpLo
  rw [if_neg (by rw [hs]; exact Bool.false_ne_true), if_neg (by rw [hw]; exact Bool.false_ne_true)]
  exact h
theorem lo_tame (hs : S.contains k = false) (hw : Region.wanted o (yielded ops a.tmps) = true) (hl : looked ops o acc = [])
    (h : ∀ K : Act → Prop, (∀ a, wpLo P ops (fun w' => ∃ x, w' = plus W x) S Q rest (k + 1) acc a → K a) → tame P o a (fun w' => ∃ x, w' = plus W x) K) : wpLo P ops (fun w' => ∃ x, w' = plus W x) S Q (o :: rest) k acc a := by
  unfold wpLo
  rw [if_neg (by rw [hs]; exact Bool.false_ne_true), if_pos hw]
  obtain ⟨v, h1, h2⟩ := h _ (fun _ h => h)
  exact ⟨v, fun w hw => by rw [hl]; exact h1 w hw, h2⟩
theorem lo_tcall (f : FuncId) (args : Array Value) (v : Value) (hs : S.contains k = false) (hw : Region.wanted o (yielded ops a.tmps) = true) (hl : looked ops o acc = [])
    (hrun : ∀ x, (execOp a.eval o).run P (plus W x) = .ok (.enter f args) (plus W x)) (hc : ∀ x, Calls P f args (plus W x) (fun e w'' => e = .returned v ∧ Below (plus W x).heap.size (plus W x) w''))
    (h : wpLo P ops (fun w' => ∃ x, w' = plus W x) S Q rest (k + 1) acc (a.put o.dst v)) : wpLo P ops (fun w' => ∃ x, w' = plus W x) S Q (o :: rest) k acc a := by
  unfold wpLo
  rw [if_neg (by rw [hs]; exact Bool.false_ne_true), if_pos hw]
  refine ⟨v, ?_, h⟩
  rintro _ ⟨x, rfl⟩
  rw [hl]
  show tameUpon P (plus W x) v _
  rw [hrun x]
  exact ⟨rfl, hc x⟩
theorem lo_call (V : SpecV) (hm : V.Mono) (f : FuncId) (args : Array Value) (hs : S.contains k = true) (hw : Region.wanted o (yielded ops a.tmps) = true) (hl : looked ops o acc = [])
    (hrun : ∀ x, (execOp a.eval o).run P (plus W x) = .ok (.enter f args) (plus W x))
    (hc : ∀ x, Calls P f args (plus W x) (fun e w'' => ∃ v, e = .returned v ∧ Below (plus W x).heap.size (plus W x) w'' ∧ V v (plus W x).heap.size w''.heap.size w''))
    (h : wpLo P ops (fun w' => ∃ x, w' = plus W x) S Q rest (k + 1) (acc ++ [(o.dst, V)]) a) : wpLo P ops (fun w' => ∃ x, w' = plus W x) S Q (o :: rest) k acc a := by
  unfold wpLo
  rw [if_pos hs]
  refine ⟨hw, V, hm, ?_, h⟩
  rintro _ ⟨x, rfl⟩
  rw [hl]
  show specUpon P V (plus W x) _
  rw [hrun x]
  exact ⟨rfl, hc x⟩
/-- A new slice written out. -/
theorem lo_build {α : Type} {enc : α → List Value} {kk : Nat} (hk : ∀ x, (enc x).length = kk) (hk0 : 0 < kk) (xs : List α) (n : Nat) (hn : xs.length = n) (hn1 : n ≤ 1000000) (c : Array Value) (T : TypeId) (hcc : (flatE enc xs).toArray = c)
    (hs : S.contains k = true) (hw : Region.wanted o (yielded ops a.tmps) = true) (hl : looked ops o acc = [])
    (hrun : ∀ x, (execOp a.eval o).run P (plus W x) = .ok (.value (.slice (some ⟨W.heap.size + x.heap.size, 0, none⟩) n n)) ((plus W x).alloc (.cells c T)))
    (h : wpLo P ops (fun w' => ∃ x, w' = plus W x) S Q rest (k + 1) (acc ++ [(o.dst, slV kk n (xs.map enc))]) a) : wpLo P ops (fun w' => ∃ x, w' = plus W x) S Q (o :: rest) k acc a := by
  unfold wpLo
  rw [if_pos hs]
  refine ⟨hw, _, slV_mono _ _ _, ?_, h⟩
  rintro _ ⟨x, rfl⟩
  rw [hl]
  show specUpon P _ (plus W x) _
  rw [hrun x]
  refine ⟨(Below.refl _ _).alloc (Nat.le_refl _) _, _, _, rfl, sl_block (T := T) hk hk0 xs hn hn1 ?_⟩
  rw [hcc]
  show ((plus W x).heap.push _)[_]? = _
  simp [plus]
/-- A call that looks at one such slice, and answers alike. -/
theorem lo_tcall1 (f : FuncId) (v : Value) {d1 : Option Tmp} {k1 n1 : Nat} {xs1 : List (List Value)} (hs : S.contains k = false) (hw : Region.wanted o (yielded ops a.tmps) = true) (hl : looked ops o acc = [(d1, slV k1 n1 xs1)])
    (hrun : ∀ x ao1 c1, ∃ args, (execOp (a.put d1 (.slice ao1 n1 c1)).eval o).run P (plus W x) = .ok (.enter f args) (plus W x) ∧ (Sl (plus W x) k1 ao1 n1 c1 xs1 → Calls P f args (plus W x) (fun e w'' => e = .returned v ∧ Below (plus W x).heap.size (plus W x) w'')))
    (h : wpLo P ops (fun w' => ∃ x, w' = plus W x) S Q rest (k + 1) acc (a.put o.dst v)) : wpLo P ops (fun w' => ∃ x, w' = plus W x) S Q (o :: rest) k acc a := by
  unfold wpLo
  rw [if_neg (by rw [hs]; exact Bool.false_ne_true), if_pos hw]
  refine ⟨v, ?_, h⟩
  rintro _ ⟨x, rfl⟩
  rw [hl]
  rintro _ lo hi ⟨ao1, c1, rfl, h1⟩ _ _
  show tameUpon P (plus W x) v _
  obtain ⟨args, hr, hc⟩ := hrun x ao1 c1
  rw [hr]
  exact ⟨rfl, hc h1⟩
theorem lo_tcall2 (f : FuncId) (v : Value) {d1 d2 : Option Tmp} {k1 n1 k2 n2 : Nat} {xs1 xs2 : List (List Value)} (hs : S.contains k = false) (hw : Region.wanted o (yielded ops a.tmps) = true) (hl : looked ops o acc = [(d1, slV k1 n1 xs1), (d2, slV k2 n2 xs2)])
    (hrun : ∀ x ao1 c1 ao2 c2, ∃ args, (execOp ((a.put d1 (.slice ao1 n1 c1)).put d2 (.slice ao2 n2 c2)).eval o).run P (plus W x) = .ok (.enter f args) (plus W x) ∧ (Sl (plus W x) k1 ao1 n1 c1 xs1 → Sl (plus W x) k2 ao2 n2 c2 xs2 → Calls P f args (plus W x) (fun e w'' => e = .returned v ∧ Below (plus W x).heap.size (plus W x) w'')))
    (h : wpLo P ops (fun w' => ∃ x, w' = plus W x) S Q rest (k + 1) acc (a.put o.dst v)) : wpLo P ops (fun w' => ∃ x, w' = plus W x) S Q (o :: rest) k acc a := by
  unfold wpLo
  rw [if_neg (by rw [hs]; exact Bool.false_ne_true), if_pos hw]
  refine ⟨v, ?_, h⟩
  rintro _ ⟨x, rfl⟩
  rw [hl]
  rintro _ lo hi ⟨ao1, c1, rfl, h1⟩ _ _ _ lo2 hi2 ⟨ao2, c2, rfl, h2⟩ _ _
  show tameUpon P (plus W x) v _
  obtain ⟨args, hr, hc⟩ := hrun x ao1 c1 ao2 c2
  rw [hr]
  exact ⟨rfl, hc h1 h2⟩
end
end Go.Proofs.Ytcgajlobbjoefaa
