/- This text speaks of rows that are written in place: cells put into a row, append in place, clear. It has no conditions. -/
import Derived.Test.YtfhccmegobbnaaaFlat
import Derived.Lib.SliceRun
namespace Go.Proofs.Ytfhccmegobbnaaa
open Go.ChangeShapes Go.WideShapes Go.ChangeAt Go.RowKit
set_option linter.unusedVariables false

theorem hp_new {w : World} {o : Obj} {n : Nat} (h : n = w.heap.size) : (w.alloc o).heap[n]? = some o := by subst h; show (w.heap.push o)[w.heap.size]? = some o; simp
theorem hp_old {w : World} {o r : Obj} {n : Nat} (h : w.heap[n]? = some r) : (w.alloc o).heap[n]? = some r :=
  (((Below.refl _ w).alloc (Nat.le_refl _) o).block n (Array.getElem?_eq_some_iff.1 h).1).trans h
theorem hp_plus {w x : World} {r : Obj} {n : Nat} (h : w.heap[n]? = some r) : (plus w x).heap[n]? = some r :=
  ((below_plus w x).block n (Array.getElem?_eq_some_iff.1 h).1).trans h

theorem holds_two {w : World} {a b : Nat} {ca cb : Array Value} {Ta Tb : TypeId} (ha : w.heap[a]? = some (.cells ca Ta (0, 0))) (hb : w.heap[b]? = some (.cells cb Tb (0, 0))) (hne : ¬ b = a) : w = holds (holds w a ca Ta) b cb Tb := by
  have h : (holds w a ca Ta).heap[b]? = some (.cells cb Tb (0, 0)) := by rw [heap_holds, if_neg (fun e => hne e.1)]; exact hb
  rw [← holds_self h]
  exact holds_self ha
theorem own_holds {w : World} {B : Nat} {E : TypeId} {k : Nat} {v : Value} {n : Nat} {l : List Value} {a : Nat} {c : Array Value} {T : TypeId} (h : w.ownsRow B E k v n l) (hne : v.ownBlock ≠ some a) : (holds w a c T).ownsRow B E k v n l := by
  obtain ⟨h1, h2 | ⟨g, cap, cur, h3, h4, h5, h6⟩⟩ := h
  · exact ⟨h1, .inl h2⟩
  · refine ⟨h1, .inr ⟨g, cap, cur, h3, h4, ?_, h6⟩⟩
    rw [heap_holds, if_neg (fun e => hne (by rw [h3, ← e.1]; rfl))]
    exact h5
theorem own_ne {w : World} {B : Nat} {E : TypeId} {k : Nat} {v : Value} {n : Nat} {l : List Value} {a : Nat} {c : Array Value} {T : TypeId} (h : w.ownsRow B E k v n l) (ha : w.heap[a]? = some (.cells c T (0, 0))) (hT : T ≠ E) : v.ownBlock ≠ some a := by
  obtain ⟨h1, h2 | ⟨g, cap, cur, h3, h4, h5, h6⟩⟩ := h
  · rw [h2.1]; intro e; cases e
  · rw [h3]
    intro e
    have e2 : g = a := by simpa [Value.ownBlock] using e
    rw [e2, ha] at h5
    cases h5
    exact hT rfl

theorem own_plus {w x : World} {B : Nat} {E : TypeId} {k : Nat} {v : Value} {n : Nat} {l : List Value} (h : w.ownsRow B E k v n l) : (plus w x).ownsRow B E k v n l :=
  h.kept (grownBy_of_below (below_plus w x) none) (by cases hv : v.ownBlock <;> simp)
theorem own_alloc {w : World} {o : Obj} {B : Nat} {E : TypeId} {k : Nat} {v : Value} {n : Nat} {l : List Value} (h : w.ownsRow B E k v n l) : (w.alloc o).ownsRow B E k v n l :=
  h.kept (grownBy_of_below ((Below.refl _ _).alloc (Nat.le_refl _) _) none) (by cases hv : v.ownBlock <;> simp)
theorem holds_add {w W : World} {b : Nat} {c : Array Value} {T : TypeId} (e : w = W) (hb : w.heap[b]? = some (.cells c T (0, 0))) : w = holds W b c T := by
  subst e; exact holds_self hb

theorem step_append_run {P : Program} {ops : Array Oper} {o : Oper} {a : Act} {w : World} {K : Act → World → Prop} {Q : Exit → Act → World → Prop} {E : Prop}
    (hg : o.guard = none) (d x : Operand) (dT sT : TypeId) (hop : o.op = Op.call { callee := Callee.builtin Builtin.append, args := #[d, x], argTypes := #[dT, sT] })
    (v u : Value) (hd : a.eval d = v) (hx : a.eval x = u) {v' : Value} {w' : World} (hr : (Builtin.append_ #[dT, sT] o.type #[v, u]).run P w = .ok v' w') (hK : K (a.put o.dst v') w') :
    if Region.wanted o (yielded ops a.tmps) = true then Oper.wp P o a w K Q else E := by
  have hw : Region.wanted o (yielded ops a.tmps) = true := by simp [Region.wanted, hg]
  rw [if_pos hw]
  unfold Oper.wp
  simp [execOp, hop, resolve, invoke, builtin, hd, hx, hr, Result.andThen]
  exact hK

theorem run_clear_k {P : Program} (w : World) (t e ty : TypeId) (z : Value) (ht : P.underlying t = some (.slice e)) (hv : ∀ w, (zeroValue e).run P w = .ok z w) (h1 : ∀ u ∈ z.cells.toList, u.oneCell' = true) (hk : 0 < z.cells.size) (b o n c : Nat) (hn : 0 < n)
    (hc : ∀ j, j < n * z.cells.size → (w.cell? ⟨b, o + j, none⟩).isSome = true) (hf : ∀ j, j < n * z.cells.size → w.frozen? ⟨b, o + j, none⟩ = false) :
    (Builtin.clear_ #[t] ty #[.slice (some ⟨b, o, none⟩) n c]).run P w = .ok (.tuple #[]) (w.setCells b o (Builtin.zeroCells z.cells n).toList) := by
  have hst := run_storeCells_cells (P := P) b o (Builtin.zeroCells z.cells n).toList 0 w (by simpa [Builtin.zeroCells] using hc) (by simpa [Builtin.zeroCells] using hf) (by
    intro v hv'
    simp only [Builtin.zeroCells, Array.toList_map, List.mem_map] at hv'
    obtain ⟨i, _, rfl⟩ := hv'
    have hlt : i % z.cells.size < z.cells.size := Nat.mod_lt _ hk
    rw [getElem!_pos z.cells _ hlt]
    exact h1 _ (by simp))
  simp only [Nat.add_zero] at hst
  obtain ⟨m, rfl⟩ : ∃ m, n = m + 1 := ⟨n - 1, by omega⟩
  simp [Builtin.clear_, run_underlying ht, hv, hst]

/-- A row with cells put into it. -/
def putAll (c : Array Value) (o : Nat) : List Value → Array Value
  | [] => c
  | v :: vs => putAll (c.setIfInBounds o v) (o + 1) vs
theorem putAll_size : ∀ (vs : List Value) (c : Array Value) (o : Nat), (putAll c o vs).size = c.size
  | [], c, o => rfl
  | v :: vs, c, o => by rw [putAll, putAll_size vs]; simp
theorem putAll_get : ∀ (vs : List Value) (c : Array Value) (o k : Nat), o + vs.length ≤ c.size → (putAll c o vs)[k]? = if o ≤ k ∧ k < o + vs.length then vs[k - o]? else c[k]?
  | [], c, o, k, _ => by rw [putAll, if_neg (by simp)]
  | v :: vs, c, o, k, h => by
    have hs : o + (vs.length + 1) ≤ c.size := h
    rw [putAll, putAll_get vs _ _ _ (by simp; omega), Array.getElem?_setIfInBounds, List.length_cons]
    by_cases h1 : k = o
    · subst h1
      rw [if_neg (by omega), if_pos rfl, if_pos (by omega), if_pos (by omega)]
      simp
    · by_cases h2 : o + 1 ≤ k ∧ k < o + 1 + vs.length
      · rw [if_pos h2, if_pos (by omega), show k - o = (k - (o + 1)) + 1 by omega, List.getElem?_cons_succ]
      · rw [if_neg h2, if_neg (by omega), if_neg (by omega)]
theorem putAll_take (vs : List Value) (c : Array Value) (o : Nat) (h : o + vs.length ≤ c.size) : (putAll c o vs).toList.take (o + vs.length) = c.toList.take o ++ vs := by
  apply List.ext_getElem?
  intro k
  have hl : (c.toList.take o).length = o := by simp; omega
  rw [List.getElem?_take, Array.getElem?_toList, putAll_get _ _ _ _ h]
  by_cases h1 : k < o
  · rw [if_pos (by omega), if_neg (by omega), List.getElem?_append_left (by omega), List.getElem?_take, if_pos h1, Array.getElem?_toList]
  · rw [List.getElem?_append_right (by omega), hl]
    by_cases h2 : k < o + vs.length
    · rw [if_pos h2, if_pos ⟨by omega, h2⟩]
    · rw [if_neg h2, List.getElem?_eq_none (by omega)]
theorem putAll_keep (vs : List Value) (c : Array Value) (o m : Nat) (h : o + vs.length ≤ c.size) (hm : m ≤ o) : (putAll c o vs).toList.take m = c.toList.take m := by
  apply List.ext_getElem?
  intro k
  rw [List.getElem?_take, List.getElem?_take, Array.getElem?_toList, putAll_get _ _ _ _ h]
  by_cases h1 : k < m
  · rw [if_pos h1, if_pos h1, if_neg (by omega), Array.getElem?_toList]
  · rw [if_neg h1, if_neg h1]
theorem setCells_putAll (w x : World) (g : Nat) (T : TypeId) (hg : g < w.heap.size) : ∀ (vs : List Value) (o : Nat) (c : Array Value), (plus (holds w g c T) x).setCells g o vs = plus (holds w g (putAll c o vs) T) x
  | [], o, c => rfl
  | v :: vs, o, c => by
    show ((plus (holds w g c T) x).setCell ⟨g, o, none⟩ v).setCells g (o + 1) vs = _
    rw [setCell_plus, if_pos (by simpa [size_holds] using hg), setCell_holds, if_pos ⟨rfl, hg⟩]
    exact setCells_putAll w x g T hg vs (o + 1) _
theorem cell_holds_row {w x : World} {g : Nat} {T : TypeId} (hg : g < w.heap.size) (c : Array Value) (j : Nat) : (plus (holds w g c T) x).cell? ⟨g, j, none⟩ = c[j]? := by
  rw [cell?_plus, if_pos (by rw [size_holds]; exact hg), cell?_holds, if_pos ⟨rfl, hg⟩]
theorem frozen_holds_row {w x : World} {g : Nat} {T : TypeId} (hg : g < w.heap.size) (c : Array Value) (j : Nat) : (plus (holds w g c T) x).frozen? ⟨g, j, none⟩ = false := by
  rw [frozen?_plus, if_pos (by rw [size_holds]; exact hg)]
  show (holds w g c T).frozen? _ = false
  rw [frozen?_holds, if_pos ⟨rfl, hg⟩]

section
variable {α : Type} {enc : α → List Value} {k : Nat}
theorem flatE_del (hk : ∀ x, (enc x).length = k) (ys : List α) (i : Nat) : (flatE enc ys).take (i * k) ++ flatE enc (ys.drop (i + 1)) = flatE enc (ys.take i ++ ys.drop (i + 1)) := by
  rw [flatE_append, flatE_take hk]
theorem flatE_drop_get (hk : ∀ x, (enc x).length = k) (ys : List α) (i j : Nat) (u : Value) (h : (flatE enc (ys.drop i))[j]? = some u) : (flatE enc ys)[i * k + j]? = some u := by
  rw [flatE_drop hk, List.getElem?_drop] at h
  exact h
end
end Go.Proofs.Ytfhccmegobbnaaa
