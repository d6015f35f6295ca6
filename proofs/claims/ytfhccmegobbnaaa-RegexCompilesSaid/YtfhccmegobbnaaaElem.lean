/- This text gives laws on rows of elements of k cells: reading them as lists of elements, copying them, and appending zero elements. It has no conditions. -/
import Derived.Test.YtfhccmegobbnaaaMix
import Derived.Laws.AppendOwn
import Derived.Laws.CopyOwn
import Derived.Laws.Externs
import Derived.Lib.AppendZerosOnto
import Derived.Lib.Overlaps
import Derived.Lib.SliceRun
import Derived.Deep.LoopGhost
import Derived.Deep.RegionLaw
import Derived.Lib.Hide
namespace Go.Proofs.Ytfhccmegobbnaaa
open Go.ChangeShapes Go.WideShapes Go.ChangeAt Go.RowKit
set_option linter.unusedVariables false

section
variable {P : Program}

/-- copy at elements of k cells, onto a row that is known whole. -/
theorem run_copy_k (w : World) (dT sT ty elem : TypeId) (k g o dLen dCap : Nat) (a : Addr) (sLen sCap : Nat) (cur : List Value) (t : TypeId) (n : Nat) (cs : List Value)
    (hu : P.underlying dT = some (.slice elem)) (hs : (P.info? elem).map (·.size) = some k)
    (hg : w.heap[g]? = some (.cells cur.toArray t (0, 0))) (hn : Nat.min sLen dLen = n) (hcl : cs.length = n * k)
    (hsrc : ∀ j v, cs[j]? = some v → w.cell? (a.add j) = some v) (hfit : o + cs.length ≤ cur.length) (h1 : ∀ v ∈ cs, v.oneCell' = true) :
    (Builtin.copy_ #[dT, sT] ty #[.slice (some ⟨g, o, none⟩) dLen dCap, .slice (some a) sLen sCap]).run P w = .ok (goInt n) (w.setRow g (splice cur o cs).toArray) := by
  have hl := run_loadCells_list (P := P) w a cs hsrc
  have hst := run_storeCells_at P g o t cs 0 cur.toArray w hg (by simpa using hfit) h1
  rw [hcl] at hl
  cases hq : P.info? elem with
  | none => simp [hq] at hs
  | some i =>
    have hi : i.size = k := by simpa [hq] using hs
    simp [Builtin.copy_, run_underlying hu, Builtin.lenOf, Builtin.firstCells, sizeOf, typeInfo, hq, hi, hn, hl, hst, splice]

theorem grownBy_setRow (w : World) (g : Nat) (cs : Array Value) : w.grownBy (w.setRow g cs) (some g) :=
  ⟨rfl, rfl, rfl, by simp [World.setRow], fun k _ hk => setRow_other w g k cs (fun e => hk (by rw [e]))⟩
theorem grownBy_refl (w : World) (r : Option Nat) : w.grownBy w r := ⟨rfl, rfl, rfl, Nat.le_refl _, fun _ _ _ => rfl⟩
theorem grownBy_trans {a b c : World} {r : Option Nat} (h : a.grownBy b r) (h' : b.grownBy c r) : a.grownBy c r :=
  ⟨h'.os.trans h.os, h'.tape.trans h.tape, h'.output.trans h.output, Nat.le_trans h.size h'.size, fun k hk hr => (h'.block k (Nat.lt_of_lt_of_le hk h.size) hr).trans (h.block k hk hr)⟩
theorem grownBy_drew (w : World) (r : Option Nat) : w.grownBy w.drew r := ⟨rfl, rfl, rfl, Nat.le_refl _, fun _ _ _ => rfl⟩
theorem grownBy_of_below {w w' : World} (h : Below w.heap.size w w') (r : Option Nat) : w.grownBy w' r := ⟨h.os, h.tape, h.output, h.size, fun k hk _ => h.block k hk⟩
/-- A new row that is turned later is no old block. -/
theorem grownBy_past {a b c : World} {g : Nat} {r : Option Nat} (h : a.grownBy b r) (h' : b.grownBy c (some g)) (hg : a.heap.size ≤ g) : a.grownBy c r :=
  ⟨h'.os.trans h.os, h'.tape.trans h.tape, h'.output.trans h.output, Nat.le_trans h.size h'.size, fun k hk hr => (h'.block k (Nat.lt_of_lt_of_le hk h.size) (fun e => by cases e; omega)).trans (h.block k hk hr)⟩

/-- The operation copy(d, s) for the walk. -/
theorem wpList_copy_k (w : World) {ops : Array Oper} {rest : List Oper} {o : Oper} {a : Act} {Q : Exit → Act → World → Prop} (hgd : o.guard = none) (d s : Operand) (dT sT : TypeId)
    (ho : o.op = .call { callee := .builtin .copy, args := #[d, s], argTypes := #[dT, sT] }) (elem : TypeId) (k : Nat) (hu : P.underlying dT = some (.slice elem)) (hsz : (P.info? elem).map (·.size) = some k)
    (g off dLen dCap : Nat) (ad : Addr) (sLen sCap : Nat) (hd : a.eval d = .slice (some ⟨g, off, none⟩) dLen dCap) (hs : a.eval s = .slice (some ad) sLen sCap)
    (cur : List Value) (t : TypeId) (hg : w.heap[g]? = some (.cells cur.toArray t (0, 0))) (n : Nat) (hn : Nat.min sLen dLen = n) (cs : List Value) (hcl : cs.length = n * k)
    (hsrc : ∀ j v, cs[j]? = some v → w.cell? (ad.add j) = some v) (hfit : off + cs.length ≤ cur.length) (h1 : ∀ v ∈ cs, v.oneCell' = true)
    (h : ∀ w', Hid (w'.heap[g]? = some (.cells (splice cur off cs).toArray t (0, 0))) → w.grownBy w' (some g) → wpList P ops Q rest (a.put o.dst (goInt n)) w') : wpList P ops Q (o :: rest) a w := by
  refine wpList_plain hgd fun K hK => ?_
  have hrun := run_copy_k (P := P) w dT sT o.type elem k g off dLen dCap ad sLen sCap cur t n cs hu hsz hg hn hcl hsrc hfit h1
  unfold Oper.wp
  simp only [execOp, ho, resolve, invoke, builtin, Sem.run_bind, Sem.run_pure, Result.andThen_ok, List.map_toArray, List.map_cons, List.map_nil, hd, hs, hrun]
  exact hK _ _ (h _ (show _ = _ from setRow_heap w g _ _ t _ hg) (grownBy_setRow _ _ _))
/-- copy at elements of k cells, by cells. -/
theorem run_copy_cells_k (w : World) (dT sT ty elem : TypeId) (k b o dLen dCap : Nat) (a : Addr) (sLen sCap n : Nat) (cs : List Value)
    (hu : P.underlying dT = some (.slice elem)) (hs : (P.info? elem).map (·.size) = some k) (hn : Nat.min sLen dLen = n) (hcl : cs.length = n * k)
    (hsrc : ∀ j v, cs[j]? = some v → w.cell? (a.add j) = some v) (hc : ∀ j, j < cs.length → (w.cell? ⟨b, o + j, none⟩).isSome = true) (hf : ∀ j, j < cs.length → w.frozen? ⟨b, o + j, none⟩ = false) (h1 : ∀ v ∈ cs, v.oneCell' = true) :
    (Builtin.copy_ #[dT, sT] ty #[.slice (some ⟨b, o, none⟩) dLen dCap, .slice (some a) sLen sCap]).run P w = .ok (goInt n) (w.setCells b o cs) := by
  have hl := run_loadCells_list (P := P) w a cs hsrc
  have hst := run_storeCells_cells (P := P) b o cs 0 w (by simpa using hc) (by simpa using hf) h1
  rw [hcl] at hl
  cases hq : P.info? elem with
  | none => simp [hq] at hs
  | some i =>
    have hi : i.size = k := by simpa [hq] using hs
    simp [Builtin.copy_, run_underlying hu, Builtin.lenOf, Builtin.firstCells, sizeOf, typeInfo, hq, hi, hn, hl, hst]

theorem wpList_copy_run (w : World) {ops : Array Oper} {rest : List Oper} {o : Oper} {a : Act} {Q : Exit → Act → World → Prop} (hgd : o.guard = none) (d s : Operand) (t t' : TypeId)
    (ho : o.op = .call { callee := .builtin .copy, args := #[d, s], argTypes := #[t, t'] }) (v u : Value) (hd : a.eval d = v) (hs : a.eval s = u) {v' : Value} {w' : World}
    (hr : (Builtin.copy_ #[t, t'] o.type #[v, u]).run P w = .ok v' w') (h : wpList P ops Q rest (a.put o.dst v') w') : wpList P ops Q (o :: rest) a w := by
  refine wpList_plain hgd fun K hK => ?_
  unfold Oper.wp execOp
  simp only [ho, resolve, invoke, builtin, Sem.run_bind, Sem.run_pure, Result.andThen_ok, List.map_toArray, List.map_cons, List.map_nil, hd, hs, hr]
  exact hK _ _ h
/-- The same as one step of a region that draws its order. -/
theorem step_copy_run {ops : Array Oper} {o : Oper} {a : Act} {w : World} {K : Act → World → Prop} {Q : Exit → Act → World → Prop} {E : Prop}
    (hg : o.guard = none) (d x : Operand) (dT sT : TypeId) (hop : o.op = Op.call { callee := Callee.builtin Builtin.copy, args := #[d, x], argTypes := #[dT, sT] })
    (v u : Value) (hd : a.eval d = v) (hx : a.eval x = u) {v' : Value} {w' : World} (hr : (Builtin.copy_ #[dT, sT] o.type #[v, u]).run P w = .ok v' w') (hK : K (a.put o.dst v') w') :
    if Region.wanted o (yielded ops a.tmps) = true then Oper.wp P o a w K Q else E := by
  have hw : Region.wanted o (yielded ops a.tmps) = true := by simp [Region.wanted, hg]
  rw [if_pos hw]
  unfold Oper.wp
  simp [execOp, hop, resolve, invoke, builtin, hd, hx, hr, Result.andThen]
  exact hK

theorem isSome_setCells (b : Nat) (vs : List Value) (o : Nat) (w : World) (k : Nat) (hk : (w.cell? ⟨b, k, none⟩).isSome = true) (h : ∀ j, j < vs.length → (w.cell? ⟨b, o + j, none⟩).isSome = true) : ((w.setCells b o vs).cell? ⟨b, k, none⟩).isSome = true := by
  by_cases hin : o ≤ k ∧ k < o + vs.length
  · have := World.cell?_setCells_in b vs o w h (k - o) (by omega)
    rw [show o + (k - o) = k by omega] at this
    rw [this]; rfl
  · rw [World.cell?_setCells_out b vs o w ⟨b, k, none⟩ (fun _ _ => by show k < o ∨ o + vs.length ≤ k; omega)]
    exact hk

/-- Cells stored into a row that is known whole. -/
theorem setCells_setRow (g o : Nat) (t : TypeId) (vs : List Value) (cur : List Value) (w : World) (hg : w.heap[g]? = some (.cells cur.toArray t (0, 0))) (hl : o + vs.length ≤ cur.length) (h1 : ∀ v ∈ vs, v.oneCell' = true) :
    w.setCells g o vs = w.setRow g (splice cur o vs).toArray := by
  have hP : ∃ P : Program, True := ⟨default, trivial⟩
  obtain ⟨P, _⟩ := hP
  have a := run_storeCells_at P g o t vs 0 cur.toArray w hg (by simpa using hl) h1
  have hc : ∀ j, j < vs.length → (w.cell? ⟨g, o + j, none⟩).isSome = true := fun j hj => by
    rw [cell_of_row w g _ _ _ _ hg, Array.getElem?_eq_getElem (by simp; omega)]; rfl
  have hf : ∀ j, j < vs.length → w.frozen? ⟨g, o + j, none⟩ = false := fun j hj => frozen_of_row w g _ _ _ hg
  have b := run_storeCells_cells (P := P) g o vs 0 w (by simpa using hc) (by simpa using hf) h1
  rw [a] at b
  simp only [Nat.add_zero, Result.ok.injEq, true_and] at b
  rw [← b, splice]
  simp
theorem heap_setCells_row (g o : Nat) (t : TypeId) (vs : List Value) (cur : List Value) (w : World) (hg : w.heap[g]? = some (.cells cur.toArray t (0, 0))) (hl : o + vs.length ≤ cur.length) (h1 : ∀ v ∈ vs, v.oneCell' = true) :
    (w.setCells g o vs).heap[g]? = some (.cells (splice cur o vs).toArray t (0, 0)) ∧ w.grownBy (w.setCells g o vs) (some g) := by
  rw [setCells_setRow g o t vs cur w hg hl h1]
  exact ⟨setRow_heap w g _ _ t _ hg, grownBy_setRow _ _ _⟩

/-- What Insert leaves in a row with room. -/
theorem splice_shift (k n i m : Nat) (cur cs vs : List Value) (hi : i ≤ n) (hcs : cs.length = n * k) (hvs : vs.length = m * k) (hcur : (n + m) * k ≤ cur.length) (ht : cur.take (n * k) = cs) :
    (splice (splice cur ((i + m) * k) (cs.drop (i * k))) (i * k) vs).take ((n + m) * k) = cs.take (i * k) ++ vs ++ cs.drop (i * k) := by
  obtain ⟨d, rfl⟩ : ∃ d, n = i + d := ⟨n - i, by omega⟩
  simp only [Nat.add_mul] at *
  have h1 : (cs.drop (i * k)).length = d * k := by rw [List.length_drop, hcs]; omega
  have hlt : (cs.take (i * k)).length = i * k := by rw [List.length_take, hcs]; omega
  have e1 : cur.take (i * k) = cs.take (i * k) := by rw [← ht, List.take_take]; congr 1; omega
  unfold splice
  rw [h1, hvs]
  have e2 : (List.take (i * k + m * k) cur ++ (List.drop (i * k) cs ++ List.drop (i * k + m * k + d * k) cur)).take (i * k) = cs.take (i * k) := by
    rw [List.take_append_of_le_length (by rw [List.length_take]; omega), List.take_take, Nat.min_eq_left (by omega), e1]
  have e3 : (List.take (i * k + m * k) cur ++ (List.drop (i * k) cs ++ List.drop (i * k + m * k + d * k) cur)).drop (i * k + m * k) = List.drop (i * k) cs ++ List.drop (i * k + m * k + d * k) cur :=
    List.drop_left' (by rw [List.length_take]; omega)
  rw [e2, e3, ← List.append_assoc, ← List.append_assoc]
  exact List.take_left' (by simp only [List.length_append, hlt, hvs, h1]; omega)

/-- What Insert leaves in a new row. -/
theorem splice_grow (k n i m : Nat) (row cs vs : List Value) (hi : i ≤ n) (hcs : cs.length = n * k) (hvs : vs.length = m * k) (hrow : (n + m) * k ≤ row.length) (ht : row.take (i * k) = cs.take (i * k)) :
    (splice (splice row (i * k) vs) ((i + m) * k) (cs.drop (i * k))).take ((n + m) * k) = cs.take (i * k) ++ vs ++ cs.drop (i * k) := by
  obtain ⟨d, rfl⟩ : ∃ d, n = i + d := ⟨n - i, by omega⟩
  simp only [Nat.add_mul] at *
  have h1 : (cs.drop (i * k)).length = d * k := by rw [List.length_drop, hcs]; omega
  have hlt : (cs.take (i * k)).length = i * k := by rw [List.length_take, hcs]; omega
  unfold splice
  rw [h1, hvs, ht]
  have e2 : (List.take (i * k) cs ++ (vs ++ List.drop (i * k + m * k) row)).take (i * k + m * k) = cs.take (i * k) ++ vs := by
    rw [← List.append_assoc]
    exact List.take_left' (by simp only [List.length_append, hlt, hvs])
  rw [e2, ← List.append_assoc]
  exact List.take_left' (by simp only [List.length_append, hlt, hvs, h1]; omega)

/-- A slice of m elements of k cells that reads as xs. -/
def slV (k m : Nat) (xs : List (List Value)) : SpecV := fun v _ _ w => ∃ ao cap, v = .slice ao m cap ∧ Sl w k ao m cap xs
theorem slV_mono (k m : Nat) (xs : List (List Value)) : (slV k m xs).Mono := fun v lo hi w w' ⟨ao, cap, h1, h2⟩ hb => ⟨ao, cap, h1, h2.stays hb⟩
/-- A call in a region's head whose value differs from run to run. -/
theorem mix_call {ops : Array Oper} {W : World} {S : List Nat} {Q : List (Option Tmp × SpecV) → Act → Prop} {o : Oper} {rest : List Oper} {k : Nat} {acc : List (Option Tmp × SpecV)} {a : Act}
    (V : SpecV) (hm : V.Mono) (f : FuncId) (args : Array Value) (hs : S.contains k = true) (hw : Region.wanted o (yielded ops a.tmps) = true)
    (hrun : ∀ x, (execOp a.eval o).run P (plus W x) = .ok (.enter f args) (plus W x))
    (hc : ∀ x, Calls P f args (plus W x) (fun e w'' => ∃ v, e = .returned v ∧ Below (plus W x).heap.size (plus W x) w'' ∧ V v (plus W x).heap.size w''.heap.size w''))
    (h : wpMix P ops (fun w' => ∃ x, w' = plus W x) S Q rest (k + 1) (acc ++ [(o.dst, V)]) a) :
    wpMix P ops (fun w' => ∃ x, w' = plus W x) S Q (o :: rest) k acc a :=
  mix_spec hs hw V hm (by
    rintro _ ⟨x, rfl⟩
    unfold specAt
    rw [hrun x]
    exact ⟨rfl, hc x⟩) h
theorem specEnd_sl {ops : Array Oper} {Q' : Exit → Act → World → Prop} {tail : List Oper} {k m : Nat} {xs : List (List Value)} {d : Option Tmp} {rest : List (Option Tmp × SpecV)} {ivs : List (Nat × Nat)} {a : Act} {w : World}
    (h : ∀ ao cap ivs', Sl w k ao m cap xs → SpecEnd P ops Q' tail rest ivs' (a.put d (.slice ao m cap)) w) :
    SpecEnd P ops Q' tail ((d, slV k m xs) :: rest) ivs a w := by
  rintro v lo hi ⟨ao, cap, rfl, h1⟩ _ _ _
  exact h ao cap _ h1

end
end Go.Proofs.Ytfhccmegobbnaaa
