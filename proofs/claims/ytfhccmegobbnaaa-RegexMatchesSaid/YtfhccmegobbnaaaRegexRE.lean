/- This text speaks of the memory of the reference's machine: the list of its threads, and what was visited for it. Conditions: those that each theorem names. -/
import Derived.Test.YtfhccmegobbnaaaRegexZ
namespace Go.Proofs.Ytfhccmegobbnaaa
open Go.ChangeShapes Go.WideShapes Go.ChangeAt Go.RowKit
set_option linter.unusedVariables false
set_option linter.unusedSimpArgs false

/-- Which instructions were visited, in memory. -/
def encB (v : List Bool) : Array Value := (v.map Value.bool).toArray
theorem encB_set (v : List Bool) (k : Nat) : encB (v.set k true) = (encB v).setIfInBounds k (.bool true) := by
  unfold encB
  rw [List.setIfInBounds_toArray, List.map_set]
theorem encB_get {v : List Bool} {k : Nat} (h : k < v.length) : (encB v)[k]? = some (.bool v[k]!) := by
  unfold encB
  rw [List.getElem?_toArray, List.getElem?_map, List.getElem?_eq_getElem h, getElem!_pos v k h]
  rfl
/-- The list of threads in the row lv, what was visited in block vb. -/
structure TS (w0 : World) (n vb : Nat) (v : List Bool) (lv : Value) (l : List Th) (W : World) : Prop where
  hb : Below w0.heap.size w0 W
  hvb : w0.heap.size ≤ vb
  vis : W.heap[vb]? = some (.cells (encB v) 4 (0, 0))
  len : v.length = n
  row : ∃ ms : List ThM, W.ownsRow w0.heap.size 102 2 lv ms.length (flatE ThM.enc ms) ∧ All2 (fun m t => m.k = t.1 ∧ Cap w0.heap.size vb m.v t.2 W) ms l
  cnt : l.length + v.count false ≤ v.length
theorem TS.later {w0 : World} {n vb : Nat} {v : List Bool} {lv : Value} {l : List Th} {W W' : World} (h : TS w0 n vb v lv l W) (hb : Below W.heap.size W W') : TS w0 n vb v lv l W' :=
  let ⟨ms, h1, h2⟩ := h.row
  ⟨h.hb.trans (hb.mono h.hb.size), h.hvb, heap_later h.vis hb, h.len, ⟨ms, own_from h1 hb, forall2_imp (fun _ _ hr => ⟨hr.1, hr.2.later hb⟩) h2⟩, h.cnt⟩
theorem TS.lt {w0 : World} {n vb : Nat} {v : List Bool} {lv : Value} {l : List Th} {W : World} (h : TS w0 n vb v lv l W) : vb < W.heap.size := (Array.getElem?_eq_some_iff.1 h.vis).1
theorem TS.blk {w0 : World} {n vb : Nat} {v : List Bool} {lv : Value} {l : List Th} {W : World} (h : TS w0 n vb v lv l W) {b : Nat} (hb : lv.ownBlock = some b) : w0.heap.size ≤ b ∧ b < W.heap.size :=
  let ⟨_, h1, _⟩ := h.row
  ⟨(own_block h1 hb).1, (own_block h1 hb).2.1⟩
theorem TS.form {w0 : World} {n vb : Nat} {v : List Bool} {lv : Value} {l : List Th} {W : World} (h : TS w0 n vb v lv l W) : ∃ la lc, lv = .slice la l.length lc := by
  obtain ⟨ms, r1, r2⟩ := h.row
  have e := All2.len r2
  obtain ⟨_, ⟨h9, h0⟩ | ⟨cb, ccap, _, h9, _⟩⟩ := r1
  · exact ⟨none, 0, by rw [h9, ← e, h0]⟩
  · exact ⟨_, _, by rw [h9, e]⟩
theorem Cap.own {B vb : Nat} {v lv lv' : Value} {cs : List Int} {w w' : World} {n : Nat} {B' : Nat} {xs : List Value} (h : Cap B vb v cs w) (hr : w.ownsRow B' 102 2 lv n xs) (hk : Kept vb vb lv lv' w w') : Cap B vb v cs w' :=
  ⟨own_kept h.row hk h.ne h.ne (own_apart h.row hr (by decide)), h.ne, h.pos⟩
theorem TS.mark {w0 : World} {n vb : Nat} {v : List Bool} {lv : Value} {l : List Th} {W : World} (h : TS w0 n vb v lv l W) {k : Nat} (hk : k < n) (hv : v[k]! = false) :
    TS w0 n vb (v.set k true) lv l (holds W vb (encB (v.set k true)) 4) ∧ Kept vb vb lv lv W (holds W vb (encB (v.set k true)) 4) := by
  obtain ⟨ms, h1, h2⟩ := h.row
  have l2 := h.lt
  have hK : Kept vb vb lv lv W (holds W vb (encB (v.set k true)) 4) := ⟨rfl, rfl, rfl, by rw [size_holds]; exact Nat.le_refl _, fun b hb _ hne _ => by rw [heap_holds, if_neg (fun e => hne e.1)], fun _ _ h => h⟩
  have hc := count_set v k (by rw [h.len]; exact hk) hv
  exact ⟨⟨below_holds h.hb h.hvb _ _, h.hvb, hh_eq l2, by rw [List.length_set]; exact h.len, ⟨ms, own_holds h1 (own_ne h1 h.vis (by decide)), forall2_imp (fun _ _ hr => ⟨hr.1, hr.2.own h1 hK⟩) h2⟩, by have := h.cnt; rw [List.length_set]; omega⟩, hK⟩
/-- A thread behind the others. -/
theorem TS.push {w0 : World} {n vb : Nat} {v : List Bool} {lv lv' : Value} {l : List Th} {W W1 : World} {ms : List ThM} {k : Nat} {cv : Value} {cs : List Int} (h : TS w0 n vb v lv l W)
    (h2 : All2 (fun m t => m.k = t.1 ∧ Cap w0.heap.size vb m.v t.2 W) ms l) (h1 : W.ownsRow w0.heap.size 102 2 lv ms.length (flatE ThM.enc ms))
    (hc : Cap w0.heap.size vb cv cs W) (hg : W.grownBy W1 lv.ownBlock) (hn : ∀ b, b < W.heap.size → lv'.ownBlock = some b → lv.ownBlock = some b)
    (hr : W1.ownsRow w0.heap.size 102 2 lv' (ms ++ [(⟨k, cv⟩ : ThM)]).length (flatE ThM.enc (ms ++ [(⟨k, cv⟩ : ThM)]))) (hct : (l.length + 1) + v.count false ≤ v.length) :
    TS w0 n vb v lv' (l ++ [(k, cs)]) W1 ∧ Kept vb vb lv lv' W W1 := by
  have l2 := h.lt
  have hv1 : W1.heap[vb]? = _ := (hg.block vb l2 (fun e => own_ne h1 h.vis (by decide) e.symm)).trans h.vis
  have hK : Kept vb vb lv lv' W W1 :=
    ⟨hg.os, hg.tape, hg.output, hg.size, fun b hb _ _ hl => hg.block b hb (fun e => hl e.symm), hn⟩
  have hbl : ∀ b, lv.ownBlock = some b → w0.heap.size ≤ b := fun b e => (own_block h1 e).1
  refine ⟨⟨hK.below h.hb h.hvb h.hvb hbl h.hb.size, h.hvb, hv1, h.len, ⟨ms ++ [⟨k, cv⟩], hr, ?_⟩, by rw [List.length_append]; exact hct⟩, hK⟩
  exact (forall2_imp (fun _ _ hr => ⟨hr.1, hr.2.own h1 hK⟩) h2).snoc ⟨rfl, hc.own h1 hK⟩
/-- A block of other cells is written. -/
theorem Cap.other {B vb : Nat} {v : Value} {cs : List Int} {w : World} (h : Cap B vb v cs w) {b : Nat} {c c' : Array Value} {T : TypeId} (hb : w.heap[b]? = some (.cells c T (0, 0))) (hT : T ≠ 3) : Cap B vb v cs (holds w b c' T) :=
  ⟨own_holds h.row (own_ne h.row hb hT), h.ne, h.pos⟩
theorem TS.other {w0 : World} {n vb : Nat} {v : List Bool} {lv : Value} {l : List Th} {W : World} (h : TS w0 n vb v lv l W) {b : Nat} {c c' : Array Value} {T : TypeId} (hb : W.heap[b]? = some (.cells c T (0, 0))) (hB : w0.heap.size ≤ b)
    (h1 : T ≠ 3) (h2 : T ≠ 4) (h3 : T ≠ 102) : TS w0 n vb v lv l (holds W b c' T) := by
  obtain ⟨ms, r1, r2⟩ := h.row
  refine ⟨below_holds h.hb hB _ _, h.hvb, hh_ne (fun e => ?_) h.vis, h.len, ⟨ms, own_holds r1 (own_ne r1 hb h3), forall2_imp (fun _ _ hr => ⟨hr.1, hr.2.other hb h1⟩) r2⟩, h.cnt⟩
  rw [← e, h.vis] at hb
  injection hb with hb
  injection hb with _ hb
  exact h2 hb.symm
theorem Kept.other {mb vb : Nat} {lv lv' : Value} {w w' : World} (h : Kept mb vb lv lv' w w') {b : Nat} (hb : w.heap.size ≤ b) (c : Array Value) (T : TypeId) : Kept mb vb lv lv' w (holds w' b c T) :=
  ⟨h.os, h.tape, h.output, by rw [size_holds]; exact h.size, fun k hk h1 h2 h3 => by rw [heap_holds, if_neg (by omega)]; exact h.block k hk h1 h2 h3, h.fresh⟩
theorem rthInfo : ∃ i0 : TypeInfo, Try.prog.info? 102 = some i0 ∧ i0.zero = some (.agg #[.int .i64 0, .slice none 0 0]) ∧ i0.size = 2 ∧ i0.bytes = 32 := by
  have h : (Try.prog.info? 102).map (fun i => (i.zero, i.size, i.bytes)) = some (some (.agg #[.int .i64 0, .slice none 0 0]), 2, 32) := by kernel_rfl
  cases hi : Try.prog.info? 102 with
  | none => rw [hi] at h; cases h
  | some i0 =>
    rw [hi] at h
    simp only [Option.map_some, Option.some.injEq, Prod.mk.injEq] at h
    exact ⟨i0, rfl, h.1, h.2.1, h.2.2⟩

end Go.Proofs.Ytfhccmegobbnaaa
