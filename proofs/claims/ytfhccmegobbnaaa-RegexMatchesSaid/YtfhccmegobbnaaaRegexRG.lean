/- This text proves the walk of none of the reference, and speaks of the memory of its function from. Conditions: those that each theorem names. -/
import Derived.Test.YtfhccmegobbnaaaRegexRF
namespace Go.Proofs.Ytfhccmegobbnaaa
open Go.ChangeShapes Go.WideShapes Go.ChangeAt Go.RowKit
set_option linter.unusedVariables false
set_option linter.unusedSimpArgs false

theorem boolInfo : ∃ i0 : TypeInfo, Try.prog.info? 4 = some i0 ∧ i0.zero = some (.bool false) ∧ i0.size = 1 ∧ i0.bytes = 1 := by
  have h : (Try.prog.info? 4).map (fun i => (i.zero, i.size, i.bytes)) = some (some (.bool false), 1, 1) := by kernel_rfl
  cases hi : Try.prog.info? 4 with
  | none => rw [hi] at h; cases h
  | some i0 =>
    rw [hi] at h
    simp only [Option.map_some, Option.some.injEq, Prod.mk.injEq] at h
    exact ⟨i0, rfl, h.1, h.2.1, h.2.2⟩
theorem made_encB (n : Nat) : madeCells #[Value.bool false] n = encB (List.replicate n false) := by
  apply Array.ext_getElem?
  intro j
  by_cases hj : j < n
  · rw [encB_get (by simpa using hj), getElem!_pos (List.replicate n false) j (by simpa using hj)]
    simp [madeCells, hj, Nat.mod_one]
  · rw [Array.getElem?_eq_none (by rw [size_madeCells]; omega), Array.getElem?_eq_none (by simp [encB]; omega)]
theorem make_bools (n : Nat) (hn : n ≤ 1024) (U : World) : (Instr.makeSlice 96 (.int .i64 (n : Int)) (.int .i64 (n : Int))).run Try.prog U = .ok (.slice (some ⟨U.heap.size, 0, none⟩) n n) (U.alloc (.cells (encB (List.replicate n false)) 4)) := by
  obtain ⟨i0, hi0, hz0, hs0, hb0⟩ := boolInfo
  rw [run_make (P := Try.prog) U 96 4 i0 (.bool false) Try.underlying96 hi0 hz0 .i64 .i64 (n : Int) (n : Int) (by omega) (Int.le_refl _) (by rw [hb0]; omega) (by omega), hs0, Nat.mul_one, show ((n : Int)).toNat = n by omega]
  have e : (Value.bool false).cells = #[Value.bool false] := rfl
  rw [e, made_encB]

set_option maxRecDepth 20000 in
set_option maxHeartbeats 32000000 in
theorem rnone_calls (ao : Option Addr) (n cap : Nat) (g : Int) (W : World) (hn : n ≤ 1024) :
    Calls Try.prog 55 #[.agg #[.slice ao n cap, .int .i64 g]] W fun e W' => ∃ vb, e = .returned (.agg #[.slice none 0 0, .slice (some ⟨vb, 0, none⟩) n n]) ∧ W.heap.size ≤ vb ∧ W'.heap[vb]? = some (.cells (encB (List.replicate n false)) 4 (0, 0)) ∧ Below W.heap.size W W' := by
  obtain ⟨Q, hQ⟩ : ∃ Q : Ending → World → Prop, (fun e W' => ∃ vb, e = .returned (.agg #[.slice none 0 0, .slice (some ⟨vb, 0, none⟩) n n]) ∧ W.heap.size ≤ vb ∧ W'.heap[vb]? = some (.cells (encB (List.replicate n false)) 4 (0, 0)) ∧ Below W.heap.size W W') = Q := ⟨_, rfl⟩
  rw [hQ]
  have HQ : Aside (∀ vb W', W.heap.size ≤ vb → W'.heap[vb]? = some (.cells (encB (List.replicate n false)) 4 (0, 0)) → Below W.heap.size W W' → Q (.returned (.agg #[.slice none 0 0, .slice (some ⟨vb, 0, none⟩) n n])) W') := fun vb W' h1 h2 h3 => by rw [← hQ]; exact ⟨vb, rfl, h1, h2, h3⟩
  have mk := fun U => make_bools n hn U
  clear hQ
  go_enter Try.func55, Try.ntmps55
  go_wp2
  refine bodyPost_ret (v := .agg #[.slice none 0 0, .slice (some ⟨W.heap.size + 1 + 1, 0, none⟩) n n]) (by simp [results, Try.results55, go_sem, ↓IntWalk.iteOmega, *]) rfl ?_
  refine HQ.out _ _ (by omega) (by repeat (first | exact hp_new (by simp) | (with_reducible refine hp_old ?_))) ?_
  repeat (first | (with_reducible exact Below.refl _ _) | (with_reducible assumption) | (with_reducible refine below_to_plus ?_ ?_ _) | (with_reducible refine below_holds ?_ ?_ _ _) | (with_reducible refine Below.alloc ?_ ?_ _) | (with_reducible refine Below.drew ?_) | (with_reducible refine below_drewN ?_ _) | (with_reducible refine Below.setCell ?_ ?_ _))
  all_goals first | omega | (simp; done) | (simp [go_sem]; done) | (simp [go_sem]; omega)
theorem TS.begin {w0 : World} {n vb : Nat} {W : World} (hb : Below w0.heap.size w0 W) (hv : w0.heap.size ≤ vb) (h : W.heap[vb]? = some (.cells (encB (List.replicate n false)) 4 (0, 0))) : TS w0 n vb (List.replicate n false) (.slice none 0 (([] : List Th).length)) [] W :=
  ⟨hb, hv, h, by simp, ⟨[], ⟨rfl, .inl ⟨rfl, rfl⟩⟩, .nil⟩, by simp⟩

/-- Nothing older than w changed but the blocks a, b and vb; and the row of the list is no older. -/
structure Keeps (a b vb : Nat) (lv : Value) (w w' : World) : Prop where
  os : w'.os = w.os
  tape : w'.tape = w.tape
  output : w'.output = w.output
  size : w.heap.size ≤ w'.heap.size
  block : ∀ k, k < w.heap.size → k ≠ a → k ≠ b → k ≠ vb → w'.heap[k]? = w.heap[k]?
  fresh : ∀ k, k < w.heap.size → lv.ownBlock ≠ some k
theorem Keeps.refl (a b vb : Nat) (w : World) (n c : Nat) : Keeps a b vb (.slice none n c) w w := ⟨rfl, rfl, rfl, Nat.le_refl _, fun _ _ _ _ _ => rfl, fun k _ e => by cases e⟩
theorem Keeps.add {a b vb : Nat} {lv lv' : Value} {w w1 w2 : World} (h : Keeps a b vb lv w w1) (k : Kept vb vb lv lv' w1 w2) : Keeps a b vb lv' w w2 :=
  ⟨k.os.trans h.os, k.tape.trans h.tape, k.output.trans h.output, Nat.le_trans h.size k.size,
   fun i hi h1 h2 h3 => (k.block i (Nat.lt_of_lt_of_le hi h.size) h3 h3 (h.fresh i hi)).trans (h.block i hi h1 h2 h3),
   fun i hi e => h.fresh i hi (k.fresh i (Nat.lt_of_lt_of_le hi h.size) e)⟩
theorem Keeps.later {a b vb : Nat} {lv : Value} {w w1 w2 : World} (h : Keeps a b vb lv w w1) (k : Below w1.heap.size w1 w2) : Keeps a b vb lv w w2 :=
  h.add (Kept.of_below k)
theorem Keeps.holdsA {a b vb : Nat} {lv : Value} {w w1 : World} (h : Keeps a b vb lv w w1) (c : Array Value) (T : TypeId) : Keeps a b vb lv w (holds w1 a c T) :=
  ⟨h.os, h.tape, h.output, by rw [size_holds]; exact h.size, fun k hk h1 h2 h3 => by rw [heap_holds, if_neg (fun e => h1 e.1)]; exact h.block k hk h1 h2 h3, h.fresh⟩
theorem Keeps.holdsB {a b vb : Nat} {lv : Value} {w w1 : World} (h : Keeps a b vb lv w w1) (c : Array Value) (T : TypeId) : Keeps a b vb lv w (holds w1 b c T) :=
  ⟨h.os, h.tape, h.output, by rw [size_holds]; exact h.size, fun k hk h1 h2 h3 => by rw [heap_holds, if_neg (fun e => h2 e.1)]; exact h.block k hk h1 h2 h3, h.fresh⟩
theorem Keeps.hp {a b vb : Nat} {lv : Value} {w w' : World} (h : Keeps a b vb lv w w') {k : Nat} {o : Obj} (hk : w.heap[k]? = some o) (h1 : k ≠ a) (h2 : k ≠ b) (h3 : k ≠ vb) : w'.heap[k]? = some o :=
  (h.block k (Array.getElem?_eq_some_iff.1 hk).1 h1 h2 h3).trans hk
theorem Keeps.own {a b vb B n k : Nat} {lv v : Value} {w w' : World} {E : TypeId} {xs : List Value} (h : w.ownsRow B E k v n xs) (hk : Keeps a b vb lv w w')
    (h1 : v.ownBlock ≠ some a) (h2 : v.ownBlock ≠ some b) (h3 : v.ownBlock ≠ some vb) : w'.ownsRow B E k v n xs := by
  obtain ⟨e, h0 | ⟨g, cap, cur, hv, hg, hh, r⟩⟩ := h
  · exact ⟨e, .inl h0⟩
  · have hv' : v.ownBlock = some g := by rw [hv]; rfl
    exact ⟨e, .inr ⟨g, cap, cur, hv, hg, hk.hp hh (fun e => h1 (by rw [hv', e])) (fun e => h2 (by rw [hv', e])) (fun e => h3 (by rw [hv', e])), r⟩⟩
theorem Row.keeps {a b vb B : Nat} {lv v : Value} {cs : List Int} {w w' : World} {ca cb cv : Array Value} {Ta Tb Tv : TypeId} (h : Row B v cs w) (hk : Keeps a b vb lv w w')
    (ha : w.heap[a]? = some (.cells ca Ta (0, 0))) (hb : w.heap[b]? = some (.cells cb Tb (0, 0))) (hv : w.heap[vb]? = some (.cells cv Tv (0, 0))) (h1 : Ta ≠ 3) (h2 : Tb ≠ 3) (h3 : Tv ≠ 3) : Row B v cs w' :=
  ⟨Keeps.own h.row hk (own_ne h.row ha h1) (own_ne h.row hb h2) (own_ne h.row hv h3), h.pos⟩
theorem Row.cap {B vb : Nat} {v : Value} {cs : List Int} {w : World} {c : Array Value} {T : TypeId} (h : Row B v cs w) (hv : w.heap[vb]? = some (.cells c T (0, 0))) (hT : T ≠ 3) : Cap B vb v cs w :=
  ⟨h.row, own_ne h.row hv hT, h.pos⟩
theorem Cap.toRow {B vb : Nat} {v : Value} {cs : List Int} {w : World} (h : Cap B vb v cs w) : Row B v cs w := ⟨h.row, h.pos⟩
theorem Row.other {B : Nat} {v : Value} {cs : List Int} {w : World} (h : Row B v cs w) {b : Nat} {c c' : Array Value} {T : TypeId} (hb : w.heap[b]? = some (.cells c T (0, 0))) (hT : T ≠ 3) : Row B v cs (holds w b c' T) :=
  ⟨own_holds h.row (own_ne h.row hb hT), h.pos⟩
/-- The offsets of a thread of a row. -/
theorem rthm_cells {W : World} {B : Nat} {lv : Value} {ms : List ThM} (h : W.ownsRow B 102 2 lv ms.length (flatE ThM.enc ms)) {j : Nat} (hj : j < ms.length) :
    ∃ lb lc, lv = .slice (some ⟨lb, 0, none⟩) ms.length lc ∧ lb < W.heap.size ∧ W.cell? ⟨lb, j * 2, none⟩ = some (.int .i64 (ms[j]!.k : Int)) ∧ W.cell? ⟨lb, j * 2 + 1, none⟩ = some ms[j]!.v := by
  obtain ⟨_, ⟨_, h0⟩ | ⟨lb, lc, cur, hv, hb, hh, hn, hm, hz, ht⟩⟩ := h
  · omega
  have q : ∀ f, f < 2 → cur[j * 2 + f]? = ms[j]!.enc[f]? := fun f hf => by
    have h1 : (cur.toList.take (ms.length * 2))[j * 2 + f]? = ms[j]!.enc[f]? := by
      rw [ht, flatE_get thm_len ms j f hf, List.getElem?_eq_getElem hj, getElem!_pos ms j hj]; rfl
    rw [List.getElem?_take, if_pos (by omega)] at h1
    rw [← Array.getElem?_toList]
    exact h1
  exact ⟨lb, lc, hv, (Array.getElem?_eq_some_iff.1 hh).1, cell_heap hh _ _ (q 0 (by omega)), cell_heap hh _ _ (q 1 (by omega))⟩
/-- A match in memory, as the reference has it. -/
def FV (B p : Nat) (r : Option (List Int × Nat)) (v : Value) (b1 b2 : Int) (b3 : Bool) (W : World) : Prop :=
  match r with
  | none => v = .slice none 0 0 ∧ b1 = 0 ∧ b2 = 0 ∧ b3 = false
  | some (cs, e) => Row B v cs W ∧ b1 = (p : Int) ∧ b2 = (e : Int) ∧ b3 = true
theorem FV.later {B p : Nat} {r : Option (List Int × Nat)} {v : Value} {b1 b2 : Int} {b3 : Bool} {W W' : World} (h : FV B p r v b1 b2 b3 W) (hb : Below W.heap.size W W') : FV B p r v b1 b2 b3 W' := by
  unfold FV at h ⊢
  split at h
  · exact h
  · exact ⟨h.1.later hb, h.2⟩
theorem FV.other {B p : Nat} {r : Option (List Int × Nat)} {v : Value} {b1 b2 : Int} {b3 : Bool} {W : World} (h : FV B p r v b1 b2 b3 W) {b : Nat} {c c' : Array Value} {T : TypeId} (hb : W.heap[b]? = some (.cells c T (0, 0))) (hT : T ≠ 3) : FV B p r v b1 b2 b3 (holds W b c' T) := by
  unfold FV at h ⊢
  split at h
  · exact h
  · exact ⟨h.1.other hb hT, h.2⟩
theorem FV.own {B p vb B' n : Nat} {r : Option (List Int × Nat)} {v lv lv' : Value} {b1 b2 : Int} {b3 : Bool} {W W' : World} {c : Array Value} {xs : List Value} (h : FV B p r v b1 b2 b3 W) (hv : W.heap[vb]? = some (.cells c 4 (0, 0))) (hr : W.ownsRow B' 102 2 lv n xs) (hk : Kept vb vb lv lv' W W') : FV B p r v b1 b2 b3 W' := by
  unfold FV at h ⊢
  split at h
  · exact h
  · exact ⟨((h.1.cap hv (by decide)).own hr hk).toRow, h.2⟩
theorem FV.form {B p : Nat} {r : Option (List Int × Nat)} {v : Value} {b1 b2 : Int} {b3 : Bool} {W : World} (h : FV B p r v b1 b2 b3 W) : ∃ a n c, v = .slice a n c := by
  unfold FV at h
  split at h
  · exact ⟨_, _, _, h.1⟩
  · obtain ⟨b, c, e, _⟩ := h.1.form
    exact ⟨_, _, _, e⟩
/-- What from of the reference leaves. -/
def FromPost (w : World) (p : Nat) (r : Option (List Int × Nat)) (e : Ending) (W : World) : Prop :=
  ∃ v b1 b2 b3, e = .returned (.agg #[v, .int .i64 b1, .int .i64 b2, .bool b3]) ∧ FV w.heap.size p r v b1 b2 b3 W ∧ Below w.heap.size w W
/-- The first k of m cells are -1. -/
def minusC (k m : Nat) : Array Value := (List.replicate k (Value.int .i64 (-1)) ++ List.replicate (m - k) (Value.int .i64 0)).toArray
theorem minusC_get (k m j : Nat) : (minusC k m)[j]? = if j < k then some (Value.int .i64 (-1)) else if j < k + (m - k) then some (Value.int .i64 0) else none := by
  unfold minusC
  rw [List.getElem?_toArray, List.getElem?_append, List.length_replicate, List.getElem?_replicate, List.getElem?_replicate]
  split
  · rfl
  · by_cases h : j < k + (m - k)
    · rw [if_pos (by omega), if_pos h]
    · rw [if_neg (by omega), if_neg h]
theorem minusC_size (k m : Nat) : (minusC k m).size = k + (m - k) := by simp [minusC]
theorem minusC_set (k m : Nat) (h : k < m) : (minusC k m).setIfInBounds k (.int .i64 (-1)) = minusC (k + 1) m := by
  apply Array.ext_getElem?
  intro j
  rw [Array.getElem?_setIfInBounds, minusC_size, minusC_get, minusC_get]
  by_cases e : k = j
  · subst e
    rw [if_pos rfl, if_pos (by omega), if_pos (by omega)]
  · rw [if_neg e]
    repeat' split
    all_goals first | rfl | omega
theorem minusC_zero (m : Nat) : encV (List.replicate m false) = minusC 0 m := by
  apply Array.ext_getElem?
  intro j
  rw [minusC_get]
  simp [encV, bI, List.getElem?_replicate]
  split <;> simp_all
theorem minusC_full (m : Nat) : (minusC m m).toList.take m = List.replicate m (Value.int .i64 (-1)) := by
  simp [minusC]
/-- The inner loop of from, at the end of the text nothing. -/
def stepG (L : List In) (n q : Nat) (c : Int) (l : List Th) (st : List Bool × List Th) : List Bool × List Th := if q < n then stepF L n (q + 1) c l st else st
theorem stepG_nil {L : List In} {n q : Nat} {c : Int} {st : List Bool × List Th} : stepG L n q c [] st = st := by unfold stepG stepF; split <;> rfl
theorem stepG_cons {L : List In} {n q : Nat} {c : Int} {t : Th} {l : List Th} {st : List Bool × List Th} (h : q < n) : stepG L n q c (t :: l) st = stepG L n q c l (if accF L[t.1]! c then addF (L.length + 1) L n (q + 1) (t.1 + 1) t.2 st else st) := by
  unfold stepG
  rw [if_pos h, if_pos h]
  rfl
theorem stepG_end {L : List In} {n q : Nat} {c : Int} {l l' : List Th} {st : List Bool × List Th} (h : ¬ q < n) : stepG L n q c l st = stepG L n q c l' st := by
  unfold stepG
  rw [if_neg h, if_neg h]
theorem foundF_snoc (L : List In) (t : Th) : ∀ l : List Th, foundF L (l ++ [t]) = match foundF L l with | some c => some c | none => if L[t.1]!.op = 9 then some t.2 else none
  | [] => by
    rw [List.nil_append, show foundF L ([] : List Th) = none from rfl]
    rfl
  | u :: l => by
    rw [List.cons_append]
    show (if L[u.1]!.op = 9 then some u.2 else foundF L (l ++ [t])) = match (if L[u.1]!.op = 9 then some u.2 else foundF L l) with | some c => some c | none => if L[t.1]!.op = 9 then some t.2 else none
    split
    · rfl
    · exact foundF_snoc L t l
/-- The state of from at the head of its great loop. -/
structure OS (w : World) (ao : Option Addr) (n cap : Nat) (g : Int) (L : List In) (a4 a8 a11 a12 p vb : Nat) (v : List Bool) (la : Option Addr) (lc : Nat) (l : List Th) (best : Option (List Int × Nat)) (ba : Option Addr) (bn bc : Nat) (b1 b2 : Int) (b3 : Bool) (W : World) : Prop where
  ts : TS w n vb v (.slice la l.length lc) l W
  r4 : W.heap[a4]? = some (.cells #[.slice ao n cap, .int .i64 g] 24 (0, 0))
  r8 : W.heap[a8]? = some (.cells #[.slice none 0 0, .int .i64 0, .int .i64 0, .bool false] 65 (0, 0))
  r11 : W.heap[a11]? = some (.cells #[.slice la l.length lc, .slice (some ⟨vb, 0, none⟩) n n] 98 (0, 0))
  r12 : W.heap[a12]? = some (.cells #[.slice ba bn bc, .int .i64 b1, .int .i64 b2, .bool b3] 65 (0, 0))
  bst : FV w.heap.size p best (.slice ba bn bc) b1 b2 b3 W
  th : ∀ t ∈ l, TOk L g t
theorem OS.later {w : World} {ao : Option Addr} {n cap : Nat} {g : Int} {L : List In} {a4 a8 a11 a12 p vb : Nat} {v : List Bool} {la : Option Addr} {lc : Nat} {l : List Th} {best : Option (List Int × Nat)} {ba : Option Addr} {bn bc : Nat} {b1 b2 : Int} {b3 : Bool} {W W' : World} (h : OS w ao n cap g L a4 a8 a11 a12 p vb v la lc l best ba bn bc b1 b2 b3 W) (hb : Below W.heap.size W W') : OS w ao n cap g L a4 a8 a11 a12 p vb v la lc l best ba bn bc b1 b2 b3 W' :=
  ⟨h.ts.later hb, heap_later h.r4 hb, heap_later h.r8 hb, heap_later h.r11 hb, heap_later h.r12 hb, h.bst.later hb, h.th⟩

end Go.Proofs.Ytfhccmegobbnaaa
