/- This text gives the plain reading of the machine of package regex, and speaks of its box, its rows and the offsets of its threads. Conditions: those that each theorem names. -/
import Derived.Test.YtfhccmegobbnaaaRegexQ
namespace Go.Proofs.Ytfhccmegobbnaaa
open Go.ChangeShapes Go.WideShapes Go.ChangeAt Go.RowKit
set_option linter.unusedVariables false
set_option linter.unusedSimpArgs false

/-- A thread: the index of an instruction and offsets. -/
abbrev Th := Nat × List Int
/-- Adds a thread to the list of a position, with fuel; v: which instructions were visited. -/
def addF : Nat → List In → Nat → Nat → Nat → List Int → List Bool × List Th → List Bool × List Th
  | 0, _, _, _, _, _, st => st
  | f + 1, L, n, pos, k, cs, (v, l) =>
    if v[k]! then (v, l) else
    if L[k]!.op = 7 then addF f L n pos L[k]!.x.toNat cs (v.set k true, l)
    else if L[k]!.op = 6 then addF f L n pos L[k]!.y.toNat cs (addF f L n pos L[k]!.x.toNat cs (v.set k true, l))
    else if L[k]!.op = 8 then addF f L n pos (k + 1) (cs.set L[k]!.x.toNat (pos : Int)) (v.set k true, l)
    else if L[k]!.op = 4 then (if pos = 0 then addF f L n pos (k + 1) cs (v.set k true, l) else (v.set k true, l))
    else if L[k]!.op = 5 then (if pos = n then addF f L n pos (k + 1) cs (v.set k true, l) else (v.set k true, l))
    else (v.set k true, l ++ [(k, cs)])

theorem addF_seen {f : Nat} {L : List In} {n pos k : Nat} {cs : List Int} {v : List Bool} {l : List Th} (h : v[k]! = true) : addF (f + 1) L n pos k cs (v, l) = (v, l) := by
  unfold addF; rw [if_pos h]
theorem count_set (v : List Bool) : ∀ (k : Nat), k < v.length → v[k]! = false → (v.set k true).count false + 1 = v.count false := by
  induction v with
  | nil => intro k h; simp at h
  | cons a v ih =>
    intro k h h2
    cases k with
    | zero => simp at h2; subst h2; simp
    | succ k =>
      have h3 : k < v.length := by simpa using h
      have h4 : v[k]! = false := by rw [getElem!_pos v k h3]; rw [getElem!_pos (a :: v) (k + 1) h] at h2; simpa using h2
      have := ih k h3 h4
      simp only [List.set_cons_succ, List.count_cons]
      omega
theorem addF_len : ∀ (f : Nat) (L : List In) (n pos k : Nat) (cs : List Int) (st : List Bool × List Th), (addF f L n pos k cs st).1.length = st.1.length
  | 0, _, _, _, _, _, _ => rfl
  | f + 1, L, n, pos, k, cs, (v, l) => by
    unfold addF
    repeat' split
    all_goals simp [addF_len f]
theorem addF_count : ∀ (f : Nat) (L : List In) (n pos k : Nat) (cs : List Int) (st : List Bool × List Th), (addF f L n pos k cs st).1.count false ≤ st.1.count false
  | 0, _, _, _, _, _, _ => Nat.le_refl _
  | f + 1, L, n, pos, k, cs, (v, l) => by
    have hs : (v.set k true).count false ≤ v.count false := by
      by_cases hk : k < v.length
      · cases hv : v[k]! with
        | false => have := count_set v k hk hv; omega
        | true =>
          rw [getElem!_pos v k hk] at hv
          rw [← hv, List.set_getElem_self hk]
          exact Nat.le_refl _
      · rw [List.set_eq_of_length_le (by omega)]; exact Nat.le_refl _
    unfold addF
    repeat' split
    all_goals first
      | exact Nat.le_refl _
      | exact hs
      | exact Nat.le_trans (addF_count f _ _ _ _ _ _) hs
      | exact Nat.le_trans (addF_count f _ _ _ _ _ _) (Nat.le_trans (addF_count f _ _ _ _ _ _) hs)

/-! ### Memory -/
/-- Two lists are alike, element by element. -/
inductive All2 {α β : Type} (R : α → β → Prop) : List α → List β → Prop
  | nil : All2 R [] []
  | cons {a : α} {b : β} {xs : List α} {ys : List β} : R a b → All2 R xs ys → All2 R (a :: xs) (b :: ys)
theorem forall2_imp {α β : Type} {R S : α → β → Prop} (h : ∀ a b, R a b → S a b) {xs : List α} {ys : List β} (hr : All2 R xs ys) : All2 S xs ys := by
  induction hr with
  | nil => exact .nil
  | cons h1 _ ih => exact .cons (h _ _ h1) ih
theorem All2.snoc {α β : Type} {R : α → β → Prop} {a : α} {b : β} {xs : List α} {ys : List β} (h : All2 R xs ys) (hab : R a b) : All2 R (xs ++ [a]) (ys ++ [b]) := by
  induction h with
  | nil => exact .cons hab .nil
  | cons h1 _ ih => exact .cons h1 ih
theorem All2.len {α β : Type} {R : α → β → Prop} {xs : List α} {ys : List β} (h : All2 R xs ys) : xs.length = ys.length := by
  induction h with
  | nil => rfl
  | cons h1 _ ih => simp [ih]
theorem All2.get {α β : Type} [Inhabited α] [Inhabited β] {R : α → β → Prop} {xs : List α} {ys : List β} (h : All2 R xs ys) : ∀ k, k < xs.length → R xs[k]! ys[k]! := by
  induction h with
  | nil => intro k hk; simp at hk
  | cons h1 _ ih =>
    intro k hk
    cases k with
    | zero => simpa using h1
    | succ k => simpa using ih k (by simpa using hk)
/-- A thread in memory. -/
structure ThM where
  k : Nat
  v : Value
def ThM.enc (t : ThM) : List Value := [.int .i64 (t.k : Int), t.v]
theorem thm_len (x : ThM) : x.enc.length = 2 := rfl
/-- The offsets of a thread in memory: a row of its own from block B on, apart from block vb. -/
structure Cap (B vb : Nat) (v : Value) (cs : List Int) (W : World) : Prop where
  row : W.ownsRow B 3 1 v cs.length (cs.map (Value.int .i64))
  ne : v.ownBlock ≠ some vb
  pos : 0 < cs.length
def bI (b : Bool) : Value := .int .i64 (if b then 1 else 0)
def encV (v : List Bool) : Array Value := (v.map bI).toArray
def mBox (L : List In) (ao : Option Addr) (cap : Nat) (g : Int) (s : ByteArray) (pos : Int) (vs lv : Value) : Array Value :=
  #[.slice ao L.length cap, .int .i64 g, .string s, .int .i64 pos, vs, lv]
/-- What a call of the machine may change: its box, the row of visited, the row of the list. -/
structure Kept (mb vb : Nat) (lv lv' : Value) (w w' : World) : Prop where
  os : w'.os = w.os
  tape : w'.tape = w.tape
  output : w'.output = w.output
  size : w.heap.size ≤ w'.heap.size
  block : ∀ b, b < w.heap.size → b ≠ mb → b ≠ vb → lv.ownBlock ≠ some b → w'.heap[b]? = w.heap[b]?
  fresh : ∀ b, b < w.heap.size → lv'.ownBlock = some b → lv.ownBlock = some b
theorem Kept.of_below {mb vb : Nat} {lv : Value} {w w' : World} (h : Below w.heap.size w w') : Kept mb vb lv lv w w' :=
  ⟨h.os, h.tape, h.output, h.size, fun b hb _ _ _ => h.block b hb, fun _ _ h => h⟩
theorem Kept.trans {mb vb : Nat} {l1 l2 l3 : Value} {a b c : World} (h : Kept mb vb l1 l2 a b) (k : Kept mb vb l2 l3 b c) : Kept mb vb l1 l3 a c :=
  ⟨k.os.trans h.os, k.tape.trans h.tape, k.output.trans h.output, Nat.le_trans h.size k.size,
   fun i hi h1 h2 h3 => (k.block i (Nat.lt_of_lt_of_le hi h.size) h1 h2 (fun e => h3 (h.fresh i hi e))).trans (h.block i hi h1 h2 h3),
   fun i hi e => h.fresh i hi (k.fresh i (Nat.lt_of_lt_of_le hi h.size) e)⟩
theorem Kept.below {mb vb B : Nat} {lv lv' : Value} {w0 w w' : World} (h : Kept mb vb lv lv' w w') (hb : Below B w0 w) (h1 : B ≤ mb) (h2 : B ≤ vb) (h3 : ∀ b, lv.ownBlock = some b → B ≤ b) (hB : B ≤ w.heap.size) : Below B w0 w' :=
  hb.trans ⟨h.os, h.tape, h.output, h.size, fun k hk => h.block k (by omega) (by omega) (by omega) (fun e => by have := h3 k e; omega)⟩
/-- A block of other cells stays. -/
theorem Kept.hp {mb vb : Nat} {lv lv' : Value} {w w' : World} (h : Kept mb vb lv lv' w w') {b : Nat} {o : Obj} (hb : w.heap[b]? = some o) (h1 : b ≠ mb) (h2 : b ≠ vb) (h3 : lv.ownBlock ≠ some b) : w'.heap[b]? = some o :=
  (h.block b (Array.getElem?_eq_some_iff.1 hb).1 h1 h2 h3).trans hb
theorem own_kept {mb vb B n k : Nat} {lv lv' v : Value} {w w' : World} {E : TypeId} {xs : List Value} (h : w.ownsRow B E k v n xs) (hk : Kept mb vb lv lv' w w')
    (h1 : v.ownBlock ≠ some mb) (h2 : v.ownBlock ≠ some vb) (h3 : ∀ b, v.ownBlock = some b → lv.ownBlock ≠ some b) : w'.ownsRow B E k v n xs := by
  obtain ⟨e, h0 | ⟨g, cap, cur, hv, hg, hh, r⟩⟩ := h
  · exact ⟨e, .inl h0⟩
  · have hv' : v.ownBlock = some g := by rw [hv]; rfl
    refine ⟨e, .inr ⟨g, cap, cur, hv, hg, hk.hp hh (fun e => h1 (by rw [hv', e])) (fun e => h2 (by rw [hv', e])) (h3 g hv'), r⟩⟩
theorem own_block {B n k : Nat} {v : Value} {w : World} {E : TypeId} {xs : List Value} (h : w.ownsRow B E k v n xs) {b : Nat} (hb : v.ownBlock = some b) : B ≤ b ∧ b < w.heap.size ∧ ∃ cur, w.heap[b]? = some (.cells cur E (0, 0)) := by
  obtain ⟨e, ⟨h0, _⟩ | ⟨g, cap, cur, hv, hg, hh, r⟩⟩ := h
  · rw [h0] at hb; cases hb
  · have hv' : v.ownBlock = some g := by rw [hv]; rfl
    have : g = b := by rw [hv'] at hb; exact Option.some.inj hb
    subst this
    exact ⟨hg, (Array.getElem?_eq_some_iff.1 hh).1, cur, hh⟩
/-- Rows of different types lie apart. -/
theorem own_apart {B B' n n' k k' : Nat} {v v' : Value} {w : World} {E E' : TypeId} {xs xs' : List Value} (h : w.ownsRow B E k v n xs) (h' : w.ownsRow B' E' k' v' n' xs') (hE : E ≠ E') : ∀ b, v.ownBlock = some b → v'.ownBlock ≠ some b := by
  intro b hb hb'
  obtain ⟨_, _, c, hc⟩ := own_block h hb
  obtain ⟨_, _, c', hc'⟩ := own_block h' hb'
  rw [hc] at hc'
  injection hc' with e
  injection e with _ e
  exact hE e
/-- The machine in block mb at a position, with visited in block vb and the list in the row lv. -/
structure MS (w0 : World) (L : List In) (ao : Option Addr) (cap : Nat) (g : Int) (s : ByteArray) (mb : Nat) (pos : Nat) (vb : Nat) (v : List Bool) (lv : Value) (l : List Th) (W : World) : Prop where
  hb : Below w0.heap.size w0 W
  hm : w0.heap.size ≤ mb
  hvb : w0.heap.size ≤ vb
  box : W.heap[mb]? = some (.cells (mBox L ao cap g s (pos : Int) (.slice (some ⟨vb, 0, none⟩) L.length L.length) lv) 73 (0, 0))
  vis : W.heap[vb]? = some (.cells (encV v) 3 (0, 0))
  len : v.length = L.length
  row : ∃ ms : List ThM, W.ownsRow w0.heap.size 79 2 lv ms.length (flatE ThM.enc ms) ∧ All2 (fun m t => m.k = t.1 ∧ Cap w0.heap.size vb m.v t.2 W) ms l
  cnt : l.length + v.count false ≤ v.length
theorem Cap.kept {B B' n mb vb : Nat} {v lv lv' : Value} {cs : List Int} {w w' : World} {c : Array Value} {xs : List Value} (h : Cap B vb v cs w) (hm : w.heap[mb]? = some (.cells c 73 (0, 0))) (hr : w.ownsRow B' 79 2 lv n xs) (hk : Kept mb vb lv lv' w w') : Cap B vb v cs w' :=
  ⟨own_kept h.row hk (own_ne h.row hm (by decide)) h.ne (own_apart h.row hr (by decide)), h.ne, h.pos⟩
theorem Cap.later {B vb : Nat} {v : Value} {cs : List Int} {w w' : World} (h : Cap B vb v cs w) (hb : Below w.heap.size w w') : Cap B vb v cs w' := ⟨own_from h.row hb, h.ne, h.pos⟩
theorem MS.later {w0 : World} {L : List In} {ao : Option Addr} {cap : Nat} {g : Int} {s : ByteArray} {mb pos vb : Nat} {v : List Bool} {lv : Value} {l : List Th} {W W' : World} (h : MS w0 L ao cap g s mb pos vb v lv l W) (hb : Below W.heap.size W W') : MS w0 L ao cap g s mb pos vb v lv l W' :=
  let ⟨ms, h1, h2⟩ := h.row
  ⟨h.hb.trans (hb.mono h.hb.size), h.hm, h.hvb, heap_later h.box hb, heap_later h.vis hb, h.len, ⟨ms, own_from h1 hb, forall2_imp (fun _ _ hr => ⟨hr.1, hr.2.later hb⟩) h2⟩, h.cnt⟩
theorem MS.lt {w0 : World} {L : List In} {ao : Option Addr} {cap : Nat} {g : Int} {s : ByteArray} {mb pos vb : Nat} {v : List Bool} {lv : Value} {l : List Th} {W : World} (h : MS w0 L ao cap g s mb pos vb v lv l W) : mb < W.heap.size ∧ vb < W.heap.size ∧ ¬ mb = vb := by
  refine ⟨(Array.getElem?_eq_some_iff.1 h.box).1, (Array.getElem?_eq_some_iff.1 h.vis).1, fun e => ?_⟩
  have h1 := h.box
  rw [e, h.vis] at h1
  injection h1 with h1
  injection h1 with _ h1
  exact absurd h1 (by decide)
/-- Instruction k is marked. -/
theorem encV_set (v : List Bool) (k : Nat) : encV (v.set k true) = (encV v).setIfInBounds k (.int .i64 1) := by
  unfold encV
  rw [List.setIfInBounds_toArray, List.map_set]
  rfl
theorem encV_get {v : List Bool} {k : Nat} (h : k < v.length) : (encV v)[k]? = some (bI v[k]!) := by
  unfold encV
  rw [List.getElem?_toArray, List.getElem?_map, List.getElem?_eq_getElem h, getElem!_pos v k h]
  rfl
theorem own_block_lt {B n k : Nat} {v : Value} {w : World} {E : TypeId} {xs : List Value} (h : w.ownsRow B E k v n xs) {vb : Nat} {c : Array Value} {T : TypeId} (hh : w.heap[vb]? = some (.cells c T (0, 0))) (hT : T ≠ E) : v.ownBlock ≠ some vb := own_ne h hh hT
theorem MS.mark {w0 : World} {L : List In} {ao : Option Addr} {cap : Nat} {g : Int} {s : ByteArray} {mb pos vb : Nat} {v : List Bool} {lv : Value} {l : List Th} {W : World} (h : MS w0 L ao cap g s mb pos vb v lv l W) {k : Nat} (hk : k < L.length) (hv : v[k]! = false) :
    MS w0 L ao cap g s mb pos vb (v.set k true) lv l (holds W vb (encV (v.set k true)) 3) ∧ Kept mb vb lv lv W (holds W vb (encV (v.set k true)) 3) := by
  obtain ⟨ms, h1, h2⟩ := h.row
  obtain ⟨l1, l2, l3⟩ := h.lt
  have hK : Kept mb vb lv lv W (holds W vb (encV (v.set k true)) 3) := ⟨rfl, rfl, rfl, by rw [size_holds]; exact Nat.le_refl _, fun b hb _ hne _ => by rw [heap_holds, if_neg (fun e => hne e.1)], fun _ _ h => h⟩
  have hc := count_set v k (by rw [h.len]; exact hk) hv
  exact ⟨⟨below_holds h.hb h.hvb _ _, h.hm, h.hvb, hh_ne l3 h.box, hh_eq l2, by rw [List.length_set]; exact h.len, ⟨ms, own_holds h1 (own_ne h1 h.vis (by decide)), forall2_imp (fun _ _ hr => ⟨hr.1, hr.2.kept h.box h1 hK⟩) h2⟩, by have := h.cnt; rw [List.length_set]; omega⟩, hK⟩
/-- A thread behind the others. -/
theorem MS.push {w0 : World} {L : List In} {ao : Option Addr} {cap : Nat} {g : Int} {s : ByteArray} {mb pos vb : Nat} {v : List Bool} {lv lv' : Value} {l : List Th} {W W1 : World} {ms : List ThM} {k : Nat} {cv : Value} {cs : List Int} (h : MS w0 L ao cap g s mb pos vb v lv l W)
    (h2 : All2 (fun m t => m.k = t.1 ∧ Cap w0.heap.size vb m.v t.2 W) ms l) (h1 : W.ownsRow w0.heap.size 79 2 lv ms.length (flatE ThM.enc ms))
    (hc : Cap w0.heap.size vb cv cs W) (hg : W.grownBy W1 lv.ownBlock) (hn : ∀ b, b < W.heap.size → lv'.ownBlock = some b → lv.ownBlock = some b)
    (hr : W1.ownsRow w0.heap.size 79 2 lv' (ms ++ [(⟨k, cv⟩ : ThM)]).length (flatE ThM.enc (ms ++ [(⟨k, cv⟩ : ThM)]))) (hct : (l.length + 1) + v.count false ≤ v.length) :
    MS w0 L ao cap g s mb pos vb v lv' (l ++ [(k, cs)]) (holds W1 mb (mBox L ao cap g s (pos : Int) (.slice (some ⟨vb, 0, none⟩) L.length L.length) lv') 73) ∧ Kept mb vb lv lv' W (holds W1 mb (mBox L ao cap g s (pos : Int) (.slice (some ⟨vb, 0, none⟩) L.length L.length) lv') 73) := by
  obtain ⟨l1, l2, l3⟩ := h.lt
  have hm1 : W1.heap[mb]? = _ := (hg.block mb l1 (fun e => own_ne h1 h.box (by decide) e.symm)).trans h.box
  have hv1 : W1.heap[vb]? = _ := (hg.block vb l2 (fun e => own_ne h1 h.vis (by decide) e.symm)).trans h.vis
  have lt1 := Nat.lt_of_lt_of_le l1 hg.size
  have hK : Kept mb vb lv lv' W (holds W1 mb (mBox L ao cap g s (pos : Int) (.slice (some ⟨vb, 0, none⟩) L.length L.length) lv') 73) :=
    ⟨hg.os, hg.tape, hg.output, by rw [size_holds]; exact hg.size, fun b hb hne _ hl => by rw [heap_holds, if_neg (fun e => hne e.1)]; exact hg.block b hb (fun e => hl e.symm), hn⟩
  have hbl : ∀ b, lv.ownBlock = some b → w0.heap.size ≤ b := fun b e => (own_block h1 e).1
  refine ⟨⟨hK.below h.hb h.hm h.hvb hbl h.hb.size, h.hm, h.hvb, hh_eq lt1, hh_ne (fun e => l3 e.symm) hv1, h.len, ⟨ms ++ [⟨k, cv⟩], own_holds hr (own_ne hr hm1 (by decide)), ?_⟩, by rw [List.length_append]; exact hct⟩, hK⟩
  exact (forall2_imp (fun _ _ hr => ⟨hr.1, hr.2.kept h.box h1 hK⟩) h2).snoc ⟨rfl, hc.kept h.box h1 hK⟩

end Go.Proofs.Ytfhccmegobbnaaa
