/- This text proves general facts that the walks of this seat use: what a law's row asks behind a call that only adds memory, and how structs and slices of structs read. It has no conditions. -/
import Derived.Test.YtfhccmegobbnaaaRows
import Derived.WalkKit
import Derived.ProofKit
import Derived.OpenShut
import Derived.Deep.Slices
import Derived.Deep.Draws
import Derived.Deep.QuietTactic
import Derived.BigQuiet
import Derived.WalkLawsBesides
namespace Go.Proofs.Ytfhccmegobbnaaa
open Go.ChangeShapes Go.WideShapes Go.ChangeAt Go.RowKit
set_option linter.unusedVariables false

@[go_sem] theorem alloc_drewN (w : World) (n : Nat) (o : Obj) : (w.drewN n).alloc o = (w.alloc o).drewN n := rfl
@[go_sem] theorem setCell_drewN (w : World) (n : Nat) (a : Addr) (v : Value) : (w.drewN n).setCell a v = (w.setCell a v).drewN n := rfl

theorem below_drewN {B : Nat} {a w : World} (h : Below B a w) (q : Nat) : Below B a (w.drewN q) := ⟨h.os, h.tape, h.output, h.size, h.block⟩

/-! ### A region that draws its order, whose operations read old memory and whose callees only add memory -/

/-- w with more blocks behind its own, and another count of draws. -/
def plus (w x : World) : World := { w with heap := w.heap ++ x.heap, drawn := x.drawn }

theorem plus_of_below {w w' : World} (h : Below w.heap.size w w') : ∃ x, w' = plus w x := by
  refine ⟨{ w' with heap := w'.heap.extract w.heap.size w'.heap.size }, ?_⟩
  obtain ⟨h1, h2, h3, h4, h5⟩ := h
  have hh : w'.heap = w.heap ++ w'.heap.extract w.heap.size w'.heap.size := by
    apply Array.ext_getElem?
    intro i
    rw [Array.getElem?_append]
    split
    · rename_i hi; exact h5 i hi
    · rename_i hi
      rw [Array.getElem?_extract]
      by_cases hlt : i < w'.heap.size
      · rw [if_pos (by omega), show w.heap.size + (i - w.heap.size) = i by omega]
      · rw [if_neg (by omega), Array.getElem?_eq_none (by omega)]
  cases w with
  | mk hp tp dr os ou =>
    cases w' with
    | mk hp' tp' dr' os' ou' =>
      simp only [plus] at *
      subst h1; subst h2; subst h3
      rw [← hh]

theorem below_plus (w x : World) : Below w.heap.size w (plus w x) :=
  ⟨rfl, rfl, rfl, by simp [plus], fun k hk => by simp [plus, Array.getElem?_append, hk]⟩

theorem calls_plus {P : Program} {f : FuncId} {args : Array Value} {w x : World} {v : Value}
    (h : Calls P f args (plus w x) fun e w' => e = .returned v ∧ Below (plus w x).heap.size (plus w x) w') : Calls P f args (plus w x) fun e w'' => e = .returned v ∧ ∃ y, w'' = plus w y :=
  h.mono fun _ _ ⟨he, hb⟩ => ⟨he, plus_of_below ((below_plus w x).trans (hb.mono (below_plus w x).size))⟩

theorem plus_next {w x w' : World} (h : Below (plus w x).heap.size (plus w x) w') : ∃ y, w' = plus w y :=
  plus_of_below ((below_plus w x).trans (h.mono (below_plus w x).size))

theorem size_plus_le (w x : World) : w.heap.size ≤ (plus w x).heap.size := (below_plus w x).size
@[go_sem] theorem size_plus (w x : World) : (plus w x).heap.size = w.heap.size + x.heap.size := by simp [plus]
/-- A cell, or a store, in what plus adds. (Names that the walk does not open.) -/
def farCell (w x : World) (b o : Nat) (s : Option Nat) : Option Value := (plus w x).cell? ⟨b, o, s⟩
def farFrozen (w x : World) (b o : Nat) (s : Option Nat) : Bool := (plus w x).frozen? ⟨b, o, s⟩
def farSet (w x : World) (b o : Nat) (v : Value) : World := (plus w x).setCell ⟨b, o, none⟩ v
@[go_sem] theorem cell?_plus (w x : World) (b o : Nat) (s : Option Nat) : (plus w x).cell? ⟨b, o, s⟩ = if b < w.heap.size then w.cell? ⟨b, o, s⟩ else farCell w x b o s := by
  split
  · rename_i h; exact (below_plus w x).cell (p := ⟨b, o, s⟩) h
  · rfl
/-- A Bool in a box: so that a choice between two of them is decided before it is taken apart. -/
structure Bx where
  val : Bool
@[go_sem] theorem frozen?_plus (w x : World) (b o : Nat) (s : Option Nat) : (plus w x).frozen? ⟨b, o, s⟩ = (if b < w.heap.size then Bx.mk (w.frozen? ⟨b, o, s⟩) else Bx.mk (farFrozen w x b o s)).val := by
  split
  · rename_i h; exact (below_plus w x).frozen (p := ⟨b, o, s⟩) h
  · rfl
@[go_sem] theorem cell?_alloc_ite (w : World) (c : Array Value) (t : TypeId) (n i : Nat) : (w.alloc (.cells c t)).cell? ⟨n, i, none⟩ = if n = w.heap.size then c[i]? else w.cell? ⟨n, i, none⟩ := by
  split
  · rename_i h; exact World.cell?_alloc_at c t n i h
  · rename_i h; exact World.cell?_alloc_old _ _ _ h
@[go_sem] theorem frozen?_alloc_ite (w : World) (c : Array Value) (t : TypeId) (n i : Nat) : (w.alloc (.cells c t)).frozen? ⟨n, i, none⟩ = (if n = w.heap.size then Bx.mk false else Bx.mk (w.frozen? ⟨n, i, none⟩)).val := by
  split
  · rename_i h; exact World.frozen?_alloc_at c t n i h
  · rename_i h; exact World.frozen?_alloc_old _ _ _ h
@[go_sem] theorem setCell_alloc_ite (w : World) (c : Array Value) (t : TypeId) (n i : Nat) (v : Value) :
    (w.alloc (.cells c t)).setCell ⟨n, i, none⟩ v = if n = w.heap.size then w.alloc (.cells (c.setIfInBounds i v) t) else (w.setCell ⟨n, i, none⟩ v).alloc (.cells c t) := by
  split
  · rename_i h; exact World.setCell_alloc_at c t n i v h
  · rename_i h
    by_cases hlt : n < w.heap.size
    · exact World.setCell_alloc_past _ n i v hlt
    · simp only [World.setCell, World.alloc]
      congr 1
      apply Array.ext_getElem?
      intro k
      simp only [Array.getElem?_modify, Array.getElem?_push, Array.size_modify]
      by_cases hk : n = k
      · subst hk
        rw [if_pos rfl, if_neg (by omega), if_neg (by omega), if_pos rfl, Array.getElem?_eq_none (by omega)]
      · rw [if_neg hk, if_neg hk]
@[go_sem] theorem drewN_plus (w x : World) (n : Nat) : (plus w x).drewN n = plus w (x.drewN n) := rfl
@[go_sem] theorem drew_plus (w x : World) : (plus w x).drew = plus w x.drew := rfl
@[go_sem] theorem setCell_plus (w x : World) (b o : Nat) (v : Value) : (plus w x).setCell ⟨b, o, none⟩ v = if b < w.heap.size then plus (w.setCell ⟨b, o, none⟩ v) x else farSet w x b o v := by
  split
  · rename_i h
    simp only [plus, World.setCell]
    congr 1
    apply Array.ext_getElem?
    intro i
    rw [Array.getElem?_modify, Array.getElem?_append, Array.getElem?_append]
    simp only [Array.size_modify]
    by_cases hi : i < w.heap.size
    · rw [if_pos hi, if_pos hi, Array.getElem?_modify]
    · rw [if_neg hi, if_neg hi, if_neg (by omega)]
  · rfl

theorem below_to_plus {B : Nat} {a w : World} (h : Below B a w) (hB : B ≤ w.heap.size) (x : World) : Below B a (plus w x) := h.trans ((below_plus w x).mono hB)

theorem wp_region_plus {P : Program} {id : Nat} {Q : Exit → Act → World → Prop} {a : Act} {w : World} {l : List Oper} (hm : P.follows .mixedOrders = true) (hB : Region.lexB .any l.toArray = true)
    (h : wpQuiet P l.toArray (fun w' => ∃ x, w' = plus w x) (fun a' => ∀ w', (∃ x, w' = plus w x) → Q .normal a' w') l a) : (Code.region id l.toArray true).wp P Q a w :=
  wp_region_quiet (C := fun w' => ∃ x, w' = plus w x) hm hB ⟨{ w with heap := #[], drawn := w.drawn + 1 }, by simp [plus]⟩ (by simpa using h)

section
variable {H : Type} {enc : TypeId × Value → H} {P : Program} {w : World} {base : Nat} {spare : Nat → Bool} {held : Bool}

theorem trodAll_below (hl : laidOutB P = true) {W W' : World} (hb : Below W.heap.size W W') :
    ∀ (ts : List TypeId) (vs : List Value) (ds : List (DataW H)) (ps : List MemPlace), (∀ t ∈ ts, P.readableRec t = true ∧ t < P.types.size) →
      DataW.TrodAll enc P W 0 (fun _ => true) true ts vs ds ps → (∀ x ∈ ps, x.block < W.heap.size) →
      DataW.TrodAll enc P W' 0 (fun b => decide (b < W.heap.size)) true ts vs ds ps
  | [], [], [], ps, _, h, _ => h
  | t :: ts, v :: vs, d :: ds, ps, hr, h, hlt => by
    obtain ⟨p, q, h1, h2, rfl⟩ := h
    exact ⟨p, q, Below.trod hl (hr t (by simp)).1 (hr t (by simp)).2 h1 hb (fun x hx => hlt x (by simp [hx])),
      trodAll_below hl hb ts vs ds q (fun t' ht' => hr t' (by simp [ht'])) h2 (fun x hx => hlt x (by simp [hx])), rfl⟩
  | [], [], _ :: _, _, _, h, _ => h.elim
  | [], _ :: _, _, _, _, h, _ => h.elim
  | _ :: _, [], _, _, _, h, _ => h.elim
  | _ :: _, _ :: _, [], _, _, h, _ => h.elim

/-- What a law's row asks, behind a call that answers true and leaves all old memory as it was. -/
theorem law_post {f : Func} {s : ChangeSpec} {W W' : World} {args : Array Value} {ds gs : List (DataW H)} {before : List MemPlace} {tb : TypeId}
    (hl : laidOutB P = true) (hr : ∀ t ∈ f.params.toList, P.readableRec t = true ∧ t < P.types.size) (hres : f.resultTypes = #[tb]) (hb : P.underlying tb = some .bool) (hs : s.vars = [])
    (hW : DataW.Whole enc P f.params.toList s.vars false W args.toList ds gs before) (hfn : s.fn H (ds ++ gs) = { results := [.lit (.bool true)], args := ds })
    (hbel : Below W.heap.size W W') : s.post enc P f false true false false W args (.bool true) W' := by
  have hW' := hW
  obtain ⟨p, q, hA, hV, rfl, hfz, hnd⟩ := hW
  refine ⟨ds, gs, p ++ q, [], p, [], hW', ?_, ?_, ?_, hbel.frame _, fun h => by cases h⟩
  · rw [hres, hfn]
    exact trodAll_mk1 (shut_bool hb true)
  · rw [hfn]
    exact trodAll_below hl hbel _ _ _ _ hr hA (fun x hx => hW'.lt x (by simp [hx]))
  · rw [hs, hfn]
    exact rfl

/-! ### Types without pointers: their leaves -/

/-- A leaf: none is a bool, some none a string, some (some k) an integer of kind k. -/
abbrev Leaf := Option (Option IntKind)

def leafOk : Leaf → Value → Prop
  | none, v => ∃ x, v = .bool x
  | some (some k), v => ∃ n, v = .int k n ∧ (Lit.int k n).wf = true
  | some none, v => ∃ x : ByteArray, v = .string x ∧ x.size ≤ maxLen

def leavesOk : List Leaf → List Value → Prop
  | [], [] => True
  | l :: ls, v :: vs => leafOk l v ∧ leavesOk ls vs
  | _, _ => False

theorem leavesOk_cons {l : Leaf} {ls : List Leaf} {vs : List Value} (h : leavesOk (l :: ls) vs) : ∃ v r, vs = v :: r ∧ leafOk l v ∧ leavesOk ls r := by
  cases vs with
  | nil => exact h.elim
  | cons v r => exact ⟨v, r, rfl, h.1, h.2⟩
theorem leavesOk_nil {vs : List Value} (h : leavesOk [] vs) : vs = [] := by
  cases vs with
  | nil => rfl
  | cons v r => exact h.elim

theorem leavesOk_append : ∀ (ls : List Leaf) (vs : List Value) (ls' : List Leaf) (vs' : List Value), leavesOk ls vs → leavesOk ls' vs' → leavesOk (ls ++ ls') (vs ++ vs')
  | [], [], _, _, _, h => h
  | _ :: ls, _ :: vs, ls', vs', ⟨h1, h2⟩, h => ⟨h1, leavesOk_append ls vs ls' vs' h2 h⟩
  | [], _ :: _, _, _, h, _ => h.elim
  | _ :: _, [], _, _, h, _ => h.elim

theorem leavesOk_length : ∀ (ls : List Leaf) (vs : List Value), leavesOk ls vs → ls.length = vs.length
  | [], [], _ => rfl
  | _ :: ls, _ :: vs, ⟨_, h2⟩ => by simp [leavesOk_length ls vs h2]
  | [], _ :: _, h => h.elim
  | _ :: _, [], h => h.elim

def leafFields (P : Program) (rec : TypeId → Option (List Leaf)) : List Field → List Leaf → Option (List Leaf)
  | [], acc => some acc
  | f :: fs, acc => if f.offset = acc.length then (rec f.type).bind fun l => if l.length = P.cellsOf f.type then leafFields P rec fs (acc ++ l) else none else none

def leavesOf (P : Program) : Nat → TypeId → Option (List Leaf)
  | 0, _ => none
  | n + 1, t =>
    match P.underlying t with
    | some .bool => some [none]
    | some (.int k) => some [some (some k)]
    | some .string => some [some none]
    | some (.struct fs) => (leafFields P (leavesOf P n) fs.toList []).bind fun l => if l.length = P.cellsOf t then some l else none
    | some (.array m e) => (leavesOf P n e).bind fun l => if l.length = P.cellsOf e ∧ m * l.length = P.cellsOf t then some (List.replicate m l).flatten else none
    | _ => none

theorem leafFields_ok (rec : TypeId → Option (List Leaf)) (cs : List Value) (h : ∀ f l, rec f = some l → ∀ c, P.cellsOf f = l.length → (∃ n x, DataW.trod enc P w base spare held n f c = some x) → leavesOk l c) :
    ∀ (fs : List Field) (acc ls : List Leaf), leafFields P rec fs acc = some ls → leavesOk acc (cs.take acc.length) →
      (∀ f ∈ fs, ∃ n x, DataW.trod enc P w base spare held n f.type ((cs.drop f.offset).take (P.cellsOf f.type)) = some x) → leavesOk ls (cs.take ls.length)
  | [], acc, ls, hl, ha, _ => by simp [leafFields] at hl; subst hl; exact ha
  | f :: fs, acc, ls, hl, ha, hf => by
    simp only [leafFields] at hl
    split at hl
    · rename_i hoff
      cases hr : rec f.type with
      | none => simp [hr] at hl
      | some l =>
        rw [hr] at hl
        simp only [Option.bind_some] at hl
        split at hl
        · rename_i hlen
          refine leafFields_ok rec cs h fs (acc ++ l) ls hl ?_ (fun g hg => hf g (by simp [hg]))
          have := leavesOk_append acc _ l _ ha (h f.type l hr ((cs.drop f.offset).take (P.cellsOf f.type)) hlen.symm (hf f (by simp)))
          rw [hoff, ← hlen, ← List.take_add] at this
          simpa using this
        · cases hl
    · cases hl

theorem leaves_of_trod : ∀ (m : Nat) (t : TypeId) (ls : List Leaf), leavesOf P m t = some ls → ∀ (n : Nat) (cs : List Value) (x : DataW H × List MemPlace), DataW.trod enc P w base spare held n t cs = some x → leavesOk ls cs
  | 0, _, _, h, _, _, _, _ => by simp [leavesOf] at h
  | m + 1, t, ls, h, n, cs, x, hx => by
    simp only [leavesOf] at h
    split at h
    · rename_i hu; cases h
      obtain ⟨b, rfl, _⟩ := DataW.trod_bool hu hx
      exact ⟨⟨b, rfl⟩, trivial⟩
    · rename_i hu; cases h
      obtain ⟨k, rfl, _, hw⟩ := DataW.trod_int hu hx
      exact ⟨⟨k, rfl, hw⟩, trivial⟩
    · rename_i hu; cases h
      obtain ⟨k, rfl, _, hw⟩ := DataW.trod_string hu hx
      exact ⟨⟨k, rfl, hw⟩, trivial⟩
    · rename_i fs hu
      obtain ⟨xs, n', rfl, rfl, hlen, hxs, hf⟩ := DataW.trod_struct hu hx
      cases hl : leafFields P (leavesOf P m) fs.toList [] with
      | none => simp [hl] at h
      | some l =>
        rw [hl] at h
        simp only [Option.bind_some] at h
        split at h
        · rename_i hll
          cases h
          have := leafFields_ok (enc := enc) (w := w) (base := base) (spare := spare) (held := held) (leavesOf P m) cs (fun f l hfl c _ ⟨k, y, hy⟩ => leaves_of_trod m f l hfl k c y hy) fs.toList [] ls hl (by simp [leavesOk])
            (fun f hfm => by
              obtain ⟨i, hi⟩ := List.mem_iff_getElem?.1 hfm
              have h1 := hf i f (by simpa using hi)
              have hi' : i < fs.size := by
                obtain ⟨hh, _⟩ := List.getElem?_eq_some_iff.1 hi
                simpa using hh
              rw [List.getElem?_eq_getElem (by omega)] at h1
              exact ⟨_, _, h1⟩)
          rw [hll, ← hlen, List.take_length] at this
          exact this
        · cases h
    · rename_i k e hu
      obtain ⟨xs, n', rfl, rfl, hlen, hxs, hf⟩ := DataW.trod_array hu hx
      cases hl : leavesOf P m e with
      | none => simp [hl] at h
      | some l =>
        rw [hl] at h
        simp only [Option.bind_some] at h
        split at h
        · rename_i hll
          cases h
          have key : ∀ j, j ≤ k → leavesOk (List.replicate j l).flatten (cs.take (j * l.length)) := by
            intro j
            induction j with
            | zero => intro _; simp [leavesOk]
            | succ j ih =>
              intro hj
              have h1 := hf j (by omega)
              rw [List.getElem?_eq_getElem (by omega)] at h1
              have h2 := leaves_of_trod m e l hl _ _ _ h1
              have := leavesOk_append _ _ _ _ (ih (by omega)) h2
              rw [← hll.1, ← List.take_add] at this
              rw [List.replicate_succ', List.flatten_append, Nat.add_mul, Nat.one_mul]
              simpa using this
          have := key k (Nat.le_refl _)
          rw [hll.2, ← hlen, List.take_length] at this
          exact this
        · cases h
    · cases h

/-- An argument of a type without pointers. -/
theorem leaves_of_Trod {m : Nat} {t : TypeId} {ls : List Leaf} (hm : leavesOf P m t = some ls) {v : Value} {d : DataW H} {ps : List MemPlace} (h : DataW.Trod enc P w base spare held t v d ps) : leavesOk ls v.cells.toList :=
  let ⟨n, hn⟩ := h; leaves_of_trod m t ls hm n _ _ hn

/-! ### A slice whose elements have no pointers -/

/-- The slice value .slice ao n cap reads in w as the n rows of xs, each of k cells. -/
structure Sl (w : World) (k : Nat) (ao : Option Addr) (n cap : Nat) (xs : List (List Value)) : Prop where
  hlen : xs.length = n
  hcap : n ≤ cap
  hmax : cap ≤ 9223372036854775807
  hrows : ∀ x ∈ xs, x.length = k
  here : 0 < n → ∃ b off, ao = some ⟨b, off, none⟩ ∧ b < w.heap.size ∧ ∀ j x, xs[j]? = some x → ∀ i v, x[i]? = some v → w.cell? ⟨b, off + j * k + i, none⟩ = some v
  hnil : ao = none → cap = 0

theorem Sl.below {w w' : World} {k : Nat} {ao : Option Addr} {n cap : Nat} {xs : List (List Value)} (h : Sl w k ao n cap xs) {B : Nat} (hb : Below B w w') (hB : ∀ a, ao = some a → 0 < n → a.block < B) : Sl w' k ao n cap xs :=
  ⟨h.hlen, h.hcap, h.hmax, h.hrows, fun hn => by
    obtain ⟨b, off, rfl, hlt, hc⟩ := h.here hn
    exact ⟨b, off, rfl, Nat.lt_of_lt_of_le hlt hb.size, fun j x hx i v hv => by rw [hb.cell (p := ⟨b, off + j * k + i, none⟩) (show b < B from hB ⟨b, off, none⟩ rfl hn)]; exact hc j x hx i v hv⟩, h.hnil⟩

theorem Sl.stays {w w' : World} {k : Nat} {ao : Option Addr} {n cap : Nat} {xs : List (List Value)} (h : Sl w k ao n cap xs) (hb : Below w.heap.size w w') : Sl w' k ao n cap xs :=
  h.below hb (fun a ha hn => by obtain ⟨b, off, e, hlt, _⟩ := h.here hn; rw [ha] at e; cases e; exact hlt)

/-- A slice that came in, whose elements have no pointers: what the walk may use of it. -/
theorem open_rows {t e : TypeId} {m k : Nat} {ls : List Leaf} (ht : P.underlying t = some (.slice e)) (hm : leavesOf P m e = some ls) (hk : P.cellsOf e = k) (hk0 : 0 < k) {v : Value} {d : DataW H} {ps : List MemPlace}
    (h : DataW.Trod enc P w base (fun _ => true) held t v d ps) (hv : v.cells = #[v]) : ∃ ao n cap xs, v = .slice ao n cap ∧ Sl w k ao n cap xs ∧ ∀ x ∈ xs, leavesOk ls x := by
  obtain ⟨fuel, hf⟩ := h
  rw [hv] at hf
  rcases Deep.open_slice ht hf with ⟨h0, _⟩ | ⟨a, len, cap, mm, nn, D, Pl, h0, hb, hl, hc, hmm, _, hx⟩
  · obtain rfl : v = .slice none 0 0 := by simpa using h0
    exact ⟨none, 0, 0, [], rfl, ⟨rfl, Nat.le_refl _, by omega, by simp, fun h => absurd h (Nat.lt_irrefl _), fun _ => rfl⟩, by simp⟩
  · obtain rfl : v = .slice (some a) len cap := by simpa using h0
    simp only [if_true] at hmm
    subst hmm
    rw [hk] at hx
    obtain ⟨cs, hcs⟩ := Deep.choose_lt (α := List Value) (p := fun i c => w.cells? base (a.add (i * k)) k = some c ∧ DataW.trod enc P w base (fun _ => true) held nn e c = some (D i, Pl i)) hx
    refine ⟨some a, len, mm, (List.range len).map cs, rfl, ⟨by simp, hl, by unfold maxLen at hc; omega, ?_, ?_, fun h => by cases h⟩, ?_⟩
    · intro x hx'
      simp only [List.mem_map, List.mem_range] at hx'
      obtain ⟨i, hi, rfl⟩ := hx'
      exact (World.cells?_some (hcs i (by omega)).1).2.1
    · intro hn
      have h00 := World.cells?_some (hcs 0 (by omega)).1
      obtain ⟨b, off, spot⟩ := a
      have hspot : spot = none := by
        have := h00.2.2 0 hk0
        rw [List.getElem?_eq_getElem (by omega)] at this
        simpa [Addr.add] using World.cell?_spot this
      subst hspot
      refine ⟨b, off, rfl, ?_, ?_⟩
      · have := h00.2.2 0 hk0
        rw [List.getElem?_eq_getElem (by omega)] at this
        have h3 := World.block_lt_of_cell? w _ this
        simpa [Addr.add] using h3
      · intro j x hj i u hu
        have hjl : j < len := by
          have := (List.getElem?_eq_some_iff.1 hj).1
          simpa using this
        have hjx : cs j = x := by
          rw [List.getElem?_map, List.getElem?_range hjl] at hj
          simpa using hj
        subst hjx
        have h1 := World.cells?_some (hcs j (by omega)).1
        have hi : i < k := by
          have := (List.getElem?_eq_some_iff.1 hu).1
          omega
        rw [← hu, ← h1.2.2 i hi, Go.WideShapes.add_plain, Go.WideShapes.add_plain]
    · intro x hx'
      simp only [List.mem_map, List.mem_range] at hx'
      obtain ⟨i, hi, rfl⟩ := hx'
      exact leaves_of_trod m e ls hm _ _ _ (hcs i (by omega)).2

end
end Go.Proofs.Ytfhccmegobbnaaa
