/- This text proves the walks of hold, end and Held of package cache, and of hold, Held, mark and covers of the reference. Conditions: those that each theorem names. -/
import Derived.Test.YtcgajlobbjoefaaCacheD
namespace Go.Proofs.Ytcgajlobbjoefaa
open Go.ChangeShapes Go.WideShapes Go.ChangeAt Go.RowKit
set_option linter.unusedVariables false
set_option linter.unusedSimpArgs false

theorem heap_later {w w' : World} {b : Nat} {o : Obj} (h : w.heap[b]? = some o) (hb : Below w.heap.size w w') : w'.heap[b]? = some o := (hb.block b (Array.getElem?_eq_some_iff.1 h).1).trans h
theorem cell_heap {w : World} {b : Nat} {c : Array Value} {T : TypeId} (h : w.heap[b]? = some (.cells c T (0, 0))) (i : Nat) (v : Value) (hv : c[i]? = some v) : w.cell? ⟨b, i, none⟩ = some v := by
  simp [World.cell?, h, hv]

/-! ### The first element that a predicate takes -/
def fst {α : Type} (p : α → Bool) : List α → Nat → Int
  | [], _ => -1
  | x :: xs, i => if p x then (i : Int) else fst p xs (i + 1)
def fstI {α : Type} (p : α → Bool) (xs : List α) : Int := fst p xs 0
theorem fst_spec {α : Type} [Inhabited α] (p : α → Bool) : ∀ (l : List α) (i : Nat), (fst p l i = -1 ∧ ∀ j, j < l.length → p l[j]! = false) ∨ ∃ k, k < l.length ∧ fst p l i = ((i + k : Nat) : Int) ∧ p l[k]! = true ∧ ∀ j, j < k → p l[j]! = false
  | [], _ => .inl ⟨rfl, fun j hj => absurd hj (Nat.not_lt_zero _)⟩
  | y :: r, i => by
    cases h : p y with
    | true => exact .inr ⟨0, by simp, by simp [fst, h], by simpa using h, fun j hj => absurd hj (Nat.not_lt_zero _)⟩
    | false =>
      rcases fst_spec p r (i + 1) with ⟨e, ha⟩ | ⟨k, hk, e, ht, ha⟩
      · refine .inl ⟨by simp [fst, h, e], fun j hj => ?_⟩
        cases j with
        | zero => simpa using h
        | succ j => simpa using ha j (by simpa using hj)
      · refine .inr ⟨k + 1, by simpa using hk, by simp only [fst, h]; rw [show (if false = true then (i : Int) else fst p r (i + 1)) = fst p r (i + 1) from rfl, e]; congr 1; omega, by simpa using ht, fun j hj => ?_⟩
        cases j with
        | zero => simpa using h
        | succ j => simpa using ha j (by omega)
theorem fstI_spec {α : Type} [Inhabited α] (p : α → Bool) (l : List α) : (fstI p l = -1 ∧ ∀ j, j < l.length → p l[j]! = false) ∨ ∃ k : Nat, k < l.length ∧ fstI p l = (k : Int) ∧ p l[k]! = true ∧ ∀ j, j < k → p l[j]! = false := by
  have := fst_spec p l 0
  simpa [fstI] using this
theorem fstI_hit {α : Type} [Inhabited α] {p : α → Bool} {l : List α} {k : Nat} (hk : k < l.length) (ht : p l[k]! = true) (ha : ∀ j, j < k → p l[j]! = false) : fstI p l = (k : Int) := by
  rcases fstI_spec p l with ⟨_, h⟩ | ⟨m, hm, e, h1, h2⟩
  · rw [h k hk] at ht; cases ht
  · rcases Nat.lt_trichotomy k m with h | h | h
    · rw [h2 k h] at ht; cases ht
    · rw [e, h]
    · rw [ha m h] at h1; cases h1
theorem fstI_miss {α : Type} [Inhabited α] {p : α → Bool} {l : List α} (ha : ∀ j, j < l.length → p l[j]! = false) : fstI p l = -1 := by
  rcases fstI_spec p l with ⟨e, _⟩ | ⟨m, hm, _, h1, _⟩
  · exact e
  · rw [ha m hm] at h1; cases h1
theorem idxFrom_fst {α : Type} (p : α → Bool) (d : α) : ∀ (l : List α) (i : Nat), Lib.idxByFrom (fun _ y => p y) d l i = fst p l i
  | [], _ => rfl
  | y :: r, i => by
    simp only [Lib.idxByFrom, fst]
    rw [idxFrom_fst p d r (i + 1)]
theorem idx_fst {α : Type} [Inhabited α] (p : α → Bool) (l : List α) : Lib.idxBy (fun _ y => p y) l default = fstI p l := idxFrom_fst p default l 0

/-! ### Holds -/
def isH (id : Int) (y : Hd) : Bool := decide (y.hid = id)
def holdI (id : Int) (hs : List Hd) : Int := fstI (isH id) hs
def AscH (hs : List Hd) : Prop := hs.Pairwise fun a b => a.hid < b.hid
theorem asc_get {hs : List Hd} (h : AscH hs) {a b : Nat} (hab : a < b) (hb : b < hs.length) : hs[a]!.hid < hs[b]!.hid := by
  rw [getElem!_pos hs a (by omega), getElem!_pos hs b hb]
  exact List.pairwise_iff_getElem.1 h a b (by omega) hb hab
theorem hold_mono {hs : List Hd} (h : AscH hs) (id : Int) : MonoE (fun y : Hd => cmpI y.hid id) hs := by
  intro a b hab hb hc
  by_cases e : a = b
  · rw [e]; exact hc
  · have := asc_get h (a := a) (b := b) (by omega) hb
    simp only [cmpI] at hc ⊢
    split at hc
    · rw [if_pos (by omega)]; decide
    · split at hc <;> exact absurd hc (by decide)
/-- Where a hold of a file lies, or would be put. -/
def posH (id : Int) (hs : List Hd) : Nat := posE (fun y : Hd => cmpI y.hid id) hs
theorem cmp_lt {a b : Int} : cmpI a b < 0 ↔ a < b := by
  unfold cmpI
  split
  · exact ⟨fun _ => by assumption, fun _ => by decide⟩
  · split
    · exact ⟨fun h => absurd h (by decide), fun h => by omega⟩
    · exact ⟨fun h => absurd h (by decide), fun h => by omega⟩
theorem cmp_eq {a b : Int} : cmpI a b = 0 ↔ a = b := by
  unfold cmpI
  split
  · exact ⟨fun h => absurd h (by decide), fun h => by omega⟩
  · split
    · exact ⟨fun h => absurd h (by decide), fun h => by omega⟩
    · exact ⟨fun _ => by omega, fun _ => rfl⟩
theorem pos_hit {hs : List Hd} (h : AscH hs) {id : Int} {k : Nat} (hk : k < hs.length) (he : hs[k]!.hid = id) : posH id hs = k ∧ foundE (fun y : Hd => cmpI y.hid id) hs = true := by
  have hp : posH id hs = k := posE_of _ hs k (by omega) (fun a ha => cmp_lt.2 (by rw [← he]; exact asc_get h ha hk)) (fun a h1 h2 h3 => by
    have h3 := cmp_lt.1 h3
    by_cases e : a = k
    · rw [e, he] at h3; omega
    · have := asc_get h (a := k) (b := a) (by omega) h2
      omega)
  refine ⟨hp, ?_⟩
  unfold foundE
  rw [show posE (fun y : Hd => cmpI y.hid id) hs = k from hp, decide_eq_true hk, Bool.true_and]
  exact decide_eq_true (cmp_eq.2 he)
theorem pos_miss {hs : List Hd} {id : Int} (ha : ∀ j, j < hs.length → hs[j]!.hid ≠ id) : foundE (fun y : Hd => cmpI y.hid id) hs = false := by
  unfold foundE
  by_cases h : posE (fun y : Hd => cmpI y.hid id) hs < hs.length
  · rw [decide_eq_true h, Bool.true_and]
    exact decide_eq_false (fun e => ha _ h (cmp_eq.1 e))
  · rw [decide_eq_false h, Bool.false_and]
theorem hold_cases (id : Int) (hs : List Hd) : (holdI id hs = -1 ∧ ∀ j, j < hs.length → hs[j]!.hid ≠ id) ∨ ∃ k : Nat, k < hs.length ∧ holdI id hs = (k : Int) ∧ hs[k]!.hid = id ∧ ∀ j, j < k → hs[j]!.hid ≠ id := by
  rcases fstI_spec (isH id) hs with ⟨e, h⟩ | ⟨k, hk, e, h1, h2⟩
  · exact .inl ⟨e, fun j hj he => by have := h j hj; unfold isH at this; rw [decide_eq_false_iff_not] at this; exact this he⟩
  · exact .inr ⟨k, hk, e, of_decide_eq_true h1, fun j hj he => by have := h2 j hj; unfold isH at this; rw [decide_eq_false_iff_not] at this; exact this he⟩

set_option maxHeartbeats 4000000 in
theorem hold_raw (cp : Int) (ao : Option Addr) (n c1 : Nat) (ao2 : Option Addr) (n2 c2 : Nat) (hs : List Hd) (id : Int) (w : World) (h2 : Sl w 3 ao2 n2 c2 (hs.map Hd.enc)) (hn2 : n2 ≤ 1000000) (ha : AscH hs) :
    Calls Try.prog 26 #[.agg #[.int .i64 cp, .slice ao n c1, .slice ao2 n2 c2], .int .i64 id] w fun e w' => e = .returned (.tuple #[.int .i64 (posH id hs : Nat), .bool (foundE (fun y : Hd => cmpI y.hid id) hs)]) ∧ Below w.heap.size w w' := by
  have eg : ∀ args w, (callFunc 51 args).run Try.prog w = .ok (.enter 51 args) w := enters_of Try.func51 (by kernel_rfl) rfl
  have hb0 : Below w.heap.size w (w.alloc (.cells #[.int .i64 cp, .slice ao n c1, .slice ao2 n2 c2] 25)) := (Below.refl _ w).alloc (Nat.le_refl _) _
  have c := hdBsearch_calls (fun y => cmpI y.hid id) 51 #[] eg ao2 n2 c2 hs id (w.alloc (.cells #[.int .i64 cp, .slice ao n c1, .slice ao2 n2 c2] 25)) (h2.stays hb0) hn2 (fun W y _ => cmp_hold id W y) (hold_mono ha id)
  rw [show posE (fun y : Hd => cmpI y.hid id) hs = posH id hs from rfl] at c
  clear h2 ha
  generalize posH id hs = p at c ⊢
  generalize foundE (fun y : Hd => cmpI y.hid id) hs = fb at c ⊢
  go_enter Try.func26, Try.ntmps26
  go_wp2_with fail
  refine c.mono ?_
  rintro e w1 ⟨rfl, hb⟩
  have HB : Aside (Below w.heap.size w w1) := hb0.trans (hb.mono hb0.size)
  clear hb hb0 c
  go_wp2
  refine bodyPost_ret (v := .tuple #[.int .i64 (p : Int), .bool fb]) (by simp [results, Try.results26, go_sem]; try rfl) rfl ⟨rfl, HB.out⟩
theorem hold_hit (cp : Int) (ao : Option Addr) (n c1 : Nat) (ao2 : Option Addr) (n2 c2 : Nat) (hs : List Hd) (id : Int) (w : World) (h2 : Sl w 3 ao2 n2 c2 (hs.map Hd.enc)) (hn2 : n2 ≤ 1000000) (ha : AscH hs) {k : Nat} (hk : k < hs.length) (he : hs[k]!.hid = id) :
    Calls Try.prog 26 #[.agg #[.int .i64 cp, .slice ao n c1, .slice ao2 n2 c2], .int .i64 id] w fun e w' => e = .returned (.tuple #[.int .i64 (k : Int), .bool true]) ∧ Below w.heap.size w w' := by
  have := hold_raw cp ao n c1 ao2 n2 c2 hs id w h2 hn2 ha
  obtain ⟨e1, e2⟩ := pos_hit ha hk he
  rwa [e1, e2] at this
theorem hold_miss (cp : Int) (ao : Option Addr) (n c1 : Nat) (ao2 : Option Addr) (n2 c2 : Nat) (hs : List Hd) (id : Int) (w : World) (h2 : Sl w 3 ao2 n2 c2 (hs.map Hd.enc)) (hn2 : n2 ≤ 1000000) (ha : AscH hs) (he : ∀ j, j < hs.length → hs[j]!.hid ≠ id) :
    Calls Try.prog 26 #[.agg #[.int .i64 cp, .slice ao n c1, .slice ao2 n2 c2], .int .i64 id] w fun e w' => e = .returned (.tuple #[.int .i64 (posH id hs : Nat), .bool false]) ∧ Below w.heap.size w w' := by
  have := hold_raw cp ao n c1 ao2 n2 c2 hs id w h2 hn2 ha
  rwa [pos_miss he] at this
/-- A file is held at a time. -/
def heldB (id now : Int) (hs : List Hd) : Bool := decide (0 ≤ holdI id hs) && decide (now < hs[(holdI id hs).toNat]!.til)
theorem held_hit {id now : Int} {hs : List Hd} {k : Nat} (e : holdI id hs = (k : Int)) : heldB id now hs = decide (now < hs[k]!.til) := by
  unfold heldB
  rw [e, decide_eq_true (by omega), Bool.true_and]; rfl
theorem held_miss {id now : Int} {hs : List Hd} (e : holdI id hs = -1) : heldB id now hs = false := by
  unfold heldB
  rw [e]; rfl

set_option maxHeartbeats 4000000 in
theorem held_calls (cp : Int) (ao : Option Addr) (n c1 : Nat) (ao2 : Option Addr) (n2 c2 : Nat) (hs : List Hd) (id now : Int) (w : World) (h2 : Sl w 3 ao2 n2 c2 (hs.map Hd.enc)) (hn2 : n2 ≤ 1000000) (ha : AscH hs) :
    Calls Try.prog 12 #[.agg #[.int .i64 cp, .slice ao n c1, .slice ao2 n2 c2], .int .i64 id, .int .i64 now] w fun e w' => e = .returned (.bool (heldB id now hs)) ∧ Below w.heap.size w w' := by
  have hb0 : Below w.heap.size w (w.alloc (.cells #[.int .i64 cp, .slice ao n c1, .slice ao2 n2 c2] 25)) := (Below.refl _ w).alloc (Nat.le_refl _) _
  have HL2 : Aside (hs.length = n2) := Sl.lenE h2
  have hbig : n2 ≤ 9223372036854775807 := Nat.le_trans h2.hcap h2.hmax
  have HC : Aside (CellsHd w ao2 hs) := cellsHd h2
  rcases hold_cases id hs with ⟨e1, he⟩ | ⟨k, hk, e1, he, _⟩
  · have c := hold_miss cp ao n c1 ao2 n2 c2 hs id (w.alloc (.cells #[.int .i64 cp, .slice ao n c1, .slice ao2 n2 c2] 25)) (h2.stays hb0) hn2 ha he
    rw [held_miss e1]
    clear h2 HC he ha
    generalize posH id hs = ps at *
    go_enter Try.func12, Try.ntmps12
    go_wp2_with fail
    refine c.mono ?_
    rintro e w1 ⟨rfl, hb⟩
    have HB : Aside (Below w.heap.size w w1) := hb0.trans (hb.mono hb0.size)
    obtain ⟨x, rfl⟩ := plus_of_below hb
    clear hb hb0 c
    go_wp2
    go_ret
    exact ⟨rfl, HB.out⟩
  · have c := hold_hit cp ao n c1 ao2 n2 c2 hs id (w.alloc (.cells #[.int .i64 cp, .slice ao n c1, .slice ao2 n2 c2] 25)) (h2.stays hb0) hn2 ha hk he
    rw [held_hit e1]
    obtain ⟨b, off, rfl, hbw, q0, q1, q2⟩ := HC.out k hk
    have l0 := (hb0.cell (p := ⟨b, off + k * 3, none⟩) hbw).trans q0
    have l1 := (hb0.cell (p := ⟨b, off + k * 3 + 1, none⟩) hbw).trans q1
    have l2 := (hb0.cell (p := ⟨b, off + k * 3 + 2, none⟩) hbw).trans q2
    have hkn : k < n2 := by have := HL2.out; omega
    have hkz : (k : Int) < (n2 : Int) := by omega
    clear h2 HC q0 q1 q2 he hk e1 ha
    generalize hs[k]! = y at l0 l1 l2 ⊢
    obtain ⟨y1, y2, y3⟩ := y
    simp only [] at l0 l1 l2 ⊢
    have r2 := HL2.out
    clear HL2 r2
    go_enter Try.func12, Try.ntmps12
    go_wp2_with fail
    refine c.mono ?_
    rintro e w1 ⟨rfl, hb⟩
    have HB : Aside (Below w.heap.size w w1) := hb0.trans (hb.mono hb0.size)
    have hbw1 : b < w1.heap.size := Nat.lt_of_lt_of_le hbw HB.out.size
    have bx : w.heap.size < w1.heap.size := Nat.lt_of_lt_of_le (by simp) hb.size
    have b0 := (hb.cell (p := ⟨w.heap.size, 0, none⟩) (by simp)).trans (cell_heap (hp_new rfl) 0 _ rfl)
    have b1 := (hb.cell (p := ⟨w.heap.size, 1, none⟩) (by simp)).trans (cell_heap (hp_new rfl) 1 _ rfl)
    have b2 := (hb.cell (p := ⟨w.heap.size, 2, none⟩) (by simp)).trans (cell_heap (hp_new rfl) 2 _ rfl)
    have m0 := (hb.cell (p := ⟨b, off + k * 3, none⟩) (Nat.lt_of_lt_of_le hbw (by simp))).trans l0
    have m1 := (hb.cell (p := ⟨b, off + k * 3 + 1, none⟩) (Nat.lt_of_lt_of_le hbw (by simp))).trans l1
    have m2 := (hb.cell (p := ⟨b, off + k * 3 + 2, none⟩) (Nat.lt_of_lt_of_le hbw (by simp))).trans l2
    clear hb hb0 c l0 l1 l2
    by_cases ht : now < y3
    · have ht2 : decide (now < y3) = true := decide_eq_true ht
      go_wp2
      go_ret
      exact ⟨ret_bool (by simp [*]), HB.out⟩
    · have ht2 : decide (now < y3) = false := decide_eq_false ht
      go_wp2
      go_ret
      exact ⟨ret_bool (by simp [*]), HB.out⟩

set_option maxHeartbeats 4000000 in
theorem rhold_calls (cp : Int) (ao : Option Addr) (n c1 : Nat) (ao2 : Option Addr) (n2 c2 : Nat) (hs : List Hd) (id : Int) (w : World) (h2 : Sl w 3 ao2 n2 c2 (hs.map Hd.enc)) :
    Calls Try.prog 31 #[.agg #[.int .i64 cp, .slice ao n c1, .slice ao2 n2 c2], .int .i64 id] w fun e w' => e = .returned (.int .i64 (holdI id hs)) ∧ Below w.heap.size w w' := by
  have hb0 : Below w.heap.size w (w.alloc (.cells #[.int .i64 cp, .slice ao n c1, .slice ao2 n2 c2] 25)) := (Below.refl _ w).alloc (Nat.le_refl _) _
  have HL2 : Aside (hs.length = n2) := Sl.lenE h2
  have hbig : n2 ≤ 9223372036854775807 := Nat.le_trans h2.hcap h2.hmax
  have HC : Aside (CellsHd w ao2 hs) := cellsHd h2
  have HH : Aside (∀ k, k < hs.length → hs[k]!.hid = id → (∀ j, j < k → isH id hs[j]! = false) → holdI id hs = (k : Int)) := fun k hk he h => fstI_hit hk (decide_eq_true he) h
  have HM : Aside ((∀ j, j < hs.length → isH id hs[j]! = false) → holdI id hs = -1) := fun h => fstI_miss h
  generalize holdI id hs = r at HH HM ⊢
  clear h2
  go_enter Try.func31, Try.ntmps31
  go_wp2
  go_loopg [9] n2 (fun k s9 wr => ∃ idx : Nat, s9 = .int .i64 (idx : Int) ∧ (w.alloc (.cells #[.int .i64 cp, .slice ao n c1, .slice ao2 n2 c2] 25)) = wr ∧ k + idx = n2 ∧ Aside (∀ j, j < idx → isH id hs[j]! = false))
  case atStart => exact ⟨0, rfl, rfl, by omega, fun j hj => absurd hj (Nat.not_lt_zero _)⟩
  case round =>
    obtain ⟨idx, rfl, rfl, hk, A⟩ := hrel
    by_cases hi : idx < n2
    · have hiz : (idx : Int) < (n2 : Int) := by omega
      have hix : idx < hs.length := by have := HL2.out; omega
      obtain ⟨b, off, rfl, hbw, q0, q1, q2⟩ := HC.out idx hix
      have l0 := (hb0.cell (p := ⟨b, off + idx * 3, none⟩) hbw).trans q0
      have hbw1 : b < (w.alloc (.cells #[.int .i64 cp, .slice ao n c1, .slice (some ⟨b, off, none⟩) n2 c2] 25)).heap.size := Nat.lt_of_lt_of_le hbw hb0.size
      have AH : Aside (hs[idx]!.hid = id → r = (idx : Int)) := fun e => HH.out idx hix e A.out
      have AS : Aside (¬ hs[idx]!.hid = id → ∀ j, j < idx + 1 → isH id hs[j]! = false) := fun e j hj => by
        rcases (by omega : j < idx ∨ j = idx) with h' | h'
        · exact A.out j h'
        · rw [h']; exact decide_eq_false e
      clear q0 q1 q2 HC HH HM A
      generalize hs[idx]!.hid = y at l0 AH AS
      by_cases hq : y = id
      · have e1 := AH.out hq
        subst e1
        have hf : (y == id) = true := by simp [hq]
        clear AH AS hq
        go_wp2
        go_ret
        exact ⟨rfl, hb0⟩
      · have A3 : Aside (∀ j, j < idx + 1 → isH id hs[j]! = false) := AS.out hq
        have hf : (y == id) = false := by simp [hq]
        clear AH AS hq
        go_wp2
        go_roundg (n2 - (idx + 1))
        case measure => omega
        case rel => exact ⟨idx + 1, by simp, rfl, by omega, A3⟩
    · have hiz : ¬ (idx : Int) < (n2 : Int) := by omega
      have e1 := HM.out (fun j hj => A.out j (by have := HL2.out; omega))
      subst e1
      clear HC HH A
      go_wp2
      go_ret
      exact ⟨rfl, hb0⟩

set_option maxHeartbeats 4000000 in
theorem rheld_calls (cp : Int) (ao : Option Addr) (n c1 : Nat) (ao2 : Option Addr) (n2 c2 : Nat) (hs : List Hd) (id now : Int) (w : World) (h2 : Sl w 3 ao2 n2 c2 (hs.map Hd.enc)) :
    Calls Try.prog 13 #[.agg #[.int .i64 cp, .slice ao n c1, .slice ao2 n2 c2], .int .i64 id, .int .i64 now] w fun e w' => e = .returned (.bool (heldB id now hs)) ∧ Below w.heap.size w w' := by
  have hb0 : Below w.heap.size w (w.alloc (.cells #[.int .i64 cp, .slice ao n c1, .slice ao2 n2 c2] 25)) := (Below.refl _ w).alloc (Nat.le_refl _) _
  have HL2 : Aside (hs.length = n2) := Sl.lenE h2
  have hbig : n2 ≤ 9223372036854775807 := Nat.le_trans h2.hcap h2.hmax
  have HC : Aside (CellsHd w ao2 hs) := cellsHd h2
  rcases hold_cases id hs with ⟨e1, he⟩ | ⟨k, hk, e1, he, _⟩
  · have c := rhold_calls cp ao n c1 ao2 n2 c2 hs id (w.alloc (.cells #[.int .i64 cp, .slice ao n c1, .slice ao2 n2 c2] 25)) (h2.stays hb0)
    rw [e1] at c
    rw [held_miss e1]
    clear h2 HC he
    generalize posH id hs = ps at *
    go_enter Try.func13, Try.ntmps13
    go_wp2_with fail
    refine c.mono ?_
    rintro e w1 ⟨rfl, hb⟩
    have HB : Aside (Below w.heap.size w w1) := hb0.trans (hb.mono hb0.size)
    obtain ⟨x, rfl⟩ := plus_of_below hb
    clear hb hb0 c
    go_wp2
    go_ret
    exact ⟨rfl, HB.out⟩
  · have c := rhold_calls cp ao n c1 ao2 n2 c2 hs id (w.alloc (.cells #[.int .i64 cp, .slice ao n c1, .slice ao2 n2 c2] 25)) (h2.stays hb0)
    rw [e1] at c
    rw [held_hit e1]
    obtain ⟨b, off, rfl, hbw, q0, q1, q2⟩ := HC.out k hk
    have l0 := (hb0.cell (p := ⟨b, off + k * 3, none⟩) hbw).trans q0
    have l1 := (hb0.cell (p := ⟨b, off + k * 3 + 1, none⟩) hbw).trans q1
    have l2 := (hb0.cell (p := ⟨b, off + k * 3 + 2, none⟩) hbw).trans q2
    have hkn : k < n2 := by have := HL2.out; omega
    have hkz : (k : Int) < (n2 : Int) := by omega
    clear h2 HC q0 q1 q2 he hk e1
    generalize hs[k]! = y at l0 l1 l2 ⊢
    obtain ⟨y1, y2, y3⟩ := y
    simp only [] at l0 l1 l2 ⊢
    have r2 := HL2.out
    clear HL2 r2
    go_enter Try.func13, Try.ntmps13
    go_wp2_with fail
    refine c.mono ?_
    rintro e w1 ⟨rfl, hb⟩
    have HB : Aside (Below w.heap.size w w1) := hb0.trans (hb.mono hb0.size)
    have hbw1 : b < w1.heap.size := Nat.lt_of_lt_of_le hbw HB.out.size
    have bx : w.heap.size < w1.heap.size := Nat.lt_of_lt_of_le (by simp) hb.size
    have b0 := (hb.cell (p := ⟨w.heap.size, 0, none⟩) (by simp)).trans (cell_heap (hp_new rfl) 0 _ rfl)
    have b1 := (hb.cell (p := ⟨w.heap.size, 1, none⟩) (by simp)).trans (cell_heap (hp_new rfl) 1 _ rfl)
    have b2 := (hb.cell (p := ⟨w.heap.size, 2, none⟩) (by simp)).trans (cell_heap (hp_new rfl) 2 _ rfl)
    have m0 := (hb.cell (p := ⟨b, off + k * 3, none⟩) (Nat.lt_of_lt_of_le hbw (by simp))).trans l0
    have m1 := (hb.cell (p := ⟨b, off + k * 3 + 1, none⟩) (Nat.lt_of_lt_of_le hbw (by simp))).trans l1
    have m2 := (hb.cell (p := ⟨b, off + k * 3 + 2, none⟩) (Nat.lt_of_lt_of_le hbw (by simp))).trans l2
    clear hb hb0 c l0 l1 l2
    by_cases ht : now < y3
    · have ht2 : decide (now < y3) = true := decide_eq_true ht
      go_wp2
      go_ret
      exact ⟨ret_bool (by simp [*]), HB.out⟩
    · have ht2 : decide (now < y3) = false := decide_eq_false ht
      go_wp2
      go_ret
      exact ⟨ret_bool (by simp [*]), HB.out⟩

end Go.Proofs.Ytcgajlobbjoefaa
