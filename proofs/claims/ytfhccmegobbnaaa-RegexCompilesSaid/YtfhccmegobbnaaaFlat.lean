/- This text speaks of rows of elements of k cells as lists of elements. It has no conditions. -/
import Derived.Test.YtfhccmegobbnaaaOpen
namespace Go.Proofs.Ytfhccmegobbnaaa
open Go.ChangeShapes Go.WideShapes Go.ChangeAt Go.RowKit
set_option linter.unusedVariables false

theorem plus_self (w : World) : w = plus w { w with heap := #[] } := by simp [plus]
theorem plus_plus (w x y : World) : ∃ z, plus (plus w x) y = plus w z := plus_next (below_plus (plus w x) y)
theorem ret_bool {a b : Bool} (h : a = b) : Ending.returned (.bool a) = .returned (.bool b) := by rw [h]
theorem ret_int {k : IntKind} {a b : Int} (h : a = b) : Ending.returned (.int k a) = .returned (.int k b) := by rw [h]
theorem i64_range {n : Int} (h : (Lit.int .i64 n).wf = true) : -9223372036854775808 ≤ n ∧ n ≤ 9223372036854775807 := by
  simpa [Lit.wf, IntKind.min, IntKind.max, IntKind.signed, IntKind.bits] using h

section
variable {α : Type} {enc : α → List Value} {k : Nat}

def flatE (enc : α → List Value) (xs : List α) : List Value := xs.flatMap enc
theorem flatE_nil : flatE enc [] = [] := rfl
theorem flatE_append (xs ys : List α) : flatE enc (xs ++ ys) = flatE enc xs ++ flatE enc ys := List.flatMap_append
theorem flatE_cons (x : α) (xs : List α) : flatE enc (x :: xs) = enc x ++ flatE enc xs := rfl
theorem flatE_one (x : α) : flatE enc [x] = enc x := by simp [flatE]
theorem flatE_snoc (xs : List α) (x : α) : flatE enc (xs ++ [x]) = flatE enc xs ++ enc x := by rw [flatE_append, flatE_one]
theorem flatE_length (hk : ∀ x, (enc x).length = k) (xs : List α) : (flatE enc xs).length = xs.length * k := by
  induction xs with
  | nil => simp [flatE]
  | cons x xs ih => rw [flatE_cons, List.length_append, hk, ih, List.length_cons, Nat.add_mul]; omega
theorem flatE_cells (h1 : ∀ x, ∀ u ∈ enc x, u.oneCell' = true) (xs : List α) : ∀ u ∈ flatE enc xs, u.oneCell' = true := by
  intro u hu
  simp only [flatE, List.mem_flatMap] at hu
  obtain ⟨x, _, hx⟩ := hu
  exact h1 x u hx
theorem flatE_get (hk : ∀ x, (enc x).length = k) : ∀ (xs : List α) (j i : Nat), i < k → (flatE enc xs)[j * k + i]? = (xs[j]?).bind fun x => (enc x)[i]?
  | [], j, i, _ => by simp [flatE]
  | x :: xs, 0, i, hi => by
    rw [flatE_cons, Nat.zero_mul, Nat.zero_add, List.getElem?_append_left (by rw [hk]; exact hi)]
    rfl
  | x :: xs, j + 1, i, hi => by
    have := flatE_get hk xs j i hi
    rw [flatE_cons, List.getElem?_append_right (by rw [hk, Nat.add_mul]; omega), hk, List.getElem?_cons_succ, ← this]
    congr 1
    rw [Nat.add_mul]; omega
theorem flatE_take (hk : ∀ x, (enc x).length = k) (xs : List α) (i : Nat) : flatE enc (xs.take i) = (flatE enc xs).take (i * k) := by
  have h : flatE enc xs = flatE enc (xs.take i) ++ flatE enc (xs.drop i) := by rw [← flatE_append, List.take_append_drop]
  by_cases hi : i ≤ xs.length
  · have hl : (flatE enc (xs.take i)).length = i * k := by rw [flatE_length hk, List.length_take, Nat.min_eq_left hi]
    rw [h, ← hl, List.take_left]
  · rw [List.take_of_length_le (by omega), List.take_of_length_le (by rw [flatE_length hk]; exact Nat.mul_le_mul_right _ (by omega))]
theorem flatE_drop (hk : ∀ x, (enc x).length = k) (xs : List α) (i : Nat) : flatE enc (xs.drop i) = (flatE enc xs).drop (i * k) := by
  have h : flatE enc xs = flatE enc (xs.take i) ++ flatE enc (xs.drop i) := by rw [← flatE_append, List.take_append_drop]
  by_cases hi : i ≤ xs.length
  · have hl : (flatE enc (xs.take i)).length = i * k := by rw [flatE_length hk, List.length_take, Nat.min_eq_left hi]
    rw [h, ← hl, List.drop_left]
  · rw [List.drop_of_length_le (by omega), List.drop_of_length_le (by rw [flatE_length hk]; exact Nat.mul_le_mul_right _ (by omega))]; rfl
theorem flatE_insert (hk : ∀ x, (enc x).length = k) (x : α) (ys : List α) (i : Nat) : (flatE enc ys).take (i * k) ++ enc x ++ (flatE enc ys).drop (i * k) = flatE enc (ys.take i ++ x :: ys.drop i) := by
  rw [flatE_append, flatE_cons, flatE_take hk, flatE_drop hk, List.append_assoc]

theorem Sl.lenE {w : World} {ao : Option Addr} {n cap : Nat} {xs : List α} (h : Sl w k ao n cap (xs.map enc)) : xs.length = n := by have := h.hlen; simpa using this
/-- The cells of a slice that is read. -/
theorem Sl.cellsE (hk : ∀ x, (enc x).length = k) (hk0 : 0 < k) {w : World} {b off n cap : Nat} {xs : List α} (h : Sl w k (some ⟨b, off, none⟩) n cap (xs.map enc)) : ∀ j u, (flatE enc xs)[j]? = some u → w.cell? ⟨b, off + j, none⟩ = some u := by
  intro j u hu
  have hj : j < xs.length * k := by rw [← flatE_length hk]; exact (List.getElem?_eq_some_iff.1 hu).1
  have hl := Sl.lenE h
  have hn : 0 < n := by
    rcases Nat.eq_zero_or_pos n with h0 | h0
    · rw [hl, h0, Nat.zero_mul] at hj; omega
    · exact h0
  obtain ⟨b', off', e, hb, hc⟩ := h.here hn
  cases e
  have e1 : j = j / k * k + j % k := by rw [Nat.mul_comm]; exact (Nat.div_add_mod j k).symm
  have hm : j % k < k := Nat.mod_lt _ hk0
  have hd : j / k < xs.length := (Nat.div_lt_iff_lt_mul hk0).2 hj
  rw [e1, flatE_get hk _ _ _ hm, List.getElem?_eq_getElem hd] at hu
  have := hc (j / k) (enc xs[j / k]) (by rw [List.getElem?_map, List.getElem?_eq_getElem hd]; rfl) (j % k) u hu
  rw [e1]
  rw [Nat.add_assoc] at this
  exact this

/-- A row of the call's own reads as its elements. -/
theorem ownE_sl (hk : ∀ x, (enc x).length = k) (hk0 : 0 < k) {w : World} {base : Nat} {E : TypeId} {v : Value} {n : Nat} {xs : List α} (h : w.ownsRow base E k v n (flatE enc xs)) : ∃ ao cap, v = .slice ao n cap ∧ Sl w k ao n cap (xs.map enc) := by
  obtain ⟨hl, h | ⟨g, cap, cur, rfl, hg, hh, hnc, hcm, hcs, ht⟩⟩ := h
  · obtain ⟨rfl, rfl⟩ := h
    rw [flatE_length hk] at hl
    have hxs : xs = [] := by
      cases xs with
      | nil => rfl
      | cons x xs => simp only [List.length_cons, Nat.add_mul, Nat.zero_mul, Nat.one_mul] at hl; omega
    subst hxs
    exact ⟨none, 0, rfl, ⟨rfl, Nat.le_refl _, by omega, by simp, fun h => absurd h (Nat.lt_irrefl _), fun _ => rfl⟩⟩
  · rw [flatE_length hk] at hl
    have hn : xs.length = n := Nat.eq_of_mul_eq_mul_right hk0 hl
    refine ⟨_, cap, rfl, ⟨by simpa using hn, hnc, by unfold maxLen at hcm; omega, ?_, fun h0 => ⟨g, 0, rfl, (Array.getElem?_eq_some_iff.1 hh).1, ?_⟩, fun h => by cases h⟩⟩
    · intro x hx
      simp only [List.mem_map] at hx
      obtain ⟨y, _, rfl⟩ := hx
      exact hk y
    · intro j x hx i u hu
      rw [List.getElem?_map] at hx
      obtain ⟨y, hy, rfl⟩ := Option.map_eq_some_iff.1 hx
      have hi : i < k := by rw [← hk y]; exact (List.getElem?_eq_some_iff.1 hu).1
      have hj : j < xs.length := (List.getElem?_eq_some_iff.1 hy).1
      have h1 : (flatE enc xs)[j * k + i]? = some u := by rw [flatE_get hk _ _ _ hi, hy]; exact hu
      have hlt : j * k + i < n * k := by
        have : (j + 1) * k ≤ n * k := Nat.mul_le_mul_right _ (by omega)
        rw [Nat.add_mul] at this; omega
      rw [← ht, List.getElem?_take, if_pos hlt] at h1
      have h2 : cur[j * k + i]? = some u := by rw [← Array.getElem?_toList]; exact h1
      rw [Nat.zero_add]
      simp [World.cell?, hh, h2]

theorem own_lower {w : World} {B B' : Nat} {E : TypeId} {v : Value} {n : Nat} {l : List Value} (h : w.ownsRow B E k v n l) (hB : B' ≤ B) : w.ownsRow B' E k v n l := by
  obtain ⟨h1, h2 | ⟨g, cap, cur, h3, h4, h5⟩⟩ := h
  · exact ⟨h1, .inl h2⟩
  · exact ⟨h1, .inr ⟨g, cap, cur, h3, Nat.le_trans hB h4, h5⟩⟩

/-- A new block that reads as a list. -/
theorem cells_new (wr : World) (cs : List Value) (t : TypeId) (n : Nat) (hn : n = wr.heap.size) : ∀ j u, cs[j]? = some u → (wr.alloc (.cells cs.toArray t)).cell? ((⟨n, 0, none⟩ : Addr).add j) = some u := by
  intro j u hj
  rw [Addr.add_lit, Nat.zero_add, World.cell?_alloc_at (w := wr) _ _ _ _ hn]
  simpa using hj

/-- What an append of one element to a row of its own leaves. -/
theorem app_stateE (hk : ∀ x, (enc x).length = k) (hk0 : 0 < k) {E : TypeId} {U1 W0 w' : World} {v v' : Value} {m : Nat} {o : List α} {y : α} (hB : Below U1.heap.size U1 W0) (ho : W0.ownsRow U1.heap.size E k v m (flatE enc o)) (ho' : w'.ownsRow U1.heap.size E k v' (m + 1) (flatE enc o ++ enc y)) (hg : W0.grownBy w' v.ownBlock) :
    ∃ ao2 cap2, v' = .slice ao2 (m + 1) cap2 ∧ Below U1.heap.size U1 w' ∧ w'.ownsRow U1.heap.size E k (.slice ao2 (m + 1) cap2) (m + 1) (flatE enc (o ++ [y])) := by
  rw [← flatE_snoc] at ho'
  obtain ⟨ao2, cap2, hv, _⟩ := ownE_sl hk hk0 ho'
  subst hv
  exact ⟨ao2, cap2, rfl, hB.grown hg hB.size (fun k hk => (ho.lt k hk).1), ho'⟩

theorem take_foldE {β : Type} [Inhabited α] (f : β → α → β) (s : β) (xs : List α) (i : Nat) (hi : i < xs.length) : (xs.take (i + 1)).foldl f s = f ((xs.take i).foldl f s) xs[i]! := by
  rw [List.take_add_one, List.getElem?_eq_getElem hi, List.foldl_append, getElem!_pos xs i hi]
  rfl
theorem filt_skipE [Inhabited α] (p : α → Bool) (xs : List α) (i : Nat) (hi : i < xs.length) (h : p xs[i]! = false) : (xs.take (i + 1)).filter p = (xs.take i).filter p := by
  rw [List.take_add_one, List.getElem?_eq_getElem hi, List.filter_append]
  rw [getElem!_pos xs i hi] at h
  simp [h]
theorem filt_keepE [Inhabited α] (p : α → Bool) (xs : List α) (i : Nat) (hi : i < xs.length) (h : p xs[i]! = true) : (xs.take (i + 1)).filter p = (xs.take i).filter p ++ [xs[i]!] := by
  rw [List.take_add_one, List.getElem?_eq_getElem hi, List.filter_append]
  rw [getElem!_pos xs i hi] at h ⊢
  simp [h]
theorem any_missE [Inhabited α] (q : α → Bool) (ys : List α) (h : ∀ j, j < ys.length → q ys[j]! = false) : ys.any q = false := by
  rw [List.any_eq_false]
  intro x hx
  obtain ⟨i, hi, rfl⟩ := List.getElem_of_mem hx
  have := h i hi
  rw [getElem!_pos ys i hi] at this
  rw [this]; exact Bool.false_ne_true
theorem any_hitE [Inhabited α] (q : α → Bool) (ys : List α) (j : Nat) (hj : j < ys.length) (h : q ys[j]! = true) : ys.any q = true := by
  rw [List.any_eq_true]
  rw [getElem!_pos ys j hj] at h
  exact ⟨_, List.getElem_mem hj, h⟩

/-- Where a binary search ends, whether it finds, and what it asks of the list. -/
def posE (c : α → Int) (ys : List α) : Nat := (ys.takeWhile fun y => decide (c y < 0)).length
def foundE [Inhabited α] (c : α → Int) (ys : List α) : Bool := decide (posE c ys < ys.length) && decide (c ys[posE c ys]! = 0)
def MonoE [Inhabited α] (c : α → Int) (ys : List α) : Prop := ∀ a b, a ≤ b → b < ys.length → c ys[b]! < 0 → c ys[a]! < 0
theorem posE_of [Inhabited α] (c : α → Int) : ∀ (ys : List α) (i : Nat), i ≤ ys.length → (∀ a, a < i → c ys[a]! < 0) → (∀ a, i ≤ a → a < ys.length → ¬ c ys[a]! < 0) → posE c ys = i
  | [], i, hi, _, _ => by simp [posE]; simp at hi; omega
  | y :: ys, 0, hi, _, h2 => by
    have := h2 0 (Nat.le_refl _) (by simp)
    simp only [List.getElem!_cons_zero] at this
    simp [posE, this]
  | y :: ys, i + 1, hi, h1, h2 => by
    have h0 := h1 0 (by omega)
    simp only [List.getElem!_cons_zero] at h0
    have := posE_of c ys i (by simpa using hi) (fun a ha => by simpa using h1 (a + 1) (by omega)) (fun a ha hb => by simpa using h2 (a + 1) (by omega) (by simpa using hb))
    simp only [posE] at this
    simp [posE, h0, this]
theorem posE_le (c : α → Int) (ys : List α) : posE c ys ≤ ys.length := (List.takeWhile_sublist _).length_le

/-- A function value that decides p of an element, in every later world. -/
def PredE (P : Program) (g : Nat) (lb : Array Value) (val : α → Value) (p : α → Bool) (w : World) : Prop :=
  ∀ W x, Below w.heap.size w W → Calls P g (#[val x] ++ lb) W fun e w' => e = .returned (.bool (p x)) ∧ Below W.heap.size W w'
theorem PredE.later {P : Program} {g : Nat} {lb : Array Value} {val : α → Value} {p : α → Bool} {w w1 : World} (h : PredE P g lb val p w) (hb : Below w.heap.size w w1) : PredE P g lb val p w1 :=
  fun W x hW => h W x (hb.trans (hW.mono hb.size))
end

theorem enters_of {P : Program} {g : Nat} {fn : Func} (hf : P.funcs[g]? = some fn) (hname : (fn.name == "runtime.NumGoroutine") = false) (hb : fn.body.isSome = true) : ∀ args w, (callFunc g args).run P w = .ok (.enter g args) w := by
  intro args w
  have h1 : fn.name ≠ "runtime.NumGoroutine" := by simpa using hname
  cases hbb : fn.body with
  | none => rw [hbb] at hb; cases hb
  | some c => simp [callFunc, hf, h1, hbb]

theorem cell_grown {w w' : World} {r : Option Nat} (h : w.grownBy w' r) {b o : Nat} (hb : b < w.heap.size) (hr : r ≠ some b) : w'.cell? ⟨b, o, none⟩ = w.cell? ⟨b, o, none⟩ :=
  World.cell?_of_block (h.block b hb (fun e => hr e.symm))
theorem callThen_call {P : Program} {ops : Array Oper} {Q : Exit → Act → World → Prop} {o : Oper} {rest : List Oper} {a : Act} {w : World} (f : FuncId) (args : Array Value) (hrun : (execOp a.eval o).run P w = .ok (.enter f args) w)
    (hc : Calls P f args w (fun e w' => ∃ v, e = .returned v ∧ wpStill P ops w' (fun a'' => Q .normal a'' w') rest (a.put o.dst v))) : CallThen P ops Q (o :: rest) a w := by
  show Oper.wp P o a w _ _
  unfold Oper.wp
  rw [hrun]
  exact hc.mono (fun e w' ⟨v, he, h⟩ => by subst he; exact h)

end Go.Proofs.Ytfhccmegobbnaaa
