/- This text proves the walk of slices.DeleteFunc at leases. Conditions: those that each theorem names. -/
import Derived.Test.YtodmgdihkhakpaaLeaseD
import Derived.Lib.SliceRun
namespace Go.Proofs.Ytodmgdihkhakpaa
open Go.ChangeShapes Go.WideShapes Go.ChangeAt Go.RowKit
set_option linter.unusedVariables false

theorem run_clear_k {P : Program} (w : World) (t e ty : TypeId) (z : Value) (ht : P.underlying t = some (.slice e)) (hv : ∀ w, (zeroValue e).run P w = .ok z w) (h1 : ∀ u ∈ z.cells.toList, u.oneCell' = true) (hk : 0 < z.cells.size) (b o n c : Nat) (hn : 0 < n)
    (hc : ∀ j, j < n * z.cells.size → (w.cell? ⟨b, o + j, none⟩).isSome = true) (hf : ∀ j, j < n * z.cells.size → w.frozen? ⟨b, o + j, none⟩ = false) :
    (Builtin.clear_ #[t] ty #[.slice (some ⟨b, o, none⟩) n c]).run P w = .ok (.tuple #[]) (w.setCells b o (Builtin.zeroCells z.cells n).toList) := by
  have hst := run_storeCells_cells (P := P) b o (Builtin.zeroCells z.cells n).toList 0 w (by simpa [Builtin.zeroCells] using hc) (by simpa [Builtin.zeroCells] using hf) (by
    intro v hv'
    simp only [Builtin.zeroCells, Array.toList_map, List.mem_map] at hv'
    obtain ⟨i, _, rfl⟩ := hv'
    have hlt : i % z.cells.size < z.cells.size := Nat.mod_lt _ hk
    rw [getElem!_pos z.cells _ hlt]
    exact h1 _ (by simp))
  simp only [Nat.add_zero] at hst
  obtain ⟨m, rfl⟩ : ∃ m, n = m + 1 := ⟨n - 1, by omega⟩
  simp [Builtin.clear_, run_underlying ht, hv, hst]

theorem setCells_row (w x : World) (g : Nat) (T : TypeId) (hg : g < w.heap.size) : ∀ (vs : List Value) (o : Nat) (c : Array Value), ∃ c', (plus (holds w g c T) x).setCells g o vs = plus (holds w g c' T) x ∧ c'.size = c.size ∧ ∀ j, j < o → c'[j]? = c[j]?
  | [], o, c => ⟨c, rfl, rfl, fun _ _ => rfl⟩
  | v :: vs, o, c => by
    obtain ⟨c', h1, h2, h3⟩ := setCells_row w x g T hg vs (o + 1) (c.setIfInBounds o v)
    refine ⟨c', ?_, by rw [h2]; simp, fun j hj => ?_⟩
    · show ((plus (holds w g c T) x).setCell ⟨g, o, none⟩ v).setCells g (o + 1) vs = _
      rw [setCell_plus, if_pos (by simpa [size_holds] using hg), setCell_holds, if_pos ⟨rfl, hg⟩]
      exact h1
    · rw [h3 j (by omega), Array.getElem?_setIfInBounds, if_neg (by omega)]

/-- The row while DeleteFunc works: the kept ones of the first j, then what stood there, from j on as it was. -/
structure Kept (p : Le → Bool) (xs : List Le) (c : Array Value) (i j : Nat) : Prop where
  done : c.toList.take (i * 4) = flat ((xs.take j).filter fun x => !p x)
  len : ((xs.take j).filter fun x => !p x).length = i
  rest : ∀ m r, j ≤ m → m < xs.length → r < 4 → c[m * 4 + r]? = xs[m]!.enc[r]?

theorem Kept.skip {p : Le → Bool} {xs : List Le} {c : Array Value} {i j : Nat} (h : Kept p xs c i j) (hj : j < xs.length) (hp : p xs[j]! = true) : Kept p xs c i (j + 1) := by
  have e : (xs.take (j + 1)).filter (fun x => !p x) = (xs.take j).filter fun x => !p x := by
    rw [List.take_add_one, List.getElem?_eq_getElem hj, List.filter_append]
    rw [getElem!_pos xs j hj] at hp
    simp [hp]
  exact ⟨by rw [e]; exact h.done, by rw [e]; exact h.len, fun m r hm => h.rest m r (by omega)⟩

theorem idxByFrom_spec' (eq : Le → Le → Bool) (x : Le) : ∀ (l : List Le) (i : Nat), (Lib.idxByFrom eq x l i = -1 ∧ ∀ j, j < l.length → eq x l[j]! = false) ∨ ∃ k, k < l.length ∧ Lib.idxByFrom eq x l i = ((i + k : Nat) : Int) ∧ eq x l[k]! = true ∧ ∀ j, j < k → eq x l[j]! = false
  | [], _ => .inl ⟨rfl, fun j hj => absurd hj (Nat.not_lt_zero _)⟩
  | y :: r, i => by
    cases h : eq x y with
    | true => exact .inr ⟨0, by simp, by simp [Lib.idxByFrom, h], by simpa using h, fun j hj => absurd hj (Nat.not_lt_zero _)⟩
    | false =>
      rcases idxByFrom_spec' eq x r (i + 1) with ⟨e, ha⟩ | ⟨k, hk, e, ht, ha⟩
      · refine .inl ⟨by simp [Lib.idxByFrom, h, e], fun j hj => ?_⟩
        cases j with
        | zero => simpa using h
        | succ j => simpa using ha j (by simpa using hj)
      · refine .inr ⟨k + 1, by simpa using hk, by simp only [Lib.idxByFrom, h]; rw [show (if false = true then (i : Int) else Lib.idxByFrom eq x r (i + 1)) = Lib.idxByFrom eq x r (i + 1) from rfl, e]; congr 1; omega, by simpa using ht, fun j hj => ?_⟩
        cases j with
        | zero => simpa using h
        | succ j => simpa using ha j (by omega)

theorem flat_take (xs : List Le) (k : Nat) : flat (xs.take k) = (flat xs).take (k * 4) := by
  have h : flat xs = flat (xs.take k) ++ flat (xs.drop k) := by rw [← flat_append, List.take_append_drop]
  by_cases hk : k ≤ xs.length
  · have hl : (flat (xs.take k)).length = k * 4 := by rw [flat_length, List.length_take]; omega
    rw [h, ← hl, List.take_left]
  · rw [List.take_of_length_le (by omega), List.take_of_length_le (by rw [flat_length]; omega)]
theorem kept_start {p : Le → Bool} {xs : List Le} {cur : Array Value} {k0 : Nat} (hk0 : k0 < xs.length) (ht : p xs[k0]! = true) (hall : ∀ j, j < k0 → p xs[j]! = false) (htk : cur.toList.take (xs.length * 4) = flat xs)
    (hs : xs.length * 4 ≤ cur.size) : Kept p xs cur k0 (k0 + 1) := by
  have e1 : (xs.take k0).filter (fun x => !p x) = xs.take k0 := List.filter_eq_self.2 (fun x hx => by
    obtain ⟨i, hi, rfl⟩ := List.getElem_of_mem hx
    have hik : i < k0 := by simp at hi; omega
    have := hall i hik
    rw [getElem!_pos xs i (by omega)] at this
    simp [this])
  have e : (xs.take (k0 + 1)).filter (fun x => !p x) = xs.take k0 := by
    rw [List.take_add_one, List.getElem?_eq_getElem hk0, List.filter_append, e1]
    rw [getElem!_pos xs k0 hk0] at ht
    simp [ht]
  refine ⟨?_, by rw [e]; simp; omega, fun m r hm hml hr => ?_⟩
  · rw [e, flat_take, ← htk, List.take_take]
    congr 1
    omega
  · have h1 := flat_get xs m r hr
    rw [← htk, List.getElem?_take, if_pos (by omega), Array.getElem?_toList] at h1
    rw [h1, List.getElem?_eq_getElem hml, getElem!_pos xs m hml]
    rfl

def put4 (c : Array Value) (o : Nat) (y : Le) : Array Value := (((c.setIfInBounds o (.int .i64 y.conn)).setIfInBounds (o + 1) (.int .i64 y.id)).setIfInBounds (o + 2) (.int .i64 y.kind)).setIfInBounds (o + 3) (.int .i64 y.til)
theorem put4_size (c : Array Value) (o : Nat) (y : Le) : (put4 c o y).size = c.size := by simp [put4]
theorem put4_get (c : Array Value) (o : Nat) (y : Le) (k : Nat) (hs : o + 4 ≤ c.size) : (put4 c o y)[k]? = if o ≤ k ∧ k < o + 4 then y.enc[k - o]? else c[k]? := by
  simp only [put4, Array.getElem?_setIfInBounds, Array.size_setIfInBounds]
  rcases (by omega : k < o ∨ k = o ∨ k = o + 1 ∨ k = o + 2 ∨ k = o + 3 ∨ o + 4 ≤ k) with h | h | h | h | h | h
  · rw [if_neg (by omega), if_neg (by omega), if_neg (by omega), if_neg (by omega), if_neg (by omega)]
  · subst h
    rw [if_neg (by omega), if_neg (by omega), if_neg (by omega), if_pos rfl, if_pos (by omega), if_pos (by omega)]
    simp [Le.enc]
  · subst h
    rw [if_neg (by omega), if_neg (by omega), if_pos rfl, if_pos (by omega), if_pos (by omega)]
    simp [Le.enc]
  · subst h
    rw [if_neg (by omega), if_pos rfl, if_pos (by omega), if_pos (by omega)]
    simp [Le.enc]
  · subst h
    rw [if_pos rfl, if_pos (by omega), if_pos (by omega)]
    simp [Le.enc]
  · rw [if_neg (by omega), if_neg (by omega), if_neg (by omega), if_neg (by omega), if_neg (by omega)]

theorem Kept.keep {p : Le → Bool} {xs : List Le} {c : Array Value} {i j : Nat} (h : Kept p xs c i j) (hij : i ≤ j) (hj : j < xs.length) (hs : xs.length * 4 ≤ c.size) (hp : p xs[j]! = false) :
    Kept p xs (put4 c (i * 4) xs[j]!) (i + 1) (j + 1) := by
  have e : (xs.take (j + 1)).filter (fun x => !p x) = ((xs.take j).filter fun x => !p x) ++ [xs[j]!] := by
    rw [List.take_add_one, List.getElem?_eq_getElem hj, List.filter_append]
    rw [getElem!_pos xs j hj] at hp ⊢
    simp [hp]
  refine ⟨?_, by rw [e]; simp [h.len], fun m r hm hml hr => ?_⟩
  · rw [e, flat_append, ← h.done]
    apply List.ext_getElem?
    intro k
    have hsz : (c.toList.take (i * 4)).length = i * 4 := by simp; omega
    rw [List.getElem?_take, Array.getElem?_toList, put4_get _ _ _ _ (by omega)]
    by_cases h1 : k < i * 4
    · rw [if_pos (by omega), if_neg (by omega), List.getElem?_append_left (by omega), List.getElem?_take, if_pos h1, Array.getElem?_toList]
    · rw [List.getElem?_append_right (by omega), hsz]
      by_cases h2 : k < (i + 1) * 4
      · rw [if_pos h2, if_pos (by omega)]
        simp [flat]
      · rw [if_neg h2, List.getElem?_eq_none (by simp [flat, Le.enc]; omega)]
  · rw [put4_get _ _ _ _ (by omega), if_neg (by omega)]
    exact h.rest m r (by omega) hml hr

set_option maxHeartbeats 4000000 in
theorem deleteFunc_calls (p : Le → Bool) (f : Nat) (lb : Array Value) (eg : ∀ args w, (callFunc f args).run Try.prog w = .ok (.enter f args) w) (v : Value) (n B : Nat) (xs : List Le) (w : World)
    (hw : w.ownsRow B 36 4 v n (flat xs)) (hB : B ≤ w.heap.size) (hp : PredB Try.prog f lb Le.val p w) (hn : n ≤ 1000000) :
    ∀ w0 : World, Below B w0 w → PredB Try.prog f lb Le.val p w0 → B = w0.heap.size →
    Calls Try.prog 50 #[v, .func (.func f) #[] lb] w fun e w' => ∃ v', e = .returned v' ∧ w'.ownsRow B 36 4 v' (xs.filter fun x => !p x).length (flat (xs.filter fun x => !p x)) ∧ Below B w w' := by
  intro w0 hb0 hp0 hB0
  obtain ⟨ao, cap, hv, hsl⟩ := own_sl hw
  have hln := Sl.len hsl
  have hix := fun (w1 : World) (h1 : w1 = w) => indexFunc_calls p f lb eg ao n cap xs w hsl hp
  have hIX := hix w rfl
  clear hix
  rcases idxByFrom_spec' (fun _ y => p y) default xs 0 with ⟨e1, hall⟩ | ⟨k0, hk0, e1, ht, hall⟩
  · have e2 : Lib.idxBy (fun _ y => p y) xs default = -1 := e1
    rw [e2] at hIX
    have e3 : xs.filter (fun x => !p x) = xs := List.filter_eq_self.2 (fun x hx => by
      obtain ⟨i, hi, rfl⟩ := List.getElem_of_mem hx
      have := hall i hi
      rw [getElem!_pos xs i hi] at this
      simp [this])
    rw [e3, hln]
    have W : Aside (w.ownsRow B 36 4 v n (flat xs)) := hw
    subst hv
    clear hall e1 hw hsl hp hp0
    go_enter Try.func50, Try.ntmps50
    go_wp2_with (go_at_call 47; refine hIX.mono ?_; rintro e w1 ⟨rfl, hb1⟩)
    go_ret
    refine ⟨_, rfl, ?_, hb1.mono hB⟩
    exact W.out.kept (row := none) ⟨hb1.os, hb1.tape, hb1.output, hb1.size, fun k hk _ => hb1.block k hk⟩ (by cases ao <;> simp [Value.ownBlock])
  · have e2 : Lib.idxBy (fun _ y => p y) xs default = (k0 : Int) := by have := e1; rw [Nat.zero_add] at this; exact this
    rw [e2] at hIX
    obtain ⟨hl, ⟨_, hn0⟩ | ⟨g, cp, cur, hv', hg, hh, hnc, hcm, hcs, htk⟩⟩ := hw
    · omega
    rw [hv] at hv'
    cases hv'
    subst hv
    have hbig : cap ≤ 9223372036854775807 := by unfold maxLen at hcm; omega
    obtain ⟨u, hself, hsz, hbu, hBu⟩ : ∃ u : World, w = holds u g cur 36 ∧ g < u.heap.size ∧ Below B w0 u ∧ B ≤ u.heap.size := ⟨w, holds_self hh, (Array.getElem?_eq_some_iff.1 hh).1, hb0, hB⟩
    subst hself
    have hkept : Kept p xs cur k0 (k0 + 1) := kept_start hk0 ht hall (by rw [hln]; exact htk) (by omega)
    have K0 : Aside (Kept p xs cur k0 (k0 + 1)) := hkept
    have P0 : Aside (PredB Try.prog f lb Le.val p w0) := hp0
    clear hkept hp0 hp hall ht e1 e2 hsl htk hh hb0
    subst hB0
    go_enter Try.func50, Try.ntmps50
    go_wp2_with (go_at_call 47; refine hIX.mono ?_; rintro e w1 ⟨rfl, hb1⟩; obtain ⟨x, hx⟩ := plus_of_below hb1; subst hx; clear hb1)
    go_loopg [5, 6] (n - (k0 + 1)) (fun k s5 s6 wr => ∃ (i j : Nat) (c : Array Value) (x : World), s5 = .int .i64 (i : Int) ∧ s6 = .int .i64 (j : Int) ∧ wr = plus (holds u g c 36) x ∧ k + j = n ∧ i < j ∧ c.size = cap * 4 ∧ Aside (Kept p xs c i j))
    case atStart => exact ⟨k0, k0 + 1, cur, x, rfl, by simp, rfl, by omega, by omega, hcs, K0⟩
    case round =>
      obtain ⟨i, j, c, x, rfl, rfl, rfl, hkj, hij, hcz, KK⟩ := hrel
      by_cases hj : j < n
      · have hr := KK.out.rest j
        have l0 : c[j * 4]? = some (.int .i64 xs[j]!.conn) := hr 0 (Nat.le_refl _) (by omega) (by omega)
        have l1 : c[j * 4 + 1]? = some (.int .i64 xs[j]!.id) := hr 1 (Nat.le_refl _) (by omega) (by omega)
        have l2 : c[j * 4 + 2]? = some (.int .i64 xs[j]!.kind) := hr 2 (Nat.le_refl _) (by omega) (by omega)
        have l3 : c[j * 4 + 3]? = some (.int .i64 xs[j]!.til) := hr 3 (Nat.le_refl _) (by omega) (by omega)
        have hcall : ∀ W, Below w0.heap.size w0 W → Calls Try.prog f (#[.agg #[.int .i64 xs[j]!.conn, .int .i64 xs[j]!.id, .int .i64 xs[j]!.kind, .int .i64 xs[j]!.til]] ++ lb) W fun e w' => e = .returned (.bool (p xs[j]!)) ∧ Below W.heap.size W w' :=
          fun W hW => P0.out W xs[j]! hW
        have KS := fun h => Kept.skip KK.out (by omega : j < xs.length) h
        have KP := fun h => Kept.keep KK.out (by omega : i ≤ j) (by omega : j < xs.length) (by omega) h
        have KS' : Aside (p xs[j]! = true → Kept p xs c i (j + 1)) := KS
        have KP' : Aside (p xs[j]! = false → Kept p xs (put4 c (i * 4) xs[j]!) (i + 1) (j + 1)) := KP
        clear hr KS KP KK
        unfold put4 at KP'
        generalize xs[j]! = y at l0 l1 l2 l3 hcall KS' KP'
        obtain ⟨y1, y2, y3, y4⟩ := y
        simp only [] at l0 l1 l2 l3 hcall KP'
        obtain ⟨z0, s0⟩ : ∃ z, c[i * 4]? = some z := ⟨_, Array.getElem?_eq_getElem (by omega)⟩
        obtain ⟨z1, s1⟩ : ∃ z, c[i * 4 + 1]? = some z := ⟨_, Array.getElem?_eq_getElem (by omega)⟩
        obtain ⟨z2, s2⟩ : ∃ z, c[i * 4 + 2]? = some z := ⟨_, Array.getElem?_eq_getElem (by omega)⟩
        obtain ⟨z3, s3⟩ : ∃ z, c[i * 4 + 3]? = some z := ⟨_, Array.getElem?_eq_getElem (by omega)⟩
        cases hq : p ⟨y1, y2, y3, y4⟩ with
        | true =>
          rw [hq] at hcall
          have K2 : Aside (Kept p xs c i (j + 1)) := KS'.out hq
          clear KS' KP' hq
          have key : ∀ wr', Below (holds u g c 36).heap.size (holds u g c 36) wr' →
              ∃ (i' j' : Nat) (c' : Array Value) (x' : World), Value.int .i64 (i : Int) = .int .i64 (i' : Int) ∧ Value.int .i64 ((j : Int) + 1) = .int .i64 (j' : Int) ∧ wr' = plus (holds u g c' 36) x' ∧ (gk - 1) + j' = n ∧ i' < j' ∧ c'.size = cap * 4 ∧ Aside (Kept p xs c' i' j') := fun wr' hb =>
            let ⟨z, hz⟩ := plus_of_below hb
            ⟨i, j + 1, c, z, rfl, by simp, hz, by omega, by omega, hcz, K2⟩
          go_wp2_with (go_at_fn f; (with_reducible refine (hcall _ ?_).mono ?_); (rotate_left 1); (rintro e w1 ⟨rfl, hb⟩; obtain ⟨x, hx⟩ := plus_of_below hb; subst hx); clear hb)
          · go_roundg (gk - 1)
            case measure => omega
            case rel =>
              refine key _ ?_
              repeat (first | (with_reducible exact Below.refl _ _) | (with_reducible assumption) | (with_reducible refine below_to_plus ?_ ?_ _) | (with_reducible refine below_holds ?_ ?_ _ _) | (with_reducible refine Below.alloc ?_ ?_ _) | (with_reducible refine Below.drew ?_) | (with_reducible refine below_drewN ?_ _) | (with_reducible refine Below.setCell ?_ ?_ _))
              all_goals first | omega | (simp; done) | (simp [go_sem]; done) | (simp [go_sem]; omega)
          · repeat (first | (with_reducible exact Below.refl _ _) | (with_reducible assumption) | (with_reducible refine below_to_plus ?_ ?_ _) | (with_reducible refine below_holds ?_ ?_ _ _) | (with_reducible refine Below.alloc ?_ ?_ _) | (with_reducible refine Below.drew ?_) | (with_reducible refine below_drewN ?_ _) | (with_reducible refine Below.setCell ?_ ?_ _))
            all_goals first | omega | (simp; done) | (simp [go_sem]; done) | (simp [go_sem]; omega)
        | false =>
          rw [hq] at hcall
          have K2 : Aside (Kept p xs ((((c.setIfInBounds (i * 4) (.int .i64 y1)).setIfInBounds (i * 4 + 1) (.int .i64 y2)).setIfInBounds (i * 4 + 2) (.int .i64 y3)).setIfInBounds (i * 4 + 3) (.int .i64 y4)) (i + 1) (j + 1)) := KP'.out hq
          clear KS' KP' hq
          have key : ∀ wr', Below (holds u g ((((c.setIfInBounds (i * 4) (.int .i64 y1)).setIfInBounds (i * 4 + 1) (.int .i64 y2)).setIfInBounds (i * 4 + 2) (.int .i64 y3)).setIfInBounds (i * 4 + 3) (.int .i64 y4)) 36).heap.size (holds u g ((((c.setIfInBounds (i * 4) (.int .i64 y1)).setIfInBounds (i * 4 + 1) (.int .i64 y2)).setIfInBounds (i * 4 + 2) (.int .i64 y3)).setIfInBounds (i * 4 + 3) (.int .i64 y4)) 36) wr' →
              ∃ (i' j' : Nat) (c' : Array Value) (x' : World), Value.int .i64 ((i : Int) + 1) = .int .i64 (i' : Int) ∧ Value.int .i64 ((j : Int) + 1) = .int .i64 (j' : Int) ∧ wr' = plus (holds u g c' 36) x' ∧ (gk - 1) + j' = n ∧ i' < j' ∧ c'.size = cap * 4 ∧ Aside (Kept p xs c' i' j') := fun wr' hb =>
            let ⟨z, hz⟩ := plus_of_below hb
            ⟨i + 1, j + 1, _, z, by simp, by simp, hz, by omega, by omega, by simp [hcz], K2⟩
          go_wp2_with (go_at_fn f; (with_reducible refine (hcall _ ?_).mono ?_); (rotate_left 1); (rintro e w1 ⟨rfl, hb⟩; obtain ⟨x, hx⟩ := plus_of_below hb; subst hx); clear hb)
          · go_roundg (gk - 1)
            case measure => omega
            case rel =>
              refine key _ ?_
              repeat (first | (with_reducible exact Below.refl _ _) | (with_reducible assumption) | (with_reducible refine below_to_plus ?_ ?_ _) | (with_reducible refine below_holds ?_ ?_ _ _) | (with_reducible refine Below.alloc ?_ ?_ _) | (with_reducible refine Below.drew ?_) | (with_reducible refine below_drewN ?_ _) | (with_reducible refine Below.setCell ?_ ?_ _))
              all_goals first | omega | (simp; done) | (simp [go_sem]; done) | (simp [go_sem]; omega)
          · repeat (first | (with_reducible exact Below.refl _ _) | (with_reducible assumption) | (with_reducible refine below_to_plus ?_ ?_ _) | (with_reducible refine below_holds ?_ ?_ _ _) | (with_reducible refine Below.alloc ?_ ?_ _) | (with_reducible refine Below.drew ?_) | (with_reducible refine below_drewN ?_ _) | (with_reducible refine Below.setCell ?_ ?_ _))
            all_goals first | omega | (simp; done) | (simp [go_sem]; done) | (simp [go_sem]; omega)
      · have hjn : j = n := by omega
        have hjz : ¬ (j : Int) < (n : Int) := by omega
        have hcl : ∀ ty, (Builtin.clear_ #[22] ty #[.slice (some ⟨g, i * 4, none⟩) (n - i) (cap - i)]).run Try.prog (plus (holds u g c 36) x) = .ok (.tuple #[]) ((plus (holds u g c 36) x).setCells g (i * 4) (Builtin.zeroCells (Value.agg #[.int .i64 0, .int .i64 0, .int .i64 0, .int .i64 0]).cells (n - i)).toList) :=
          fun ty => run_clear_k _ 22 36 ty (.agg #[.int .i64 0, .int .i64 0, .int .i64 0, .int .i64 0]) Try.underlying22 (fun w => by kernel_rfl) (by intro v hv; simp [Value.cells] at hv; subst hv; rfl) (by simp [Value.cells]) g (i * 4) (n - i) (cap - i) (by omega)
            (fun m hm => by simp [Value.cells] at hm; rw [cell?_plus, if_pos (by rw [size_holds]; exact hsz), cell?_holds, if_pos ⟨rfl, hsz⟩, Array.getElem?_eq_getElem (by omega)]; rfl)
            (fun m hm => by simp [Value.cells] at hm; rw [frozen?_plus, if_pos (by rw [size_holds]; exact hsz)]; show (holds u g c 36).frozen? _ = false; rw [frozen?_holds, if_pos ⟨rfl, hsz⟩])
        obtain ⟨c', hc', hsz', hpre⟩ := setCells_row u x g 36 hsz (Builtin.zeroCells (Value.agg #[.int .i64 0, .int .i64 0, .int .i64 0, .int .i64 0]).cells (n - i)).toList (i * 4) c
        rw [hc'] at hcl
        have HP : Aside (∀ j, j < i * 4 → c'[j]? = c[j]?) := hpre
        have HS : Aside (c'.size = c.size) := hsz'
        clear hpre hsz' hc'
        go_wp2
        go_ret
        have hK := KK.out
        have hlen : (xs.filter fun x => !p x).length = i := by have := hK.len; rw [List.take_of_length_le (by omega)] at this; exact this
        have hdone : c.toList.take (i * 4) = flat (xs.filter fun x => !p x) := by have := hK.done; rw [List.take_of_length_le (l := xs) (by omega)] at this; exact this
        have hS := HS.out
        rw [hlen]
        refine ⟨_, rfl, ⟨by rw [flat_length, hlen], .inr ⟨g, cap, c', rfl, hg, ?_, by omega, hcm, by omega, ?_⟩⟩, ?_⟩
        · rw [(below_plus _ _).block g (by rw [size_holds]; exact hsz), heap_holds, if_pos ⟨rfl, hsz⟩]
        · rw [← hdone]
          apply List.ext_getElem?
          intro k
          rw [List.getElem?_take, List.getElem?_take]
          split
          · rename_i hk
            rw [Array.getElem?_toList, Array.getElem?_toList, HP.out k hk]
          · rfl
        · have hbc : Below w0.heap.size (holds u g cur 36) (holds u g c' 36) := ⟨rfl, rfl, rfl, by rw [size_holds, size_holds]; exact Nat.le_refl _, fun k hk => by rw [heap_holds, heap_holds, if_neg (by omega), if_neg (by omega)]⟩
          exact below_to_plus hbc (by rw [size_holds]; exact hBu) _

end Go.Proofs.Ytodmgdihkhakpaa
