/- This text proves the walk of Grant of package lease. Conditions: those that each theorem names. -/
import Derived.Test.YtodmgdihkhakpaaLeaseL
namespace Go.Proofs.Ytodmgdihkhakpaa
open Go.ChangeShapes Go.WideShapes Go.ChangeAt Go.RowKit
set_option linter.unusedVariables false

set_option maxHeartbeats 4000000 in
theorem bsearch0_calls (ao : Option Addr) (cap : Nat) (t1 t2 t3 t4 : Int) (w : World) :
    Calls Try.prog 37 #[.slice ao 0 cap, .agg #[.int .i64 t1, .int .i64 t2, .int .i64 t3, .int .i64 t4], .func (.func 29) #[] #[]] w fun e w' =>
      e = .returned (.tuple #[.int .i64 0, .bool false]) ∧ Below w.heap.size w w' := by
  go_enter Try.func37, Try.ntmps37
  go_wp2
  go_loopg [9, 10] 0 (fun k s9 s10 wr => ∃ x : World, s9 = .int .i64 0 ∧ s10 = .int .i64 0 ∧ wr = plus (w.alloc (.cells #[.int .i64 t1, .int .i64 t2, .int .i64 t3, .int .i64 t4] 36)) x)
  case atStart => exact ⟨_, rfl, rfl, plus_self _⟩
  case round =>
    obtain ⟨x, rfl, rfl, rfl⟩ := hrel
    go_wp2
    refine wp_region_plus (by kernel_rfl) (by kernel_rfl) ?_
    repeat (go_big_quiet_step (fail))
    refine wpQuiet_nil ?_
    rintro _ ⟨x, rfl⟩
    go_wp2
    refine bodyPost_ret (v := .tuple #[.int .i64 0, .bool false]) (by simp [results, Try.results37, go_sem]; try rfl) rfl ⟨rfl, ?_⟩
    repeat (first | (with_reducible exact Below.refl _ _) | (with_reducible assumption) | (with_reducible refine below_to_plus ?_ ?_ _) | (with_reducible refine below_holds ?_ ?_ _ _) | (with_reducible refine Below.alloc ?_ ?_ _) | (with_reducible refine Below.drew ?_) | (with_reducible refine below_drewN ?_ _) | (with_reducible refine Below.setCell ?_ ?_ _))
    all_goals first | omega | (simp; done) | (simp [go_sem]; done) | (simp [go_sem]; omega)

/-- BinarySearchFunc with order finds the place. -/
theorem bsearch_all (ao : Option Addr) (n cap : Nat) (xs : List Le) (t1 t2 t3 t4 : Int) (w : World) (h : Sl w 4 ao n cap (xs.map Le.enc)) (hn : n ≤ 1000000) (hs : SortedL xs) :
    Calls Try.prog 37 #[.slice ao n cap, .agg #[.int .i64 t1, .int .i64 t2, .int .i64 t3, .int .i64 t4], .func (.func 29) #[] #[]] w fun e w' =>
      e = .returned (.tuple #[.int .i64 (posI ⟨t1, t2, t3, t4⟩ xs : Nat), .bool (foundB ⟨t1, t2, t3, t4⟩ xs)]) ∧ Below w.heap.size w w' := by
  have hln := Sl.len h
  by_cases h0 : n = 0
  · subst h0
    have hxs : xs = [] := List.eq_nil_of_length_eq_zero hln
    subst hxs
    exact bsearch0_calls ao cap t1 t2 t3 t4 w
  · refine (bsearch_calls ao n cap xs t1 t2 t3 t4 w h hn (by have := hs.mono ⟨t1, t2, t3, t4⟩; rw [hln] at this; exact this) (by omega)).mono ?_
    rintro e w' ⟨i, hi, h1, h2, he, hb⟩
    have hp := pos_of xs ⟨t1, t2, t3, t4⟩ i (by omega) h1 (by rw [hln]; exact h2)
    refine ⟨?_, hb⟩
    rw [he, foundB, hp, hln]

def GrantPost (w : World) (ys : List Le) (u k : Int) (e : Ending) (w' : World) : Prop :=
  ∃ ao cap, e = .returned (.tuple #[.slice ao ys.length cap, .int .i64 u, .int .i64 k]) ∧ w'.ownsRow w.heap.size 36 4 (.slice ao ys.length cap) ys.length (flat ys) ∧ Below w.heap.size w w'

/-- The state of Grant behind the clean copy: the new lease in block xb, the live ones in a row of its own. -/
structure GSt (w : World) (xb : Nat) (x1 x2 x3 x4 : Int) (v : Value) (ys : List Le) (U : World) : Prop where
  bel : Below w.heap.size w U
  own : U.ownsRow w.heap.size 36 4 v ys.length (flat ys)
  lt : xb < U.heap.size
  ge : w.heap.size ≤ xb
  ne : v.ownBlock ≠ some xb
  c0 : U.cell? ⟨xb, 0, none⟩ = some (.int .i64 x1)
  c1 : U.cell? ⟨xb, 1, none⟩ = some (.int .i64 x2)
  c2 : U.cell? ⟨xb, 2, none⟩ = some (.int .i64 x3)
  c3 : U.cell? ⟨xb, 3, none⟩ = some (.int .i64 x4)

theorem GSt.later {w : World} {xb : Nat} {x1 x2 x3 x4 : Int} {v : Value} {ys : List Le} {U U' : World} (h : GSt w xb x1 x2 x3 x4 v ys U) (hb : Below U.heap.size U U') : GSt w xb x1 x2 x3 x4 v ys U' :=
  ⟨h.bel.trans (hb.mono h.bel.size), h.own.kept (grownBy_of_below hb none) (by cases hv : v.ownBlock <;> simp), Nat.lt_of_lt_of_le h.lt hb.size, h.ge, h.ne,
    (hb.cell (p := ⟨xb, 0, none⟩) h.lt).trans h.c0, (hb.cell (p := ⟨xb, 1, none⟩) h.lt).trans h.c1, (hb.cell (p := ⟨xb, 2, none⟩) h.lt).trans h.c2, (hb.cell (p := ⟨xb, 3, none⟩) h.lt).trans h.c3⟩
theorem cell_grown {w w' : World} {r : Option Nat} (h : w.grownBy w' r) {b o : Nat} (hb : b < w.heap.size) (hr : r ≠ some b) : w'.cell? ⟨b, o, none⟩ = w.cell? ⟨b, o, none⟩ :=
  World.cell?_of_block (h.block b hb (fun e => hr e.symm))
/-- A write into the row of its own. -/
theorem GSt.grown {w : World} {xb : Nat} {x1 x2 x3 x4 : Int} {v v' : Value} {ys zs : List Le} {U U' : World} (h : GSt w xb x1 x2 x3 x4 v ys U) (hg : U.grownBy U' v.ownBlock)
    (ho : U'.ownsRow w.heap.size 36 4 v' zs.length (flat zs)) (hne : v'.ownBlock ≠ some xb) : GSt w xb x1 x2 x3 x4 v' zs U' :=
  ⟨h.bel.grown hg h.bel.size (fun k hk => (h.own.lt k hk).1), ho, Nat.lt_of_lt_of_le h.lt hg.size, h.ge, hne,
    (cell_grown hg h.lt h.ne).trans h.c0, (cell_grown hg h.lt h.ne).trans h.c1, (cell_grown hg h.lt h.ne).trans h.c2, (cell_grown hg h.lt h.ne).trans h.c3⟩

/-- The end of Grant: the row of its own, and the new lease's end in its block. -/
structure GEnd (w : World) (xb : Nat) (x4 : Int) (v : Value) (ys : List Le) (U : World) : Prop where
  bel : Below w.heap.size w U
  own : U.ownsRow w.heap.size 36 4 v ys.length (flat ys)
  lt : xb < U.heap.size
  c3 : U.cell? ⟨xb, 3, none⟩ = some (.int .i64 x4)
theorem GSt.fin {w : World} {xb : Nat} {x1 x2 x3 x4 : Int} {v v' : Value} {ys zs : List Le} {U U' : World} (h : GSt w xb x1 x2 x3 x4 v ys U) (hg : U.grownBy U' v.ownBlock)
    (ho : U'.ownsRow w.heap.size 36 4 v' zs.length (flat zs)) : GEnd w xb x4 v' zs U' :=
  ⟨h.bel.grown hg h.bel.size (fun k hk => (h.own.lt k hk).1), ho, Nat.lt_of_lt_of_le h.lt hg.size, (cell_grown hg h.lt h.ne).trans h.c3⟩
theorem GEnd.later {w : World} {xb : Nat} {x4 : Int} {v : Value} {ys : List Le} {U U' : World} (h : GEnd w xb x4 v ys U) (hb : Below U.heap.size U U') : GEnd w xb x4 v ys U' :=
  ⟨h.bel.trans (hb.mono h.bel.size), h.own.kept (grownBy_of_below hb none) (by cases hv : v.ownBlock <;> simp), Nat.lt_of_lt_of_le h.lt hb.size, (hb.cell (p := ⟨xb, 3, none⟩) h.lt).trans h.c3⟩
theorem put4_flat (c : Array Value) (ys : List Le) (i : Nat) (y : Le) (hi : i < ys.length) (hs : ys.length * 4 ≤ c.size) (ht : c.toList.take (ys.length * 4) = flat ys) :
    (put4 c (i * 4) y).toList.take (ys.length * 4) = flat (ys.set i y) := by
  apply List.ext_getElem?
  intro k
  have e1 : k = k / 4 * 4 + k % 4 := by omega
  by_cases hk : k < ys.length * 4
  · rw [List.getElem?_take, if_pos hk, Array.getElem?_toList, put4_get _ _ _ _ (by omega), e1, flat_get _ _ _ (by omega), ← e1, List.getElem?_set]
    split
    · rename_i h
      rw [if_pos (by omega)]
      rw [show k - i * 4 = k % 4 by omega]; rfl
    · rename_i h
      rw [if_neg (by omega)]
      have h2 := congrArg (fun l => l[k]?) ht
      simp only [List.getElem?_take, if_pos hk, Array.getElem?_toList] at h2
      rw [h2]
      conv => lhs; rw [e1]
      rw [flat_get _ _ _ (by omega)]
  · rw [List.getElem?_take, if_neg hk, List.getElem?_eq_none (by rw [flat_length]; simp; omega)]
theorem gset {w : World} {xb g cap2 i : Nat} {x1 x2 x3 x4 : Int} {ys : List Le} {U : World} {cur : Array Value} {y : Le} (h : GSt w xb x1 x2 x3 x4 (.slice (some ⟨g, 0, none⟩) ys.length cap2) ys U) (hg : U.heap[g]? = some (.cells cur 36 (0, 0)))
    (hcs : cur.size = cap2 * 4) (hnc : ys.length ≤ cap2) (hi : i < ys.length) (x : World) :
    GEnd w xb x4 (.slice (some ⟨g, 0, none⟩) ys.length cap2) (ys.set i y) (plus (holds U g (put4 cur (i * 4) y) 36) x) := by
  have hgl : g < U.heap.size := (Array.getElem?_eq_some_iff.1 hg).1
  have hgb := (h.own.lt g rfl).1
  have hgrow : U.grownBy (holds U g (put4 cur (i * 4) y) 36) (some g) := ⟨rfl, rfl, rfl, by rw [size_holds]; exact Nat.le_refl _, fun k hk hne => by rw [heap_holds, if_neg (fun e => hne (by rw [e.1]))]⟩
  obtain ⟨hl, h0 | ⟨g', cap', cur', hv, hbg, hg', hn', hcm, hcs', ht⟩⟩ := h.own
  · cases h0.1
  · cases hv
    have : cur' = cur := by rw [hg] at hg'; cases hg'; rfl
    subst this
    refine (h.fin (zs := ys.set i y) hgrow ?_).later (below_plus _ _)
    rw [List.length_set]
    refine ⟨by rw [flat_length, List.length_set], .inr ⟨g, cap2, _, rfl, hbg, by rw [heap_holds, if_pos ⟨rfl, hgl⟩], hn', hcm, by rw [put4_size]; exact hcs, put4_flat _ _ _ _ hi (by omega) ht⟩⟩

set_option maxHeartbeats 4000000 in
theorem grant_no (ao : Option Addr) (n cap : Nat) (xs : List Le) (cn fid kd tm now : Int) (w : World) (h : Sl w 4 ao n cap (xs.map Le.enc)) (hn : n ≤ 1000000) (hr : reqB cn fid kd tm now = false) :
    Calls Try.prog 12 #[.slice ao n cap, .int .i64 cn, .int .i64 fid, .int .i64 kd, .int .i64 tm, .int .i64 now] w fun e w' => GrantPost w xs 0 1 e w' := by
  have hln := Sl.len h
  have cC : ∀ W, Below w.heap.size w W → Calls Try.prog 33 #[.slice ao n cap] W fun e W' => ∃ ao' cap', e = .returned (.slice ao' n cap') ∧ W'.ownsRow w.heap.size 36 4 (.slice ao' n cap') n (flat xs) ∧ Below w.heap.size w W' := fun W hb =>
    (clone_calls ao n cap xs W (h.stays hb) hn).mono (fun e W' ⟨v', he, ho, hb2⟩ => by
      obtain ⟨ao', cap', rfl, _⟩ := own_sl ho
      exact ⟨ao', cap', he, own_lower ho hb.size, hb.trans (hb2.mono hb.size)⟩)
  have RF : Aside (∀ ao' cap' W, W.ownsRow w.heap.size 36 4 (.slice ao' n cap') n (flat xs) → Below w.heap.size w W → GrantPost w xs 0 1 (.returned (.tuple #[.slice ao' n cap', .int .i64 0, .int .i64 1])) W) := fun ao' cap' W ho hb =>
    ⟨ao', cap', by rw [hln], by rw [hln]; exact ho, hb⟩
  have HB : Aside (Below w.heap.size w w) := Below.refl _ _
  clear h hln
  have w1 := fun w => within_calls cn 1 1099511627776 w
  have w2 := fun w => within_calls fid 1 1099511627776 w
  have w3 := fun w => isKind_calls kd w
  have w4 := fun w => within_calls tm 1 1048576 w
  have w5 := fun w => within_calls now 0 1099511627776 w
  unfold reqB at hr
  generalize inB cn 1 1099511627776 = b1 at w1 hr
  generalize inB fid 1 1099511627776 = b2 at w2 hr
  generalize kindB kd = b3 at w3 hr
  generalize inB tm 1 1048576 = b4 at w4 hr
  generalize inB now 0 1099511627776 = b5 at w5 hr
  cases b1 with
  | false =>
    clear hr
    go_enter Try.func12, Try.ntmps12
    go_wp2_with (first | (go_at_call 27; (with_reducible refine (w1 _).mono ?_); (rintro e W ⟨rfl, hb⟩; (have HB' : Aside (Below w.heap.size w _) := HB.out.trans (hb.mono HB.out.size)); clear hb HB; have HB := HB'; clear HB')) | (go_at_call 27; (with_reducible refine (w2 _).mono ?_); (rintro e W ⟨rfl, hb⟩; (have HB' : Aside (Below w.heap.size w _) := HB.out.trans (hb.mono HB.out.size)); clear hb HB; have HB := HB'; clear HB')) | (go_at_call 28; (with_reducible refine (w3 _).mono ?_); (rintro e W ⟨rfl, hb⟩; (have HB' : Aside (Below w.heap.size w _) := HB.out.trans (hb.mono HB.out.size)); clear hb HB; have HB := HB'; clear HB')) | (go_at_call 27; (with_reducible refine (w4 _).mono ?_); (rintro e W ⟨rfl, hb⟩; (have HB' : Aside (Below w.heap.size w _) := HB.out.trans (hb.mono HB.out.size)); clear hb HB; have HB := HB'; clear HB')) | (go_at_call 27; (with_reducible refine (w5 _).mono ?_); (rintro e W ⟨rfl, hb⟩; (have HB' : Aside (Below w.heap.size w _) := HB.out.trans (hb.mono HB.out.size)); clear hb HB; have HB := HB'; clear HB')))
    refine (cC _ HB.out).mono ?_
    rintro e W ⟨ao', cap', rfl, hown, hb⟩
    go_wp2_with fail
    refine bodyPost_ret (v := .tuple #[.slice ao' n cap', .int .i64 0, .int .i64 1]) (by simp [results, Try.results12, go_sem]) rfl ?_
    exact RF.out ao' cap' W hown hb
  | true =>
  cases b2 with
  | false =>
    clear hr
    go_enter Try.func12, Try.ntmps12
    go_wp2_with (first | (go_at_call 27; (with_reducible refine (w1 _).mono ?_); (rintro e W ⟨rfl, hb⟩; (have HB' : Aside (Below w.heap.size w _) := HB.out.trans (hb.mono HB.out.size)); clear hb HB; have HB := HB'; clear HB')) | (go_at_call 27; (with_reducible refine (w2 _).mono ?_); (rintro e W ⟨rfl, hb⟩; (have HB' : Aside (Below w.heap.size w _) := HB.out.trans (hb.mono HB.out.size)); clear hb HB; have HB := HB'; clear HB')) | (go_at_call 28; (with_reducible refine (w3 _).mono ?_); (rintro e W ⟨rfl, hb⟩; (have HB' : Aside (Below w.heap.size w _) := HB.out.trans (hb.mono HB.out.size)); clear hb HB; have HB := HB'; clear HB')) | (go_at_call 27; (with_reducible refine (w4 _).mono ?_); (rintro e W ⟨rfl, hb⟩; (have HB' : Aside (Below w.heap.size w _) := HB.out.trans (hb.mono HB.out.size)); clear hb HB; have HB := HB'; clear HB')) | (go_at_call 27; (with_reducible refine (w5 _).mono ?_); (rintro e W ⟨rfl, hb⟩; (have HB' : Aside (Below w.heap.size w _) := HB.out.trans (hb.mono HB.out.size)); clear hb HB; have HB := HB'; clear HB')))
    refine (cC _ HB.out).mono ?_
    rintro e W ⟨ao', cap', rfl, hown, hb⟩
    go_wp2_with fail
    refine bodyPost_ret (v := .tuple #[.slice ao' n cap', .int .i64 0, .int .i64 1]) (by simp [results, Try.results12, go_sem]) rfl ?_
    exact RF.out ao' cap' W hown hb
  | true =>
  cases b3 with
  | false =>
    clear hr
    go_enter Try.func12, Try.ntmps12
    go_wp2_with (first | (go_at_call 27; (with_reducible refine (w1 _).mono ?_); (rintro e W ⟨rfl, hb⟩; (have HB' : Aside (Below w.heap.size w _) := HB.out.trans (hb.mono HB.out.size)); clear hb HB; have HB := HB'; clear HB')) | (go_at_call 27; (with_reducible refine (w2 _).mono ?_); (rintro e W ⟨rfl, hb⟩; (have HB' : Aside (Below w.heap.size w _) := HB.out.trans (hb.mono HB.out.size)); clear hb HB; have HB := HB'; clear HB')) | (go_at_call 28; (with_reducible refine (w3 _).mono ?_); (rintro e W ⟨rfl, hb⟩; (have HB' : Aside (Below w.heap.size w _) := HB.out.trans (hb.mono HB.out.size)); clear hb HB; have HB := HB'; clear HB')) | (go_at_call 27; (with_reducible refine (w4 _).mono ?_); (rintro e W ⟨rfl, hb⟩; (have HB' : Aside (Below w.heap.size w _) := HB.out.trans (hb.mono HB.out.size)); clear hb HB; have HB := HB'; clear HB')) | (go_at_call 27; (with_reducible refine (w5 _).mono ?_); (rintro e W ⟨rfl, hb⟩; (have HB' : Aside (Below w.heap.size w _) := HB.out.trans (hb.mono HB.out.size)); clear hb HB; have HB := HB'; clear HB')))
    refine (cC _ HB.out).mono ?_
    rintro e W ⟨ao', cap', rfl, hown, hb⟩
    go_wp2_with fail
    refine bodyPost_ret (v := .tuple #[.slice ao' n cap', .int .i64 0, .int .i64 1]) (by simp [results, Try.results12, go_sem]) rfl ?_
    exact RF.out ao' cap' W hown hb
  | true =>
  cases b4 with
  | false =>
    clear hr
    go_enter Try.func12, Try.ntmps12
    go_wp2_with (first | (go_at_call 27; (with_reducible refine (w1 _).mono ?_); (rintro e W ⟨rfl, hb⟩; (have HB' : Aside (Below w.heap.size w _) := HB.out.trans (hb.mono HB.out.size)); clear hb HB; have HB := HB'; clear HB')) | (go_at_call 27; (with_reducible refine (w2 _).mono ?_); (rintro e W ⟨rfl, hb⟩; (have HB' : Aside (Below w.heap.size w _) := HB.out.trans (hb.mono HB.out.size)); clear hb HB; have HB := HB'; clear HB')) | (go_at_call 28; (with_reducible refine (w3 _).mono ?_); (rintro e W ⟨rfl, hb⟩; (have HB' : Aside (Below w.heap.size w _) := HB.out.trans (hb.mono HB.out.size)); clear hb HB; have HB := HB'; clear HB')) | (go_at_call 27; (with_reducible refine (w4 _).mono ?_); (rintro e W ⟨rfl, hb⟩; (have HB' : Aside (Below w.heap.size w _) := HB.out.trans (hb.mono HB.out.size)); clear hb HB; have HB := HB'; clear HB')) | (go_at_call 27; (with_reducible refine (w5 _).mono ?_); (rintro e W ⟨rfl, hb⟩; (have HB' : Aside (Below w.heap.size w _) := HB.out.trans (hb.mono HB.out.size)); clear hb HB; have HB := HB'; clear HB')))
    refine (cC _ HB.out).mono ?_
    rintro e W ⟨ao', cap', rfl, hown, hb⟩
    go_wp2_with fail
    refine bodyPost_ret (v := .tuple #[.slice ao' n cap', .int .i64 0, .int .i64 1]) (by simp [results, Try.results12, go_sem]) rfl ?_
    exact RF.out ao' cap' W hown hb
  | true =>
  cases b5 with
  | false =>
    clear hr
    go_enter Try.func12, Try.ntmps12
    go_wp2_with (first | (go_at_call 27; (with_reducible refine (w1 _).mono ?_); (rintro e W ⟨rfl, hb⟩; (have HB' : Aside (Below w.heap.size w _) := HB.out.trans (hb.mono HB.out.size)); clear hb HB; have HB := HB'; clear HB')) | (go_at_call 27; (with_reducible refine (w2 _).mono ?_); (rintro e W ⟨rfl, hb⟩; (have HB' : Aside (Below w.heap.size w _) := HB.out.trans (hb.mono HB.out.size)); clear hb HB; have HB := HB'; clear HB')) | (go_at_call 28; (with_reducible refine (w3 _).mono ?_); (rintro e W ⟨rfl, hb⟩; (have HB' : Aside (Below w.heap.size w _) := HB.out.trans (hb.mono HB.out.size)); clear hb HB; have HB := HB'; clear HB')) | (go_at_call 27; (with_reducible refine (w4 _).mono ?_); (rintro e W ⟨rfl, hb⟩; (have HB' : Aside (Below w.heap.size w _) := HB.out.trans (hb.mono HB.out.size)); clear hb HB; have HB := HB'; clear HB')) | (go_at_call 27; (with_reducible refine (w5 _).mono ?_); (rintro e W ⟨rfl, hb⟩; (have HB' : Aside (Below w.heap.size w _) := HB.out.trans (hb.mono HB.out.size)); clear hb HB; have HB := HB'; clear HB')))
    refine (cC _ HB.out).mono ?_
    rintro e W ⟨ao', cap', rfl, hown, hb⟩
    go_wp2_with fail
    refine bodyPost_ret (v := .tuple #[.slice ao' n cap', .int .i64 0, .int .i64 1]) (by simp [results, Try.results12, go_sem]) rfl ?_
    exact RF.out ao' cap' W hown hb
  | true =>
  cases hr

set_option maxHeartbeats 4000000 in
theorem grant_yes (ao : Option Addr) (n cap : Nat) (xs : List Le) (cn fid kd tm now : Int) (w : World) (h : Sl w 4 ao n cap (xs.map Le.enc)) (hn : n ≤ 1000000) (hs : SortedL xs) (hr : reqB cn fid kd tm now = true) :
    Calls Try.prog 12 #[.slice ao n cap, .int .i64 cn, .int .i64 fid, .int .i64 kd, .int .i64 tm, .int .i64 now] w fun e w' => GrantPost w (grantF xs cn fid kd tm now).1 (grantF xs cn fid kd tm now).2.1 (grantF xs cn fid kd tm now).2.2 e w' := by
  have hln := Sl.len h
  have cC : ∀ W, Below w.heap.size w W → Calls Try.prog 33 #[.slice ao n cap] W fun e W' => ∃ ao' cap', e = .returned (.slice ao' n cap') ∧ W'.ownsRow w.heap.size 36 4 (.slice ao' n cap') n (flat xs) ∧ Below w.heap.size w W' := fun W hb =>
    (clone_calls ao n cap xs W (h.stays hb) hn).mono (fun e W' ⟨v', he, ho, hb2⟩ => by
      obtain ⟨ao', cap', rfl, _⟩ := own_sl ho
      exact ⟨ao', cap', he, own_lower ho hb.size, hb.trans (hb2.mono hb.size)⟩)
  have hlive : liveL xs now = xs.filter fun x => !(decide (x.til ≤ now)) := rfl
  have cClean : ∀ W, Below w.heap.size w W → Calls Try.prog 23 #[.slice ao n cap, .int .i64 now] (W.alloc (.cells #[.int .i64 cn, .int .i64 fid, .int .i64 kd, .int .i64 (now + tm)] 36)) fun e U => ∃ ao2 cap2, e = .returned (.slice ao2 (liveL xs now).length cap2) ∧ GSt w W.heap.size cn fid kd (now + tm) (.slice ao2 (liveL xs now).length cap2) (liveL xs now) U := fun W hb => by
    have hb0 : Below W.heap.size W (W.alloc (.cells #[.int .i64 cn, .int .i64 fid, .int .i64 kd, .int .i64 (now + tm)] 36)) := (Below.refl _ W).alloc (Nat.le_refl _) _
    have hb1 := hb.trans (hb0.mono hb.size)
    refine (clean_calls ao n cap xs now _ (h.stays hb1) hn).mono ?_
    rintro e U ⟨v', rfl, ho, hb2⟩
    rw [← hlive] at ho
    obtain ⟨ao2, cap2, rfl, _⟩ := own_sl ho
    have hsz : (W.alloc (.cells #[.int .i64 cn, .int .i64 fid, .int .i64 kd, .int .i64 (now + tm)] 36)).heap.size = W.heap.size + 1 := by simp
    have hlt : W.heap.size < (W.alloc (.cells #[.int .i64 cn, .int .i64 fid, .int .i64 kd, .int .i64 (now + tm)] 36)).heap.size := by omega
    have hcell : ∀ o, U.cell? ⟨W.heap.size, o, none⟩ = (W.alloc (.cells #[.int .i64 cn, .int .i64 fid, .int .i64 kd, .int .i64 (now + tm)] 36)).cell? ⟨W.heap.size, o, none⟩ := fun o => hb2.cell (p := ⟨W.heap.size, o, none⟩) hlt
    refine ⟨ao2, cap2, rfl, hb1.trans (hb2.mono hb1.size), own_lower ho hb1.size, Nat.lt_of_lt_of_le hlt hb2.size, hb.size, fun e => ?_, ?_, ?_, ?_, ?_⟩
    · have := (ho.lt _ e).1
      omega
    · rw [hcell]; simp [go_sem]
    · rw [hcell]; simp [go_sem]
    · rw [hcell]; simp [go_sem]
    · rw [hcell]; simp [go_sem]
  have hlen : (liveL xs now).length ≤ 1000000 := by have := live_length xs now; omega
  have hsl := hs.live now
  have hF := grantF.eq_1 xs cn fid kd tm now
  rw [if_pos hr] at hF
  have HF : Aside (_ = _) := hF
  clear hF hlive
  generalize grantF xs cn fid kd tm now = GF at HF ⊢
  generalize liveL xs now = ys at cClean hlen hsl HF
  have eg : ∀ args w, (callFunc 35 args).run Try.prog w = .ok (.enter 35 args) w := enters_of Try.func35 (by kernel_rfl) rfl
  have cAny : ∀ xb ao2 cap2 U, GSt w xb cn fid kd (now + tm) (.slice ao2 ys.length cap2) ys U → Calls Try.prog 34 #[.slice ao2 ys.length cap2, .func (.func 35) #[] #[.pointer (some ⟨xb, 0, none⟩)]] U fun e U' => e = .returned (.bool (ys.any fun y => conflictB ⟨cn, fid, kd, now + tm⟩ y)) ∧ GSt w xb cn fid kd (now + tm) (.slice ao2 ys.length cap2) ys U' := fun xb ao2 cap2 U g => by
    obtain ⟨ao3, cap3, e3, hsl3⟩ := own_sl g.own
    cases e3
    exact (containsFunc_calls (fun y => conflictB ⟨cn, fid, kd, now + tm⟩ y) 35 #[.pointer (some ⟨xb, 0, none⟩)] eg ao2 ys.length cap2 ys U hsl3 (pred_grant cn fid kd (now + tm) xb U g.lt g.c0 g.c1 g.c2 g.c3)).mono fun e U' ⟨he, hb⟩ => ⟨he, g.later hb⟩
  have cSearch : ∀ xb ao2 cap2 U, GSt w xb cn fid kd (now + tm) (.slice ao2 ys.length cap2) ys U → Calls Try.prog 37 #[.slice ao2 ys.length cap2, .agg #[.int .i64 cn, .int .i64 fid, .int .i64 kd, .int .i64 (now + tm)], .func (.func 29) #[] #[]] U fun e U' => e = .returned (.tuple #[.int .i64 (posI ⟨cn, fid, kd, now + tm⟩ ys : Nat), .bool (foundB ⟨cn, fid, kd, now + tm⟩ ys)]) ∧ GSt w xb cn fid kd (now + tm) (.slice ao2 ys.length cap2) ys U' := fun xb ao2 cap2 U g => by
    obtain ⟨ao3, cap3, e3, hsl3⟩ := own_sl g.own
    cases e3
    exact (bsearch_all ao2 ys.length cap2 ys cn fid kd (now + tm) U hsl3 hlen hsl).mono fun e U' ⟨he, hb⟩ => ⟨he, g.later hb⟩
  have hpos : posI ⟨cn, fid, kd, now + tm⟩ ys ≤ ys.length := by unfold posI; exact (List.takeWhile_sublist _).length_le
  have cIns : ∀ xb ao2 cap2 U, GSt w xb cn fid kd (now + tm) (.slice ao2 ys.length cap2) ys U → Calls Try.prog 38 #[.slice ao2 ys.length cap2, .int .i64 (posI ⟨cn, fid, kd, now + tm⟩ ys : Nat), .slice (some ⟨U.heap.size, 0, none⟩) 1 1] (U.alloc (.cells #[.int .i64 cn, .int .i64 fid, .int .i64 kd, .int .i64 (now + tm)] 36)) fun e U' => ∃ ao3 cap3, e = .returned (.slice ao3 (ys.length + 1) cap3) ∧
      GEnd w xb (now + tm) (.slice ao3 (ys.length + 1) cap3) (ys.take (posI ⟨cn, fid, kd, now + tm⟩ ys) ++ ⟨cn, fid, kd, now + tm⟩ :: ys.drop (posI ⟨cn, fid, kd, now + tm⟩ ys)) U' := fun xb ao2 cap2 U g => by
    have hb0 : Below U.heap.size U (U.alloc (.cells #[.int .i64 cn, .int .i64 fid, .int .i64 kd, .int .i64 (now + tm)] 36)) := (Below.refl _ U).alloc (Nat.le_refl _) _
    have g1 := g.later hb0
    have hne : (Value.slice ao2 ys.length cap2).ownBlock ≠ some U.heap.size := fun e => by have := (g.own.lt _ e).2; omega
    refine (leaseInsert_calls (.slice ao2 ys.length cap2) ys.length (posI ⟨cn, fid, kd, now + tm⟩ ys) U.heap.size w.heap.size (flat ys) (Le.enc ⟨cn, fid, kd, now + tm⟩) 36 _ g1.own hpos hlen rfl (flat_one ys) (fun u hu => by have := flat_one [⟨cn, fid, kd, now + tm⟩] u; simp only [flat, List.flatMap_cons, List.flatMap_nil, List.append_nil] at this; exact this hu)
      (heap_alloc_new U _) hne g1.bel.size).mono ?_
    rintro e U' ⟨v', rfl, ho, hg⟩
    rw [flat_insert] at ho
    obtain ⟨ao3, cap3, hv, _⟩ := own_sl ho
    subst hv
    have hpl : (ys.take (posI ⟨cn, fid, kd, now + tm⟩ ys) ++ ⟨cn, fid, kd, now + tm⟩ :: ys.drop (posI ⟨cn, fid, kd, now + tm⟩ ys)).length = ys.length + 1 := by simp; omega
    exact ⟨ao3, cap3, rfl, g1.fin hg (by rw [hpl]; exact ho)⟩
  have HPL : foundB ⟨cn, fid, kd, now + tm⟩ ys = false → (putL ⟨cn, fid, kd, now + tm⟩ ys).length = ys.length + 1 ∧ putL ⟨cn, fid, kd, now + tm⟩ ys = ys.take (posI ⟨cn, fid, kd, now + tm⟩ ys) ++ ⟨cn, fid, kd, now + tm⟩ :: ys.drop (posI ⟨cn, fid, kd, now + tm⟩ ys) := fun hf => by
    have hp : putL ⟨cn, fid, kd, now + tm⟩ ys = ys.take (posI ⟨cn, fid, kd, now + tm⟩ ys) ++ ⟨cn, fid, kd, now + tm⟩ :: ys.drop (posI ⟨cn, fid, kd, now + tm⟩ ys) := by unfold putL; rw [hf]; rfl
    exact ⟨by rw [hp]; simp; omega, hp⟩
  have cSet : foundB ⟨cn, fid, kd, now + tm⟩ ys = true → (putL ⟨cn, fid, kd, now + tm⟩ ys).length = ys.length ∧ posI ⟨cn, fid, kd, now + tm⟩ ys < ys.length ∧ ∀ xb g cap2 U (cur : Array Value), GSt w xb cn fid kd (now + tm) (.slice (some ⟨g, 0, none⟩) ys.length cap2) ys U → U.heap[g]? = some (.cells cur 36 (0, 0)) → cur.size = cap2 * 4 → ys.length ≤ cap2 →
      ∀ x, GEnd w xb (now + tm) (.slice (some ⟨g, 0, none⟩) ys.length cap2) (putL ⟨cn, fid, kd, now + tm⟩ ys) (plus (holds U g (put4 cur (posI ⟨cn, fid, kd, now + tm⟩ ys * 4) ⟨cn, fid, kd, now + tm⟩) 36) x) := fun hf => by
    have hp : putL ⟨cn, fid, kd, now + tm⟩ ys = ys.set (posI ⟨cn, fid, kd, now + tm⟩ ys) ⟨cn, fid, kd, now + tm⟩ := by unfold putL; rw [hf]; rfl
    have hlt : posI ⟨cn, fid, kd, now + tm⟩ ys < ys.length := by unfold foundB at hf; simp only [Bool.and_eq_true, decide_eq_true_eq] at hf; exact hf.1
    refine ⟨by rw [hp]; simp, hlt, fun xb g cap2 U cur hG hg hcs hnc x => ?_⟩
    rw [hp]
    exact gset hG hg hcs hnc hlt x
  have hr' := hr
  unfold reqB at hr'
  simp only [Bool.and_eq_true] at hr'
  obtain ⟨⟨⟨⟨h1, h2⟩, h3⟩, h4⟩, h5⟩ := hr'
  have hb4 : 1 ≤ tm ∧ tm ≤ 1048576 := by unfold inB at h4; exact of_decide_eq_true h4
  have hb5 : 0 ≤ now ∧ now ≤ 1099511627776 := by unfold inB at h5; exact of_decide_eq_true h5
  obtain ⟨hb41, hb42⟩ := hb4
  obtain ⟨hb51, hb52⟩ := hb5
  have HB : Aside (Below w.heap.size w w) := Below.refl _ _
  have w1 := fun w => within_calls cn 1 1099511627776 w
  have w2 := fun w => within_calls fid 1 1099511627776 w
  have w3 := fun w => isKind_calls kd w
  have w4 := fun w => within_calls tm 1 1048576 w
  have w5 := fun w => within_calls now 0 1099511627776 w
  rw [h1] at w1
  rw [h2] at w2
  rw [h3] at w3
  rw [h4] at w4
  rw [h5] at w5
  have HL : Aside (xs.length = n) := hln
  have hylen : ys.length ≤ 9223372036854775807 := by omega
  clear h hln hs hsl hr h1 h2 h3 h4 h5 eg
  generalize (ys.any fun y => conflictB ⟨cn, fid, kd, now + tm⟩ y) = c at cAny HF
  generalize foundB ⟨cn, fid, kd, now + tm⟩ ys = fb at cSearch cSet HF HPL
  generalize posI ⟨cn, fid, kd, now + tm⟩ ys = ip at cSearch cIns hpos cSet HPL
  generalize putL ⟨cn, fid, kd, now + tm⟩ ys = zs at HF HPL cSet
  have HPL' : Aside (_ → _) := HPL
  clear HPL
  go_enter Try.func12, Try.ntmps12
  go_wp2_with (first | (go_at_call 27; (with_reducible refine (w1 _).mono ?_); (rintro e W ⟨rfl, hb⟩; (have HB' : Aside (Below w.heap.size w _) := HB.out.trans (hb.mono HB.out.size)); clear hb HB; have HB := HB'; clear HB')) | (go_at_call 27; (with_reducible refine (w2 _).mono ?_); (rintro e W ⟨rfl, hb⟩; (have HB' : Aside (Below w.heap.size w _) := HB.out.trans (hb.mono HB.out.size)); clear hb HB; have HB := HB'; clear HB')) | (go_at_call 28; (with_reducible refine (w3 _).mono ?_); (rintro e W ⟨rfl, hb⟩; (have HB' : Aside (Below w.heap.size w _) := HB.out.trans (hb.mono HB.out.size)); clear hb HB; have HB := HB'; clear HB')) | (go_at_call 27; (with_reducible refine (w4 _).mono ?_); (rintro e W ⟨rfl, hb⟩; (have HB' : Aside (Below w.heap.size w _) := HB.out.trans (hb.mono HB.out.size)); clear hb HB; have HB := HB'; clear HB')) | (go_at_call 27; (with_reducible refine (w5 _).mono ?_); (rintro e W ⟨rfl, hb⟩; (have HB' : Aside (Below w.heap.size w _) := HB.out.trans (hb.mono HB.out.size)); clear hb HB; have HB := HB'; clear HB')))
  refine (cClean _ HB.out).mono ?_
  rintro e U ⟨ao2, cap2, rfl, G⟩
  generalize W.heap.size = xb at G ⊢
  clear cClean w1 w2 w3 w4 w5 HB
  go_wp2_with fail
  refine (cAny _ _ _ _ G).mono ?_
  rintro e U2 ⟨rfl, G2⟩
  clear cAny G
  cases c with
  | true =>
    go_wp2_with fail
    refine (cC _ G2.bel).mono ?_
    rintro e W2 ⟨ao', cap', rfl, hown, hb⟩
    have HO : Aside (W2.ownsRow w.heap.size 36 4 (.slice ao' n cap') n (flat xs) ∧ Below w.heap.size w W2) := ⟨hown, hb⟩
    clear hown hb
    go_wp2_with fail
    refine bodyPost_ret (v := .tuple #[.slice ao' n cap', .int .i64 0, .int .i64 32]) (by simp [results, Try.results12, go_sem]) rfl ?_
    have e := HF.out
    simp only [if_true] at e
    rw [e]
    exact ⟨ao', cap', by rw [HL.out], by rw [HL.out]; exact HO.out.1, HO.out.2⟩
  | false =>
  have q0 := G2.c0
  have q1 := G2.c1
  have q2 := G2.c2
  have q3 := G2.c3
  go_wp2_with fail
  refine (cSearch _ _ _ _ G2).mono ?_
  rintro e U3 ⟨rfl, G3⟩
  clear cSearch q0 q1 q2 q3 G2
  have q0 := G3.c0
  have q1 := G3.c1
  have q2 := G3.c2
  have q3 := G3.c3
  cases fb with
  | true =>
    obtain ⟨hzl, hlt, hset⟩ := cSet rfl
    clear cSet cIns cC
    rcases G3.own.2 with ⟨h0, hl0⟩ | ⟨g, cap', cur, hv, hgb, hg, hnc, hcm, hcs, ht⟩
    · omega
    cases hv
    have hset' := hset xb g cap2 U3 cur G3 hg hcs hnc
    have hxg : ¬ xb = g := fun e => G3.ne (by rw [e]; rfl)
    have hgl : g < U3.heap.size := (Array.getElem?_eq_some_iff.1 hg).1
    have HZ : Aside (zs.length = ys.length) := hzl
    unfold put4 at hset'
    have HS : Aside (∀ x, _) := hset'
    have hGF : GF = (zs, now + tm, 0) := by
      have e := HF.out
      simp only [Bool.false_eq_true, if_false, if_true] at e
      exact e
    subst hGF
    obtain ⟨z0, s0⟩ : ∃ z, cur[ip * 4]? = some z := ⟨_, Array.getElem?_eq_getElem (by omega)⟩
    obtain ⟨z1, s1⟩ : ∃ z, cur[ip * 4 + 1]? = some z := ⟨_, Array.getElem?_eq_getElem (by omega)⟩
    obtain ⟨z2, s2⟩ : ∃ z, cur[ip * 4 + 2]? = some z := ⟨_, Array.getElem?_eq_getElem (by omega)⟩
    obtain ⟨z3, s3⟩ : ∃ z, cur[ip * 4 + 3]? = some z := ⟨_, Array.getElem?_eq_getElem (by omega)⟩
    rw [holds_self hg]
    have HG : Aside (_ = _) := hg
    have hxl := G3.lt
    clear hset hset' ht hcs hg G3 HF HPL' hzl
    go_wp2
    refine wp_region_plus (by kernel_rfl) (by kernel_rfl) ?_
    repeat (go_big_quiet_step (fail))
    refine wpQuiet_nil ?_
    rintro _ ⟨x, rfl⟩
    go_wp2
    have GE := HS.out x
    refine bodyPost_ret (v := .tuple #[.slice (some ⟨g, 0, none⟩) ys.length cap2, .int .i64 (now + tm), .int .i64 0]) (by simp [results, Try.results12, go_sem]) rfl ?_
    exact ⟨some ⟨g, 0, none⟩, cap2, by rw [HZ.out], by have := GE.own; rw [HZ.out] at this ⊢; exact this, GE.bel⟩
  | false =>
  clear cSet
  by_cases h64 : 64 ≤ ys.length
  · clear cIns HPL'
    go_wp2_with fail
    refine (cC _ G3.bel).mono ?_
    rintro e W2 ⟨ao', cap', rfl, hown, hb⟩
    have HO : Aside (W2.ownsRow w.heap.size 36 4 (.slice ao' n cap') n (flat xs) ∧ Below w.heap.size w W2) := ⟨hown, hb⟩
    clear hown hb q0 q1 q2 q3
    go_wp2_with fail
    refine bodyPost_ret (v := .tuple #[.slice ao' n cap', .int .i64 0, .int .i64 22]) (by simp [results, Try.results12, go_sem]) rfl ?_
    have e := HF.out
    simp only [Bool.false_eq_true, if_false, if_pos h64] at e
    rw [e]
    exact ⟨ao', cap', by rw [HL.out], by rw [HL.out]; exact HO.out.1, HO.out.2⟩
  · clear cC
    have hGF : GF = (zs, now + tm, 0) := by
      have e := HF.out
      simp only [Bool.false_eq_true, if_false, if_neg h64] at e
      exact e
    subst hGF
    clear HF
    go_wp2_with fail
    refine (cIns _ _ _ _ G3).mono ?_
    rintro e U4 ⟨ao3, cap3, rfl, GE⟩
    clear cIns q0 q1 q2 q3 G3
    have q3 := GE.c3
    go_wp2
    refine wp_region_plus (by kernel_rfl) (by kernel_rfl) ?_
    have hxl := GE.lt
    repeat (go_big_quiet_step (fail))
    refine wpQuiet_nil ?_
    rintro _ ⟨x, rfl⟩
    go_wp2
    have GX := GE.later (below_plus U4 x)
    obtain ⟨hz1, hz2⟩ := HPL'.out (by first | rfl | trivial)
    refine bodyPost_ret (v := .tuple #[.slice ao3 (ys.length + 1) cap3, .int .i64 (now + tm), .int .i64 0]) (by simp [results, Try.results12, go_sem]) rfl ?_
    rw [← hz2] at GX
    exact ⟨ao3, cap3, by rw [hz1], by have := GX.own; rw [hz1] at this ⊢; exact this, GX.bel⟩

theorem grant_calls (ao : Option Addr) (n cap : Nat) (xs : List Le) (cn fid kd tm now : Int) (w : World) (h : Sl w 4 ao n cap (xs.map Le.enc)) (hn : n ≤ 1000000) (hs : SortedL xs) :
    Calls Try.prog 12 #[.slice ao n cap, .int .i64 cn, .int .i64 fid, .int .i64 kd, .int .i64 tm, .int .i64 now] w fun e w' => GrantPost w (grantF xs cn fid kd tm now).1 (grantF xs cn fid kd tm now).2.1 (grantF xs cn fid kd tm now).2.2 e w' := by
  cases hr : reqB cn fid kd tm now with
  | true => exact grant_yes ao n cap xs cn fid kd tm now w h hn hs hr
  | false =>
    have e : grantF xs cn fid kd tm now = (xs, 0, 1) := by unfold grantF; rw [hr]; rfl
    rw [e]
    exact grant_no ao n cap xs cn fid kd tm now w h hn hr

end Go.Proofs.Ytodmgdihkhakpaa
