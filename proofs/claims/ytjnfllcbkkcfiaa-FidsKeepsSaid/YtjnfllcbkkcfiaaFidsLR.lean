/- This text proves the walks of the statements FidsReads and FidsWrites. Conditions: those that each theorem names. -/
import Derived.Test.YtjnfllcbkkcfiaaFidsL
namespace Go.Proofs.Ytjnfllcbkkcfiaa
open Go.ChangeShapes Go.WideShapes Go.ChangeAt Go.RowKit
set_option linter.unusedVariables false
set_option linter.unusedSimpArgs false

theorem own : ownKnob Try.prog.godebug = none := by kernel_rfl
theorem laidOut : laidOutB Try.prog = true := by kernel_rfl
/-- What a call that returns a table and an error returns, as a later call reads it. -/
def TPost (w : World) (r : List Fi × Int) (e : Ending) (w' : World) : Prop :=
  ∃ a c, e = .returned (.tuple #[.slice a r.1.length c, .int .i64 r.2]) ∧ Sl w' 7 a r.1.length c (r.1.map Fi.enc) ∧ Below w.heap.size w w'
theorem TPost.of_own {w : World} {r : List Fi × Int} {e : Ending} {w' : World} (h : OwnPost w r e w') : TPost w r e w' := by
  obtain ⟨a, c, he, ho, hb⟩ := h
  obtain ⟨a9, c9, hv9, hsl9⟩ := ownE_sl fi_len (by omega) ho
  cases hv9
  exact ⟨a, c, he, hsl9, hb⟩
theorem TPost.of_r {w : World} {ao : Option Addr} {n cap : Nat} {xs : List Fi} {r : List Fi × Int} {e : Ending} {w' : World} (hs : Sl w 7 ao n cap (xs.map Fi.enc)) (h : RPost w ao cap xs r e w') : TPost w r e w' := by
  obtain ⟨a, c, he, ho, hb⟩ := h
  exact ⟨a, c, he, ho.sl hs hb, hb⟩
theorem intsB_refl (l : List Int) : intsB l l = true := decide_eq_true rfl

set_option maxHeartbeats 16000000 in
set_option maxRecDepth 100000 in
theorem lawReads_calls (num id : Int) (ao : Option Addr) (n cap : Nat) (xs : List Fi) (w : World) (h : Sl w 7 ao n cap (xs.map Fi.enc)) :
    Calls Try.prog 6 #[.slice ao n cap, .int .i64 num, .int .i64 id] w fun e w' => e = .returned (.bool true) ∧ Below w.heap.size w w' := by
  have HL : Aside (xs.length = n) := Sl.lenE h
  have H : Aside (Sl w 7 ao n cap (xs.map Fi.enc)) := h
  by_cases i1 : 300 < n
  · have hnz : (300 : Int) < (n : Int) := by omega
    clear h H
    go_enter Try.func6, Try.ntmps6
    go_wp2_with fail
    refine (alive_calls _).mono ?_
    rintro e w2 ⟨rfl, hb⟩
    obtain ⟨x9, rfl⟩ := plus_of_below hb
    clear hb
    go_wp2
    go_ret
    exact ⟨rfl, below_plus _ _⟩
  have hnz : ¬ (300 : Int) < (n : Int) := by omega
  have c1 : ∀ U, Below w.heap.size w U → Calls Try.prog 8 #[.slice ao n cap] U fun e w' => e = .returned (.bool (rightB xs)) ∧ Below U.heap.size U w' := fun U hU => rright_calls ao n cap xs U (h.stays hU)
  have c2 : ∀ U, Below w.heap.size w U → Calls Try.prog 9 #[.slice ao n cap] U fun e w' => e = .returned (.bool (rightB xs)) ∧ Below U.heap.size U w' := fun U hU => right_calls ao n cap xs U (h.stays hU)
  cases hr : rightB xs with
  | false =>
    rw [hr] at c1 c2
    clear h H hr
    go_enter Try.func6, Try.ntmps6
    go_wp2_with fail
    refine (c1 _ ?_).mono ?_
    · repeat (first | (with_reducible exact Below.refl _ _) | (with_reducible assumption) | (with_reducible refine below_to_plus ?_ ?_ _) | (with_reducible refine below_holds ?_ ?_ _ _) | (with_reducible refine Below.alloc ?_ ?_ _) | (with_reducible refine Below.drew ?_) | (with_reducible refine below_drewN ?_ _) | (with_reducible refine Below.setCell ?_ ?_ _))
      all_goals first | omega | (simp; done) | (simp [go_sem]; done) | (simp [go_sem]; omega)
    rintro e w2 ⟨rfl, hb⟩
    obtain ⟨x1, rfl⟩ := plus_of_below hb
    clear hb
    go_wp2_with fail
    refine (c2 _ ?_).mono ?_
    · repeat (first | (with_reducible exact Below.refl _ _) | (with_reducible assumption) | (with_reducible refine below_to_plus ?_ ?_ _) | (with_reducible refine below_holds ?_ ?_ _ _) | (with_reducible refine Below.alloc ?_ ?_ _) | (with_reducible refine Below.drew ?_) | (with_reducible refine below_drewN ?_ _) | (with_reducible refine Below.setCell ?_ ?_ _))
      all_goals first | omega | (simp; done) | (simp [go_sem]; done) | (simp [go_sem]; omega)
    rintro e w2 ⟨rfl, hb⟩
    obtain ⟨x2, rfl⟩ := plus_next hb
    clear hb
    go_wp2_with fail
    refine (alive_calls _).mono ?_
    rintro e w2 ⟨rfl, hb⟩
    obtain ⟨x3, rfl⟩ := plus_next hb
    clear hb
    go_wp2
    go_ret
    exact ⟨rfl, below_plus _ _⟩
  | true =>
  have HR := (rightB_iff xs).1 hr
  rw [hr] at c1 c2
  have c3 : ∀ U, Below w.heap.size w U → Calls Try.prog 20 #[.slice ao n cap, .int .i64 num] U fun e w' => e = .returned (.tuple #[Fi.val (fdF num xs).1, .bool (fdF num xs).2]) ∧ Below U.heap.size U w' := fun U hU => find_calls num ao n cap xs U (h.stays hU)
  have c4 : ∀ U, Below w.heap.size w U → Calls Try.prog 21 #[.slice ao n cap, .int .i64 num] U fun e w' => e = .returned (.tuple #[Fi.val (fdF num xs).1, .bool (fdF num xs).2]) ∧ Below U.heap.size U w' := fun U hU => rfind_calls num ao n cap xs U (h.stays hU) HR.asc
  have c5 : ∀ U, Below w.heap.size w U → Calls Try.prog 19 #[.slice ao n cap, .int .i64 id] U fun e w' => e = .returned (.int .i64 (usesF id xs : Nat)) ∧ Below U.heap.size U w' := fun U hU => uses_calls id ao n cap xs U (h.stays hU)
  have c6 : ∀ U, Below w.heap.size w U → Calls Try.prog 22 #[.slice ao n cap, .int .i64 id] U fun e w' => e = .returned (.int .i64 (usesF id xs : Nat)) ∧ Below U.heap.size U w' := fun U hU => ruses_calls id ao n cap xs U (h.stays hU)
  have c7 : ∀ U, Below w.heap.size w U → Calls Try.prog 18 #[.slice ao n cap] U fun e w' => ∃ a7 c7, e = .returned (.slice a7 (filesF xs).length c7) ∧ Sl w' 1 a7 (filesF xs).length c7 ((filesF xs).map iEnc) ∧ Below U.heap.size U w' := fun U hU => files_calls ao n cap xs U (h.stays hU) (by omega)
  have c8 : ∀ U, Below w.heap.size w U → Calls Try.prog 24 #[.slice ao n cap] U fun e w' => ∃ a7 c7, e = .returned (.slice a7 (filesF xs).length c7) ∧ Sl w' 1 a7 (filesF xs).length c7 ((filesF xs).map iEnc) ∧ Below U.heap.size U w' := fun U hU => rfiles_calls ao n cap xs U (h.stays hU) (by omega)
  generalize filesF xs = fl at c7 c8
  generalize (usesF id xs : Nat) = us at c5 c6
  generalize fdF num xs = d at c3 c4
  obtain ⟨d, ok⟩ := d
  obtain ⟨d1, d2, d3, d4, d5, d6, d7⟩ := d
  have c3 : ∀ U, Below w.heap.size w U → Calls Try.prog 20 #[.slice ao n cap, .int .i64 num] U fun e w' => e = .returned (.tuple #[.agg #[.int .i64 d1, .int .i64 d2, .string d3, .bool d4, .bool d5, .int .i64 d6, .int .i64 d7], .bool ok]) ∧ Below U.heap.size U w' := c3
  have c4 : ∀ U, Below w.heap.size w U → Calls Try.prog 21 #[.slice ao n cap, .int .i64 num] U fun e w' => e = .returned (.tuple #[.agg #[.int .i64 d1, .int .i64 d2, .string d3, .bool d4, .bool d5, .int .i64 d6, .int .i64 d7], .bool ok]) ∧ Below U.heap.size U w' := c4
  have nq := fun w => eq_fi d1 d2 d3 d4 d5 d6 d7 d1 d2 d3 d4 d5 d6 d7 w
  rw [eqFi_refl] at nq
  clear h H hr HR
  go_enter Try.func6, Try.ntmps6
  go_wp2_with fail
  refine (c1 _ ?_).mono ?_
  · repeat (first | (with_reducible exact Below.refl _ _) | (with_reducible assumption) | (with_reducible refine below_to_plus ?_ ?_ _) | (with_reducible refine below_holds ?_ ?_ _ _) | (with_reducible refine Below.alloc ?_ ?_ _) | (with_reducible refine Below.drew ?_) | (with_reducible refine below_drewN ?_ _) | (with_reducible refine Below.setCell ?_ ?_ _))
    all_goals first | omega | (simp; done) | (simp [go_sem]; done) | (simp [go_sem]; omega)
  rintro e w2 ⟨rfl, hb⟩
  obtain ⟨x1, rfl⟩ := plus_of_below hb
  clear hb
  go_wp2_with fail
  refine (c3 _ ?_).mono ?_
  · repeat (first | (with_reducible exact Below.refl _ _) | (with_reducible assumption) | (with_reducible refine below_to_plus ?_ ?_ _) | (with_reducible refine below_holds ?_ ?_ _ _) | (with_reducible refine Below.alloc ?_ ?_ _) | (with_reducible refine Below.drew ?_) | (with_reducible refine below_drewN ?_ _) | (with_reducible refine Below.setCell ?_ ?_ _))
    all_goals first | omega | (simp; done) | (simp [go_sem]; done) | (simp [go_sem]; omega)
  rintro e w2 ⟨rfl, hb⟩
  obtain ⟨x3, rfl⟩ := plus_next hb
  clear hb
  go_wp2_with fail
  refine (c4 _ ?_).mono ?_
  · repeat (first | (with_reducible exact Below.refl _ _) | (with_reducible assumption) | (with_reducible refine below_to_plus ?_ ?_ _) | (with_reducible refine below_holds ?_ ?_ _ _) | (with_reducible refine Below.alloc ?_ ?_ _) | (with_reducible refine Below.drew ?_) | (with_reducible refine below_drewN ?_ _) | (with_reducible refine Below.setCell ?_ ?_ _))
    all_goals first | omega | (simp; done) | (simp [go_sem]; done) | (simp [go_sem]; omega)
  rintro e w2 ⟨rfl, hb⟩
  obtain ⟨x4, rfl⟩ := plus_of_below hb
  clear hb
  go_wp2_with fail
  refine (c2 _ ?_).mono ?_
  · repeat (first | (with_reducible exact Below.refl _ _) | (with_reducible assumption) | (with_reducible refine below_to_plus ?_ ?_ _) | (with_reducible refine below_holds ?_ ?_ _ _) | (with_reducible refine Below.alloc ?_ ?_ _) | (with_reducible refine Below.drew ?_) | (with_reducible refine below_drewN ?_ _) | (with_reducible refine Below.setCell ?_ ?_ _))
    all_goals first | omega | (simp; done) | (simp [go_sem]; done) | (simp [go_sem]; omega)
  rintro e w2 ⟨rfl, hb⟩
  obtain ⟨x5, rfl⟩ := plus_of_below hb
  clear hb
  go_wp2_with fail
  refine (c5 _ ?_).mono ?_
  · repeat (first | (with_reducible exact Below.refl _ _) | (with_reducible assumption) | (with_reducible refine below_to_plus ?_ ?_ _) | (with_reducible refine below_holds ?_ ?_ _ _) | (with_reducible refine Below.alloc ?_ ?_ _) | (with_reducible refine Below.drew ?_) | (with_reducible refine below_drewN ?_ _) | (with_reducible refine Below.setCell ?_ ?_ _))
    all_goals first | omega | (simp; done) | (simp [go_sem]; done) | (simp [go_sem]; omega)
  rintro e w2 ⟨rfl, hb⟩
  obtain ⟨x6, rfl⟩ := plus_next hb
  clear hb
  go_wp2_with fail
  refine (c6 _ ?_).mono ?_
  · repeat (first | (with_reducible exact Below.refl _ _) | (with_reducible assumption) | (with_reducible refine below_to_plus ?_ ?_ _) | (with_reducible refine below_holds ?_ ?_ _ _) | (with_reducible refine Below.alloc ?_ ?_ _) | (with_reducible refine Below.drew ?_) | (with_reducible refine below_drewN ?_ _) | (with_reducible refine Below.setCell ?_ ?_ _))
    all_goals first | omega | (simp; done) | (simp [go_sem]; done) | (simp [go_sem]; omega)
  rintro e w2 ⟨rfl, hb⟩
  obtain ⟨x7, rfl⟩ := plus_next hb
  clear hb
  go_wp2_with fail
  refine (c7 _ ?_).mono ?_
  · repeat (first | (with_reducible exact Below.refl _ _) | (with_reducible assumption) | (with_reducible refine below_to_plus ?_ ?_ _) | (with_reducible refine below_holds ?_ ?_ _ _) | (with_reducible refine Below.alloc ?_ ?_ _) | (with_reducible refine Below.drew ?_) | (with_reducible refine below_drewN ?_ _) | (with_reducible refine Below.setCell ?_ ?_ _))
    all_goals first | omega | (simp; done) | (simp [go_sem]; done) | (simp [go_sem]; omega)
  rintro e w2 ⟨a7, k7, rfl, hsl, hb⟩
  have HS7 : Aside (Sl w2 1 a7 fl.length k7 (fl.map iEnc)) := hsl
  obtain ⟨x8, rfl⟩ := plus_next hb
  clear hb hsl c7
  go_wp2_with fail
  refine (c8 _ ?_).mono ?_
  · repeat (first | (with_reducible exact Below.refl _ _) | (with_reducible assumption) | (with_reducible refine below_to_plus ?_ ?_ _) | (with_reducible refine below_holds ?_ ?_ _ _) | (with_reducible refine Below.alloc ?_ ?_ _) | (with_reducible refine Below.drew ?_) | (with_reducible refine below_drewN ?_ _) | (with_reducible refine Below.setCell ?_ ?_ _))
    all_goals first | omega | (simp; done) | (simp [go_sem]; done) | (simp [go_sem]; omega)
  rintro e w2 ⟨a8, k8, rfl, hsl, hb⟩
  have HS8 : Aside (Sl w2 1 a8 fl.length k8 (fl.map iEnc)) := hsl
  have HS9 : Aside (Sl w2 1 a7 fl.length k7 (fl.map iEnc)) := HS7.out.stays hb
  obtain ⟨x9, rfl⟩ := plus_next hb
  clear hb hsl c8 HS7
  have ci := ints_calls _ _ _ _ _ _ fl fl _ HS9.out HS8.out
  rw [intsB_refl] at ci
  clear HS9 HS8
  go_wp2_with fail
  refine (ci).mono ?_
  rintro e w2 ⟨rfl, hb⟩
  obtain ⟨x10, rfl⟩ := plus_next hb
  clear hb
  go_wp2_with fail
  refine (alive_calls _).mono ?_
  rintro e w2 ⟨rfl, hb⟩
  obtain ⟨x11, rfl⟩ := plus_next hb
  clear hb
  go_wp2
  go_ret
  refine ⟨rfl, ?_⟩
  repeat (first | (with_reducible exact Below.refl _ _) | (with_reducible assumption) | (with_reducible refine below_to_plus ?_ ?_ _) | (with_reducible refine below_holds ?_ ?_ _ _) | (with_reducible refine Below.alloc ?_ ?_ _) | (with_reducible refine Below.drew ?_) | (with_reducible refine below_drewN ?_ _) | (with_reducible refine Below.setCell ?_ ?_ _))
  all_goals first | omega | (simp; done) | (simp [go_sem]; done) | (simp [go_sem]; omega)

theorem fid_open {H : Type} {enc : TypeId × Value → H} {w : World} {base : Nat} {spare : Nat → Bool} {held : Bool} {v : Value} {d : DataW H} {ps : List MemPlace} (hk : ∃ cs, v = .agg cs)
    (h : DataW.Trod enc Try.prog w base spare held 24 v d ps) : ∃ f1 f2 f3 f4 f5 f6 f7, v = .agg #[.int .i64 f1, .int .i64 f2, .string f3, .bool f4, .bool f5, .int .i64 f6, .int .i64 f7] := by
  obtain ⟨cs, rfl⟩ := hk
  have h0 := leaves_of_Trod fiLeaves h
  obtain ⟨y, hy, _⟩ := fi_cells _ h0
  obtain ⟨l⟩ := cs
  simp only [Value.cells] at hy
  exact ⟨y.num, y.id, y.user, y.auth, y.opn, y.mode, y.nxt, by rw [hy]; rfl⟩

/-- A block behind blocks that stay. -/
theorem heap_later {w w' : World} {b : Nat} {o : Obj} (h : w.heap[b]? = some o) (hb : Below w.heap.size w w') : w'.heap[b]? = some o := (hb.block b (Array.getElem?_eq_some_iff.1 h).1).trans h
theorem cell_heap {w : World} {b : Nat} {c : Array Value} {T : TypeId} (h : w.heap[b]? = some (.cells c T (0, 0))) (i : Nat) (v : Value) (hv : c[i]? = some v) : w.cell? ⟨b, i, none⟩ = some v := by
  simp [World.cell?, h, hv]

set_option maxHeartbeats 16000000 in
set_option maxRecDepth 100000 in
theorem lawWrites_calls (f1 f2 : Int) (f3 : ByteArray) (f4 f5 : Bool) (f6 f7 : Int) (num : Int) (ao : Option Addr) (n cap : Nat) (xs : List Fi) (w : World) (h : Sl w 7 ao n cap (xs.map Fi.enc)) :
    Calls Try.prog 3 #[.slice ao n cap, .agg #[.int .i64 f1, .int .i64 f2, .string f3, .bool f4, .bool f5, .int .i64 f6, .int .i64 f7], .int .i64 num] w fun e w' => e = .returned (.bool true) ∧ Below w.heap.size w w' := by
  have HL : Aside (xs.length = n) := Sl.lenE h
  have H : Aside (Sl w 7 ao n cap (xs.map Fi.enc)) := h
  by_cases i1 : 300 < n
  · have hnz : (300 : Int) < (n : Int) := by omega
    clear h H
    go_enter Try.func3, Try.ntmps3
    go_wp2
    go_ret
    refine ⟨rfl, ?_⟩
    repeat (first | (with_reducible exact Below.refl _ _) | (with_reducible assumption) | (with_reducible refine below_to_plus ?_ ?_ _) | (with_reducible refine below_holds ?_ ?_ _ _) | (with_reducible refine Below.alloc ?_ ?_ _) | (with_reducible refine Below.drew ?_) | (with_reducible refine below_drewN ?_ _) | (with_reducible refine Below.setCell ?_ ?_ _))
    all_goals first | omega | (simp; done) | (simp [go_sem]; done) | (simp [go_sem]; omega)
  have hnz : ¬ (300 : Int) < (n : Int) := by omega
  have c1 : ∀ U, Below w.heap.size w U → Calls Try.prog 8 #[.slice ao n cap] U fun e w' => e = .returned (.bool (rightB xs)) ∧ Below U.heap.size U w' := fun U hU => rright_calls ao n cap xs U (h.stays hU)
  have c2 : ∀ U, Below w.heap.size w U → Calls Try.prog 9 #[.slice ao n cap] U fun e w' => e = .returned (.bool (rightB xs)) ∧ Below U.heap.size U w' := fun U hU => right_calls ao n cap xs U (h.stays hU)
  cases hr : rightB xs with
  | false =>
    rw [hr] at c1 c2
    clear h H hr
    go_enter Try.func3, Try.ntmps3
    go_wp2_with fail
    refine (c1 _ ?_).mono ?_
    · repeat (first | (with_reducible exact Below.refl _ _) | (with_reducible assumption) | (with_reducible refine below_to_plus ?_ ?_ _) | (with_reducible refine below_holds ?_ ?_ _ _) | (with_reducible refine Below.alloc ?_ ?_ _) | (with_reducible refine Below.drew ?_) | (with_reducible refine below_drewN ?_ _) | (with_reducible refine Below.setCell ?_ ?_ _))
      all_goals first | omega | (simp; done) | (simp [go_sem]; done) | (simp [go_sem]; omega)
    rintro e w2 ⟨rfl, hb⟩
    obtain ⟨x1, rfl⟩ := plus_of_below hb
    clear hb
    go_wp2_with fail
    refine (c2 _ ?_).mono ?_
    · repeat (first | (with_reducible exact Below.refl _ _) | (with_reducible assumption) | (with_reducible refine below_to_plus ?_ ?_ _) | (with_reducible refine below_holds ?_ ?_ _ _) | (with_reducible refine Below.alloc ?_ ?_ _) | (with_reducible refine Below.drew ?_) | (with_reducible refine below_drewN ?_ _) | (with_reducible refine Below.setCell ?_ ?_ _))
      all_goals first | omega | (simp; done) | (simp [go_sem]; done) | (simp [go_sem]; omega)
    rintro e w2 ⟨rfl, hb⟩
    obtain ⟨x2, rfl⟩ := plus_next hb
    clear hb
    go_wp2_with fail
    refine (alive_calls _).mono ?_
    rintro e w2 ⟨rfl, hb⟩
    obtain ⟨x3, rfl⟩ := plus_next hb
    clear hb
    go_wp2
    go_ret
    refine ⟨rfl, ?_⟩
    repeat (first | (with_reducible exact Below.refl _ _) | (with_reducible assumption) | (with_reducible refine below_to_plus ?_ ?_ _) | (with_reducible refine below_holds ?_ ?_ _ _) | (with_reducible refine Below.alloc ?_ ?_ _) | (with_reducible refine Below.drew ?_) | (with_reducible refine below_drewN ?_ _) | (with_reducible refine Below.setCell ?_ ?_ _))
    all_goals first | omega | (simp; done) | (simp [go_sem]; done) | (simp [go_sem]; omega)
  | true =>
  have HR := (rightB_iff xs).1 hr
  rw [hr] at c1
  have c3 : ∀ U, Below w.heap.size w U → Calls Try.prog 11 #[.slice ao n cap, .agg #[.int .i64 f1, .int .i64 f2, .string f3, .bool f4, .bool f5, .int .i64 f6, .int .i64 f7]] U fun e w' => TPost U (addF ⟨f1, f2, f3, f4, f5, f6, f7⟩ xs) e w' := fun U hU => (add_calls f1 f2 f3 f4 f5 f6 f7 ao n cap xs U (h.stays hU) (by omega)).mono fun e w' hh => .of_own hh
  have c4 : ∀ U, Below w.heap.size w U → Calls Try.prog 12 #[.slice ao n cap, .agg #[.int .i64 f1, .int .i64 f2, .string f3, .bool f4, .bool f5, .int .i64 f6, .int .i64 f7]] U fun e w' => TPost U (addF ⟨f1, f2, f3, f4, f5, f6, f7⟩ xs) e w' := fun U hU => (radd_calls f1 f2 f3 f4 f5 f6 f7 ao n cap xs U (h.stays hU) (by omega) HR.asc).mono fun e w' hh => .of_r (h.stays hU) hh
  have c5 : ∀ U, Below w.heap.size w U → Calls Try.prog 13 #[.slice ao n cap, .agg #[.int .i64 f1, .int .i64 f2, .string f3, .bool f4, .bool f5, .int .i64 f6, .int .i64 f7]] U fun e w' => TPost U (setF ⟨f1, f2, f3, f4, f5, f6, f7⟩ xs) e w' := fun U hU => (set_calls f1 f2 f3 f4 f5 f6 f7 ao n cap xs U (h.stays hU) (by omega)).mono fun e w' hh => .of_own hh
  have c6 : ∀ U, Below w.heap.size w U → Calls Try.prog 14 #[.slice ao n cap, .agg #[.int .i64 f1, .int .i64 f2, .string f3, .bool f4, .bool f5, .int .i64 f6, .int .i64 f7]] U fun e w' => TPost U (setF ⟨f1, f2, f3, f4, f5, f6, f7⟩ xs) e w' := fun U hU => (rset_calls f1 f2 f3 f4 f5 f6 f7 ao n cap xs U (h.stays hU) (by omega) HR.asc).mono fun e w' hh => .of_r (h.stays hU) hh
  have c7 : ∀ U, Below w.heap.size w U → Calls Try.prog 15 #[.slice ao n cap, .int .i64 num] U fun e w' => TPost U (dropF num xs) e w' := fun U hU => (drop_calls num ao n cap xs U (h.stays hU) (by omega)).mono fun e w' hh => .of_own hh
  have c8 : ∀ U, Below w.heap.size w U → Calls Try.prog 16 #[.slice ao n cap, .int .i64 num] U fun e w' => TPost U (dropF num xs) e w' := fun U hU => (rdrop_calls num ao n cap xs U (h.stays hU) (by omega) HR.asc).mono fun e w' hh => .of_r (h.stays hU) hh
  generalize addF ⟨f1, f2, f3, f4, f5, f6, f7⟩ xs = ra at c3 c4
  generalize setF ⟨f1, f2, f3, f4, f5, f6, f7⟩ xs = rb at c5 c6
  generalize dropF num xs = rc at c7 c8
  obtain ⟨ya, ea⟩ := ra
  obtain ⟨yb, eb⟩ := rb
  obtain ⟨yc, ec⟩ := rc
  have HB : Aside (Below w.heap.size w (w.alloc (.cells #[.int .i64 f1, .int .i64 f2, .string f3, .bool f4, .bool f5, .int .i64 f6, .int .i64 f7] 24))) := by
    show Below _ _ _
    repeat (first | (with_reducible exact Below.refl _ _) | (with_reducible assumption) | (with_reducible refine below_to_plus ?_ ?_ _) | (with_reducible refine below_holds ?_ ?_ _ _) | (with_reducible refine Below.alloc ?_ ?_ _) | (with_reducible refine Below.drew ?_) | (with_reducible refine below_drewN ?_ _) | (with_reducible refine Below.setCell ?_ ?_ _))
    all_goals first | omega | (simp; done) | (simp [go_sem]; done) | (simp [go_sem]; omega)
  have HF : Aside (((w.alloc (.cells #[.int .i64 f1, .int .i64 f2, .string f3, .bool f4, .bool f5, .int .i64 f6, .int .i64 f7] 24))).heap[w.heap.size]? = some (.cells #[.int .i64 f1, .int .i64 f2, .string f3, .bool f4, .bool f5, .int .i64 f6, .int .i64 f7] 24 (0, 0))) := hp_new rfl
  have hlt : w.heap.size < ((w.alloc (.cells #[.int .i64 f1, .int .i64 f2, .string f3, .bool f4, .bool f5, .int .i64 f6, .int .i64 f7] 24))).heap.size := by simp
  have l0 : True := trivial
  have l1 : True := trivial
  have l2 : True := trivial
  have l3 : True := trivial
  have l4 : True := trivial
  have l5 : True := trivial
  have l6 : True := trivial
  clear h H hr HR c2
  go_enter Try.func3, Try.ntmps3
  go_wp2_with fail
  refine (c1 _ HB.out).mono ?_
  rintro e w1 ⟨rfl, hb⟩
  have HF' : Aside (w1.heap[w.heap.size]? = some (.cells #[.int .i64 f1, .int .i64 f2, .string f3, .bool f4, .bool f5, .int .i64 f6, .int .i64 f7] 24 (0, 0))) := heap_later HF.out hb
  have HB' : Aside (Below w.heap.size w w1) := HB.out.trans (hb.mono HB.out.size)
  clear hb HB HF  l0 l1 l2 l3 l4 l5 l6
  have HB : Aside _ := HB'.out
  clear HB'
  have HF : Aside (w1.heap[w.heap.size]? = some (.cells #[.int .i64 f1, .int .i64 f2, .string f3, .bool f4, .bool f5, .int .i64 f6, .int .i64 f7] 24 (0, 0))) := HF'.out
  clear HF'
  have l0 := cell_heap HF.out 0 _ rfl
  have l1 := cell_heap HF.out 1 _ rfl
  have l2 := cell_heap HF.out 2 _ rfl
  have l3 := cell_heap HF.out 3 _ rfl
  have l4 := cell_heap HF.out 4 _ rfl
  have l5 := cell_heap HF.out 5 _ rfl
  have l6 := cell_heap HF.out 6 _ rfl
  have hlt : w.heap.size < w1.heap.size := (Array.getElem?_eq_some_iff.1 HF.out).1
  go_wp2_with fail
  refine (c3 _ HB.out).mono ?_
  rintro e w2 ⟨aa, ka, rfl, hSA, hb⟩
  have HF' : Aside (w2.heap[w.heap.size]? = some (.cells #[.int .i64 f1, .int .i64 f2, .string f3, .bool f4, .bool f5, .int .i64 f6, .int .i64 f7] 24 (0, 0))) := heap_later HF.out hb
  have SA' : Aside (Sl w2 7 aa ya.length ka (ya.map Fi.enc)) := hSA
  have HB' : Aside (Below w.heap.size w w2) := HB.out.trans (hb.mono HB.out.size)
  clear hb HB HF hSA l0 l1 l2 l3 l4 l5 l6
  have HB : Aside _ := HB'.out
  clear HB'
  have HF : Aside (w2.heap[w.heap.size]? = some (.cells #[.int .i64 f1, .int .i64 f2, .string f3, .bool f4, .bool f5, .int .i64 f6, .int .i64 f7] 24 (0, 0))) := HF'.out
  clear HF'
  have SA : Aside (Sl w2 7 aa ya.length ka (ya.map Fi.enc)) := SA'.out
  clear SA'
  have l0 := cell_heap HF.out 0 _ rfl
  have l1 := cell_heap HF.out 1 _ rfl
  have l2 := cell_heap HF.out 2 _ rfl
  have l3 := cell_heap HF.out 3 _ rfl
  have l4 := cell_heap HF.out 4 _ rfl
  have l5 := cell_heap HF.out 5 _ rfl
  have l6 := cell_heap HF.out 6 _ rfl
  have hlt : w.heap.size < w2.heap.size := (Array.getElem?_eq_some_iff.1 HF.out).1
  go_wp2_with fail
  refine (c4 _ HB.out).mono ?_
  rintro e w3 ⟨ab, kb, rfl, hSB, hb⟩
  have HF' : Aside (w3.heap[w.heap.size]? = some (.cells #[.int .i64 f1, .int .i64 f2, .string f3, .bool f4, .bool f5, .int .i64 f6, .int .i64 f7] 24 (0, 0))) := heap_later HF.out hb
  have SA' : Aside (Sl w3 7 aa ya.length ka (ya.map Fi.enc)) := SA.out.stays hb
  have SB' : Aside (Sl w3 7 ab ya.length kb (ya.map Fi.enc)) := hSB
  have HB' : Aside (Below w.heap.size w w3) := HB.out.trans (hb.mono HB.out.size)
  clear hb HB HF SA hSB l0 l1 l2 l3 l4 l5 l6
  have HB : Aside _ := HB'.out
  clear HB'
  have HF : Aside (w3.heap[w.heap.size]? = some (.cells #[.int .i64 f1, .int .i64 f2, .string f3, .bool f4, .bool f5, .int .i64 f6, .int .i64 f7] 24 (0, 0))) := HF'.out
  clear HF'
  have SA : Aside (Sl w3 7 aa ya.length ka (ya.map Fi.enc)) := SA'.out
  clear SA'
  have SB : Aside (Sl w3 7 ab ya.length kb (ya.map Fi.enc)) := SB'.out
  clear SB'
  have l0 := cell_heap HF.out 0 _ rfl
  have l1 := cell_heap HF.out 1 _ rfl
  have l2 := cell_heap HF.out 2 _ rfl
  have l3 := cell_heap HF.out 3 _ rfl
  have l4 := cell_heap HF.out 4 _ rfl
  have l5 := cell_heap HF.out 5 _ rfl
  have l6 := cell_heap HF.out 6 _ rfl
  have hlt : w.heap.size < w3.heap.size := (Array.getElem?_eq_some_iff.1 HF.out).1
  go_wp2_with fail
  refine (c5 _ HB.out).mono ?_
  rintro e w4 ⟨ac, kc, rfl, hSC, hb⟩
  have HF' : Aside (w4.heap[w.heap.size]? = some (.cells #[.int .i64 f1, .int .i64 f2, .string f3, .bool f4, .bool f5, .int .i64 f6, .int .i64 f7] 24 (0, 0))) := heap_later HF.out hb
  have SA' : Aside (Sl w4 7 aa ya.length ka (ya.map Fi.enc)) := SA.out.stays hb
  have SB' : Aside (Sl w4 7 ab ya.length kb (ya.map Fi.enc)) := SB.out.stays hb
  have SC' : Aside (Sl w4 7 ac yb.length kc (yb.map Fi.enc)) := hSC
  have HB' : Aside (Below w.heap.size w w4) := HB.out.trans (hb.mono HB.out.size)
  clear hb HB HF SA SB hSC l0 l1 l2 l3 l4 l5 l6
  have HB : Aside _ := HB'.out
  clear HB'
  have HF : Aside (w4.heap[w.heap.size]? = some (.cells #[.int .i64 f1, .int .i64 f2, .string f3, .bool f4, .bool f5, .int .i64 f6, .int .i64 f7] 24 (0, 0))) := HF'.out
  clear HF'
  have SA : Aside (Sl w4 7 aa ya.length ka (ya.map Fi.enc)) := SA'.out
  clear SA'
  have SB : Aside (Sl w4 7 ab ya.length kb (ya.map Fi.enc)) := SB'.out
  clear SB'
  have SC : Aside (Sl w4 7 ac yb.length kc (yb.map Fi.enc)) := SC'.out
  clear SC'
  have l0 := cell_heap HF.out 0 _ rfl
  have l1 := cell_heap HF.out 1 _ rfl
  have l2 := cell_heap HF.out 2 _ rfl
  have l3 := cell_heap HF.out 3 _ rfl
  have l4 := cell_heap HF.out 4 _ rfl
  have l5 := cell_heap HF.out 5 _ rfl
  have l6 := cell_heap HF.out 6 _ rfl
  have hlt : w.heap.size < w4.heap.size := (Array.getElem?_eq_some_iff.1 HF.out).1
  go_wp2_with fail
  refine (c6 _ HB.out).mono ?_
  rintro e w5 ⟨ad, kd, rfl, hSD, hb⟩
  have HF' : Aside (w5.heap[w.heap.size]? = some (.cells #[.int .i64 f1, .int .i64 f2, .string f3, .bool f4, .bool f5, .int .i64 f6, .int .i64 f7] 24 (0, 0))) := heap_later HF.out hb
  have SA' : Aside (Sl w5 7 aa ya.length ka (ya.map Fi.enc)) := SA.out.stays hb
  have SB' : Aside (Sl w5 7 ab ya.length kb (ya.map Fi.enc)) := SB.out.stays hb
  have SC' : Aside (Sl w5 7 ac yb.length kc (yb.map Fi.enc)) := SC.out.stays hb
  have SD' : Aside (Sl w5 7 ad yb.length kd (yb.map Fi.enc)) := hSD
  have HB' : Aside (Below w.heap.size w w5) := HB.out.trans (hb.mono HB.out.size)
  clear hb HB HF SA SB SC hSD l0 l1 l2 l3 l4 l5 l6
  have HB : Aside _ := HB'.out
  clear HB'
  have HF : Aside (w5.heap[w.heap.size]? = some (.cells #[.int .i64 f1, .int .i64 f2, .string f3, .bool f4, .bool f5, .int .i64 f6, .int .i64 f7] 24 (0, 0))) := HF'.out
  clear HF'
  have SA : Aside (Sl w5 7 aa ya.length ka (ya.map Fi.enc)) := SA'.out
  clear SA'
  have SB : Aside (Sl w5 7 ab ya.length kb (ya.map Fi.enc)) := SB'.out
  clear SB'
  have SC : Aside (Sl w5 7 ac yb.length kc (yb.map Fi.enc)) := SC'.out
  clear SC'
  have SD : Aside (Sl w5 7 ad yb.length kd (yb.map Fi.enc)) := SD'.out
  clear SD'
  have l0 := cell_heap HF.out 0 _ rfl
  have l1 := cell_heap HF.out 1 _ rfl
  have l2 := cell_heap HF.out 2 _ rfl
  have l3 := cell_heap HF.out 3 _ rfl
  have l4 := cell_heap HF.out 4 _ rfl
  have l5 := cell_heap HF.out 5 _ rfl
  have l6 := cell_heap HF.out 6 _ rfl
  have hlt : w.heap.size < w5.heap.size := (Array.getElem?_eq_some_iff.1 HF.out).1
  go_wp2_with fail
  refine (c7 _ HB.out).mono ?_
  rintro e w6 ⟨ae, ke, rfl, hSE, hb⟩
  have HF' : Aside (w6.heap[w.heap.size]? = some (.cells #[.int .i64 f1, .int .i64 f2, .string f3, .bool f4, .bool f5, .int .i64 f6, .int .i64 f7] 24 (0, 0))) := heap_later HF.out hb
  have SA' : Aside (Sl w6 7 aa ya.length ka (ya.map Fi.enc)) := SA.out.stays hb
  have SB' : Aside (Sl w6 7 ab ya.length kb (ya.map Fi.enc)) := SB.out.stays hb
  have SC' : Aside (Sl w6 7 ac yb.length kc (yb.map Fi.enc)) := SC.out.stays hb
  have SD' : Aside (Sl w6 7 ad yb.length kd (yb.map Fi.enc)) := SD.out.stays hb
  have SE' : Aside (Sl w6 7 ae yc.length ke (yc.map Fi.enc)) := hSE
  have HB' : Aside (Below w.heap.size w w6) := HB.out.trans (hb.mono HB.out.size)
  clear hb HB HF SA SB SC SD hSE l0 l1 l2 l3 l4 l5 l6
  have HB : Aside _ := HB'.out
  clear HB'
  have HF : Aside (w6.heap[w.heap.size]? = some (.cells #[.int .i64 f1, .int .i64 f2, .string f3, .bool f4, .bool f5, .int .i64 f6, .int .i64 f7] 24 (0, 0))) := HF'.out
  clear HF'
  have SA : Aside (Sl w6 7 aa ya.length ka (ya.map Fi.enc)) := SA'.out
  clear SA'
  have SB : Aside (Sl w6 7 ab ya.length kb (ya.map Fi.enc)) := SB'.out
  clear SB'
  have SC : Aside (Sl w6 7 ac yb.length kc (yb.map Fi.enc)) := SC'.out
  clear SC'
  have SD : Aside (Sl w6 7 ad yb.length kd (yb.map Fi.enc)) := SD'.out
  clear SD'
  have SE : Aside (Sl w6 7 ae yc.length ke (yc.map Fi.enc)) := SE'.out
  clear SE'
  have l0 := cell_heap HF.out 0 _ rfl
  have l1 := cell_heap HF.out 1 _ rfl
  have l2 := cell_heap HF.out 2 _ rfl
  have l3 := cell_heap HF.out 3 _ rfl
  have l4 := cell_heap HF.out 4 _ rfl
  have l5 := cell_heap HF.out 5 _ rfl
  have l6 := cell_heap HF.out 6 _ rfl
  have hlt : w.heap.size < w6.heap.size := (Array.getElem?_eq_some_iff.1 HF.out).1
  go_wp2_with fail
  refine (c8 _ HB.out).mono ?_
  rintro e w7 ⟨ag, kg, rfl, hSG, hb⟩
  have HF' : Aside (w7.heap[w.heap.size]? = some (.cells #[.int .i64 f1, .int .i64 f2, .string f3, .bool f4, .bool f5, .int .i64 f6, .int .i64 f7] 24 (0, 0))) := heap_later HF.out hb
  have SA' : Aside (Sl w7 7 aa ya.length ka (ya.map Fi.enc)) := SA.out.stays hb
  have SB' : Aside (Sl w7 7 ab ya.length kb (ya.map Fi.enc)) := SB.out.stays hb
  have SC' : Aside (Sl w7 7 ac yb.length kc (yb.map Fi.enc)) := SC.out.stays hb
  have SD' : Aside (Sl w7 7 ad yb.length kd (yb.map Fi.enc)) := SD.out.stays hb
  have SE' : Aside (Sl w7 7 ae yc.length ke (yc.map Fi.enc)) := SE.out.stays hb
  have SG' : Aside (Sl w7 7 ag yc.length kg (yc.map Fi.enc)) := hSG
  have HB' : Aside (Below w.heap.size w w7) := HB.out.trans (hb.mono HB.out.size)
  clear hb HB HF SA SB SC SD SE hSG l0 l1 l2 l3 l4 l5 l6
  have HB : Aside _ := HB'.out
  clear HB'
  have HF : Aside (w7.heap[w.heap.size]? = some (.cells #[.int .i64 f1, .int .i64 f2, .string f3, .bool f4, .bool f5, .int .i64 f6, .int .i64 f7] 24 (0, 0))) := HF'.out
  clear HF'
  have SA : Aside (Sl w7 7 aa ya.length ka (ya.map Fi.enc)) := SA'.out
  clear SA'
  have SB : Aside (Sl w7 7 ab ya.length kb (ya.map Fi.enc)) := SB'.out
  clear SB'
  have SC : Aside (Sl w7 7 ac yb.length kc (yb.map Fi.enc)) := SC'.out
  clear SC'
  have SD : Aside (Sl w7 7 ad yb.length kd (yb.map Fi.enc)) := SD'.out
  clear SD'
  have SE : Aside (Sl w7 7 ae yc.length ke (yc.map Fi.enc)) := SE'.out
  clear SE'
  have SG : Aside (Sl w7 7 ag yc.length kg (yc.map Fi.enc)) := SG'.out
  clear SG'
  have l0 := cell_heap HF.out 0 _ rfl
  have l1 := cell_heap HF.out 1 _ rfl
  have l2 := cell_heap HF.out 2 _ rfl
  have l3 := cell_heap HF.out 3 _ rfl
  have l4 := cell_heap HF.out 4 _ rfl
  have l5 := cell_heap HF.out 5 _ rfl
  have l6 := cell_heap HF.out 6 _ rfl
  have hlt : w.heap.size < w7.heap.size := (Array.getElem?_eq_some_iff.1 HF.out).1
  go_wp2_with fail
  refine ((show Calls Try.prog 17 _ w7 (fun e w' => e = .returned (.bool true) ∧ Below (w7).heap.size w7 w') from by have := same_calls _ _ _ _ _ _ _ _ w7 SA.out SB.out; rwa [(same_iff _ _).2 rfl] at this)).mono ?_
  rintro e w8 ⟨rfl, hb⟩
  have HF' : Aside (w8.heap[w.heap.size]? = some (.cells #[.int .i64 f1, .int .i64 f2, .string f3, .bool f4, .bool f5, .int .i64 f6, .int .i64 f7] 24 (0, 0))) := heap_later HF.out hb
  have SC' : Aside (Sl w8 7 ac yb.length kc (yb.map Fi.enc)) := SC.out.stays hb
  have SD' : Aside (Sl w8 7 ad yb.length kd (yb.map Fi.enc)) := SD.out.stays hb
  have SE' : Aside (Sl w8 7 ae yc.length ke (yc.map Fi.enc)) := SE.out.stays hb
  have SG' : Aside (Sl w8 7 ag yc.length kg (yc.map Fi.enc)) := SG.out.stays hb
  have HB' : Aside (Below w.heap.size w w8) := HB.out.trans (hb.mono HB.out.size)
  clear hb HB HF SC SD SE SG  l0 l1 l2 l3 l4 l5 l6
  have HB : Aside _ := HB'.out
  clear HB'
  have HF : Aside (w8.heap[w.heap.size]? = some (.cells #[.int .i64 f1, .int .i64 f2, .string f3, .bool f4, .bool f5, .int .i64 f6, .int .i64 f7] 24 (0, 0))) := HF'.out
  clear HF'
  have SC : Aside (Sl w8 7 ac yb.length kc (yb.map Fi.enc)) := SC'.out
  clear SC'
  have SD : Aside (Sl w8 7 ad yb.length kd (yb.map Fi.enc)) := SD'.out
  clear SD'
  have SE : Aside (Sl w8 7 ae yc.length ke (yc.map Fi.enc)) := SE'.out
  clear SE'
  have SG : Aside (Sl w8 7 ag yc.length kg (yc.map Fi.enc)) := SG'.out
  clear SG'
  have l0 := cell_heap HF.out 0 _ rfl
  have l1 := cell_heap HF.out 1 _ rfl
  have l2 := cell_heap HF.out 2 _ rfl
  have l3 := cell_heap HF.out 3 _ rfl
  have l4 := cell_heap HF.out 4 _ rfl
  have l5 := cell_heap HF.out 5 _ rfl
  have l6 := cell_heap HF.out 6 _ rfl
  have hlt : w.heap.size < w8.heap.size := (Array.getElem?_eq_some_iff.1 HF.out).1
  go_wp2_with fail
  refine ((show Calls Try.prog 17 _ w8 (fun e w' => e = .returned (.bool true) ∧ Below (w8).heap.size w8 w') from by have := same_calls _ _ _ _ _ _ _ _ w8 SC.out SD.out; rwa [(same_iff _ _).2 rfl] at this)).mono ?_
  rintro e w9 ⟨rfl, hb⟩
  have HF' : Aside (w9.heap[w.heap.size]? = some (.cells #[.int .i64 f1, .int .i64 f2, .string f3, .bool f4, .bool f5, .int .i64 f6, .int .i64 f7] 24 (0, 0))) := heap_later HF.out hb
  have SE' : Aside (Sl w9 7 ae yc.length ke (yc.map Fi.enc)) := SE.out.stays hb
  have SG' : Aside (Sl w9 7 ag yc.length kg (yc.map Fi.enc)) := SG.out.stays hb
  have HB' : Aside (Below w.heap.size w w9) := HB.out.trans (hb.mono HB.out.size)
  clear hb HB HF SE SG  l0 l1 l2 l3 l4 l5 l6
  have HB : Aside _ := HB'.out
  clear HB'
  have HF : Aside (w9.heap[w.heap.size]? = some (.cells #[.int .i64 f1, .int .i64 f2, .string f3, .bool f4, .bool f5, .int .i64 f6, .int .i64 f7] 24 (0, 0))) := HF'.out
  clear HF'
  have SE : Aside (Sl w9 7 ae yc.length ke (yc.map Fi.enc)) := SE'.out
  clear SE'
  have SG : Aside (Sl w9 7 ag yc.length kg (yc.map Fi.enc)) := SG'.out
  clear SG'
  have l0 := cell_heap HF.out 0 _ rfl
  have l1 := cell_heap HF.out 1 _ rfl
  have l2 := cell_heap HF.out 2 _ rfl
  have l3 := cell_heap HF.out 3 _ rfl
  have l4 := cell_heap HF.out 4 _ rfl
  have l5 := cell_heap HF.out 5 _ rfl
  have l6 := cell_heap HF.out 6 _ rfl
  have hlt : w.heap.size < w9.heap.size := (Array.getElem?_eq_some_iff.1 HF.out).1
  go_wp2_with fail
  refine ((show Calls Try.prog 17 _ w9 (fun e w' => e = .returned (.bool true) ∧ Below (w9).heap.size w9 w') from by have := same_calls _ _ _ _ _ _ _ _ w9 SE.out SG.out; rwa [(same_iff _ _).2 rfl] at this)).mono ?_
  rintro e w10 ⟨rfl, hb⟩
  have HF' : Aside (w10.heap[w.heap.size]? = some (.cells #[.int .i64 f1, .int .i64 f2, .string f3, .bool f4, .bool f5, .int .i64 f6, .int .i64 f7] 24 (0, 0))) := heap_later HF.out hb
  have HB' : Aside (Below w.heap.size w w10) := HB.out.trans (hb.mono HB.out.size)
  clear hb HB HF  l0 l1 l2 l3 l4 l5 l6
  have HB : Aside _ := HB'.out
  clear HB'
  have HF : Aside (w10.heap[w.heap.size]? = some (.cells #[.int .i64 f1, .int .i64 f2, .string f3, .bool f4, .bool f5, .int .i64 f6, .int .i64 f7] 24 (0, 0))) := HF'.out
  clear HF'
  have l0 := cell_heap HF.out 0 _ rfl
  have l1 := cell_heap HF.out 1 _ rfl
  have l2 := cell_heap HF.out 2 _ rfl
  have l3 := cell_heap HF.out 3 _ rfl
  have l4 := cell_heap HF.out 4 _ rfl
  have l5 := cell_heap HF.out 5 _ rfl
  have l6 := cell_heap HF.out 6 _ rfl
  have hlt : w.heap.size < w10.heap.size := (Array.getElem?_eq_some_iff.1 HF.out).1
  go_wp2_with fail
  refine (alive_calls w10).mono ?_
  rintro e w11 ⟨rfl, hb⟩
  have HF' : Aside (w11.heap[w.heap.size]? = some (.cells #[.int .i64 f1, .int .i64 f2, .string f3, .bool f4, .bool f5, .int .i64 f6, .int .i64 f7] 24 (0, 0))) := heap_later HF.out hb
  have HB' : Aside (Below w.heap.size w w11) := HB.out.trans (hb.mono HB.out.size)
  clear hb HB HF  l0 l1 l2 l3 l4 l5 l6
  have HB : Aside _ := HB'.out
  clear HB'
  have HF : Aside (w11.heap[w.heap.size]? = some (.cells #[.int .i64 f1, .int .i64 f2, .string f3, .bool f4, .bool f5, .int .i64 f6, .int .i64 f7] 24 (0, 0))) := HF'.out
  clear HF'
  have l0 := cell_heap HF.out 0 _ rfl
  have l1 := cell_heap HF.out 1 _ rfl
  have l2 := cell_heap HF.out 2 _ rfl
  have l3 := cell_heap HF.out 3 _ rfl
  have l4 := cell_heap HF.out 4 _ rfl
  have l5 := cell_heap HF.out 5 _ rfl
  have l6 := cell_heap HF.out 6 _ rfl
  have hlt : w.heap.size < w11.heap.size := (Array.getElem?_eq_some_iff.1 HF.out).1
  go_wp2_with fail
  go_ret
  exact ⟨rfl, HB.out⟩

end Go.Proofs.Ytjnfllcbkkcfiaa
