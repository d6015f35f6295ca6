/- This text proves the walk of the statement FdsCalls. Conditions: those that each theorem names. -/
import Derived.Test.YtbifanenoejjgaaFdsLR
namespace Go.Proofs.Ytbifanenoejjgaa
open Go.ChangeShapes Go.WideShapes Go.ChangeAt Go.RowKit
set_option linter.unusedVariables false
set_option linter.unusedSimpArgs false

theorem op_open {H : Type} {enc : TypeId × Value → H} {w : World} {base : Nat} {spare : Nat → Bool} {held : Bool} {v : Value} {d : DataW H} {ps : List MemPlace} (hk : ∃ cs, v = .agg cs)
    (h : DataW.Trod enc Try.prog w base spare held 38 v d ps) : ∃ kind dev ch fid p nm mode num to off wh lg, v = .agg #[.int .i64 kind, .int .i64 dev, .int .i64 ch, .int .i64 fid, .string p, .string nm, .int .i64 mode, .int .i64 num, .int .i64 to, .int .i64 off, .int .i64 wh, .int .i64 lg] ∧ p.size ≤ maxLen ∧ nm.size ≤ maxLen ∧ (-9223372036854775808 ≤ off ∧ off ≤ 9223372036854775807) ∧ lg ≤ 9223372036854775807 := by
  obtain ⟨cs, rfl⟩ := hk
  have hm : leavesOf Try.prog 8 38 = some [some (some .i64), some (some .i64), some (some .i64), some (some .i64), some none, some none, some (some .i64), some (some .i64), some (some .i64), some (some .i64), some (some .i64), some (some .i64)] := by kernel_rfl
  have h0 := leaves_of_Trod hm h
  obtain ⟨a0, r0, e0, ⟨v0, rfl, g0⟩, h1⟩ := leavesOk_cons h0
  obtain ⟨a1, r1, e1, ⟨v1, rfl, g1⟩, h2⟩ := leavesOk_cons h1
  obtain ⟨a2, r2, e2, ⟨v2, rfl, g2⟩, h3⟩ := leavesOk_cons h2
  obtain ⟨a3, r3, e3, ⟨v3, rfl, g3⟩, h4⟩ := leavesOk_cons h3
  obtain ⟨a4, r4, e4, ⟨v4, rfl, g4⟩, h5⟩ := leavesOk_cons h4
  obtain ⟨a5, r5, e5, ⟨v5, rfl, g5⟩, h6⟩ := leavesOk_cons h5
  obtain ⟨a6, r6, e6, ⟨v6, rfl, g6⟩, h7⟩ := leavesOk_cons h6
  obtain ⟨a7, r7, e7, ⟨v7, rfl, g7⟩, h8⟩ := leavesOk_cons h7
  obtain ⟨a8, r8, e8, ⟨v8, rfl, g8⟩, h9⟩ := leavesOk_cons h8
  obtain ⟨a9, r9, e9, ⟨v9, rfl, g9⟩, h10⟩ := leavesOk_cons h9
  obtain ⟨a10, r10, e10, ⟨v10, rfl, g10⟩, h11⟩ := leavesOk_cons h10
  obtain ⟨a11, r11, e11, ⟨v11, rfl, g11⟩, h12⟩ := leavesOk_cons h11
  have e12 := leavesOk_nil h12
  refine ⟨v0, v1, v2, v3, v4, v5, v6, v7, v8, v9, v10, v11, ?_, g4, g5, i64_range g9, (i64_range g11).2⟩
  obtain ⟨l⟩ := cs
  simp only [Value.cells] at e0
  rw [e0, e1, e2, e3, e4, e5, e6, e7, e8, e9, e10, e11, e12]

theorem eq_out {o1 : Int} (g1 : Int) (g2 : Int) (g3 : Int) (g4 : Int) (g5 : ByteArray) (g6 : ByteArray) (g7 : Int) (g8 : Int) (g9 : Int) {o3 : Bool} {o4 : Int} (w : World) : (binOp .eql 41 (.agg #[.int .i64 o1, .int .i64 g1, .int .i64 g2, .int .i64 g3, .int .i64 g4, .string g5, .string g6, .int .i64 g7, .int .i64 g8, .int .i64 g9, .bool o3, .int .i64 o4]) (.agg #[.int .i64 o1, .int .i64 g1, .int .i64 g2, .int .i64 g3, .int .i64 g4, .string g5, .string g6, .int .i64 g7, .int .i64 g8, .int .i64 g9, .bool o3, .int .i64 o4])).run Try.prog w = .ok (.bool true) w := by
  rw [run_eql_struct]
  simp [go_sem]

/-- What a call returns, with the value spelled out. -/
def DidP (w : World) (id : Int) (ao : Option Addr) (cap : Nat) (xs zs : List Fd) (v : Value) (e : Ending) (w' : World) : Prop :=
  ∃ ao2 cap2, e = .returned (.tuple #[.agg #[.int .i64 id, .slice ao2 zs.length cap2], v]) ∧ RRow w ao cap xs ao2 cap2 zs w' ∧ Below w.heap.size w w'
theorem did_fit {id : Int} {zs : List Fd} (h : RightP id zs) : ∀ y ∈ zs, y.fit := fun y hy => by
  have h1 := right_fit h y hy
  have h2 := (okB_iff y).1 (h.ok y hy)
  have h3 := h2.2.2.2.2.2.2.2.2
  simp only [validB, decide_eq_true_eq] at h3
  have key : ∀ n : Int, 0 ≤ n → n ≤ 9007199254740991 → (Lit.int .i64 n).wf = true := fun n a b => WalkArith.wf_i64 (by omega)
  unfold Fd.fit maxLen
  exact ⟨by omega, by omega, key _ (by omega) (by omega), key _ (by omega) (by omega), key _ (by omega) (by omega), key _ (by omega) (by omega), key _ (by omega) (by omega), key _ (by omega) (by omega), key _ (by omega) (by omega)⟩
/-- The ways on which the statement asks nothing. -/
def okCall (id : Int) (xs : List Fd) (dev ch fid : Int) (p nm : ByteArray) : Bool := smallB xs && (briefB dev ch fid p nm && rightB id xs)

set_option maxHeartbeats 16000000 in
set_option maxRecDepth 100000 in
theorem lawCalls_calls (id : Int) (kind dev ch fid : Int) (p nm : ByteArray) (mode num to off wh lg : Int) (ao : Option Addr) (n cap : Nat) (xs : List Fd) (w : World) (h : Sl w 9 ao n cap (xs.map Fd.enc)) (hft : ∀ y ∈ xs, y.fit) (hp : p.size ≤ maxLen) (hnm : nm.size ≤ maxLen) (ho : -9223372036854775808 ≤ off ∧ off ≤ 9223372036854775807) (hlg : lg ≤ 9223372036854775807) :
    Calls Try.prog 4 #[.agg #[.int .i64 id, .slice ao n cap], .agg #[.int .i64 kind, .int .i64 dev, .int .i64 ch, .int .i64 fid, .string p, .string nm, .int .i64 mode, .int .i64 num, .int .i64 to, .int .i64 off, .int .i64 wh, .int .i64 lg]] w fun e w' => e = .returned (.bool true) ∧ Below w.heap.size w w' := by
  have HL : Aside (xs.length = n) := Sl.lenE h
  have hb0 : Below w.heap.size w ((w.alloc (.cells #[.int .i64 id, .slice ao n cap] 24)).alloc (.cells #[.int .i64 kind, .int .i64 dev, .int .i64 ch, .int .i64 fid, .string p, .string nm, .int .i64 mode, .int .i64 num, .int .i64 to, .int .i64 off, .int .i64 wh, .int .i64 lg] 38)) := by
    repeat (first | (with_reducible exact Below.refl _ _) | (with_reducible assumption) | (with_reducible refine below_to_plus ?_ ?_ _) | (with_reducible refine below_holds ?_ ?_ _ _) | (with_reducible refine Below.alloc ?_ ?_ _) | (with_reducible refine Below.drew ?_) | (with_reducible refine below_drewN ?_ _) | (with_reducible refine Below.setCell ?_ ?_ _))
    all_goals first | omega | (simp; done) | (simp [go_sem]; done) | (simp [go_sem]; omega)
  have hs0 := h.stays hb0
  have H : Aside (Sl w 9 ao n cap (xs.map Fd.enc)) := h
  have c1 := small_calls id ao n cap xs ((w.alloc (.cells #[.int .i64 id, .slice ao n cap] 24)).alloc (.cells #[.int .i64 kind, .int .i64 dev, .int .i64 ch, .int .i64 fid, .string p, .string nm, .int .i64 mode, .int .i64 num, .int .i64 to, .int .i64 off, .int .i64 wh, .int .i64 lg] 38)) hs0 hft
  have cb := fun U => brief_calls dev ch fid p nm U hp hnm
  have c2 := fun x => rright_calls id ao n cap xs (plus ((w.alloc (.cells #[.int .i64 id, .slice ao n cap] 24)).alloc (.cells #[.int .i64 kind, .int .i64 dev, .int .i64 ch, .int .i64 fid, .string p, .string nm, .int .i64 mode, .int .i64 num, .int .i64 to, .int .i64 off, .int .i64 wh, .int .i64 lg] 38)) x) (hs0.stays (below_plus _ _)) hft
  cases hsm : smallB xs with
  | false =>
    rw [hsm] at c1
    clear hsm c2 hs0 hft h hb0 cb hp hnm ho hlg
    go_enter Try.func4, Try.ntmps4
    go_wp2_with fail
    refine (c1).mono ?_
    rintro e w2 ⟨rfl, hb⟩
    obtain ⟨x1, rfl⟩ := plus_of_below hb
    clear hb
    clear c1
    go_wp2_with fail
    refine (awake_calls _).mono ?_
    rintro e w2 ⟨rfl, hb⟩
    obtain ⟨x9, rfl⟩ := plus_next hb
    clear hb
    go_wp2
    go_ret
    refine ⟨rfl, ?_⟩
    repeat (first | (with_reducible exact Below.refl _ _) | (with_reducible assumption) | (with_reducible refine below_to_plus ?_ ?_ _) | (with_reducible refine below_holds ?_ ?_ _ _) | (with_reducible refine Below.alloc ?_ ?_ _) | (with_reducible refine Below.drew ?_) | (with_reducible refine below_drewN ?_ _) | (with_reducible refine Below.setCell ?_ ?_ _))
    all_goals first | omega | (simp; done) | (simp [go_sem]; done) | (simp [go_sem]; omega)
  | true =>
  rw [hsm] at c1
  cases hbr : briefB dev ch fid p nm with
  | false =>
    rw [hbr] at cb
    clear hsm hbr c2 hs0 hft h hb0 hp hnm ho hlg
    go_enter Try.func4, Try.ntmps4
    go_wp2_with fail
    refine (c1).mono ?_
    rintro e w2 ⟨rfl, hb⟩
    obtain ⟨x1, rfl⟩ := plus_of_below hb
    clear hb
    clear c1
    go_wp2_with fail
    refine (cb _).mono ?_
    rintro e w2 ⟨rfl, hb⟩
    obtain ⟨x2, rfl⟩ := plus_next hb
    clear hb
    clear cb
    go_wp2_with fail
    refine (awake_calls _).mono ?_
    rintro e w2 ⟨rfl, hb⟩
    obtain ⟨x9, rfl⟩ := plus_next hb
    clear hb
    go_wp2
    go_ret
    refine ⟨rfl, ?_⟩
    repeat (first | (with_reducible exact Below.refl _ _) | (with_reducible assumption) | (with_reducible refine below_to_plus ?_ ?_ _) | (with_reducible refine below_holds ?_ ?_ _ _) | (with_reducible refine Below.alloc ?_ ?_ _) | (with_reducible refine Below.drew ?_) | (with_reducible refine below_drewN ?_ _) | (with_reducible refine Below.setCell ?_ ?_ _))
    all_goals first | omega | (simp; done) | (simp [go_sem]; done) | (simp [go_sem]; omega)
  | true =>
  rw [hbr] at cb
  cases hri : rightB id xs with
  | false =>
    rw [hri] at c2
    clear hsm hbr hri hs0 hft h hb0 hp hnm ho hlg
    go_enter Try.func4, Try.ntmps4
    go_wp2_with fail
    refine (c1).mono ?_
    rintro e w2 ⟨rfl, hb⟩
    obtain ⟨x1, rfl⟩ := plus_of_below hb
    clear hb
    clear c1
    go_wp2_with fail
    refine (cb _).mono ?_
    rintro e w2 ⟨rfl, hb⟩
    obtain ⟨x2, rfl⟩ := plus_next hb
    clear hb
    clear cb
    go_wp2_with fail
    refine (c2 _).mono ?_
    rintro e w2 ⟨rfl, hb⟩
    obtain ⟨x3, rfl⟩ := plus_next hb
    clear hb
    clear c2
    go_wp2_with fail
    refine (awake_calls _).mono ?_
    rintro e w2 ⟨rfl, hb⟩
    obtain ⟨x9, rfl⟩ := plus_next hb
    clear hb
    go_wp2
    go_ret
    refine ⟨rfl, ?_⟩
    repeat (first | (with_reducible exact Below.refl _ _) | (with_reducible assumption) | (with_reducible refine below_to_plus ?_ ?_ _) | (with_reducible refine below_holds ?_ ?_ _ _) | (with_reducible refine Below.alloc ?_ ?_ _) | (with_reducible refine Below.drew ?_) | (with_reducible refine below_drewN ?_ _) | (with_reducible refine Below.setCell ?_ ?_ _))
    all_goals first | omega | (simp; done) | (simp [go_sem]; done) | (simp [go_sem]; omega)
  | true =>
  have HR := (rightB_iff id xs).1 hri
  have c3 := fun x => did_calls id kind dev ch fid p nm mode num to off wh lg ao n cap xs (plus ((w.alloc (.cells #[.int .i64 id, .slice ao n cap] 24)).alloc (.cells #[.int .i64 kind, .int .i64 dev, .int .i64 ch, .int .i64 fid, .string p, .string nm, .int .i64 mode, .int .i64 num, .int .i64 to, .int .i64 off, .int .i64 wh, .int .i64 lg] 38)) x) (hs0.stays (below_plus _ _)) hri hp hnm ho hlg
  have c4 : ∀ U, Below w.heap.size w U → Calls Try.prog 19 #[.agg #[.int .i64 id, .slice ao n cap], .agg #[.int .i64 kind, .int .i64 dev, .int .i64 ch, .int .i64 fid, .string p, .string nm, .int .i64 mode, .int .i64 num, .int .i64 to, .int .i64 off, .int .i64 wh, .int .i64 lg]] U fun e w' => DidPost U id ao cap xs (didF xs kind dev ch fid p nm mode num to off wh lg) e w' := fun U hU => by
    have := want_calls id kind dev ch fid p nm mode num to off wh lg ao n cap xs U (h.stays hU) hri hp hnm ho hlg
    rwa [want_eq HR] at this
  have hzr := did_right HR kind dev ch fid p nm mode num to off wh lg
  rw [hri] at c2
  generalize didF xs kind dev ch fid p nm mode num to off wh lg = r at c3 c4 hzr
  obtain ⟨zs, o⟩ := r
  obtain ⟨o1, fo, o3, o4⟩ := o
  obtain ⟨g1, g2, g3, g4, g5, g6, g7, g8, g9⟩ := fo
  have HZ : Aside (RightP id zs) := hzr
  have hzf : ∀ y ∈ zs, y.fit := did_fit HZ.out
  have HZF : Aside (∀ y ∈ zs, y.fit) := hzf
  have c3 : ∀ x, Calls Try.prog 18 #[.agg #[.int .i64 id, .slice ao n cap], .agg #[.int .i64 kind, .int .i64 dev, .int .i64 ch, .int .i64 fid, .string p, .string nm, .int .i64 mode, .int .i64 num, .int .i64 to, .int .i64 off, .int .i64 wh, .int .i64 lg]] (plus ((w.alloc (.cells #[.int .i64 id, .slice ao n cap] 24)).alloc (.cells #[.int .i64 kind, .int .i64 dev, .int .i64 ch, .int .i64 fid, .string p, .string nm, .int .i64 mode, .int .i64 num, .int .i64 to, .int .i64 off, .int .i64 wh, .int .i64 lg] 38)) x) fun e w' => DidP (plus ((w.alloc (.cells #[.int .i64 id, .slice ao n cap] 24)).alloc (.cells #[.int .i64 kind, .int .i64 dev, .int .i64 ch, .int .i64 fid, .string p, .string nm, .int .i64 mode, .int .i64 num, .int .i64 to, .int .i64 off, .int .i64 wh, .int .i64 lg] 38)) x) id ao cap xs zs (.agg #[.int .i64 o1, .int .i64 g1, .int .i64 g2, .int .i64 g3, .int .i64 g4, .string g5, .string g6, .int .i64 g7, .int .i64 g8, .int .i64 g9, .bool o3, .int .i64 o4]) e w' := c3
  have c4 : ∀ U, Below w.heap.size w U → Calls Try.prog 19 #[.agg #[.int .i64 id, .slice ao n cap], .agg #[.int .i64 kind, .int .i64 dev, .int .i64 ch, .int .i64 fid, .string p, .string nm, .int .i64 mode, .int .i64 num, .int .i64 to, .int .i64 off, .int .i64 wh, .int .i64 lg]] U fun e w' => DidP U id ao cap xs zs (.agg #[.int .i64 o1, .int .i64 g1, .int .i64 g2, .int .i64 g3, .int .i64 g4, .string g5, .string g6, .int .i64 g7, .int .i64 g8, .int .i64 g9, .bool o3, .int .i64 o4]) e w' := c4
  have neo := fun w => eq_out (o1 := o1) g1 g2 g3 g4 g5 g6 g7 g8 g9 (o3 := o3) (o4 := o4) w
  clear hsm hbr hri hs0 hft h hb0 hp hnm ho hlg HR hzr hzf
  go_enter Try.func4, Try.ntmps4
  go_wp2_with fail
  refine (c1).mono ?_
  rintro e w2 ⟨rfl, hb⟩
  obtain ⟨x1, rfl⟩ := plus_of_below hb
  clear hb
  clear c1
  go_wp2_with fail
  refine (cb _).mono ?_
  rintro e w2 ⟨rfl, hb⟩
  obtain ⟨x2, rfl⟩ := plus_next hb
  clear hb
  clear cb
  go_wp2_with fail
  refine (c2 _).mono ?_
  rintro e w2 ⟨rfl, hb⟩
  obtain ⟨x3, rfl⟩ := plus_next hb
  clear hb
  clear c2
  go_wp2_with fail
  refine (c3 _).mono ?_
  rintro e w2 ⟨a1, c1, rfl, hrow, hb⟩
  have hsl := hrow.sl ((H.out.stays (show Below w.heap.size w (plus ((w.alloc (.cells #[.int .i64 id, .slice ao n cap] 24)).alloc (.cells #[.int .i64 kind, .int .i64 dev, .int .i64 ch, .int .i64 fid, .string p, .string nm, .int .i64 mode, .int .i64 num, .int .i64 to, .int .i64 off, .int .i64 wh, .int .i64 lg] 38)) x3) by
    repeat (first | (with_reducible exact Below.refl _ _) | (with_reducible assumption) | (with_reducible refine below_to_plus ?_ ?_ _) | (with_reducible refine below_holds ?_ ?_ _ _) | (with_reducible refine Below.alloc ?_ ?_ _) | (with_reducible refine Below.drew ?_) | (with_reducible refine below_drewN ?_ _) | (with_reducible refine Below.setCell ?_ ?_ _))
    all_goals first | omega | (simp; done) | (simp [go_sem]; done) | (simp [go_sem]; omega)))) hb
  have HS1 : Aside (Sl w2 9 a1 zs.length c1 (zs.map Fd.enc)) := hsl
  obtain ⟨x4, rfl⟩ := plus_next hb
  clear hb hrow hsl c3
  go_wp2_with fail
  refine (c4 _ ?_).mono ?_
  · repeat (first | (with_reducible exact Below.refl _ _) | (with_reducible assumption) | (with_reducible refine below_to_plus ?_ ?_ _) | (with_reducible refine below_holds ?_ ?_ _ _) | (with_reducible refine Below.alloc ?_ ?_ _) | (with_reducible refine Below.drew ?_) | (with_reducible refine below_drewN ?_ _) | (with_reducible refine Below.setCell ?_ ?_ _))
    all_goals first | omega | (simp; done) | (simp [go_sem]; done) | (simp [go_sem]; omega)
  rintro e w2 ⟨a2, c2, rfl, hrow, hb⟩
  have hsl := hrow.sl ((H.out.stays (show Below w.heap.size w (((plus ((w.alloc (.cells #[.int .i64 id, .slice ao n cap] 24)).alloc (.cells #[.int .i64 kind, .int .i64 dev, .int .i64 ch, .int .i64 fid, .string p, .string nm, .int .i64 mode, .int .i64 num, .int .i64 to, .int .i64 off, .int .i64 wh, .int .i64 lg] 38)) x4).alloc (.cells #[.int .i64 id, .slice a1 zs.length c1] 24)).alloc (.cells #[.int .i64 o1, .int .i64 g1, .int .i64 g2, .int .i64 g3, .int .i64 g4, .string g5, .string g6, .int .i64 g7, .int .i64 g8, .int .i64 g9, .bool o3, .int .i64 o4] 41)) by
    repeat (first | (with_reducible exact Below.refl _ _) | (with_reducible assumption) | (with_reducible refine below_to_plus ?_ ?_ _) | (with_reducible refine below_holds ?_ ?_ _ _) | (with_reducible refine Below.alloc ?_ ?_ _) | (with_reducible refine Below.drew ?_) | (with_reducible refine below_drewN ?_ _) | (with_reducible refine Below.setCell ?_ ?_ _))
    all_goals first | omega | (simp; done) | (simp [go_sem]; done) | (simp [go_sem]; omega)))) hb
  have HS2 : Aside (Sl w2 9 a2 zs.length c2 (zs.map Fd.enc)) := hsl
  obtain ⟨x5, rfl⟩ := plus_of_below hb
  clear hb hrow hsl c4
  have HBV : Aside (Below w.heap.size w (((plus (((plus ((w.alloc (.cells #[.int .i64 id, .slice ao n cap] 24)).alloc (.cells #[.int .i64 kind, .int .i64 dev, .int .i64 ch, .int .i64 fid, .string p, .string nm, .int .i64 mode, .int .i64 num, .int .i64 to, .int .i64 off, .int .i64 wh, .int .i64 lg] 38)) x4).alloc (.cells #[.int .i64 id, .slice a1 zs.length c1] 24)).alloc (.cells #[.int .i64 o1, .int .i64 g1, .int .i64 g2, .int .i64 g3, .int .i64 g4, .string g5, .string g6, .int .i64 g7, .int .i64 g8, .int .i64 g9, .bool o3, .int .i64 o4] 41)) x5).alloc (.cells #[.int .i64 id, .slice a2 zs.length c2] 24)).alloc (.cells #[.int .i64 o1, .int .i64 g1, .int .i64 g2, .int .i64 g3, .int .i64 g4, .string g5, .string g6, .int .i64 g7, .int .i64 g8, .int .i64 g9, .bool o3, .int .i64 o4] 41))) := by
    show Below _ _ _
    repeat (first | (with_reducible exact Below.refl _ _) | (with_reducible assumption) | (with_reducible refine below_to_plus ?_ ?_ _) | (with_reducible refine below_holds ?_ ?_ _ _) | (with_reducible refine Below.alloc ?_ ?_ _) | (with_reducible refine Below.drew ?_) | (with_reducible refine below_drewN ?_ _) | (with_reducible refine Below.setCell ?_ ?_ _))
    all_goals first | omega | (simp; done) | (simp [go_sem]; done) | (simp [go_sem]; omega)
  have HSA : Aside (Sl (((plus (((plus ((w.alloc (.cells #[.int .i64 id, .slice ao n cap] 24)).alloc (.cells #[.int .i64 kind, .int .i64 dev, .int .i64 ch, .int .i64 fid, .string p, .string nm, .int .i64 mode, .int .i64 num, .int .i64 to, .int .i64 off, .int .i64 wh, .int .i64 lg] 38)) x4).alloc (.cells #[.int .i64 id, .slice a1 zs.length c1] 24)).alloc (.cells #[.int .i64 o1, .int .i64 g1, .int .i64 g2, .int .i64 g3, .int .i64 g4, .string g5, .string g6, .int .i64 g7, .int .i64 g8, .int .i64 g9, .bool o3, .int .i64 o4] 41)) x5).alloc (.cells #[.int .i64 id, .slice a2 zs.length c2] 24)).alloc (.cells #[.int .i64 o1, .int .i64 g1, .int .i64 g2, .int .i64 g3, .int .i64 g4, .string g5, .string g6, .int .i64 g7, .int .i64 g8, .int .i64 g9, .bool o3, .int .i64 o4] 41)) 9 a1 zs.length c1 (zs.map Fd.enc)) := HS1.out.stays (by
    repeat (first | (with_reducible exact Below.refl _ _) | (with_reducible assumption) | (with_reducible refine below_to_plus ?_ ?_ _) | (with_reducible refine below_holds ?_ ?_ _ _) | (with_reducible refine Below.alloc ?_ ?_ _) | (with_reducible refine Below.drew ?_) | (with_reducible refine below_drewN ?_ _) | (with_reducible refine Below.setCell ?_ ?_ _))
    all_goals first | omega | (simp; done) | (simp [go_sem]; done) | (simp [go_sem]; omega))
  have HSB : Aside (Sl (((plus (((plus ((w.alloc (.cells #[.int .i64 id, .slice ao n cap] 24)).alloc (.cells #[.int .i64 kind, .int .i64 dev, .int .i64 ch, .int .i64 fid, .string p, .string nm, .int .i64 mode, .int .i64 num, .int .i64 to, .int .i64 off, .int .i64 wh, .int .i64 lg] 38)) x4).alloc (.cells #[.int .i64 id, .slice a1 zs.length c1] 24)).alloc (.cells #[.int .i64 o1, .int .i64 g1, .int .i64 g2, .int .i64 g3, .int .i64 g4, .string g5, .string g6, .int .i64 g7, .int .i64 g8, .int .i64 g9, .bool o3, .int .i64 o4] 41)) x5).alloc (.cells #[.int .i64 id, .slice a2 zs.length c2] 24)).alloc (.cells #[.int .i64 o1, .int .i64 g1, .int .i64 g2, .int .i64 g3, .int .i64 g4, .string g5, .string g6, .int .i64 g7, .int .i64 g8, .int .i64 g9, .bool o3, .int .i64 o4] 41)) 9 a2 zs.length c2 (zs.map Fd.enc)) := HS2.out.stays (by
    repeat (first | (with_reducible exact Below.refl _ _) | (with_reducible assumption) | (with_reducible refine below_to_plus ?_ ?_ _) | (with_reducible refine below_holds ?_ ?_ _ _) | (with_reducible refine Below.alloc ?_ ?_ _) | (with_reducible refine Below.drew ?_) | (with_reducible refine below_drewN ?_ _) | (with_reducible refine Below.setCell ?_ ?_ _))
    all_goals first | omega | (simp; done) | (simp [go_sem]; done) | (simp [go_sem]; omega))
  have c5 := same_calls id id a1 a2 zs.length c1 zs.length c2 zs zs (((plus (((plus ((w.alloc (.cells #[.int .i64 id, .slice ao n cap] 24)).alloc (.cells #[.int .i64 kind, .int .i64 dev, .int .i64 ch, .int .i64 fid, .string p, .string nm, .int .i64 mode, .int .i64 num, .int .i64 to, .int .i64 off, .int .i64 wh, .int .i64 lg] 38)) x4).alloc (.cells #[.int .i64 id, .slice a1 zs.length c1] 24)).alloc (.cells #[.int .i64 o1, .int .i64 g1, .int .i64 g2, .int .i64 g3, .int .i64 g4, .string g5, .string g6, .int .i64 g7, .int .i64 g8, .int .i64 g9, .bool o3, .int .i64 o4] 41)) x5).alloc (.cells #[.int .i64 id, .slice a2 zs.length c2] 24)).alloc (.cells #[.int .i64 o1, .int .i64 g1, .int .i64 g2, .int .i64 g3, .int .i64 g4, .string g5, .string g6, .int .i64 g7, .int .i64 g8, .int .i64 g9, .bool o3, .int .i64 o4] 41)) HSA.out HSB.out
  rw [(same_iff id zs id zs).2 ⟨rfl, rfl⟩] at c5
  have c6 := fun x => right_calls id a1 zs.length c1 zs (plus (((plus (((plus ((w.alloc (.cells #[.int .i64 id, .slice ao n cap] 24)).alloc (.cells #[.int .i64 kind, .int .i64 dev, .int .i64 ch, .int .i64 fid, .string p, .string nm, .int .i64 mode, .int .i64 num, .int .i64 to, .int .i64 off, .int .i64 wh, .int .i64 lg] 38)) x4).alloc (.cells #[.int .i64 id, .slice a1 zs.length c1] 24)).alloc (.cells #[.int .i64 o1, .int .i64 g1, .int .i64 g2, .int .i64 g3, .int .i64 g4, .string g5, .string g6, .int .i64 g7, .int .i64 g8, .int .i64 g9, .bool o3, .int .i64 o4] 41)) x5).alloc (.cells #[.int .i64 id, .slice a2 zs.length c2] 24)).alloc (.cells #[.int .i64 o1, .int .i64 g1, .int .i64 g2, .int .i64 g3, .int .i64 g4, .string g5, .string g6, .int .i64 g7, .int .i64 g8, .int .i64 g9, .bool o3, .int .i64 o4] 41)) x) (HSA.out.stays (below_plus _ _)) HZF.out
  rw [(rightB_iff id zs).2 HZ.out] at c6
  clear HS1 HS2 HSA HSB
  go_wp2_with fail
  refine (c5).mono ?_
  rintro e w2 ⟨rfl, hb⟩
  obtain ⟨x6, rfl⟩ := plus_of_below hb
  clear hb
  clear c5
  go_wp2_with fail
  refine (c6 _).mono ?_
  rintro e w2 ⟨rfl, hb⟩
  obtain ⟨x7, rfl⟩ := plus_next hb
  clear hb
  clear c6
  go_wp2_with fail
  refine (awake_calls _).mono ?_
  rintro e w2 ⟨rfl, hb⟩
  obtain ⟨x8, rfl⟩ := plus_next hb
  clear hb
  go_wp2
  go_ret
  refine ⟨rfl, ?_⟩
  exact below_to_plus HBV.out HBV.out.size _

end Go.Proofs.Ytbifanenoejjgaa
