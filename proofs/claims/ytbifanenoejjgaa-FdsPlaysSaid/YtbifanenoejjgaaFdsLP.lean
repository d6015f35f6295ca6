/- This text proves the walk of the statement FdsPlays. Conditions: those that each theorem names. -/
import Derived.Test.YtbifanenoejjgaaFdsLC
import Derived.Deep.RegionHeld3
import Derived.Deep.CutRange
import Derived.RegionTactic
namespace Go.Proofs.Ytbifanenoejjgaa
open Go.ChangeShapes Go.WideShapes Go.ChangeAt Go.RowKit
set_option linter.unusedVariables false
set_option linter.unusedSimpArgs false

structure Opp where
  kind : Int
  dev : Int
  ch : Int
  fid : Int
  p : ByteArray
  nm : ByteArray
  mode : Int
  num : Int
  tgt : Int
  ofs : Int
  wh : Int
  lg : Int
instance : Inhabited Opp := ⟨⟨0, 0, 0, 0, .empty, .empty, 0, 0, 0, 0, 0, 0⟩⟩
def Opp.enc (x : Opp) : List Value := [.int .i64 x.kind, .int .i64 x.dev, .int .i64 x.ch, .int .i64 x.fid, .string x.p, .string x.nm, .int .i64 x.mode, .int .i64 x.num, .int .i64 x.tgt, .int .i64 x.ofs, .int .i64 x.wh, .int .i64 x.lg]
def Opp.val (x : Opp) : Value := .agg #[.int .i64 x.kind, .int .i64 x.dev, .int .i64 x.ch, .int .i64 x.fid, .string x.p, .string x.nm, .int .i64 x.mode, .int .i64 x.num, .int .i64 x.tgt, .int .i64 x.ofs, .int .i64 x.wh, .int .i64 x.lg]
theorem opp_len (x : Opp) : x.enc.length = 12 := rfl
theorem opp_one (x : Opp) : ∀ u ∈ x.enc, u.oneCell' = true := by
  intro u hu
  simp only [Opp.enc, List.mem_cons, List.not_mem_nil, or_false] at hu
  rcases hu with rfl | rfl | rfl | rfl | rfl | rfl | rfl | rfl | rfl | rfl | rfl | rfl <;> rfl
/-- The cells of a slice of these elements. -/
def CellsOpp (W : World) (ao : Option Addr) (ys : List Opp) : Prop := ∀ j, j < ys.length → ∃ b off, ao = some ⟨b, off, none⟩ ∧ b < W.heap.size ∧ W.cell? ⟨b, off + j * 12, none⟩ = some (.int .i64 ys[j]!.kind) ∧ W.cell? ⟨b, off + j * 12 + 1, none⟩ = some (.int .i64 ys[j]!.dev) ∧ W.cell? ⟨b, off + j * 12 + 2, none⟩ = some (.int .i64 ys[j]!.ch) ∧ W.cell? ⟨b, off + j * 12 + 3, none⟩ = some (.int .i64 ys[j]!.fid) ∧ W.cell? ⟨b, off + j * 12 + 4, none⟩ = some (.string ys[j]!.p) ∧ W.cell? ⟨b, off + j * 12 + 5, none⟩ = some (.string ys[j]!.nm) ∧ W.cell? ⟨b, off + j * 12 + 6, none⟩ = some (.int .i64 ys[j]!.mode) ∧ W.cell? ⟨b, off + j * 12 + 7, none⟩ = some (.int .i64 ys[j]!.num) ∧ W.cell? ⟨b, off + j * 12 + 8, none⟩ = some (.int .i64 ys[j]!.tgt) ∧ W.cell? ⟨b, off + j * 12 + 9, none⟩ = some (.int .i64 ys[j]!.ofs) ∧ W.cell? ⟨b, off + j * 12 + 10, none⟩ = some (.int .i64 ys[j]!.wh) ∧ W.cell? ⟨b, off + j * 12 + 11, none⟩ = some (.int .i64 ys[j]!.lg)
theorem cellsOpp {W : World} {ao : Option Addr} {n cap : Nat} {ys : List Opp} (h : Sl W 12 ao n cap (ys.map Opp.enc)) : CellsOpp W ao ys := by
  intro j hj
  have hl := Sl.lenE h
  obtain ⟨b, off, rfl, hb, hc⟩ := h.here (by omega)
  have hx : (ys.map Opp.enc)[j]? = some ys[j]!.enc := by rw [List.getElem?_map, List.getElem?_eq_getElem hj, getElem!_pos ys j hj]; rfl
  exact ⟨b, off, rfl, hb, hc j _ hx 0 _ rfl, hc j _ hx 1 _ rfl, hc j _ hx 2 _ rfl, hc j _ hx 3 _ rfl, hc j _ hx 4 _ rfl, hc j _ hx 5 _ rfl, hc j _ hx 6 _ rfl, hc j _ hx 7 _ rfl, hc j _ hx 8 _ rfl, hc j _ hx 9 _ rfl, hc j _ hx 10 _ rfl, hc j _ hx 11 _ rfl⟩
theorem CellsOpp.later {W W' : World} {ao : Option Addr} {ys : List Opp} (h : CellsOpp W ao ys) (hb : Below W.heap.size W W') : CellsOpp W' ao ys := fun j hj => by
  obtain ⟨b, off, e, hlt, h0, h1, h2, h3, h4, h5, h6, h7, h8, h9, h10, h11⟩ := h j hj
  exact ⟨b, off, e, Nat.lt_of_lt_of_le hlt hb.size, (hb.cell (p := ⟨b, off + j * 12, none⟩) hlt).trans h0, (hb.cell (p := ⟨b, off + j * 12 + 1, none⟩) hlt).trans h1, (hb.cell (p := ⟨b, off + j * 12 + 2, none⟩) hlt).trans h2, (hb.cell (p := ⟨b, off + j * 12 + 3, none⟩) hlt).trans h3, (hb.cell (p := ⟨b, off + j * 12 + 4, none⟩) hlt).trans h4, (hb.cell (p := ⟨b, off + j * 12 + 5, none⟩) hlt).trans h5, (hb.cell (p := ⟨b, off + j * 12 + 6, none⟩) hlt).trans h6, (hb.cell (p := ⟨b, off + j * 12 + 7, none⟩) hlt).trans h7, (hb.cell (p := ⟨b, off + j * 12 + 8, none⟩) hlt).trans h8, (hb.cell (p := ⟨b, off + j * 12 + 9, none⟩) hlt).trans h9, (hb.cell (p := ⟨b, off + j * 12 + 10, none⟩) hlt).trans h10, (hb.cell (p := ⟨b, off + j * 12 + 11, none⟩) hlt).trans h11⟩
theorem oppLeaves : leavesOf Try.prog 8 38 = some [some (some .i64), some (some .i64), some (some .i64), some (some .i64), some none, some none, some (some .i64), some (some .i64), some (some .i64), some (some .i64), some (some .i64), some (some .i64)] := by kernel_rfl
/-- What the leaves tell of an element: strings are no longer than an int says. -/
def Opp.fit (x : Opp) : Prop := x.p.size ≤ maxLen ∧ x.nm.size ≤ maxLen ∧ (Lit.int .i64 x.kind).wf = true ∧ (Lit.int .i64 x.dev).wf = true ∧ (Lit.int .i64 x.ch).wf = true ∧ (Lit.int .i64 x.fid).wf = true ∧ (Lit.int .i64 x.mode).wf = true ∧ (Lit.int .i64 x.num).wf = true ∧ (Lit.int .i64 x.tgt).wf = true ∧ (Lit.int .i64 x.ofs).wf = true ∧ (Lit.int .i64 x.wh).wf = true ∧ (Lit.int .i64 x.lg).wf = true
theorem opp_cells (l : List Value) (h0 : leavesOk [some (some .i64), some (some .i64), some (some .i64), some (some .i64), some none, some none, some (some .i64), some (some .i64), some (some .i64), some (some .i64), some (some .i64), some (some .i64)] l) : ∃ y : Opp, l = y.enc ∧ y.fit := by
  obtain ⟨a0, r0, e0, ⟨v0, rfl, g0⟩, h1⟩ := leavesOk_cons h0
  obtain ⟨a1, r1, e1, ⟨v1, rfl, g1⟩, h2⟩ := leavesOk_cons h1
  obtain ⟨a2, r2, e2, ⟨v2, rfl, g2⟩, h3⟩ := leavesOk_cons h2
  obtain ⟨a3, r3, e3, ⟨v3, rfl, g3⟩, h4⟩ := leavesOk_cons h3
  obtain ⟨a4, r4, e4, ⟨v4, rfl, g4⟩, h5⟩ := leavesOk_cons h4
  obtain ⟨a5, r5, e5, ⟨v5, rfl, g5⟩, h6⟩ := leavesOk_cons h5
  obtain ⟨a6, r6, e6, ⟨v6, rfl, g6⟩, h7⟩ := leavesOk_cons h6
  obtain ⟨a7, r7, e7, ⟨v7, rfl, g7⟩, h8⟩ := leavesOk_cons h7
  obtain ⟨a8, r8, e8, ⟨v8, rfl, g8⟩, h9⟩ := leavesOk_cons h8
  obtain ⟨a9, r9, e9, ⟨v9, rfl, g9⟩, h10⟩ := leavesOk_cons h9
  obtain ⟨a10, r10, e10, ⟨v10, rfl, g10⟩, h11⟩ := leavesOk_cons h10
  obtain ⟨a11, r11, e11, ⟨v11, rfl, g11⟩, h12⟩ := leavesOk_cons h11
  have e12 := leavesOk_nil h12
  exact ⟨⟨v0, v1, v2, v3, v4, v5, v6, v7, v8, v9, v10, v11⟩, by rw [e0, e1, e2, e3, e4, e5, e6, e7, e8, e9, e10, e11, e12]; rfl, ⟨g4, g5, g0, g1, g2, g3, g6, g7, g8, g9, g10, g11⟩⟩
theorem opps_of : ∀ (xs : List (List Value)), (∀ x ∈ xs, leavesOk [some (some .i64), some (some .i64), some (some .i64), some (some .i64), some none, some none, some (some .i64), some (some .i64), some (some .i64), some (some .i64), some (some .i64), some (some .i64)] x) → ∃ ys : List Opp, xs = ys.map Opp.enc ∧ ∀ y ∈ ys, y.fit
  | [], _ => ⟨[], rfl, fun y h => by cases h⟩
  | x :: xs, h => by
    obtain ⟨y, rfl, hy⟩ := opp_cells x (h x (by simp))
    obtain ⟨ys, rfl, hys⟩ := opps_of xs (fun z hz => h z (by simp [hz]))
    exact ⟨y :: ys, rfl, fun z hz => by
      rcases List.mem_cons.1 hz with e | hz'
      · rw [e]; exact hy
      · exact hys z hz'⟩
theorem oppInfo : ∃ i0 : TypeInfo, Try.prog.info? 38 = some i0 ∧ i0.zero = some (.agg #[.int .i64 0, .int .i64 0, .int .i64 0, .int .i64 0, .string ⟨#[]⟩, .string ⟨#[]⟩, .int .i64 0, .int .i64 0, .int .i64 0, .int .i64 0, .int .i64 0, .int .i64 0]) ∧ i0.size = 12 ∧ i0.bytes = 112 := by
  have h : (Try.prog.info? 38).map (fun i => (i.zero, i.size, i.bytes)) = some (some (.agg #[.int .i64 0, .int .i64 0, .int .i64 0, .int .i64 0, .string ⟨#[]⟩, .string ⟨#[]⟩, .int .i64 0, .int .i64 0, .int .i64 0, .int .i64 0, .int .i64 0, .int .i64 0]), 12, 112) := by kernel_rfl
  cases hi : Try.prog.info? 38 with
  | none => rw [hi] at h; cases h
  | some i0 =>
    rw [hi] at h
    simp only [Option.map_some, Option.some.injEq, Prod.mk.injEq] at h
    exact ⟨i0, rfl, h.1, h.2.1, h.2.2⟩


theorem neq_out {o1 : Int} (g1 : Int) (g2 : Int) (g3 : Int) (g4 : Int) (g5 : ByteArray) (g6 : ByteArray) (g7 : Int) (g8 : Int) (g9 : Int) {o3 : Bool} {o4 : Int} (w : World) : (binOp .neq 41 (.agg #[.int .i64 o1, .int .i64 g1, .int .i64 g2, .int .i64 g3, .int .i64 g4, .string g5, .string g6, .int .i64 g7, .int .i64 g8, .int .i64 g9, .bool o3, .int .i64 o4]) (.agg #[.int .i64 o1, .int .i64 g1, .int .i64 g2, .int .i64 g3, .int .i64 g4, .string g5, .string g6, .int .i64 g7, .int .i64 g8, .int .i64 g9, .bool o3, .int .i64 o4])).run Try.prog w = .ok (.bool false) w := by
  rw [run_neq_struct]
  simp [go_sem]
/-- The state of the loop: the group of the program lies in the first new block, that of the reference in the second; both read as zs. -/
structure PlSt (w : World) (zs : List Fd) (a1 : Option Addr) (c1 : Nat) (a2 : Option Addr) (c2 : Nat) (wr : World) : Prop where
  right : RightP 1 zs
  hf : wr.heap[w.heap.size]? = some (.cells #[.int .i64 1, .slice a1 zs.length c1] 24 (0, 0))
  hg : wr.heap[w.heap.size + 1]? = some (.cells #[.int .i64 1, .slice a2 zs.length c2] 24 (0, 0))
  rf : Row wr (w.heap.size + 2) a1 c1 zs
  rg : Row wr (w.heap.size + 2) a2 c2 zs
  hb : Below w.heap.size w wr
theorem PlSt.later {w : World} {zs : List Fd} {a1 : Option Addr} {c1 : Nat} {a2 : Option Addr} {c2 : Nat} {wr wr' : World} (h : PlSt w zs a1 c1 a2 c2 wr) (hb : Below wr.heap.size wr wr') : PlSt w zs a1 c1 a2 c2 wr' :=
  ⟨h.right, heap_later h.hf hb, heap_later h.hg hb, h.rf.later hb, h.rg.later hb, h.hb.trans (hb.mono h.hb.size)⟩
/-- A new block with a group of the call's own. -/
def NewBox (w : World) (ys : List Fd) (a : Option Addr) (c ab : Nat) (wr : World) : Prop := w.heap.size + 2 ≤ ab ∧ wr.heap[ab]? = some (.cells #[.int .i64 1, .slice a ys.length c] 24 (0, 0)) ∧ Row wr (w.heap.size + 2) a c ys
theorem NewBox.later {w : World} {ys : List Fd} {a : Option Addr} {c ab : Nat} {wr wr' : World} (h : NewBox w ys a c ab wr) (hb : Below wr.heap.size wr wr') : NewBox w ys a c ab wr' := ⟨h.1, heap_later h.2.1 hb, h.2.2.later hb⟩
theorem row_rrow {w wr w2 : World} {zs ys : List Fd} {a1 a3 : Option Addr} {c1 c3 B : Nat} (h : RRow wr a1 c1 zs a3 c3 ys w2) (hr : Row wr B a1 c1 zs) (hb : Below wr.heap.size wr w2) (hB : B ≤ wr.heap.size) : Row w2 B a3 c3 ys := by
  rcases h with ⟨rfl, rfl, rfl⟩ | h
  · exact hr.later hb
  · exact own_lower h hB

set_option maxHeartbeats 16000000 in
set_option maxRecDepth 100000 in
theorem lawPlays_calls (ao : Option Addr) (n cap : Nat) (os : List Opp) (w : World) (h : Sl w 12 ao n cap (os.map Opp.enc)) (hft : ∀ y ∈ os, y.fit) :
    Calls Try.prog 5 #[.slice ao n cap] w fun e w' => e = .returned (.bool true) ∧ Below w.heap.size w w' := by
  have HL : Aside (os.length = n) := Sl.lenE h
  have HC : Aside (CellsOpp w ao os) := cellsOpp h
  have HT : Aside (∀ y ∈ os, y.fit) := hft
  clear h hft
  by_cases hn : 60 < n
  · clear HC
    have hnz : (60 : Int) < (n : Int) := by omega
    go_enter Try.func5, Try.ntmps5
    go_wp2_with fail
    refine (awake_calls _).mono ?_
    rintro e w2 ⟨rfl, hb⟩
    obtain ⟨x9, rfl⟩ := plus_of_below hb
    clear hb
    go_wp2
    go_ret
    exact ⟨rfl, below_plus _ _⟩
  have hn2 : n ≤ 60 := by omega
  have hnz : ¬ (60 : Int) < (n : Int) := by omega
  clear hn
  have hbig : n ≤ 9223372036854775807 := by omega
  go_enter Try.func5, Try.ntmps5
  go_wp2
  go_loopg [18] n (fun k s18 wr => ∃ (idx : Nat) (a1 : Option Addr) (c1 : Nat) (a2 : Option Addr) (c2 : Nat) (zs : List Fd), s18 = .int .i64 (idx : Int) ∧ k + idx = n ∧ PlSt w zs a1 c1 a2 c2 wr)
  case atStart =>
    refine ⟨0, none, 0, none, 0, [], rfl, by omega, ⟨⟨by omega, by simp, List.Pairwise.nil, by simp⟩, hp_old (hp_new rfl), hp_new (by simp), World.ownsRow_nil _ _ _ _, World.ownsRow_nil _ _ _ _, ?_⟩⟩
    repeat (first | (with_reducible exact Below.refl _ _) | (with_reducible assumption) | (with_reducible refine below_to_plus ?_ ?_ _) | (with_reducible refine below_holds ?_ ?_ _ _) | (with_reducible refine Below.alloc ?_ ?_ _) | (with_reducible refine Below.drew ?_) | (with_reducible refine below_drewN ?_ _) | (with_reducible refine Below.setCell ?_ ?_ _))
    all_goals first | omega | (simp; done) | (simp [go_sem]; done) | (simp [go_sem]; omega)
  case round =>
    obtain ⟨idx, a1, c1, a2, c2, zs, rfl, hk, ST0⟩ := hrel
    have ST : Aside (PlSt w zs a1 c1 a2 c2 wr) := ST0
    have hsz : w.heap.size + 2 ≤ wr.heap.size := by have := (Array.getElem?_eq_some_iff.1 ST0.hg).1; omega
    have hzl : zs.length ≤ 64 := asc_len ST0.right
    clear ST0
    by_cases hi : idx < n
    · have hiz : (idx : Int) < (n : Int) := by omega
      obtain ⟨b, off, rfl, hbw, l0, l1, l2, l3, l4, l5, l6, l7, l8, l9, l10, l11⟩ := HC.out idx (by have := HL.out; omega)
      have HY : Aside (Opp.fit os[idx]!) := HT.out _ (by rw [getElem!_pos os idx (by have := HL.out; omega)]; exact List.getElem_mem _)
      generalize os[idx]! = y at l0 l1 l2 l3 l4 l5 l6 l7 l8 l9 l10 l11 HY
      obtain ⟨t1, t2, t3, t4, t5, t6, t7, t8, t9, t10, t11, t12⟩ := y
      simp only [] at l0 l1 l2 l3 l4 l5 l6 l7 l8 l9 l10 l11
      have YC : Aside (_ ∧ _ ∧ _ ∧ _ ∧ _ ∧ _ ∧ _ ∧ _ ∧ _ ∧ _ ∧ _ ∧ _) := ⟨l0, l1, l2, l3, l4, l5, l6, l7, l8, l9, l10, l11⟩
      have hfit := HY.out
      unfold Opp.fit at hfit
      obtain ⟨hp, hnm, _, _, _, _, _, _, _, ho, _, hlg⟩ := hfit
      have ho := i64_range ho
      have hlg := (i64_range hlg).2
      have cb := fun U => brief_calls t2 t3 t4 t5 t6 U hp hnm
      have hbr : b < wr.heap.size := Nat.lt_of_lt_of_le hbw ST.out.hb.size
      clear l0 l1 l2 l3 l4 l5 l6 l7 l8 l9 l10 l11
      have k0 := (ST.out.hb.cell (p := ⟨b, off + idx * 12, none⟩) hbw).trans YC.out.1
      have k1 := (ST.out.hb.cell (p := ⟨b, off + idx * 12 + 1, none⟩) hbw).trans YC.out.2.1
      have k2 := (ST.out.hb.cell (p := ⟨b, off + idx * 12 + 2, none⟩) hbw).trans YC.out.2.2.1
      have k3 := (ST.out.hb.cell (p := ⟨b, off + idx * 12 + 3, none⟩) hbw).trans YC.out.2.2.2.1
      have k4 := (ST.out.hb.cell (p := ⟨b, off + idx * 12 + 4, none⟩) hbw).trans YC.out.2.2.2.2.1
      have k5 := (ST.out.hb.cell (p := ⟨b, off + idx * 12 + 5, none⟩) hbw).trans YC.out.2.2.2.2.2.1
      have k6 := (ST.out.hb.cell (p := ⟨b, off + idx * 12 + 6, none⟩) hbw).trans YC.out.2.2.2.2.2.2.1
      have k7 := (ST.out.hb.cell (p := ⟨b, off + idx * 12 + 7, none⟩) hbw).trans YC.out.2.2.2.2.2.2.2.1
      have k8 := (ST.out.hb.cell (p := ⟨b, off + idx * 12 + 8, none⟩) hbw).trans YC.out.2.2.2.2.2.2.2.2.1
      have k9 := (ST.out.hb.cell (p := ⟨b, off + idx * 12 + 9, none⟩) hbw).trans YC.out.2.2.2.2.2.2.2.2.2.1
      have k10 := (ST.out.hb.cell (p := ⟨b, off + idx * 12 + 10, none⟩) hbw).trans YC.out.2.2.2.2.2.2.2.2.2.2.1
      have k11 := (ST.out.hb.cell (p := ⟨b, off + idx * 12 + 11, none⟩) hbw).trans YC.out.2.2.2.2.2.2.2.2.2.2.2
      cases hbf : briefB t2 t3 t4 t5 t6 with
      | false =>
        rw [hbf] at cb
        have HBW : Aside (Below w.heap.size w wr) := ST.out.hb
        clear hbf hp hnm ho hlg HC ST
        go_wp2_with fail
        refine (cb _).mono ?_
        rintro e w2 ⟨rfl, hb⟩
        obtain ⟨x1, rfl⟩ := plus_of_below hb
        clear hb
        clear cb
        go_wp2_with fail
        refine (awake_calls _).mono ?_
        rintro e w2 ⟨rfl, hb⟩
        obtain ⟨x2, rfl⟩ := plus_next hb
        clear hb
        go_wp2
        go_ret
        exact ⟨rfl, below_to_plus HBW.out HBW.out.size _⟩
      | true =>
        rw [hbf] at cb
        have hr1 := (rightB_iff 1 zs).2 ST.out.right
        have c3 : Aside (∀ (a1 : Option Addr) (c1 : Nat) U, Row U (w.heap.size + 2) a1 c1 zs → Calls Try.prog 18 #[.agg #[.int .i64 1, .slice a1 zs.length c1], .agg #[.int .i64 t1, .int .i64 t2, .int .i64 t3, .int .i64 t4, .string t5, .string t6, .int .i64 t7, .int .i64 t8, .int .i64 t9, .int .i64 t10, .int .i64 t11, .int .i64 t12]] U fun e w' => DidPost U 1 a1 c1 zs (didF zs t1 t2 t3 t4 t5 t6 t7 t8 t9 t10 t11 t12) e w') := fun a1 c1 U hU => did_calls 1 t1 t2 t3 t4 t5 t6 t7 t8 t9 t10 t11 t12 a1 zs.length c1 zs U hU.sl hr1 hp hnm ho hlg
        have c4 : Aside (∀ (a1 : Option Addr) (c1 : Nat) U, Row U (w.heap.size + 2) a1 c1 zs → Calls Try.prog 19 #[.agg #[.int .i64 1, .slice a1 zs.length c1], .agg #[.int .i64 t1, .int .i64 t2, .int .i64 t3, .int .i64 t4, .string t5, .string t6, .int .i64 t7, .int .i64 t8, .int .i64 t9, .int .i64 t10, .int .i64 t11, .int .i64 t12]] U fun e w' => DidPost U 1 a1 c1 zs (didF zs t1 t2 t3 t4 t5 t6 t7 t8 t9 t10 t11 t12) e w') := fun a1 c1 U hU => by
          have := want_calls 1 t1 t2 t3 t4 t5 t6 t7 t8 t9 t10 t11 t12 a1 zs.length c1 zs U hU.sl hr1 hp hnm ho hlg
          rwa [want_eq ST.out.right] at this
        have hzr := did_right ST.out.right t1 t2 t3 t4 t5 t6 t7 t8 t9 t10 t11 t12
        generalize didF zs t1 t2 t3 t4 t5 t6 t7 t8 t9 t10 t11 t12 = r at c3 c4 hzr
        obtain ⟨ys, o⟩ := r
        obtain ⟨o1, fo, o3, o4⟩ := o
        obtain ⟨g1, g2, g3, g4, g5, g6, g7, g8, g9⟩ := fo
        have HZ : Aside (RightP 1 ys) := hzr
        have c3 : Aside (∀ (a1 : Option Addr) (c1 : Nat) U, Row U (w.heap.size + 2) a1 c1 zs → Calls Try.prog 18 #[.agg #[.int .i64 1, .slice a1 zs.length c1], .agg #[.int .i64 t1, .int .i64 t2, .int .i64 t3, .int .i64 t4, .string t5, .string t6, .int .i64 t7, .int .i64 t8, .int .i64 t9, .int .i64 t10, .int .i64 t11, .int .i64 t12]] U fun e w' => DidP U 1 a1 c1 zs ys (.agg #[.int .i64 o1, .int .i64 g1, .int .i64 g2, .int .i64 g3, .int .i64 g4, .string g5, .string g6, .int .i64 g7, .int .i64 g8, .int .i64 g9, .bool o3, .int .i64 o4]) e w') := c3
        have c4 : Aside (∀ (a1 : Option Addr) (c1 : Nat) U, Row U (w.heap.size + 2) a1 c1 zs → Calls Try.prog 19 #[.agg #[.int .i64 1, .slice a1 zs.length c1], .agg #[.int .i64 t1, .int .i64 t2, .int .i64 t3, .int .i64 t4, .string t5, .string t6, .int .i64 t7, .int .i64 t8, .int .i64 t9, .int .i64 t10, .int .i64 t11, .int .i64 t12]] U fun e w' => DidP U 1 a1 c1 zs ys (.agg #[.int .i64 o1, .int .i64 g1, .int .i64 g2, .int .i64 g3, .int .i64 g4, .string g5, .string g6, .int .i64 g7, .int .i64 g8, .int .i64 g9, .bool o3, .int .i64 o4]) e w') := c4
        have neo := fun w => neq_out (o1 := o1) g1 g2 g3 g4 g5 g6 g7 g8 g9 (o3 := o3) (o4 := o4) w
        clear hbf hp hnm ho hlg HC hr1 hzr
        go_wp2_with fail
        refine (cb _).mono ?_
        rintro e wa ⟨rfl, hb⟩
        have STA : Aside (PlSt w zs a1 c1 a2 c2 wa) := ST.out.later hb
        clear cb ST k0 k1 k2 k3 k4 k5 k6 k7 k8 k9 k10 k11 hbr hb hsz
        have hsz : w.heap.size + 2 ≤ wa.heap.size := by have := (Array.getElem?_eq_some_iff.1 STA.out.hg).1; omega
        have hbr : b < wa.heap.size := Nat.lt_of_lt_of_le hbw STA.out.hb.size
        have k0 := (STA.out.hb.cell (p := ⟨b, off + idx * 12, none⟩) hbw).trans YC.out.1
        have k1 := (STA.out.hb.cell (p := ⟨b, off + idx * 12 + 1, none⟩) hbw).trans YC.out.2.1
        have k2 := (STA.out.hb.cell (p := ⟨b, off + idx * 12 + 2, none⟩) hbw).trans YC.out.2.2.1
        have k3 := (STA.out.hb.cell (p := ⟨b, off + idx * 12 + 3, none⟩) hbw).trans YC.out.2.2.2.1
        have k4 := (STA.out.hb.cell (p := ⟨b, off + idx * 12 + 4, none⟩) hbw).trans YC.out.2.2.2.2.1
        have k5 := (STA.out.hb.cell (p := ⟨b, off + idx * 12 + 5, none⟩) hbw).trans YC.out.2.2.2.2.2.1
        have k6 := (STA.out.hb.cell (p := ⟨b, off + idx * 12 + 6, none⟩) hbw).trans YC.out.2.2.2.2.2.2.1
        have k7 := (STA.out.hb.cell (p := ⟨b, off + idx * 12 + 7, none⟩) hbw).trans YC.out.2.2.2.2.2.2.2.1
        have k8 := (STA.out.hb.cell (p := ⟨b, off + idx * 12 + 8, none⟩) hbw).trans YC.out.2.2.2.2.2.2.2.2.1
        have k9 := (STA.out.hb.cell (p := ⟨b, off + idx * 12 + 9, none⟩) hbw).trans YC.out.2.2.2.2.2.2.2.2.2.1
        have k10 := (STA.out.hb.cell (p := ⟨b, off + idx * 12 + 10, none⟩) hbw).trans YC.out.2.2.2.2.2.2.2.2.2.2.1
        have k11 := (STA.out.hb.cell (p := ⟨b, off + idx * 12 + 11, none⟩) hbw).trans YC.out.2.2.2.2.2.2.2.2.2.2.2
        have bf0 := cell_heap STA.out.hf 0 _ rfl
        have bf1 := cell_heap STA.out.hf 1 _ rfl
        have c5 : ∀ U, Below wa.heap.size wa U → Calls Try.prog 18 #[.agg #[.int .i64 1, .slice a1 zs.length c1], .agg #[.int .i64 t1, .int .i64 t2, .int .i64 t3, .int .i64 t4, .string t5, .string t6, .int .i64 t7, .int .i64 t8, .int .i64 t9, .int .i64 t10, .int .i64 t11, .int .i64 t12]] U fun e w' => DidP U 1 a1 c1 zs ys (.agg #[.int .i64 o1, .int .i64 g1, .int .i64 g2, .int .i64 g3, .int .i64 g4, .string g5, .string g6, .int .i64 g7, .int .i64 g8, .int .i64 g9, .bool o3, .int .i64 o4]) e w' := fun U hU => c3.out a1 c1 U (STA.out.rf.later hU)
        go_upto_region 9 with fail
        go_cut [6, 7, 18] from 18 to 52 (fun s6 s7 s18 wc => ∃ (ab xb : Nat) (a3 : Option Addr) (c3 : Nat), s6 = .pointer (some ⟨ab, 0, none⟩) ∧ s7 = .pointer (some ⟨xb, 0, none⟩) ∧ s18 = .int .i64 (idx : Int) ∧ Aside (PlSt w zs a1 c1 a2 c2 wc ∧ NewBox w ys a3 c3 ab wc ∧ wc.heap[xb]? = some (.cells #[.int .i64 o1, .int .i64 g1, .int .i64 g2, .int .i64 g3, .int .i64 g4, .string g5, .string g6, .int .i64 g7, .int .i64 g8, .int .i64 g9, .bool o3, .int .i64 o4] 41 (0, 0)) ∧ w.heap.size + 2 ≤ xb ))
        case first =>
          go_region_held3 (fun w3 => w3.cell? ⟨w.heap.size, 0, none⟩ = some (.int .i64 1) ∧ w3.cell? ⟨w.heap.size, 1, none⟩ = some (.slice a1 zs.length c1) ∧ w3.cell? ⟨b, off + idx * 12, none⟩ = some (.int .i64 t1) ∧ w3.cell? ⟨b, off + idx * 12 + 1, none⟩ = some (.int .i64 t2) ∧ w3.cell? ⟨b, off + idx * 12 + 2, none⟩ = some (.int .i64 t3) ∧ w3.cell? ⟨b, off + idx * 12 + 3, none⟩ = some (.int .i64 t4) ∧ w3.cell? ⟨b, off + idx * 12 + 4, none⟩ = some (.string t5) ∧ w3.cell? ⟨b, off + idx * 12 + 5, none⟩ = some (.string t6) ∧ w3.cell? ⟨b, off + idx * 12 + 6, none⟩ = some (.int .i64 t7) ∧ w3.cell? ⟨b, off + idx * 12 + 7, none⟩ = some (.int .i64 t8) ∧ w3.cell? ⟨b, off + idx * 12 + 8, none⟩ = some (.int .i64 t9) ∧ w3.cell? ⟨b, off + idx * 12 + 9, none⟩ = some (.int .i64 t10) ∧ w3.cell? ⟨b, off + idx * 12 + 10, none⟩ = some (.int .i64 t11) ∧ w3.cell? ⟨b, off + idx * 12 + 11, none⟩ = some (.int .i64 t12)) (first | (simp [go_sem, ↓IntWalk.iteOmega, *]; done))
            ((first | (go_at_call 18; refine (c5 _ (by (repeat (first | (with_reducible exact Below.refl _ _) | (with_reducible assumption) | (with_reducible refine below_to_plus ?_ ?_ _) | (with_reducible refine below_holds ?_ ?_ _ _) | (with_reducible refine Below.alloc ?_ ?_ _) | (with_reducible refine Below.drew ?_) | (with_reducible refine below_drewN ?_ _) | (with_reducible refine Below.setCell ?_ ?_ _))); (all_goals first | omega | (simp; done) | (simp [go_sem]; done) | (simp [go_sem]; omega)))).mono ?_; rintro e w2 ⟨a3, c3, rfl, hrow, hb⟩; have HRW : Aside (_) := hrow; clear hrow; obtain ⟨x5, hx⟩ := plus_of_below hb; subst hx; clear hb)))
          all_goals
            go_wp2_with fail
            go_meet
            refine ⟨_, _, a3, c3, rfl, rfl, rfl, (show _ ∧ _ ∧ _ ∧ _ from ⟨STA.out.later ?_, ⟨?_, ?_, ?_⟩, ?_, ?_⟩)⟩
            · repeat (first | (with_reducible exact Below.refl _ _) | (with_reducible assumption) | (with_reducible refine below_to_plus ?_ ?_ _) | (with_reducible refine below_holds ?_ ?_ _ _) | (with_reducible refine Below.alloc ?_ ?_ _) | (with_reducible refine Below.drew ?_) | (with_reducible refine below_drewN ?_ _) | (with_reducible refine Below.setCell ?_ ?_ _))
              all_goals first | omega | (simp; done) | (simp [go_sem]; done) | (simp [go_sem]; omega)
            · first | omega | (simp [size_plus]; omega)
            · repeat (first | exact hp_new (by first | rfl | (simp [size_plus]; done) | (simp [size_plus]; omega)) | refine hp_plus ?_ | refine hp_old ?_)
            · rcases HRW.out with ⟨h1, h2, h3⟩ | hh
              · subst h1 h2 h3
                refine STA.out.rf.later ?_
                repeat (first | (with_reducible exact Below.refl _ _) | (with_reducible assumption) | (with_reducible refine below_to_plus ?_ ?_ _) | (with_reducible refine below_holds ?_ ?_ _ _) | (with_reducible refine Below.alloc ?_ ?_ _) | (with_reducible refine Below.drew ?_) | (with_reducible refine below_drewN ?_ _) | (with_reducible refine Below.setCell ?_ ?_ _))
                all_goals first | omega | (simp; done) | (simp [go_sem]; done) | (simp [go_sem]; omega)
              · first | exact own_lower (own_alloc (own_alloc hh)) (by first | omega | (simp [size_plus]; omega)) | exact own_lower (own_alloc (own_past hh (Nat.le_refl _) (by simp [size_plus]))) (by first | omega | (simp [size_plus]; omega)) | exact own_lower (own_past hh (Nat.le_refl _) (by simp [size_plus])) (by first | omega | (simp [size_plus]; omega))
            · repeat (first | exact hp_new (by first | rfl | (simp [size_plus]; done) | (simp [size_plus]; omega)) | refine hp_plus ?_ | refine hp_old ?_)
            · first | omega | (simp [size_plus]; omega)
        case rest =>
          obtain ⟨pa, px, a5, c5x, rfl, rfl, rfl, HA⟩ := hcut
          obtain ⟨wb, rfl⟩ : ∃ wb : World, wb = wc := ⟨_, rfl⟩
          have STB : Aside (PlSt w zs a1 c1 a2 c2 wb) := HA.out.1
          have hsz : w.heap.size + 2 ≤ wb.heap.size := by have := (Array.getElem?_eq_some_iff.1 STB.out.hg).1; omega
          have hbr : b < wb.heap.size := Nat.lt_of_lt_of_le hbw STB.out.hb.size
          have k0 := (STB.out.hb.cell (p := ⟨b, off + idx * 12, none⟩) hbw).trans YC.out.1
          have k1 := (STB.out.hb.cell (p := ⟨b, off + idx * 12 + 1, none⟩) hbw).trans YC.out.2.1
          have k2 := (STB.out.hb.cell (p := ⟨b, off + idx * 12 + 2, none⟩) hbw).trans YC.out.2.2.1
          have k3 := (STB.out.hb.cell (p := ⟨b, off + idx * 12 + 3, none⟩) hbw).trans YC.out.2.2.2.1
          have k4 := (STB.out.hb.cell (p := ⟨b, off + idx * 12 + 4, none⟩) hbw).trans YC.out.2.2.2.2.1
          have k5 := (STB.out.hb.cell (p := ⟨b, off + idx * 12 + 5, none⟩) hbw).trans YC.out.2.2.2.2.2.1
          have k6 := (STB.out.hb.cell (p := ⟨b, off + idx * 12 + 6, none⟩) hbw).trans YC.out.2.2.2.2.2.2.1
          have k7 := (STB.out.hb.cell (p := ⟨b, off + idx * 12 + 7, none⟩) hbw).trans YC.out.2.2.2.2.2.2.2.1
          have k8 := (STB.out.hb.cell (p := ⟨b, off + idx * 12 + 8, none⟩) hbw).trans YC.out.2.2.2.2.2.2.2.2.1
          have k9 := (STB.out.hb.cell (p := ⟨b, off + idx * 12 + 9, none⟩) hbw).trans YC.out.2.2.2.2.2.2.2.2.2.1
          have k10 := (STB.out.hb.cell (p := ⟨b, off + idx * 12 + 10, none⟩) hbw).trans YC.out.2.2.2.2.2.2.2.2.2.2.1
          have k11 := (STB.out.hb.cell (p := ⟨b, off + idx * 12 + 11, none⟩) hbw).trans YC.out.2.2.2.2.2.2.2.2.2.2.2
          have bg0 := cell_heap STB.out.hg 0 _ rfl
          have bg1 := cell_heap STB.out.hg 1 _ rfl
          have c6 : ∀ U, Below wb.heap.size wb U → Calls Try.prog 19 #[.agg #[.int .i64 1, .slice a2 zs.length c2], .agg #[.int .i64 t1, .int .i64 t2, .int .i64 t3, .int .i64 t4, .string t5, .string t6, .int .i64 t7, .int .i64 t8, .int .i64 t9, .int .i64 t10, .int .i64 t11, .int .i64 t12]] U fun e w' => DidP U 1 a2 c2 zs ys (.agg #[.int .i64 o1, .int .i64 g1, .int .i64 g2, .int .i64 g3, .int .i64 g4, .string g5, .string g6, .int .i64 g7, .int .i64 g8, .int .i64 g9, .bool o3, .int .i64 o4]) e w' := fun U hU => c4.out a2 c2 U (STB.out.rg.later hU)
          go_upto_region 10 with fail
          go_cut [8, 9, 18] from 18 to 52 (fun s8 s9 s18 wc => ∃ (ab xb : Nat) (a3 : Option Addr) (c3 : Nat), s8 = .pointer (some ⟨ab, 0, none⟩) ∧ s9 = .pointer (some ⟨xb, 0, none⟩) ∧ s18 = .int .i64 (idx : Int) ∧ Aside (PlSt w zs a1 c1 a2 c2 wc ∧ NewBox w ys a3 c3 ab wc ∧ wc.heap[xb]? = some (.cells #[.int .i64 o1, .int .i64 g1, .int .i64 g2, .int .i64 g3, .int .i64 g4, .string g5, .string g6, .int .i64 g7, .int .i64 g8, .int .i64 g9, .bool o3, .int .i64 o4] 41 (0, 0)) ∧ w.heap.size + 2 ≤ xb ∧ NewBox w ys a5 c5x pa wc ∧ wc.heap[px]? = some (.cells #[.int .i64 o1, .int .i64 g1, .int .i64 g2, .int .i64 g3, .int .i64 g4, .string g5, .string g6, .int .i64 g7, .int .i64 g8, .int .i64 g9, .bool o3, .int .i64 o4] 41 (0, 0)) ∧ w.heap.size + 2 ≤ px))
          case first =>
            go_region_held3 (fun w3 => w3.cell? ⟨w.heap.size + 1, 0, none⟩ = some (.int .i64 1) ∧ w3.cell? ⟨w.heap.size + 1, 1, none⟩ = some (.slice a2 zs.length c2) ∧ w3.cell? ⟨b, off + idx * 12, none⟩ = some (.int .i64 t1) ∧ w3.cell? ⟨b, off + idx * 12 + 1, none⟩ = some (.int .i64 t2) ∧ w3.cell? ⟨b, off + idx * 12 + 2, none⟩ = some (.int .i64 t3) ∧ w3.cell? ⟨b, off + idx * 12 + 3, none⟩ = some (.int .i64 t4) ∧ w3.cell? ⟨b, off + idx * 12 + 4, none⟩ = some (.string t5) ∧ w3.cell? ⟨b, off + idx * 12 + 5, none⟩ = some (.string t6) ∧ w3.cell? ⟨b, off + idx * 12 + 6, none⟩ = some (.int .i64 t7) ∧ w3.cell? ⟨b, off + idx * 12 + 7, none⟩ = some (.int .i64 t8) ∧ w3.cell? ⟨b, off + idx * 12 + 8, none⟩ = some (.int .i64 t9) ∧ w3.cell? ⟨b, off + idx * 12 + 9, none⟩ = some (.int .i64 t10) ∧ w3.cell? ⟨b, off + idx * 12 + 10, none⟩ = some (.int .i64 t11) ∧ w3.cell? ⟨b, off + idx * 12 + 11, none⟩ = some (.int .i64 t12)) (first | (simp [go_sem, ↓IntWalk.iteOmega, *]; done))
              ((first | (go_at_call 19; refine (c6 _ (by (repeat (first | (with_reducible exact Below.refl _ _) | (with_reducible assumption) | (with_reducible refine below_to_plus ?_ ?_ _) | (with_reducible refine below_holds ?_ ?_ _ _) | (with_reducible refine Below.alloc ?_ ?_ _) | (with_reducible refine Below.drew ?_) | (with_reducible refine below_drewN ?_ _) | (with_reducible refine Below.setCell ?_ ?_ _))); (all_goals first | omega | (simp; done) | (simp [go_sem]; done) | (simp [go_sem]; omega)))).mono ?_; rintro e w2 ⟨a3, c3, rfl, hrow, hb⟩; have HRW : Aside (_) := hrow; clear hrow; obtain ⟨x5, hx⟩ := plus_of_below hb; subst hx; clear hb)))
            all_goals
              go_wp2_with fail
              go_meet
              refine ⟨_, _, a3, c3, rfl, rfl, rfl, (show _ ∧ _ ∧ _ ∧ _ ∧ _ ∧ _ ∧ _ from ⟨STB.out.later ?_, ⟨?_, ?_, ?_⟩, ?_, ?_, ?_, ?_, ?_⟩)⟩
              · repeat (first | (with_reducible exact Below.refl _ _) | (with_reducible assumption) | (with_reducible refine below_to_plus ?_ ?_ _) | (with_reducible refine below_holds ?_ ?_ _ _) | (with_reducible refine Below.alloc ?_ ?_ _) | (with_reducible refine Below.drew ?_) | (with_reducible refine below_drewN ?_ _) | (with_reducible refine Below.setCell ?_ ?_ _))
                all_goals first | omega | (simp; done) | (simp [go_sem]; done) | (simp [go_sem]; omega)
              · first | omega | (simp [size_plus]; omega)
              · repeat (first | exact hp_new (by first | rfl | (simp [size_plus]; done) | (simp [size_plus]; omega)) | refine hp_plus ?_ | refine hp_old ?_)
              · rcases HRW.out with ⟨h1, h2, h3⟩ | hh
                · subst h1 h2 h3
                  refine STB.out.rg.later ?_
                  repeat (first | (with_reducible exact Below.refl _ _) | (with_reducible assumption) | (with_reducible refine below_to_plus ?_ ?_ _) | (with_reducible refine below_holds ?_ ?_ _ _) | (with_reducible refine Below.alloc ?_ ?_ _) | (with_reducible refine Below.drew ?_) | (with_reducible refine below_drewN ?_ _) | (with_reducible refine Below.setCell ?_ ?_ _))
                  all_goals first | omega | (simp; done) | (simp [go_sem]; done) | (simp [go_sem]; omega)
                · first | exact own_lower (own_alloc (own_alloc hh)) (by first | omega | (simp [size_plus]; omega)) | exact own_lower (own_alloc (own_past hh (Nat.le_refl _) (by simp [size_plus]))) (by first | omega | (simp [size_plus]; omega)) | exact own_lower (own_past hh (Nat.le_refl _) (by simp [size_plus])) (by first | omega | (simp [size_plus]; omega))
              · repeat (first | exact hp_new (by first | rfl | (simp [size_plus]; done) | (simp [size_plus]; omega)) | refine hp_plus ?_ | refine hp_old ?_)
              · first | omega | (simp [size_plus]; omega)
              · refine HA.out.2.1.later ?_
                repeat (first | (with_reducible exact Below.refl _ _) | (with_reducible assumption) | (with_reducible refine below_to_plus ?_ ?_ _) | (with_reducible refine below_holds ?_ ?_ _ _) | (with_reducible refine Below.alloc ?_ ?_ _) | (with_reducible refine Below.drew ?_) | (with_reducible refine below_drewN ?_ _) | (with_reducible refine Below.setCell ?_ ?_ _))
                all_goals first | omega | (simp; done) | (simp [go_sem]; done) | (simp [go_sem]; omega)
              · refine heap_later HA.out.2.2.1 ?_
                repeat (first | (with_reducible exact Below.refl _ _) | (with_reducible assumption) | (with_reducible refine below_to_plus ?_ ?_ _) | (with_reducible refine below_holds ?_ ?_ _ _) | (with_reducible refine Below.alloc ?_ ?_ _) | (with_reducible refine Below.drew ?_) | (with_reducible refine below_drewN ?_ _) | (with_reducible refine Below.setCell ?_ ?_ _))
                all_goals first | omega | (simp; done) | (simp [go_sem]; done) | (simp [go_sem]; omega)
              · exact HA.out.2.2.2
          case rest =>
            obtain ⟨bb, yb, a4, c4x, rfl, rfl, rfl, HB⟩ := hcut
            obtain ⟨wd, rfl⟩ : ∃ wd : World, wd = wc := ⟨_, rfl⟩
            have hf := HB.out.1.hf
            have hg := HB.out.1.hg
            have hab := HB.out.2.2.2.2.1.1
            have hbb := HB.out.2.1.1
            have haB := HB.out.2.2.2.2.1.2.1
            have hbB := HB.out.2.1.2.1
            have ha0 := cell_heap haB 0 _ rfl
            have ha1 := cell_heap haB 1 _ rfl
            have hb0 := cell_heap hbB 0 _ rfl
            have hb1 := cell_heap hbB 1 _ rfl
            have x0 := cell_heap HB.out.2.2.2.2.2.1 0 _ rfl
            have y0 := cell_heap HB.out.2.2.1 0 _ rfl
            have x1 := cell_heap HB.out.2.2.2.2.2.1 1 _ rfl
            have y1 := cell_heap HB.out.2.2.1 1 _ rfl
            have x2 := cell_heap HB.out.2.2.2.2.2.1 2 _ rfl
            have y2 := cell_heap HB.out.2.2.1 2 _ rfl
            have x3 := cell_heap HB.out.2.2.2.2.2.1 3 _ rfl
            have y3 := cell_heap HB.out.2.2.1 3 _ rfl
            have x4 := cell_heap HB.out.2.2.2.2.2.1 4 _ rfl
            have y4 := cell_heap HB.out.2.2.1 4 _ rfl
            have x5 := cell_heap HB.out.2.2.2.2.2.1 5 _ rfl
            have y5 := cell_heap HB.out.2.2.1 5 _ rfl
            have x6 := cell_heap HB.out.2.2.2.2.2.1 6 _ rfl
            have y6 := cell_heap HB.out.2.2.1 6 _ rfl
            have x7 := cell_heap HB.out.2.2.2.2.2.1 7 _ rfl
            have y7 := cell_heap HB.out.2.2.1 7 _ rfl
            have x8 := cell_heap HB.out.2.2.2.2.2.1 8 _ rfl
            have y8 := cell_heap HB.out.2.2.1 8 _ rfl
            have x9 := cell_heap HB.out.2.2.2.2.2.1 9 _ rfl
            have y9 := cell_heap HB.out.2.2.1 9 _ rfl
            have x10 := cell_heap HB.out.2.2.2.2.2.1 10 _ rfl
            have y10 := cell_heap HB.out.2.2.1 10 _ rfl
            have x11 := cell_heap HB.out.2.2.2.2.2.1 11 _ rfl
            have y11 := cell_heap HB.out.2.2.1 11 _ rfl
            have n1 : ¬ pa = w.heap.size := by omega
            have n2 : ¬ pa = w.heap.size + 1 := by omega
            have n3 : ¬ bb = w.heap.size := by omega
            have n4 : ¬ bb = w.heap.size + 1 := by omega
            have n5 : ¬ px = w.heap.size := by have := HB.out.2.2.2.2.2.2; omega
            have n6 : ¬ px = w.heap.size + 1 := by have := HB.out.2.2.2.2.2.2; omega
            have n7 : ¬ yb = w.heap.size := by have := HB.out.2.2.2.1; omega
            have n8 : ¬ yb = w.heap.size + 1 := by have := HB.out.2.2.2.1; omega
            have s1 : w.heap.size < wd.heap.size := (Array.getElem?_eq_some_iff.1 hf).1
            have s2 : w.heap.size + 1 < wd.heap.size := (Array.getElem?_eq_some_iff.1 hg).1
            have s3 : pa < wd.heap.size := (Array.getElem?_eq_some_iff.1 haB).1
            have s4 : bb < wd.heap.size := (Array.getElem?_eq_some_iff.1 hbB).1
            rw [holds_add (holds_self hf) hg]
            clear hf hg haB hbB
            go_wp2
            go_region
            all_goals go_wp2
            all_goals go_roundg (gk - 1)
            case measure => omega
            case rel =>
              refine ⟨idx + 1, a5, c5x, a4, c4x, ys, by simp, by omega, ⟨HZ.out, ?_, ?_, ?_, ?_, ?_⟩⟩
              · rw [heap_holds, if_neg (fun e => by omega), heap_holds, if_pos ⟨rfl, s1⟩]
              · rw [heap_holds, if_pos ⟨rfl, by rw [size_holds]; exact s2⟩]
              · exact ((HB.out.2.2.2.2.1.2.2.later ((Below.refl _ _).drew)).holds (by omega)).holds (by omega)
              · exact ((HB.out.2.1.2.2.later ((Below.refl _ _).drew)).holds (by omega)).holds (by omega)
              · exact below_holds (below_holds HB.out.1.hb.drew (Nat.le_refl _) _ _) (by omega) _ _
    · have hiz : ¬ (idx : Int) < (n : Int) := by omega
      have bf0 := cell_heap ST.out.hf 0 _ rfl
      have bf1 := cell_heap ST.out.hf 1 _ rfl
      have bg0 := cell_heap ST.out.hg 0 _ rfl
      have bg1 := cell_heap ST.out.hg 1 _ rfl
      have c5 := same_calls 1 1 a1 a2 zs.length c1 zs.length c2 zs zs wr ST.out.rf.sl ST.out.rg.sl
      rw [(same_iff 1 zs 1 zs).2 ⟨rfl, rfl⟩] at c5
      have c6 := fun x => right_calls 1 a1 zs.length c1 zs (plus wr x) (ST.out.rf.sl.stays (below_plus _ _)) (did_fit ST.out.right)
      rw [(rightB_iff 1 zs).2 ST.out.right] at c6
      have HBW : Aside (Below w.heap.size w wr) := ST.out.hb
      clear ST HC HT
      go_wp2_with fail
      refine (c5).mono ?_
      rintro e w2 ⟨rfl, hb⟩
      obtain ⟨x1, rfl⟩ := plus_of_below hb
      clear hb
      clear c5
      go_wp2_with fail
      refine (c6 _).mono ?_
      rintro e w2 ⟨rfl, hb⟩
      obtain ⟨x2, rfl⟩ := plus_next hb
      clear hb
      clear c6
      go_wp2_with fail
      refine (awake_calls _).mono ?_
      rintro e w2 ⟨rfl, hb⟩
      obtain ⟨x3, rfl⟩ := plus_next hb
      clear hb
      go_wp2
      go_ret
      exact ⟨rfl, below_to_plus HBW.out HBW.out.size _⟩

end Go.Proofs.Ytbifanenoejjgaa
