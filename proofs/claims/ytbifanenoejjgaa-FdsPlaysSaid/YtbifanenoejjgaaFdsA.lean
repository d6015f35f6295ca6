/- This text gives the plain descriptor and the walks of slices.IndexFunc, ContainsFunc and Clone at descriptors. Conditions: those that each theorem names. -/
import Derived.Test.YtbifanenoejjgaaFlat
import Derived.Shelf.SlicesQ.IndexFunc
namespace Go.Proofs.Ytbifanenoejjgaa
open Go.ChangeShapes Go.WideShapes Go.ChangeAt Go.RowKit
set_option linter.unusedVariables false

structure Fd where
  num : Int
  dev : Int
  id : Int
  fid : Int
  path : ByteArray
  name : ByteArray
  mode : Int
  offset : Int
  copy : Int
instance : Inhabited Fd := ⟨⟨0, 0, 0, 0, .empty, .empty, 0, 0, 0⟩⟩
def Fd.enc (x : Fd) : List Value := [.int .i64 x.num, .int .i64 x.dev, .int .i64 x.id, .int .i64 x.fid, .string x.path, .string x.name, .int .i64 x.mode, .int .i64 x.offset, .int .i64 x.copy]
def Fd.val (x : Fd) : Value := .agg #[.int .i64 x.num, .int .i64 x.dev, .int .i64 x.id, .int .i64 x.fid, .string x.path, .string x.name, .int .i64 x.mode, .int .i64 x.offset, .int .i64 x.copy]
theorem fd_len (x : Fd) : x.enc.length = 9 := rfl
theorem fd_one (x : Fd) : ∀ u ∈ x.enc, u.oneCell' = true := by
  intro u hu
  simp only [Fd.enc, List.mem_cons, List.not_mem_nil, or_false] at hu
  rcases hu with rfl | rfl | rfl | rfl | rfl | rfl | rfl | rfl | rfl <;> rfl
/-- The cells of a slice of these elements. -/
def CellsFd (W : World) (ao : Option Addr) (ys : List Fd) : Prop := ∀ j, j < ys.length → ∃ b off, ao = some ⟨b, off, none⟩ ∧ b < W.heap.size ∧ W.cell? ⟨b, off + j * 9, none⟩ = some (.int .i64 ys[j]!.num) ∧ W.cell? ⟨b, off + j * 9 + 1, none⟩ = some (.int .i64 ys[j]!.dev) ∧ W.cell? ⟨b, off + j * 9 + 2, none⟩ = some (.int .i64 ys[j]!.id) ∧ W.cell? ⟨b, off + j * 9 + 3, none⟩ = some (.int .i64 ys[j]!.fid) ∧ W.cell? ⟨b, off + j * 9 + 4, none⟩ = some (.string ys[j]!.path) ∧ W.cell? ⟨b, off + j * 9 + 5, none⟩ = some (.string ys[j]!.name) ∧ W.cell? ⟨b, off + j * 9 + 6, none⟩ = some (.int .i64 ys[j]!.mode) ∧ W.cell? ⟨b, off + j * 9 + 7, none⟩ = some (.int .i64 ys[j]!.offset) ∧ W.cell? ⟨b, off + j * 9 + 8, none⟩ = some (.int .i64 ys[j]!.copy)
theorem cellsFd {W : World} {ao : Option Addr} {n cap : Nat} {ys : List Fd} (h : Sl W 9 ao n cap (ys.map Fd.enc)) : CellsFd W ao ys := by
  intro j hj
  have hl := Sl.lenE h
  obtain ⟨b, off, rfl, hb, hc⟩ := h.here (by omega)
  have hx : (ys.map Fd.enc)[j]? = some ys[j]!.enc := by rw [List.getElem?_map, List.getElem?_eq_getElem hj, getElem!_pos ys j hj]; rfl
  exact ⟨b, off, rfl, hb, hc j _ hx 0 _ rfl, hc j _ hx 1 _ rfl, hc j _ hx 2 _ rfl, hc j _ hx 3 _ rfl, hc j _ hx 4 _ rfl, hc j _ hx 5 _ rfl, hc j _ hx 6 _ rfl, hc j _ hx 7 _ rfl, hc j _ hx 8 _ rfl⟩
theorem CellsFd.later {W W' : World} {ao : Option Addr} {ys : List Fd} (h : CellsFd W ao ys) (hb : Below W.heap.size W W') : CellsFd W' ao ys := fun j hj => by
  obtain ⟨b, off, e, hlt, h0, h1, h2, h3, h4, h5, h6, h7, h8⟩ := h j hj
  exact ⟨b, off, e, Nat.lt_of_lt_of_le hlt hb.size, (hb.cell (p := ⟨b, off + j * 9, none⟩) hlt).trans h0, (hb.cell (p := ⟨b, off + j * 9 + 1, none⟩) hlt).trans h1, (hb.cell (p := ⟨b, off + j * 9 + 2, none⟩) hlt).trans h2, (hb.cell (p := ⟨b, off + j * 9 + 3, none⟩) hlt).trans h3, (hb.cell (p := ⟨b, off + j * 9 + 4, none⟩) hlt).trans h4, (hb.cell (p := ⟨b, off + j * 9 + 5, none⟩) hlt).trans h5, (hb.cell (p := ⟨b, off + j * 9 + 6, none⟩) hlt).trans h6, (hb.cell (p := ⟨b, off + j * 9 + 7, none⟩) hlt).trans h7, (hb.cell (p := ⟨b, off + j * 9 + 8, none⟩) hlt).trans h8⟩
theorem fdLeaves : leavesOf Try.prog 8 30 = some [some (some .i64), some (some .i64), some (some .i64), some (some .i64), some none, some none, some (some .i64), some (some .i64), some (some .i64)] := by kernel_rfl
/-- What the leaves tell of an element: strings are no longer than an int says. -/
def Fd.fit (x : Fd) : Prop := x.path.size ≤ maxLen ∧ x.name.size ≤ maxLen ∧ (Lit.int .i64 x.num).wf = true ∧ (Lit.int .i64 x.dev).wf = true ∧ (Lit.int .i64 x.id).wf = true ∧ (Lit.int .i64 x.fid).wf = true ∧ (Lit.int .i64 x.mode).wf = true ∧ (Lit.int .i64 x.offset).wf = true ∧ (Lit.int .i64 x.copy).wf = true
theorem fd_cells (l : List Value) (h0 : leavesOk [some (some .i64), some (some .i64), some (some .i64), some (some .i64), some none, some none, some (some .i64), some (some .i64), some (some .i64)] l) : ∃ y : Fd, l = y.enc ∧ y.fit := by
  obtain ⟨a0, r0, e0, ⟨v0, rfl, g0⟩, h1⟩ := leavesOk_cons h0
  obtain ⟨a1, r1, e1, ⟨v1, rfl, g1⟩, h2⟩ := leavesOk_cons h1
  obtain ⟨a2, r2, e2, ⟨v2, rfl, g2⟩, h3⟩ := leavesOk_cons h2
  obtain ⟨a3, r3, e3, ⟨v3, rfl, g3⟩, h4⟩ := leavesOk_cons h3
  obtain ⟨a4, r4, e4, ⟨v4, rfl, g4⟩, h5⟩ := leavesOk_cons h4
  obtain ⟨a5, r5, e5, ⟨v5, rfl, g5⟩, h6⟩ := leavesOk_cons h5
  obtain ⟨a6, r6, e6, ⟨v6, rfl, g6⟩, h7⟩ := leavesOk_cons h6
  obtain ⟨a7, r7, e7, ⟨v7, rfl, g7⟩, h8⟩ := leavesOk_cons h7
  obtain ⟨a8, r8, e8, ⟨v8, rfl, g8⟩, h9⟩ := leavesOk_cons h8
  have e9 := leavesOk_nil h9
  exact ⟨⟨v0, v1, v2, v3, v4, v5, v6, v7, v8⟩, by rw [e0, e1, e2, e3, e4, e5, e6, e7, e8, e9]; rfl, ⟨g4, g5, g0, g1, g2, g3, g6, g7, g8⟩⟩
theorem fds_of : ∀ (xs : List (List Value)), (∀ x ∈ xs, leavesOk [some (some .i64), some (some .i64), some (some .i64), some (some .i64), some none, some none, some (some .i64), some (some .i64), some (some .i64)] x) → ∃ ys : List Fd, xs = ys.map Fd.enc ∧ ∀ y ∈ ys, y.fit
  | [], _ => ⟨[], rfl, fun y h => by cases h⟩
  | x :: xs, h => by
    obtain ⟨y, rfl, hy⟩ := fd_cells x (h x (by simp))
    obtain ⟨ys, rfl, hys⟩ := fds_of xs (fun z hz => h z (by simp [hz]))
    exact ⟨y :: ys, rfl, fun z hz => by
      rcases List.mem_cons.1 hz with e | hz'
      · rw [e]; exact hy
      · exact hys z hz'⟩
theorem fdInfo : ∃ i0 : TypeInfo, Try.prog.info? 30 = some i0 ∧ i0.zero = some (.agg #[.int .i64 0, .int .i64 0, .int .i64 0, .int .i64 0, .string ⟨#[]⟩, .string ⟨#[]⟩, .int .i64 0, .int .i64 0, .int .i64 0]) ∧ i0.size = 9 ∧ i0.bytes = 88 := by
  have h : (Try.prog.info? 30).map (fun i => (i.zero, i.size, i.bytes)) = some (some (.agg #[.int .i64 0, .int .i64 0, .int .i64 0, .int .i64 0, .string ⟨#[]⟩, .string ⟨#[]⟩, .int .i64 0, .int .i64 0, .int .i64 0]), 9, 88) := by kernel_rfl
  cases hi : Try.prog.info? 30 with
  | none => rw [hi] at h; cases h
  | some i0 =>
    rw [hi] at h
    simp only [Option.map_some, Option.some.injEq, Prod.mk.injEq] at h
    exact ⟨i0, rfl, h.1, h.2.1, h.2.2⟩

set_option maxHeartbeats 4000000 in
theorem fdIndexFunc_calls (p : Fd → Bool) (g : Nat) (lb : Array Value) (eg : ∀ args w, (callFunc g args).run Try.prog w = .ok (.enter g args) w) (ao : Option Addr) (n cap : Nat) (xs : List Fd) (w : World)
    (h : Sl w 9 ao n cap (xs.map Fd.enc)) (hp : PredE Try.prog g lb Fd.val p w) :
    Calls Try.prog 45 #[.slice ao n cap, .func (.func g) #[] lb] w fun e w' => e = .returned (.int .i64 (Lib.idxBy (fun _ y => p y) xs default)) ∧ Below w.heap.size w w' := by
  have hbig : n ≤ 9223372036854775807 := Nat.le_trans h.hcap h.hmax
  have hln := Sl.lenE h
  have HC : Aside (CellsFd w ao xs) := cellsFd h
  clear h
  go_enter Try.func45, Try.ntmps45
  go_wp2
  go_loopg [5, 8] n (fun gg _ s8 wr => ∃ kk : Nat, kk ≤ n ∧ n - kk ≤ gg ∧ s8 = .int .i64 kk ∧ Aside (Below w.heap.size w wr) ∧ Aside (∀ j, j < kk → p xs[j]! = false))
  case atStart => exact ⟨0, Nat.zero_le _, by omega, rfl, Below.refl _ w, fun j hj => absurd hj (Nat.not_lt_zero _)⟩
  case round =>
    obtain ⟨kk, hkk, hg, rfl, BW, A⟩ := hrel
    by_cases hlt : kk < n
    · have hltz : (kk : Int) < (n : Int) := by omega
      obtain ⟨b, off, rfl, hb, q0, q1, q2, q3, q4, q5, q6, q7, q8⟩ := HC.out kk (by omega)
      have l0 := (BW.out.cell (p := ⟨b, off + kk * 9, none⟩) hb).trans q0
      have l1 := (BW.out.cell (p := ⟨b, off + kk * 9 + 1, none⟩) hb).trans q1
      have l2 := (BW.out.cell (p := ⟨b, off + kk * 9 + 2, none⟩) hb).trans q2
      have l3 := (BW.out.cell (p := ⟨b, off + kk * 9 + 3, none⟩) hb).trans q3
      have l4 := (BW.out.cell (p := ⟨b, off + kk * 9 + 4, none⟩) hb).trans q4
      have l5 := (BW.out.cell (p := ⟨b, off + kk * 9 + 5, none⟩) hb).trans q5
      have l6 := (BW.out.cell (p := ⟨b, off + kk * 9 + 6, none⟩) hb).trans q6
      have l7 := (BW.out.cell (p := ⟨b, off + kk * 9 + 7, none⟩) hb).trans q7
      have l8 := (BW.out.cell (p := ⟨b, off + kk * 9 + 8, none⟩) hb).trans q8
      have hcall := hp wr xs[kk]! BW.out
      clear hp HC q0 q1 q2 q3 q4 q5 q6 q7 q8
      generalize hy : xs[kk]! = y at l0 l1 l2 l3 l4 l5 l6 l7 l8 hcall
      have B : Aside (xs[kk]! = y) := hy
      clear hy
      have hcall' : Calls Try.prog g (#[.agg #[.int .i64 y.num, .int .i64 y.dev, .int .i64 y.id, .int .i64 y.fid, .string y.path, .string y.name, .int .i64 y.mode, .int .i64 y.offset, .int .i64 y.copy]] ++ lb) wr fun e w' => e = .returned (.bool (p y)) ∧ Below wr.heap.size wr w' := hcall
      clear hcall
      cases hq : p y with
      | true =>
        rw [hq] at hcall'
        go_wp2_with (go_at_fn g; refine hcall'.mono ?_; rintro e w' ⟨rfl, hb'⟩)
        go_ret
        refine ⟨?_, BW.out.trans (hb'.mono BW.out.size)⟩
        rw [← List.take_of_length_le (Nat.le_of_eq hln), Lib.idxBy_hit (fun _ y => p y) xs n kk default hlt (by omega) (by show p xs[kk]! = true; rw [B.out]; exact hq) A.out]
        rfl
      | false =>
        rw [hq] at hcall'
        go_wp2_with (go_at_fn g; refine hcall'.mono ?_; rintro e w' ⟨rfl, hb'⟩)
        go_roundg (n - (kk + 1))
        case measure => omega
        case rel =>
          refine ⟨kk + 1, by omega, by omega, by go_num, BW.out.trans (hb'.mono BW.out.size), (show Aside _ from fun j hj => ?_)⟩
          by_cases e : j = kk
          · subst e
            rw [B.out]; exact hq
          · exact A.out j (by omega)
    · have hltz : ¬ (kk : Int) < (n : Int) := by omega
      have : kk = n := by omega
      subst this
      clear HC
      go_wp2
      go_ret
      refine ⟨?_, BW.out⟩
      rw [← List.take_of_length_le (Nat.le_of_eq hln), Lib.idxBy_miss (fun _ y => p y) xs kk default A.out]
      rfl

theorem fdContainsFunc_calls (p : Fd → Bool) (g : Nat) (lb : Array Value) (eg : ∀ args w, (callFunc g args).run Try.prog w = .ok (.enter g args) w) (ao : Option Addr) (n cap : Nat) (xs : List Fd) (w : World)
    (h : Sl w 9 ao n cap (xs.map Fd.enc)) (hp : PredE Try.prog g lb Fd.val p w) :
    Calls Try.prog 42 #[.slice ao n cap, .func (.func g) #[] lb] w fun e w' => e = .returned (.bool (xs.any p)) ∧ Below w.heap.size w w' := by
  rw [show xs.any p = decide (0 ≤ Lib.idxBy (fun _ y => p y) xs default) from (Lib.idxBy_nonneg_iff (fun _ y => p y) xs default).symm]
  have hi := fdIndexFunc_calls p g lb eg ao n cap xs w h hp
  clear h hp
  generalize Lib.idxBy (fun _ y => p y) xs default = r at hi ⊢
  go_enter Try.func42, Try.ntmps42
  go_wp2_with (go_at_call 45; refine hi.mono ?_; rintro e w' ⟨rfl, hb'⟩)
  go_ret
  exact ⟨rfl, hb'⟩

set_option maxHeartbeats 1000000 in
theorem fdClone_calls (ao : Option Addr) (n cap : Nat) (xs : List Fd) (w : World) (h : Sl w 9 ao n cap (xs.map Fd.enc)) (hn : n ≤ 1000000) :
    Calls Try.prog 30 #[.slice ao n cap] w fun e w' => ∃ v', e = .returned v' ∧ w'.ownsRow w.heap.size 30 9 v' n (flatE Fd.enc xs) ∧ Below w.heap.size w w' := by
  have q22 : ∀ (w : World) (a : Option Addr) (n c n' c' : Nat), (binOp .eql 22 (.slice a n c) (.slice none n' c')).run Try.prog w = .ok (.bool a.isNone) w := fun w a n c n' c' => Lib.run_eql_slice_nil w _ _ a n c n' c' Try.underlying22
  have hln := Sl.lenE h
  cases ao with
  | none =>
    have hc0 := h.hnil rfl
    have h0 : n = 0 := by have := h.hcap; omega
    subst hc0
    subst h0
    have hxs : xs = [] := List.eq_nil_of_length_eq_zero hln
    subst hxs
    clear h
    go_enter Try.func30, Try.ntmps30
    go_wp2
    go_ret
    exact ⟨_, rfl, World.ownsRow_nil _ _ _ _, Below.refl _ _⟩
  | some a =>
    obtain ⟨i0, hi, hz, hs4, hby⟩ := fdInfo
    have A : Aside (∀ j u, (flatE Fd.enc xs)[j]? = some u → w.cell? (a.add j) = some u) := by
      intro j u hu
      by_cases h0 : n = 0
      · have hxs : xs = [] := List.eq_nil_of_length_eq_zero (by omega)
        subst hxs
        cases hu
      · obtain ⟨b, off, e, _, _⟩ := h.here (by omega)
        cases e
        rw [Addr.add_lit]
        exact Sl.cellsE fd_len (by omega) h j u hu
    have HL : Aside ((flatE Fd.enc xs).length = n * 9) := by show _ = _; rw [flatE_length fd_len, hln]
    clear h
    go_enter Try.func30, Try.ntmps30
    go_wp2_with (at_builtin; refine wpList_append_own _ rfl _ _ 22 rfl w.heap.size 30 i0 _ 9 88 Try.underlying22 hi hz hs4 hby rfl (by omega) _ _ _ rfl (World.ownsRow_made w #[] 0 (Nat.le_refl _) (Nat.zero_le _) (by simp)) a n cap (flatE Fd.enc xs) rfl ?qc1 ?qc2 ?qc3 ?qc4 ?qc5 ?qc6 ?_)
    case qc1 => exact HL.out
    case qc2 =>
      intro j u hj
      exact Lib.cell?_alloc_some _ (A.out j u hj)
    case qc3 => exact flatE_cells fd_one xs
    case qc4 => unfold maxLen; omega
    case qc5 => omega
    case qc6 => simp
    intro v' w1 hown hgrow hnil
    go_wp2
    go_ret
    refine ⟨v', rfl, by simpa using hown, ?_⟩
    exact ((Below.refl _ w).alloc (Nat.le_refl _) _).grown hgrow (by simp) (by intro k hk; simp [Value.ownBlock] at hk; omega)

end Go.Proofs.Ytbifanenoejjgaa
