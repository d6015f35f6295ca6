/- This text gives the plain instruction of a regular expression, and the walk of slices.Insert at instructions. Conditions: those that each theorem names. -/
import Derived.Test.YtfhccmegobbnaaaFlat
import Derived.Test.YtfhccmegobbnaaaRow
import Derived.Lib.SliceRun
import Derived.Lib.Overlaps
import Derived.ArgAppend
namespace Go.Proofs.Ytfhccmegobbnaaa
open Go.ChangeShapes Go.WideShapes Go.ChangeAt Go.RowKit
set_option linter.unusedVariables false
set_option linter.unusedSimpArgs false

structure In where
  op : Int
  c : Int
  set : ByteArray
  nt : Bool
  x : Int
  y : Int
instance : Inhabited In := ⟨⟨0, 0, .empty, false, 0, 0⟩⟩
def In.enc (x : In) : List Value := [.int .i64 x.op, .int .u8 x.c, .string x.set, .bool x.nt, .int .i64 x.x, .int .i64 x.y]
def In.val (x : In) : Value := .agg #[.int .i64 x.op, .int .u8 x.c, .string x.set, .bool x.nt, .int .i64 x.x, .int .i64 x.y]
theorem in_len (x : In) : x.enc.length = 6 := rfl
theorem in_one (x : In) : ∀ u ∈ x.enc, u.oneCell' = true := by
  intro u hu
  simp only [In.enc, List.mem_cons, List.not_mem_nil, or_false] at hu
  rcases hu with rfl | rfl | rfl | rfl | rfl | rfl <;> rfl
/-- The cells of a slice of these elements. -/
def CellsIn (W : World) (ao : Option Addr) (ys : List In) : Prop := ∀ j, j < ys.length → ∃ b off, ao = some ⟨b, off, none⟩ ∧ b < W.heap.size ∧ W.cell? ⟨b, off + j * 6, none⟩ = some (.int .i64 ys[j]!.op) ∧ W.cell? ⟨b, off + j * 6 + 1, none⟩ = some (.int .u8 ys[j]!.c) ∧ W.cell? ⟨b, off + j * 6 + 2, none⟩ = some (.string ys[j]!.set) ∧ W.cell? ⟨b, off + j * 6 + 3, none⟩ = some (.bool ys[j]!.nt) ∧ W.cell? ⟨b, off + j * 6 + 4, none⟩ = some (.int .i64 ys[j]!.x) ∧ W.cell? ⟨b, off + j * 6 + 5, none⟩ = some (.int .i64 ys[j]!.y)
theorem cellsIn {W : World} {ao : Option Addr} {n cap : Nat} {ys : List In} (h : Sl W 6 ao n cap (ys.map In.enc)) : CellsIn W ao ys := by
  intro j hj
  have hl := Sl.lenE h
  obtain ⟨b, off, rfl, hb, hc⟩ := h.here (by omega)
  have hx : (ys.map In.enc)[j]? = some ys[j]!.enc := by rw [List.getElem?_map, List.getElem?_eq_getElem hj, getElem!_pos ys j hj]; rfl
  exact ⟨b, off, rfl, hb, hc j _ hx 0 _ rfl, hc j _ hx 1 _ rfl, hc j _ hx 2 _ rfl, hc j _ hx 3 _ rfl, hc j _ hx 4 _ rfl, hc j _ hx 5 _ rfl⟩
theorem CellsIn.later {W W' : World} {ao : Option Addr} {ys : List In} (h : CellsIn W ao ys) (hb : Below W.heap.size W W') : CellsIn W' ao ys := fun j hj => by
  obtain ⟨b, off, e, hlt, h0, h1, h2, h3, h4, h5⟩ := h j hj
  exact ⟨b, off, e, Nat.lt_of_lt_of_le hlt hb.size, (hb.cell (p := ⟨b, off + j * 6, none⟩) hlt).trans h0, (hb.cell (p := ⟨b, off + j * 6 + 1, none⟩) hlt).trans h1, (hb.cell (p := ⟨b, off + j * 6 + 2, none⟩) hlt).trans h2, (hb.cell (p := ⟨b, off + j * 6 + 3, none⟩) hlt).trans h3, (hb.cell (p := ⟨b, off + j * 6 + 4, none⟩) hlt).trans h4, (hb.cell (p := ⟨b, off + j * 6 + 5, none⟩) hlt).trans h5⟩
theorem inLeaves : leavesOf Try.prog 8 34 = some [some (some .i64), some (some .u8), some none, none, some (some .i64), some (some .i64)] := by kernel_rfl
/-- What the leaves tell of an element: strings are no longer than an int says. -/
def In.fit (x : In) : Prop := x.set.size ≤ maxLen ∧ (Lit.int .i64 x.op).wf = true ∧ (Lit.int .u8 x.c).wf = true ∧ (Lit.int .i64 x.x).wf = true ∧ (Lit.int .i64 x.y).wf = true
theorem in_cells (l : List Value) (h0 : leavesOk [some (some .i64), some (some .u8), some none, none, some (some .i64), some (some .i64)] l) : ∃ y : In, l = y.enc ∧ y.fit := by
  obtain ⟨a0, r0, e0, ⟨v0, rfl, g0⟩, h1⟩ := leavesOk_cons h0
  obtain ⟨a1, r1, e1, ⟨v1, rfl, g1⟩, h2⟩ := leavesOk_cons h1
  obtain ⟨a2, r2, e2, ⟨v2, rfl, g2⟩, h3⟩ := leavesOk_cons h2
  obtain ⟨a3, r3, e3, ⟨v3, rfl⟩, h4⟩ := leavesOk_cons h3
  obtain ⟨a4, r4, e4, ⟨v4, rfl, g4⟩, h5⟩ := leavesOk_cons h4
  obtain ⟨a5, r5, e5, ⟨v5, rfl, g5⟩, h6⟩ := leavesOk_cons h5
  have e6 := leavesOk_nil h6
  exact ⟨⟨v0, v1, v2, v3, v4, v5⟩, by rw [e0, e1, e2, e3, e4, e5, e6]; rfl, ⟨g2, g0, g1, g4, g5⟩⟩
theorem ins_of : ∀ (xs : List (List Value)), (∀ x ∈ xs, leavesOk [some (some .i64), some (some .u8), some none, none, some (some .i64), some (some .i64)] x) → ∃ ys : List In, xs = ys.map In.enc ∧ ∀ y ∈ ys, y.fit
  | [], _ => ⟨[], rfl, fun y h => by cases h⟩
  | x :: xs, h => by
    obtain ⟨y, rfl, hy⟩ := in_cells x (h x (by simp))
    obtain ⟨ys, rfl, hys⟩ := ins_of xs (fun z hz => h z (by simp [hz]))
    exact ⟨y :: ys, rfl, fun z hz => by
      rcases List.mem_cons.1 hz with e | hz'
      · rw [e]; exact hy
      · exact hys z hz'⟩
theorem inInfo : ∃ i0 : TypeInfo, Try.prog.info? 34 = some i0 ∧ i0.zero = some (.agg #[.int .i64 0, .int .u8 0, .string ⟨#[]⟩, .bool false, .int .i64 0, .int .i64 0]) ∧ i0.size = 6 ∧ i0.bytes = 56 := by
  have h : (Try.prog.info? 34).map (fun i => (i.zero, i.size, i.bytes)) = some (some (.agg #[.int .i64 0, .int .u8 0, .string ⟨#[]⟩, .bool false, .int .i64 0, .int .i64 0]), 6, 56) := by kernel_rfl
  cases hi : Try.prog.info? 34 with
  | none => rw [hi] at h; cases h
  | some i0 =>
    rw [hi] at h
    simp only [Option.map_some, Option.some.injEq, Prod.mk.injEq] at h
    exact ⟨i0, rfl, h.1, h.2.1, h.2.2⟩

set_option maxHeartbeats 4000000 in
set_option maxRecDepth 100000 in
theorem inInsert_shift (b n c i vb m vc : Nat) (cs vs : List Value) (w : World) (hi : i < n) (hm : 0 < m) (hroom : n + m ≤ c) (hc63 : c ≤ 9223372036854775807) (hvb : vb ≠ b)
    (hcl : cs.length = n * 6) (hvl : vs.length = m * 6)
    (hcs : ∀ j v, cs[j]? = some v → w.cell? ⟨b, 0 + j, none⟩ = some v) (hsp : ∀ j, j < (n + m) * 6 → (w.cell? ⟨b, 0 + j, none⟩).isSome = true) (hfz : ∀ j, j < (n + m) * 6 → w.frozen? ⟨b, 0 + j, none⟩ = false)
    (hvs : ∀ j v, vs[j]? = some v → w.cell? ⟨vb, 0 + j, none⟩ = some v) (h1c : ∀ v ∈ cs, v.oneCell' = true) (h1v : ∀ v ∈ vs, v.oneCell' = true)
    (tA tB : TypeId) (kA kB : Nat) (hsa : w.shape? vb = some (tA, kA)) (hsb : w.shape? b = some (tB, kB)) (hkB : kB ≠ 0) (hfa : w.frozen? ⟨vb, 0, none⟩ = false) (hfe : w.frozen? ⟨vb, kA, none⟩ = false) :
    Calls Try.prog 59 #[.slice (some ⟨b, 0, none⟩) n c, .int .i64 i, .slice (some ⟨vb, 0, none⟩) m vc] w fun e w' =>
      e = .returned (.slice (some ⟨b, 0, none⟩) (n + m) c) ∧ w' = (w.drew.setCells b ((i + m) * 6) (cs.drop (i * 6))).setCells b (i * 6) vs := by
  have hz1 : ¬ ((m : Int) = 0) := by omega
  have hz2 : ¬ ((i : Int) = (n : Int)) := by omega
  have hsz : (Try.prog.info? 34).map (·.size) = some 6 := by
    obtain ⟨i0, hi0, h0, h1, h2⟩ := inInfo
    rw [hi0]; simp [h1]
  have hov : ∀ lb cb, (callFunc 64 #[.slice (some ⟨vb, 0, none⟩) m vc, .slice (some ⟨b, (i + m) * 6, none⟩) lb cb]).run Try.prog w = .ok (.value (.bool false)) w := fun lb cb => by
    rw [run_callFunc_extern Try.func64 (by kernel_rfl) (by kernel_rfl) (by kernel_rfl) (e := Extern.SlicesOverlaps.overlaps #[22, 22] #[4]) (by kernel_rfl),
      Lib.run_overlaps_apart w 22 4 34 Try.underlying22 6 (fun w => by kernel_rfl) ⟨vb, 0, none⟩ ⟨b, (i + m) * 6, none⟩ m vc lb cb hvb tA tB kA kB hsa hsb hkB hfa hfe]
    rfl
  have hdl : (cs.drop (i * 6)).length = (n - i) * 6 := by rw [List.length_drop, hcl]; omega
  have hw1 : IntKind.i64.wrap ((i : Int) + (m : Int)) = (i : Int) + (m : Int) := by rw [IntKind.wrap_i64]; omega
  have hb1 : (0 : Int) ≤ (i : Int) + (m : Int) := by omega
  have hin : i ≤ n := by omega
  have htn : ((i : Int) + (m : Int)).toNat = i + m := by omega
  have hb2 : ¬ (c = i + m) := by omega
  have hb3 : (i : Int) ≤ (n : Int) + (m : Int) := by omega
  have hb4 : ¬ (c = i) := by omega
  have hcp1 : ∀ ty dc sc, (Builtin.copy_ #[22, 22] ty #[.slice (some ⟨b, (i + m) * 6, none⟩) (n + m - (i + m)) dc, .slice (some ⟨b, i * 6, none⟩) (n + m - i) sc]).run Try.prog w.drew = .ok (goInt ((n - i : Nat) : Int)) (w.drew.setCells b ((i + m) * 6) (cs.drop (i * 6))) := fun ty dc sc =>
    run_copy_cells_k w.drew _ _ ty 34 6 b ((i + m) * 6) (n + m - (i + m)) dc ⟨b, i * 6, none⟩ (n + m - i) sc (n - i) (cs.drop (i * 6)) Try.underlying22 hsz (by simp only [Nat.min_def]; split <;> omega) hdl
      (fun j v hj => by rw [Addr.add_lit]; have := hcs (i * 6 + j) v (by rwa [List.getElem?_drop] at hj); rw [Nat.zero_add] at this; exact this)
      (fun j hj => by have := hsp ((i + m) * 6 + j) (by omega); rw [Nat.zero_add] at this; exact this) (fun j hj => by have := hfz ((i + m) * 6 + j) (by omega); rw [Nat.zero_add] at this; exact this) (fun v hv => h1c v (List.mem_of_mem_drop hv))
  obtain ⟨W1, hW1⟩ : ∃ W1, W1 = w.drew.setCells b ((i + m) * 6) (cs.drop (i * 6)) := ⟨_, rfl⟩
  have hsp1 : ∀ k, k < (n + m) * 6 → (W1.cell? ⟨b, k, none⟩).isSome = true := fun k hk => by
    rw [hW1]
    exact isSome_setCells b _ _ _ k (by have := hsp k hk; rw [Nat.zero_add] at this; exact this) (fun j hj => by have := hsp ((i + m) * 6 + j) (by omega); rw [Nat.zero_add] at this; exact this)
  have hcp2 : ∀ (W : World), (∀ x, W.cell? x = W1.cell? x) → (∀ x, W.frozen? x = W1.frozen? x) → ∀ ty dc, (Builtin.copy_ #[22, 22] ty #[.slice (some ⟨b, i * 6, none⟩) (n + m - i) dc, .slice (some ⟨vb, 0, none⟩) m vc]).run Try.prog W = .ok (goInt (m : Int)) (W.setCells b (i * 6) vs) := fun W hWc hWf ty dc =>
    run_copy_cells_k W _ _ ty 34 6 b (i * 6) (n + m - i) dc ⟨vb, 0, none⟩ m vc m vs Try.underlying22 hsz (by simp only [Nat.min_def]; split <;> omega) hvl
      (fun j v hj => by
        rw [Addr.add_lit, hWc, hW1, World.cell?_setCells_out b _ _ _ _ (fun h _ => absurd h hvb)]
        exact hvs j v hj)
      (fun j hj => by rw [hWc]; exact hsp1 _ (by omega)) (fun j hj => by rw [hWf, hW1, World.frozen?_setCells]; have := hfz (i * 6 + j) (by omega); rw [Nat.zero_add] at this; exact this) h1v
  rw [← hW1] at hcp1
  go_enter Try.func59, Try.ntmps59
  go_wp2_with (simp only [hov])
  go_region_law (refine step_copy_run rfl _ _ 22 22 rfl _ _ (by simp [Act.eval, Act.put]) (by simp [Act.eval, Act.put]) (hcp1 _ _ _) ?_)
  go_wp2_with (at_builtin; refine wpList_copy_run _ rfl _ _ 22 22 rfl _ _ rfl rfl (hcp2 _ (fun _ => rfl) (fun _ => rfl) _ _) ?_)
  go_ret
  first | exact ⟨rfl, rfl⟩ | exact ⟨rfl, by rw [hW1]⟩

set_option maxHeartbeats 4000000 in
set_option maxRecDepth 100000 in
theorem inInsert_end (v : Value) (n vb m vc B : Nat) (cs vs : List Value) (w : World) (hm : 0 < m) (hown : w.ownsRow B 34 6 v n cs) (hB : B ≤ w.heap.size) (hbig : (n + m) * 56 ≤ 140737488355328)
    (hvl : vs.length = m * 6) (hvs : ∀ j v, vs[j]? = some v → w.cell? ⟨vb, 0 + j, none⟩ = some v) (h1v : ∀ v ∈ vs, v.oneCell' = true) :
    Calls Try.prog 59 #[v, .int .i64 n, .slice (some ⟨vb, 0, none⟩) m vc] w fun e w' =>
      ∃ v', e = .returned v' ∧ w'.ownsRow B 34 6 v' (n + m) (cs ++ vs) ∧ w.grownBy w' v.ownBlock := by
  obtain ⟨i0, hi, hz, hs4, hby⟩ := inInfo
  have hz1 : ¬ ((m : Int) = 0) := by omega
  have H : ∀ ty, ∃ v' w', (Builtin.append_ #[22, 22] ty #[v, .slice (some ⟨vb, 0, none⟩) m vc]).run Try.prog w = .ok v' w' ∧ w'.ownsRow B 34 6 v' (n + m) (cs ++ vs) ∧ w.grownBy w' v.ownBlock := fun ty => by
    obtain ⟨v', w', hr, h2, h3, h4⟩ := run_append_own (P := Try.prog) w B 22 ty 34 i0 _ 6 56 Try.underlying22 hi hz hs4 hby rfl (by omega) v n cs hown ⟨vb, 0, none⟩ m vc vs hvl (fun j u hj => by rw [Addr.add_lit]; exact hvs j u hj) h1v (by unfold maxLen; omega) hbig hB
    exact ⟨v', w', hr, h2, h3⟩
  obtain ⟨ao, cap, rfl, hnil, hnc⟩ : ∃ ao cap, v = .slice ao n cap ∧ (∀ a, ao = some a → ∃ g, a = ⟨g, 0, none⟩) ∧ n ≤ cap := by
    rcases hown.2 with ⟨rfl, rfl⟩ | ⟨g, cap, cur, rfl, _, _, hnc, _⟩
    · exact ⟨none, 0, rfl, (fun a h => by cases h), Nat.le_refl _⟩
    · exact ⟨_, cap, rfl, (fun a h => by cases h; exact ⟨g, rfl⟩), hnc⟩
  have hnb : n ≤ 9223372036854775807 := by omega
  clear hown hvs hi hz hs4 hby hvl
  obtain ⟨v', w', hr, h2, h3⟩ := H 22
  clear H
  have HG : Hid (w'.ownsRow B 34 6 v' (n + m) (cs ++ vs) ∧ w.grownBy w' (Value.slice ao n cap).ownBlock) := ⟨h2, h3⟩
  clear h2 h3
  cases ao with
  | none =>
    go_enter Try.func59, Try.ntmps59
    go_wp2_with (at_builtin; refine Lib.wpList_append_run _ rfl _ _ _ _ rfl _ _ rfl rfl _ _ hr ?_)
    all_goals (go_ret; exact ⟨v', rfl, HG.out.1, HG.out.2⟩)
  | some a =>
    obtain ⟨g, rfl⟩ := hnil a rfl
    clear hnil
    go_enter Try.func59, Try.ntmps59
    go_wp2_with (at_builtin; refine Lib.wpList_append_run _ rfl _ _ _ _ rfl _ _ rfl rfl _ _ hr ?_)
    all_goals (go_ret; exact ⟨v', rfl, HG.out.1, HG.out.2⟩)

set_option maxHeartbeats 4000000 in
set_option maxRecDepth 100000 in
theorem inInsert_grow (b n c i vb m vc : Nat) (cs vs : List Value) (w : World) (hi : i < n) (hm : 0 < m) (hnc : n ≤ c) (hroom : c < n + m) (hbig : (n + m) * 56 ≤ 140737488355328)
    (hcl : cs.length = n * 6) (hvl : vs.length = m * 6)
    (hcs : ∀ j v, cs[j]? = some v → w.cell? ⟨b, 0 + j, none⟩ = some v)
    (hvs : ∀ j v, vs[j]? = some v → w.cell? ⟨vb, 0 + j, none⟩ = some v) (h1c : ∀ v ∈ cs, v.oneCell' = true) (h1v : ∀ v ∈ vs, v.oneCell' = true) :
    Calls Try.prog 59 #[.slice (some ⟨b, 0, none⟩) n c, .int .i64 i, .slice (some ⟨vb, 0, none⟩) m vc] w fun e w' =>
      ∃ (G : Nat) (ROW : List Value), n + m ≤ G ∧ G ≤ maxLen ∧ ROW.length = G * 6 ∧ ROW.take (i * 6) = cs.take (i * 6) ∧ e = .returned (.slice (some ⟨w.heap.size, 0, none⟩) (n + m) G) ∧
      w' = (((w.alloc (.cells ROW.toArray 34)).drew.setCells w.heap.size (i * 6) vs).drew).setCells w.heap.size ((i + m) * 6) (cs.drop (i * 6)) := by
  obtain ⟨i0, hi0, hz0, hzs, hzb⟩ := inInfo
  have hz1 : ¬ ((m : Int) = 0) := by omega
  have hz2 : ¬ ((i : Int) = (n : Int)) := by omega
  have hz3 : (c : Int) < (n : Int) + (m : Int) := by omega
  have hsz : (Try.prog.info? 34).map (·.size) = some 6 := by rw [hi0]; simp [hzs]
  have hbw : b < w.heap.size := block_lt_of_cell (hcs 0 _ (List.getElem?_eq_getElem (by omega)))
  have hvw : vb < w.heap.size := block_lt_of_cell (hvs 0 _ (List.getElem?_eq_getElem (by omega)))
  have hkk : (n : Int) + (m : Int) - (i : Int) = ((n + m - i : Nat) : Int) := by omega
  have hik : i + (n + m - i) = n + m := by omega
  have hold : (Builtin.firstCells i0.size i (.slice (some ⟨b, 0, none⟩) i c)).run Try.prog w.drew = .ok (cs.take (i * 6)).toArray w.drew := by
    rw [hzs]
    exact run_firstCells_some w.drew 6 i ⟨b, 0, none⟩ i c (cs.take (i * 6)) (by rw [List.length_take]; omega) (fun j v hj => by
      rw [Addr.add_lit]
      rw [List.getElem?_take] at hj
      split at hj
      · exact hcs j v hj
      · cases hj)
  obtain ⟨G, hG⟩ : ∃ G, G = grownCap w (n + m) c 34 := ⟨_, rfl⟩
  obtain ⟨ROW, hROW⟩ : ∃ ROW : Array Value, ROW = (cs.take (i * 6)).toArray ++ Builtin.zeroCells (Value.cells (.agg #[.int .i64 0, .int .u8 0, .string ⟨#[]⟩, .bool false, .int .i64 0, .int .i64 0])) (n + m - i) ++ Builtin.zeroCells (Value.cells (.agg #[.int .i64 0, .int .u8 0, .string ⟨#[]⟩, .bool false, .int .i64 0, .int .i64 0])) (G - (n + m)) := ⟨_, rfl⟩
  have hrz : ∀ ty, (Builtin.append_ #[22, 3] ty #[.slice (some ⟨b, 0, none⟩) i c, .int .i64 ((n : Int) + (m : Int) - (i : Int))]).run Try.prog w =
      .ok (.slice (some ⟨w.heap.size, 0, none⟩) (n + m) G) (w.drew.alloc (.cells ROW 34)) := fun ty => by
    have h := Lib.run_append_grow_zeros w 22 3 ty 34 i0 _ .i64 .i64 Try.underlying22 Try.underlying3 hi0 hz0 (some ⟨b, 0, none⟩) i c (cs.take (i * 6)) hold (n + m - i) (by omega) (by omega) (by omega) (by omega) (by rw [hzb]; omega) (by rw [hzb, hik]; exact growslice_fits hroom hbig)
    rw [hik, ← hG, ← hROW] at h
    rw [hkk]
    exact h
  have hGn : n + m ≤ G := by rw [hG]; exact grownCap_ge w _ _ _
  have hGM : G ≤ maxLen := by rw [hG]; exact grownCap_le_maxLen w (n + m) c 34 (by unfold maxLen; omega)
  have hG63 : G ≤ 9223372036854775807 := by unfold maxLen at hGM; omega
  have hRs : ROW.size = G * 6 := by
    have e : (Value.cells (.agg #[.int .i64 0, .int .u8 0, .string ⟨#[]⟩, .bool false, .int .i64 0, .int .i64 0])).size = 6 := by rfl
    rw [hROW]
    simp only [Array.size_append, size_zeroCells, List.size_toArray, List.length_take, e]
    omega
  have hRt : ROW.toList.take (i * 6) = cs.take (i * 6) := by
    rw [hROW]
    simp only [Array.toList_append, List.append_assoc]
    exact List.take_left' (by rw [List.length_take]; omega)
  have hRl : (n + m) * 6 ≤ ROW.size := by omega
  obtain ⟨W1, hW1⟩ : ∃ W1, W1 = w.drew.alloc (.cells ROW 34) := ⟨_, rfl⟩
  rw [← hW1] at hrz
  have hN : ∀ j, j < (n + m) * 6 → (W1.cell? ⟨w.heap.size, j, none⟩).isSome = true := fun j hj => by
    rw [hW1, World.cell?_alloc_at (w := w.drew) ROW _ w.heap.size j rfl, Array.getElem?_eq_getElem (by omega)]; rfl
  have hNf : ∀ j, W1.frozen? ⟨w.heap.size, j, none⟩ = false := fun j => by rw [hW1]; exact World.frozen?_alloc_at (w := w.drew) ROW _ w.heap.size j rfl
  have hOb : ∀ j v, w.cell? ⟨b, j, none⟩ = some v → W1.cell? ⟨b, j, none⟩ = some v := fun j v h => by rw [hW1, World.cell?_alloc_past (w := w.drew) _ b j hbw]; exact h
  have hOv : ∀ j v, w.cell? ⟨vb, j, none⟩ = some v → W1.cell? ⟨vb, j, none⟩ = some v := fun j v h => by rw [hW1, World.cell?_alloc_past (w := w.drew) _ vb j hvw]; exact h
  have hcpA : ∀ (W : World), (∀ x, W.cell? x = W1.cell? x) → (∀ x, W.frozen? x = W1.frozen? x) → ∀ ty dc, (Builtin.copy_ #[22, 22] ty #[.slice (some ⟨w.heap.size, i * 6, none⟩) (n + m - i) dc, .slice (some ⟨vb, 0, none⟩) m vc]).run Try.prog W = .ok (goInt (m : Int)) (W.setCells w.heap.size (i * 6) vs) := fun W hWc hWf ty dc =>
    run_copy_cells_k W _ _ ty 34 6 w.heap.size (i * 6) (n + m - i) dc ⟨vb, 0, none⟩ m vc m vs Try.underlying22 hsz (by simp only [Nat.min_def]; split <;> omega) hvl
      (fun j v hj => by rw [Addr.add_lit, hWc]; exact hOv _ v (hvs j v hj))
      (fun j hj => by rw [hWc]; exact hN _ (by omega)) (fun j hj => by rw [hWf]; exact hNf _) h1v
  have hGi : ¬ (G = i) := by omega
  have hGim : ¬ (G = i + m) := by omega
  have hci : ¬ (c = i) := by omega
  have hbN : b ≠ w.heap.size := by omega
  have hdl : (cs.drop (i * 6)).length = (n - i) * 6 := by rw [List.length_drop, hcl]; omega
  have hcpB : ∀ (W : World), (∀ x, W.cell? x = (W1.setCells w.heap.size (i * 6) vs).cell? x) → (∀ x, W.frozen? x = (W1.setCells w.heap.size (i * 6) vs).frozen? x) → ∀ ty dc sc, (Builtin.copy_ #[22, 22] ty #[.slice (some ⟨w.heap.size, (i + m) * 6, none⟩) (n + m - (i + m)) dc, .slice (some ⟨b, i * 6, none⟩) (n - i) sc]).run Try.prog W = .ok (goInt ((n - i : Nat) : Int)) (W.setCells w.heap.size ((i + m) * 6) (cs.drop (i * 6))) := fun W hWc hWf ty dc sc =>
    run_copy_cells_k W _ _ ty 34 6 w.heap.size ((i + m) * 6) (n + m - (i + m)) dc ⟨b, i * 6, none⟩ (n - i) sc (n - i) (cs.drop (i * 6)) Try.underlying22 hsz (by simp only [Nat.min_def]; split <;> omega) hdl
      (fun j v hj => by
        rw [Addr.add_lit, hWc, World.cell?_setCells_out _ _ _ _ _ (fun h _ => absurd h hbN)]
        have := hcs (i * 6 + j) v (by rwa [List.getElem?_drop] at hj)
        rw [Nat.zero_add] at this
        exact hOb _ v this)
      (fun j hj => by rw [hWc]; exact isSome_setCells _ _ _ _ _ (hN _ (by omega)) (fun t ht => hN _ (by omega)))
      (fun j hj => by rw [hWf, World.frozen?_setCells]; exact hNf _) (fun v hv => h1c v (List.mem_of_mem_drop hv))
  have hfin : ∃ (G' : Nat) (ROW' : List Value), n + m ≤ G' ∧ G' ≤ maxLen ∧ ROW'.length = G' * 6 ∧ ROW'.take (i * 6) = cs.take (i * 6) ∧ Ending.returned (.slice (some ⟨w.heap.size, 0, none⟩) (n + m) G) = .returned (.slice (some ⟨w.heap.size, 0, none⟩) (n + m) G') ∧
      (((w.alloc (.cells ROW 34)).drew.setCells w.heap.size (i * 6) vs).drew).setCells w.heap.size ((i + m) * 6) (cs.drop (i * 6)) = (((w.alloc (.cells ROW'.toArray 34)).drew.setCells w.heap.size (i * 6) vs).drew).setCells w.heap.size ((i + m) * 6) (cs.drop (i * 6)) :=
    ⟨G, ROW.toList, hGn, hGM, by simpa using hRs, hRt, rfl, by rw [Array.toArray_toList]⟩
  have HF := Lib.hid hfin
  clear hfin hRt hRs
  subst hW1
  have hE1 : ∀ x, ((w.alloc (.cells ROW 34)).drew).cell? x = (w.drew.alloc (.cells ROW 34)).cell? x := fun x => rfl
  have hE2 : ∀ x, ((w.alloc (.cells ROW 34)).drew).frozen? x = (w.drew.alloc (.cells ROW 34)).frozen? x := fun x => rfl
  have hF1 : ∀ x, (((w.alloc (.cells ROW 34)).drew.setCells w.heap.size (i * 6) vs).drew).cell? x = ((w.drew.alloc (.cells ROW 34)).setCells w.heap.size (i * 6) vs).cell? x := fun x => rfl
  have hF2 : ∀ x, (((w.alloc (.cells ROW 34)).drew.setCells w.heap.size (i * 6) vs).drew).frozen? x = ((w.drew.alloc (.cells ROW 34)).setCells w.heap.size (i * 6) vs).frozen? x := fun x => rfl
  have hw1 : IntKind.i64.wrap ((i : Int) + (m : Int)) = (i : Int) + (m : Int) := by rw [IntKind.wrap_i64]; omega
  have hb1 : (0 : Int) ≤ (i : Int) + (m : Int) := by omega
  have hin : i ≤ n := by omega
  have htn : ((i : Int) + (m : Int)).toNat = i + m := by omega
  have hb3 : (i : Int) ≤ (n : Int) := by omega
  clear hkk hik hold hROW hG hRl hGM
  go_enter Try.func59, Try.ntmps59
  go_wp2_with (first
    | (at_builtin; refine Lib.wpList_append_run _ rfl _ _ _ _ rfl _ _ rfl rfl _ _ (hrz _) ?_)
    | (at_builtin; refine wpList_copy_run _ rfl _ _ 22 22 rfl _ _ rfl rfl (hcpA _ hE1 hE2 _ _) ?_))
  go_region_law (refine step_copy_run rfl _ _ 22 22 rfl (.slice (some ⟨w.heap.size, (i + m) * 6, none⟩) (n + m - (i + m)) (G - (i + m))) (.slice (some ⟨b, i * 6, none⟩) (n - i) (c - i)) (by simp [Act.eval, Act.put]) (by simp [Act.eval, Act.put]) (hcpB _ hF1 hF2 3 (G - (i + m)) (c - i)) ?_)
  go_wp2
  go_ret
  exact HF.out

theorem inInsert_calls (v : Value) (n i vb B : Nat) (cs vs : List Value) (TV : TypeId) (w : World) (hown : w.ownsRow B 34 6 v n cs) (hi : i ≤ n) (hn : n ≤ 1000000) (hvl : vs.length = 6) (h1c : ∀ u ∈ cs, u.oneCell' = true) (h1v : ∀ u ∈ vs, u.oneCell' = true)
    (hvb : w.heap[vb]? = some (.cells vs.toArray TV (0, 0))) (hne : v.ownBlock ≠ some vb) (hB : B ≤ w.heap.size) :
    Calls Try.prog 59 #[v, .int .i64 i, .slice (some ⟨vb, 0, none⟩) 1 1] w fun e w' =>
      ∃ v', e = .returned v' ∧ w'.ownsRow B 34 6 v' (n + 1) (cs.take (i * 6) ++ vs ++ cs.drop (i * 6)) ∧ w.grownBy w' v.ownBlock := by
  have hvs : ∀ j u, vs[j]? = some u → w.cell? ⟨vb, 0 + j, none⟩ = some u := fun j u hj => by
    rw [Nat.zero_add, cell_of_row w vb j _ _ _ hvb]; simpa using hj
  have hcl := hown.1
  by_cases hin : i = n
  · subst hin
    have h := inInsert_end v i vb 1 1 B cs vs w (by omega) hown hB (by omega) (by omega) hvs h1v
    rw [List.take_of_length_le (by omega), List.drop_of_length_le (by omega), List.append_nil]
    exact h
  · rcases hown.2 with ⟨_, h0⟩ | ⟨g, cap, cur, rfl, hBg, hg, hnc, hcm, hcs, ht⟩
    · omega
    have hgl := (Array.getElem?_eq_some_iff.1 hg).1
    have hbs : ∀ j u, cs[j]? = some u → w.cell? ⟨g, 0 + j, none⟩ = some u := fun j u hj => by
      rw [Nat.zero_add, cell_of_row w g j _ _ _ hg]
      rw [← ht, List.getElem?_take] at hj
      split at hj
      · simpa using hj
      · cases hj
    have hvg : vb ≠ g := fun e => hne (by rw [e]; rfl)
    by_cases hroom : n + 1 ≤ cap
    · have h := inInsert_shift g n cap i vb 1 1 cs vs w (by omega) (by omega) hroom (by unfold maxLen at hcm; omega) hvg hcl (by omega) hbs
        (fun j hj => by rw [Nat.zero_add, cell_of_row w g j _ _ _ hg, Array.getElem?_eq_getElem (by omega)]; rfl) (fun j _ => frozen_of_row w g _ _ _ hg) hvs h1c h1v TV 34 vs.toArray.size cur.size
        (by simp [World.shape?, hvb]) (by simp [World.shape?, hg]) (by omega) (frozen_of_row w vb _ _ _ hvb) (frozen_of_row w vb _ _ _ hvb)
      refine h.mono ?_
      rintro e w' ⟨rfl, rfl⟩
      have hcur : (n + 1) * 6 ≤ cur.toList.length := by simp; omega
      have hdl : (cs.drop (i * 6)).length = (n - i) * 6 := by rw [List.length_drop, hcl]; omega
      have s1 := heap_setCells_row g ((i + 1) * 6) 34 (cs.drop (i * 6)) cur.toList w.drew (by rw [Array.toArray_toList]; exact hg) (by rw [hdl]; omega) (fun u hu => h1c u (List.mem_of_mem_drop hu))
      have l1 : (splice cur.toList ((i + 1) * 6) (cs.drop (i * 6))).length = cur.toList.length := length_splice _ _ _ (by rw [hdl]; omega)
      have s2 := heap_setCells_row g (i * 6) 34 vs _ _ s1.1 (by rw [l1]; omega) h1v
      have l2 := length_splice (splice cur.toList ((i + 1) * 6) (cs.drop (i * 6))) (i * 6) vs (by rw [l1]; omega)
      refine ⟨_, rfl, ⟨by simp only [List.length_append, List.length_take, List.length_drop]; omega, .inr ⟨g, cap, _, rfl, hBg, s2.1, hroom, hcm, ?_, ?_⟩⟩, grownBy_trans (grownBy_trans (grownBy_drew w _) s1.2) s2.2⟩
      · rw [List.size_toArray, l2, l1]; simpa using hcs
      · exact splice_shift 6 n i 1 cur.toList cs vs hi hcl (by omega) hcur ht
    · have h := inInsert_grow g n cap i vb 1 1 cs vs w (by omega) (by omega) hnc (by omega) (by omega) hcl (by omega) hbs hvs h1c h1v
      refine h.mono ?_
      rintro e w' ⟨G, ROW, hGn, hGM, hRl, hRt, rfl, rfl⟩
      have hdl : (cs.drop (i * 6)).length = (n - i) * 6 := by rw [List.length_drop, hcl]; omega
      have s0 : ((w.alloc (.cells ROW.toArray 34)).drew).heap[w.heap.size]? = some (.cells ROW.toArray 34 (0, 0)) := heap_alloc_new w _
      have s1 := heap_setCells_row w.heap.size (i * 6) 34 vs ROW _ s0 (by omega) h1v
      have l1 : (splice ROW (i * 6) vs).length = ROW.length := length_splice _ _ _ (by omega)
      have s1' : ((((w.alloc (.cells ROW.toArray 34)).drew).setCells w.heap.size (i * 6) vs).drew).heap[w.heap.size]? = some (.cells (splice ROW (i * 6) vs).toArray 34 (0, 0)) := s1.1
      have s2 := heap_setCells_row w.heap.size ((i + 1) * 6) 34 (cs.drop (i * 6)) _ _ s1' (by rw [l1, hdl]; omega) (fun u hu => h1c u (List.mem_of_mem_drop hu))
      have l2 := length_splice (splice ROW (i * 6) vs) ((i + 1) * 6) (cs.drop (i * 6)) (by rw [l1, hdl]; omega)
      have g0 : w.grownBy ((w.alloc (.cells ROW.toArray 34)).drew) (Value.slice (some ⟨g, 0, none⟩) n cap).ownBlock := grownBy_trans (World.grownBy_alloc w _ _) (grownBy_drew _ _)
      have g1 := grownBy_past g0 s1.2 (Nat.le_refl _)
      have g2 := grownBy_past (grownBy_trans g1 (grownBy_drew _ _)) s2.2 (Nat.le_refl _)
      refine ⟨_, rfl, ⟨by simp only [List.length_append, List.length_take, List.length_drop]; omega, .inr ⟨w.heap.size, G, _, rfl, hB, s2.1, by omega, hGM, ?_, ?_⟩⟩, g2⟩
      · rw [List.size_toArray, l2, l1, hRl]
      · exact splice_grow 6 n i 1 ROW cs vs hi hcl (by omega) (by omega) hRt

end Go.Proofs.Ytfhccmegobbnaaa
