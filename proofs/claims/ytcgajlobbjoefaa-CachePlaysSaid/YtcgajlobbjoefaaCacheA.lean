/- This text gives the plain piece and hold, and the walks of slices.IndexFunc, Clone, Delete and DeleteFunc at pieces and of Clone and Delete at holds. Conditions: those that each theorem names. -/
import Derived.Test.YtcgajlobbjoefaaFlat
import Derived.Test.YtcgajlobbjoefaaRow
import Derived.Shelf.SlicesQ.IndexFunc
import Derived.Lib.SliceRun
import Derived.ArgAppend
namespace Go.Proofs.Ytcgajlobbjoefaa
open Go.ChangeShapes Go.WideShapes Go.ChangeAt Go.RowKit
set_option linter.unusedVariables false
set_option linter.unusedSimpArgs false

structure Pc where
  pid : Int
  vers : Int
  pos : Int
  data : ByteArray
instance : Inhabited Pc := ⟨⟨0, 0, 0, .empty⟩⟩
def Pc.enc (x : Pc) : List Value := [.int .i64 x.pid, .int .i64 x.vers, .int .i64 x.pos, .string x.data]
def Pc.val (x : Pc) : Value := .agg #[.int .i64 x.pid, .int .i64 x.vers, .int .i64 x.pos, .string x.data]
theorem pc_len (x : Pc) : x.enc.length = 4 := rfl
theorem pc_one (x : Pc) : ∀ u ∈ x.enc, u.oneCell' = true := by
  intro u hu
  simp only [Pc.enc, List.mem_cons, List.not_mem_nil, or_false] at hu
  rcases hu with rfl | rfl | rfl | rfl <;> rfl
/-- The cells of a slice of these elements. -/
def CellsPc (W : World) (ao : Option Addr) (ys : List Pc) : Prop := ∀ j, j < ys.length → ∃ b off, ao = some ⟨b, off, none⟩ ∧ b < W.heap.size ∧ W.cell? ⟨b, off + j * 4, none⟩ = some (.int .i64 ys[j]!.pid) ∧ W.cell? ⟨b, off + j * 4 + 1, none⟩ = some (.int .i64 ys[j]!.vers) ∧ W.cell? ⟨b, off + j * 4 + 2, none⟩ = some (.int .i64 ys[j]!.pos) ∧ W.cell? ⟨b, off + j * 4 + 3, none⟩ = some (.string ys[j]!.data)
theorem cellsPc {W : World} {ao : Option Addr} {n cap : Nat} {ys : List Pc} (h : Sl W 4 ao n cap (ys.map Pc.enc)) : CellsPc W ao ys := by
  intro j hj
  have hl := Sl.lenE h
  obtain ⟨b, off, rfl, hb, hc⟩ := h.here (by omega)
  have hx : (ys.map Pc.enc)[j]? = some ys[j]!.enc := by rw [List.getElem?_map, List.getElem?_eq_getElem hj, getElem!_pos ys j hj]; rfl
  exact ⟨b, off, rfl, hb, hc j _ hx 0 _ rfl, hc j _ hx 1 _ rfl, hc j _ hx 2 _ rfl, hc j _ hx 3 _ rfl⟩
theorem CellsPc.later {W W' : World} {ao : Option Addr} {ys : List Pc} (h : CellsPc W ao ys) (hb : Below W.heap.size W W') : CellsPc W' ao ys := fun j hj => by
  obtain ⟨b, off, e, hlt, h0, h1, h2, h3⟩ := h j hj
  exact ⟨b, off, e, Nat.lt_of_lt_of_le hlt hb.size, (hb.cell (p := ⟨b, off + j * 4, none⟩) hlt).trans h0, (hb.cell (p := ⟨b, off + j * 4 + 1, none⟩) hlt).trans h1, (hb.cell (p := ⟨b, off + j * 4 + 2, none⟩) hlt).trans h2, (hb.cell (p := ⟨b, off + j * 4 + 3, none⟩) hlt).trans h3⟩
theorem pcLeaves : leavesOf Try.prog 8 47 = some [some (some .i64), some (some .i64), some (some .i64), some none] := by kernel_rfl
/-- What the leaves tell of an element: strings are no longer than an int says. -/
def Pc.fit (x : Pc) : Prop := x.data.size ≤ maxLen ∧ (Lit.int .i64 x.pid).wf = true ∧ (Lit.int .i64 x.vers).wf = true ∧ (Lit.int .i64 x.pos).wf = true
theorem pc_cells (l : List Value) (h0 : leavesOk [some (some .i64), some (some .i64), some (some .i64), some none] l) : ∃ y : Pc, l = y.enc ∧ y.fit := by
  obtain ⟨a0, r0, e0, ⟨v0, rfl, g0⟩, h1⟩ := leavesOk_cons h0
  obtain ⟨a1, r1, e1, ⟨v1, rfl, g1⟩, h2⟩ := leavesOk_cons h1
  obtain ⟨a2, r2, e2, ⟨v2, rfl, g2⟩, h3⟩ := leavesOk_cons h2
  obtain ⟨a3, r3, e3, ⟨v3, rfl, g3⟩, h4⟩ := leavesOk_cons h3
  have e4 := leavesOk_nil h4
  exact ⟨⟨v0, v1, v2, v3⟩, by rw [e0, e1, e2, e3, e4]; rfl, ⟨g3, g0, g1, g2⟩⟩
theorem pcs_of : ∀ (xs : List (List Value)), (∀ x ∈ xs, leavesOk [some (some .i64), some (some .i64), some (some .i64), some none] x) → ∃ ys : List Pc, xs = ys.map Pc.enc ∧ ∀ y ∈ ys, y.fit
  | [], _ => ⟨[], rfl, fun y h => by cases h⟩
  | x :: xs, h => by
    obtain ⟨y, rfl, hy⟩ := pc_cells x (h x (by simp))
    obtain ⟨ys, rfl, hys⟩ := pcs_of xs (fun z hz => h z (by simp [hz]))
    exact ⟨y :: ys, rfl, fun z hz => by
      rcases List.mem_cons.1 hz with e | hz'
      · rw [e]; exact hy
      · exact hys z hz'⟩
theorem pcInfo : ∃ i0 : TypeInfo, Try.prog.info? 47 = some i0 ∧ i0.zero = some (.agg #[.int .i64 0, .int .i64 0, .int .i64 0, .string ⟨#[]⟩]) ∧ i0.size = 4 ∧ i0.bytes = 40 := by
  have h : (Try.prog.info? 47).map (fun i => (i.zero, i.size, i.bytes)) = some (some (.agg #[.int .i64 0, .int .i64 0, .int .i64 0, .string ⟨#[]⟩]), 4, 40) := by kernel_rfl
  cases hi : Try.prog.info? 47 with
  | none => rw [hi] at h; cases h
  | some i0 =>
    rw [hi] at h
    simp only [Option.map_some, Option.some.injEq, Prod.mk.injEq] at h
    exact ⟨i0, rfl, h.1, h.2.1, h.2.2⟩

/-- A predicate on the elements of a list, in every later world. -/
def PcPredM (P : Program) (g : Nat) (lb : Array Value) (p : Pc → Bool) (xs : List Pc) (w : World) : Prop :=
  ∀ W x, x ∈ xs → Below w.heap.size w W → Calls P g (#[Pc.val x] ++ lb) W fun e w' => e = .returned (.bool (p x)) ∧ Below W.heap.size W w'
set_option maxHeartbeats 4000000 in
theorem pcIndexFunc_calls (p : Pc → Bool) (g : Nat) (lb : Array Value) (eg : ∀ args w, (callFunc g args).run Try.prog w = .ok (.enter g args) w) (ao : Option Addr) (n cap : Nat) (xs : List Pc) (w : World)
    (h : Sl w 4 ao n cap (xs.map Pc.enc)) (hp : PcPredM Try.prog g lb p xs w) :
    Calls Try.prog 35 #[.slice ao n cap, .func (.func g) #[] lb] w fun e w' => e = .returned (.int .i64 (Lib.idxBy (fun _ y => p y) xs default)) ∧ Below w.heap.size w w' := by
  have hbig : n ≤ 9223372036854775807 := Nat.le_trans h.hcap h.hmax
  have hln := Sl.lenE h
  have HC : Aside (CellsPc w ao xs) := cellsPc h
  clear h
  go_enter Try.func35, Try.ntmps35
  go_wp2
  go_loopg [5, 8] n (fun gg _ s8 wr => ∃ kk : Nat, kk ≤ n ∧ n - kk ≤ gg ∧ s8 = .int .i64 kk ∧ Aside (Below w.heap.size w wr) ∧ Aside (∀ j, j < kk → p xs[j]! = false))
  case atStart => exact ⟨0, Nat.zero_le _, by omega, rfl, Below.refl _ w, fun j hj => absurd hj (Nat.not_lt_zero _)⟩
  case round =>
    obtain ⟨kk, hkk, hg, rfl, BW, A⟩ := hrel
    by_cases hlt : kk < n
    · have hltz : (kk : Int) < (n : Int) := by omega
      obtain ⟨b, off, rfl, hb, q0, q1, q2, q3⟩ := HC.out kk (by omega)
      have l0 := (BW.out.cell (p := ⟨b, off + kk * 4, none⟩) hb).trans q0
      have l1 := (BW.out.cell (p := ⟨b, off + kk * 4 + 1, none⟩) hb).trans q1
      have l2 := (BW.out.cell (p := ⟨b, off + kk * 4 + 2, none⟩) hb).trans q2
      have l3 := (BW.out.cell (p := ⟨b, off + kk * 4 + 3, none⟩) hb).trans q3
      have hcall := hp wr xs[kk]! (by rw [getElem!_pos xs kk (by omega)]; exact List.getElem_mem _) BW.out
      clear hp HC q0 q1 q2 q3
      generalize hy : xs[kk]! = y at l0 l1 l2 l3 hcall
      have B : Aside (xs[kk]! = y) := hy
      clear hy
      have hcall' : Calls Try.prog g (#[.agg #[.int .i64 y.pid, .int .i64 y.vers, .int .i64 y.pos, .string y.data]] ++ lb) wr fun e w' => e = .returned (.bool (p y)) ∧ Below wr.heap.size wr w' := hcall
      clear hcall
      cases hq : p y with
      | true =>
        rw [hq] at hcall'
        go_wp2_with (go_at_fn g; refine hcall'.mono ?_; rintro e w' ⟨rfl, hb'⟩)
        go_ret
        refine ⟨?_, BW.out.trans (hb'.mono BW.out.size)⟩
        rw [← List.take_of_length_le (Nat.le_of_eq hln), Lib.idxBy_hit (fun _ y => p y) xs n kk default hlt (by omega) (by show p xs[kk]! = true; rw [B.out]; exact hq) A.out]
        rfl
      | false =>
        rw [hq] at hcall'
        go_wp2_with (go_at_fn g; refine hcall'.mono ?_; rintro e w' ⟨rfl, hb'⟩)
        go_roundg (n - (kk + 1))
        case measure => omega
        case rel =>
          refine ⟨kk + 1, by omega, by omega, by go_num, BW.out.trans (hb'.mono BW.out.size), (show Aside _ from fun j hj => ?_)⟩
          by_cases e : j = kk
          · subst e
            rw [B.out]; exact hq
          · exact A.out j (by omega)
    · have hltz : ¬ (kk : Int) < (n : Int) := by omega
      have : kk = n := by omega
      subst this
      clear HC
      go_wp2
      go_ret
      refine ⟨?_, BW.out⟩
      rw [← List.take_of_length_le (Nat.le_of_eq hln), Lib.idxBy_miss (fun _ y => p y) xs kk default A.out]
      rfl

set_option maxHeartbeats 1000000 in
theorem pcClone_calls (ao : Option Addr) (n cap : Nat) (xs : List Pc) (w : World) (h : Sl w 4 ao n cap (xs.map Pc.enc)) (hn : n ≤ 1000000) :
    Calls Try.prog 54 #[.slice ao n cap] w fun e w' => ∃ v', e = .returned v' ∧ w'.ownsRow w.heap.size 47 4 v' n (flatE Pc.enc xs) ∧ Below w.heap.size w w' := by
  have q22 : ∀ (w : World) (a : Option Addr) (n c n' c' : Nat), (binOp .eql 22 (.slice a n c) (.slice none n' c')).run Try.prog w = .ok (.bool a.isNone) w := fun w a n c n' c' => Lib.run_eql_slice_nil w _ _ a n c n' c' Try.underlying22
  have hln := Sl.lenE h
  cases ao with
  | none =>
    have hc0 := h.hnil rfl
    have h0 : n = 0 := by have := h.hcap; omega
    subst hc0
    subst h0
    have hxs : xs = [] := List.eq_nil_of_length_eq_zero hln
    subst hxs
    clear h
    go_enter Try.func54, Try.ntmps54
    go_wp2
    go_ret
    exact ⟨_, rfl, World.ownsRow_nil _ _ _ _, Below.refl _ _⟩
  | some a =>
    obtain ⟨i0, hi, hz, hs4, hby⟩ := pcInfo
    have A : Aside (∀ j u, (flatE Pc.enc xs)[j]? = some u → w.cell? (a.add j) = some u) := by
      intro j u hu
      by_cases h0 : n = 0
      · have hxs : xs = [] := List.eq_nil_of_length_eq_zero (by omega)
        subst hxs
        cases hu
      · obtain ⟨b, off, e, _, _⟩ := h.here (by omega)
        cases e
        rw [Addr.add_lit]
        exact Sl.cellsE pc_len (by omega) h j u hu
    have HL : Aside ((flatE Pc.enc xs).length = n * 4) := by show _ = _; rw [flatE_length pc_len, hln]
    clear h
    go_enter Try.func54, Try.ntmps54
    go_wp2_with (at_builtin; refine wpList_append_own _ rfl _ _ 22 rfl w.heap.size 47 i0 _ 4 40 Try.underlying22 hi hz hs4 hby rfl (by omega) _ _ _ rfl (World.ownsRow_made w #[] 0 (Nat.le_refl _) (Nat.zero_le _) (by simp)) a n cap (flatE Pc.enc xs) rfl ?qc1 ?qc2 ?qc3 ?qc4 ?qc5 ?qc6 ?_)
    case qc1 => exact HL.out
    case qc2 =>
      intro j u hj
      exact Lib.cell?_alloc_some _ (A.out j u hj)
    case qc3 => exact flatE_cells pc_one xs
    case qc4 => unfold maxLen; omega
    case qc5 => omega
    case qc6 => simp
    intro v' w1 hown hgrow hnil
    go_wp2
    go_ret
    refine ⟨v', rfl, by simpa using hown, ?_⟩
    exact ((Below.refl _ w).alloc (Nat.le_refl _) _).grown hgrow (by simp) (by intro k hk; simp [Value.ownBlock] at hk; omega)

set_option maxHeartbeats 4000000 in
set_option maxRecDepth 20000 in
theorem pcDelete_calls (v : Value) (n i B : Nat) (xs : List Pc) (w : World) (hown : w.ownsRow B 47 4 v n (flatE Pc.enc xs)) (hi : i < n) (hn : n ≤ 1000000) :
    Calls Try.prog 39 #[v, .int .i64 i, .int .i64 ((i : Int) + 1)] w fun e w' =>
      ∃ v', e = .returned v' ∧ w'.ownsRow B 47 4 v' (n - 1) (flatE Pc.enc (xs.take i ++ xs.drop (i + 1))) ∧ w.grownBy w' v.ownBlock ∧ v'.ownBlock = v.ownBlock := by
  have hfl : (flatE Pc.enc xs).length = xs.length * 4 := flatE_length pc_len xs
  obtain ⟨hl, ⟨_, hn0⟩ | ⟨g, cap, cur, rfl, hBg, hh, hnc, hcm, hcs, htk⟩⟩ := hown
  · omega
  have hln : xs.length = n := by omega
  have hbig : cap ≤ 9223372036854775807 := by unfold maxLen at hcm; omega
  obtain ⟨u, hself, hsz, hsu⟩ : ∃ u : World, w = holds u g cur 47 ∧ g < u.heap.size ∧ u = w := ⟨w, holds_self hh, (Array.getElem?_eq_some_iff.1 hh).1, rfl⟩
  obtain ⟨i0, hi0, hz0, hs0, hb0⟩ := pcInfo
  have hnl : (flatE Pc.enc (xs.drop (i + 1))).length = (n - (i + 1)) * 4 := by rw [flatE_length pc_len, List.length_drop, hln]
  obtain ⟨c1, hc1⟩ : ∃ c, c = putAll cur (i * 4) (flatE Pc.enc (xs.drop (i + 1))) := ⟨_, rfl⟩
  have hz1 : c1.size = cap * 4 := by rw [hc1, putAll_size, hcs]
  obtain ⟨c2, hc2⟩ : ∃ c, c = putAll c1 ((n - 1) * 4) (Builtin.zeroCells (Value.cells (.agg #[.int .i64 0, .int .i64 0, .int .i64 0, .string ⟨#[]⟩])) 1).toList := ⟨_, rfl⟩
  have hzl : (Builtin.zeroCells (Value.cells (.agg #[.int .i64 0, .int .i64 0, .int .i64 0, .string ⟨#[]⟩])) 1).toList.length = 4 := by simp [Builtin.zeroCells, Value.cells]
  have hz2 : c2.size = cap * 4 := by rw [hc2, putAll_size, hz1]
  have ht2 : c2.toList.take ((n - 1) * 4) = flatE Pc.enc (xs.take i ++ xs.drop (i + 1)) := by
    rw [hc2, putAll_keep _ _ _ _ (by rw [hzl, hz1]; omega) (Nat.le_refl _), hc1, show (n - 1) * 4 = i * 4 + (flatE Pc.enc (xs.drop (i + 1))).length by rw [hnl]; omega, putAll_take _ _ _ (by rw [hnl, hcs]; omega), ← flatE_del pc_len, ← htk, List.take_take, Nat.min_eq_left (by omega)]
  have fin : ∀ x, ∃ v', Ending.returned (.slice (some ⟨g, 0, none⟩) (n - 1) cap) = .returned v' ∧ (plus (holds u g c2 47) x).ownsRow B 47 4 v' (n - 1) (flatE Pc.enc (xs.take i ++ xs.drop (i + 1))) ∧ (holds u g cur 47).grownBy (plus (holds u g c2 47) x) (Value.slice (some ⟨g, 0, none⟩) n cap).ownBlock ∧ v'.ownBlock = (Value.slice (some ⟨g, 0, none⟩) n cap).ownBlock := fun x => by
    refine ⟨_, rfl, ⟨by rw [flatE_length pc_len, List.length_append, List.length_take, List.length_drop]; omega, .inr ⟨g, cap, c2, rfl, hBg, ?_, by omega, hcm, hz2, ht2⟩⟩, ?_, rfl⟩
    · exact hp_plus (by rw [heap_holds, if_pos ⟨rfl, hsz⟩])
    · refine ⟨rfl, rfl, rfl, by simp [size_plus, size_holds], fun k hk hne => ?_⟩
      have hkg : ¬ k = g := fun e => hne (by rw [e]; rfl)
      rw [(below_plus _ x).block k (by simpa [size_holds] using hk), heap_holds, heap_holds, if_neg (fun e => hkg e.1), if_neg (fun e => hkg e.1)]
  have hcl : ∀ ty x, (Builtin.clear_ #[22] ty #[.slice (some ⟨g, (n - 1) * 4, none⟩) 1 (cap - (n - 1))]).run Try.prog (plus (holds u g c1 47) x) = .ok (.tuple #[]) (plus (holds u g c2 47) x) := fun ty x => by
    rw [run_clear_k _ 22 47 ty (.agg #[.int .i64 0, .int .i64 0, .int .i64 0, .string ⟨#[]⟩]) Try.underlying22 (fun w => by kernel_rfl) (by intro v hv; simp [Value.cells] at hv; rcases hv with rfl | rfl | rfl | rfl <;> rfl) (by simp [Value.cells]) g ((n - 1) * 4) 1 (cap - (n - 1)) (by omega)
      (fun m hm => by simp [Value.cells] at hm; rw [cell_holds_row hsz, Array.getElem?_eq_getElem (by omega)]; rfl)
      (fun m hm => frozen_holds_row hsz _ _), setCells_putAll u x g 47 hsz, hc2]
  have hap : ∀ (a : Addr) (ty : TypeId) (x : World) (m c : Nat), m = n - (i + 1) → (0 < m → a = ⟨g, (i + 1) * 4, none⟩) → (Builtin.append_ #[22, 22] ty #[.slice (some ⟨g, 0, none⟩) i cap, .slice (some a) m c]).run Try.prog (plus (holds u g cur 47) x) = .ok (.slice (some ⟨g, 0, none⟩) (n - 1) cap) (plus (holds u g c1 47) x) := fun a ty x m c hm ha => by
    have h := run_append_room_cells (P := Try.prog) (w := plus (holds u g cur 47) x) 22 ty 47 i0 Try.underlying22 hi0 g 0 i cap a m c (flatE Pc.enc (xs.drop (i + 1))) (by rw [hnl, hm, hs0])
      (fun j w' hj => by
        have hjl := (List.getElem?_eq_some_iff.1 hj).1
        rw [hnl] at hjl
        rw [ha (by omega), Addr.add_lit, cell_holds_row hsz, ← Array.getElem?_toList]
        have h2 := flatE_drop_get pc_len xs (i + 1) j w' hj
        rw [← htk, List.getElem?_take] at h2
        split at h2
        · exact h2
        · cases h2)
      (flatE_cells pc_one _) (by omega)
      (fun j hj => by rw [hnl] at hj; rw [hs0, cell_holds_row hsz, Array.getElem?_eq_getElem (by omega)]; rfl)
      (fun j hj => frozen_holds_row hsz _ _)
    rw [h, hs0, Nat.zero_add, setCells_putAll u x g 47 hsz, ← hc1, show i + m = n - 1 by omega]
  have FIN : Aside (∀ x, _) := fin
  rw [hself]
  have hF : Aside (u = w) := hsu
  clear hself hsu fin htk ht2 hcs hz1 hz2 hc1 hc2 hnl hl hfl hln hzl hh hi0 hz0 hs0 hb0 hF
  obtain ⟨x0, hx0⟩ : ∃ x0, holds u.drew g cur 47 = plus (holds u g cur 47) x0 := ⟨{ (holds u.drew g cur 47) with heap := #[] }, by simp [plus, holds]; exact ⟨rfl, rfl, rfl⟩⟩
  have hapD := fun a ty => hap a ty x0
  rw [← hx0] at hapD
  clear hap hx0
  have hic : i ≤ cap := by omega
  have hi1 : (i : Int) + 1 ≤ (n : Int) := by omega
  have htn : ((i : Int) + 1).toNat = i + 1 := by omega
  have hn1 : n - 1 ≤ n := by omega
  have hn2 : n - (n - 1) = 1 := by omega
  have hi0 : (0 : Int) ≤ (i : Int) + 1 := by omega
  have hcn : ¬ cap = n - 1 := by omega
  obtain ⟨AD, hAD, hADp⟩ : ∃ AD, (if cap = i + 1 then some (⟨g, 0, none⟩ : Addr) else some ⟨g, (i + 1) * 4, none⟩) = some AD ∧ (0 < n - (i + 1) → AD = ⟨g, (i + 1) * 4, none⟩) := by
    by_cases hcc : cap = i + 1
    · exact ⟨⟨g, 0, none⟩, by rw [if_pos hcc], fun h => by omega⟩
    · exact ⟨_, by rw [if_neg hcc], fun _ => rfl⟩
  have hapE := fun ty => hapD AD ty (n - (i + 1)) (cap - (i + 1)) rfl hADp
  clear hapD hADp
  go_enter Try.func39, Try.ntmps39
  go_wp2
  go_region_law (refine step_append_run rfl _ _ 22 22 rfl _ _ (by simp [Act.eval, Act.put]) (by simp [Act.eval, Act.put]) (hapE _) ?_)
  go_wp2
  go_ret
  exact FIN.out _

/-- The row while DeleteFunc works: the kept ones of the first j, then what stood there, from j on as it was. -/
structure PcKept (p : Pc → Bool) (xs : List Pc) (c : Array Value) (i j : Nat) : Prop where
  done : c.toList.take (i * 4) = flatE Pc.enc ((xs.take j).filter fun x => !p x)
  len : ((xs.take j).filter fun x => !p x).length = i
  rest : ∀ m r, j ≤ m → m < xs.length → r < 4 → c[m * 4 + r]? = xs[m]!.enc[r]?
theorem PcKept.skip {p : Pc → Bool} {xs : List Pc} {c : Array Value} {i j : Nat} (h : PcKept p xs c i j) (hj : j < xs.length) (hp : p xs[j]! = true) : PcKept p xs c i (j + 1) := by
  have e : (xs.take (j + 1)).filter (fun x => !p x) = (xs.take j).filter fun x => !p x := by
    rw [List.take_add_one, List.getElem?_eq_getElem hj, List.filter_append]
    rw [getElem!_pos xs j hj] at hp
    simp [hp]
  exact ⟨by rw [e]; exact h.done, by rw [e]; exact h.len, fun m r hm => h.rest m r (by omega)⟩
theorem pcIdx_spec (eq : Pc → Pc → Bool) (x : Pc) : ∀ (l : List Pc) (i : Nat), (Lib.idxByFrom eq x l i = -1 ∧ ∀ j, j < l.length → eq x l[j]! = false) ∨ ∃ k, k < l.length ∧ Lib.idxByFrom eq x l i = ((i + k : Nat) : Int) ∧ eq x l[k]! = true ∧ ∀ j, j < k → eq x l[j]! = false
  | [], _ => .inl ⟨rfl, fun j hj => absurd hj (Nat.not_lt_zero _)⟩
  | y :: r, i => by
    cases h : eq x y with
    | true => exact .inr ⟨0, by simp, by simp [Lib.idxByFrom, h], by simpa using h, fun j hj => absurd hj (Nat.not_lt_zero _)⟩
    | false =>
      rcases pcIdx_spec eq x r (i + 1) with ⟨e, ha⟩ | ⟨k, hk, e, ht, ha⟩
      · refine .inl ⟨by simp [Lib.idxByFrom, h, e], fun j hj => ?_⟩
        cases j with
        | zero => simpa using h
        | succ j => simpa using ha j (by simpa using hj)
      · refine .inr ⟨k + 1, by simpa using hk, by simp only [Lib.idxByFrom, h]; rw [show (if false = true then (i : Int) else Lib.idxByFrom eq x r (i + 1)) = Lib.idxByFrom eq x r (i + 1) from rfl, e]; congr 1; omega, by simpa using ht, fun j hj => ?_⟩
        cases j with
        | zero => simpa using h
        | succ j => simpa using ha j (by omega)
theorem pcKept_start {p : Pc → Bool} {xs : List Pc} {cur : Array Value} {k0 : Nat} (hk0 : k0 < xs.length) (ht : p xs[k0]! = true) (hall : ∀ j, j < k0 → p xs[j]! = false) (htk : cur.toList.take (xs.length * 4) = flatE Pc.enc xs)
    (hs : xs.length * 4 ≤ cur.size) : PcKept p xs cur k0 (k0 + 1) := by
  have e1 : (xs.take k0).filter (fun x => !p x) = xs.take k0 := List.filter_eq_self.2 (fun x hx => by
    obtain ⟨i, hi, rfl⟩ := List.getElem_of_mem hx
    have hik : i < k0 := by simp at hi; omega
    have := hall i hik
    rw [getElem!_pos xs i (by omega)] at this
    simp [this])
  have e : (xs.take (k0 + 1)).filter (fun x => !p x) = xs.take k0 := by
    rw [List.take_add_one, List.getElem?_eq_getElem hk0, List.filter_append, e1]
    rw [getElem!_pos xs k0 hk0] at ht
    simp [ht]
  refine ⟨?_, by rw [e]; simp; omega, fun m r hm hml hr => ?_⟩
  · rw [e, flatE_take pc_len, ← htk, List.take_take]
    congr 1
    omega
  · have h1 := flatE_get pc_len xs m r hr
    rw [← htk, List.getElem?_take, if_pos (by omega), Array.getElem?_toList] at h1
    rw [h1, List.getElem?_eq_getElem hml, getElem!_pos xs m hml]
    rfl
def pcPut (c : Array Value) (o : Nat) (y : Pc) : Array Value := ((((c.setIfInBounds o (.int .i64 y.pid)).setIfInBounds (o + 1) (.int .i64 y.vers)).setIfInBounds (o + 2) (.int .i64 y.pos)).setIfInBounds (o + 3) (.string y.data))
theorem pcPut_size (c : Array Value) (o : Nat) (y : Pc) : (pcPut c o y).size = c.size := by simp [pcPut]
theorem pcPut_get (c : Array Value) (o : Nat) (y : Pc) (k : Nat) (hs : o + 4 ≤ c.size) : (pcPut c o y)[k]? = if o ≤ k ∧ k < o + 4 then y.enc[k - o]? else c[k]? := by
  simp only [pcPut, Array.getElem?_setIfInBounds, Array.size_setIfInBounds]
  rcases (by omega : k < o ∨ k = o ∨ k = o + 1 ∨ k = o + 2 ∨ k = o + 3 ∨ o + 4 ≤ k) with h | h | h | h | h | h
  · rw [if_neg (by omega), if_neg (by omega), if_neg (by omega), if_neg (by omega), if_neg (by omega)]
  · subst h
    rw [if_neg (by omega), if_neg (by omega), if_neg (by omega), if_pos rfl, if_pos (by omega), if_pos (by omega)]
    simp [Pc.enc]
  · subst h
    rw [if_neg (by omega), if_neg (by omega), if_pos rfl, if_pos (by omega), if_pos (by omega)]
    simp [Pc.enc]
  · subst h
    rw [if_neg (by omega), if_pos rfl, if_pos (by omega), if_pos (by omega)]
    simp [Pc.enc]
  · subst h
    rw [if_pos rfl, if_pos (by omega), if_pos (by omega)]
    simp [Pc.enc]
  · rw [if_neg (by omega), if_neg (by omega), if_neg (by omega), if_neg (by omega), if_neg (by omega)]
theorem PcKept.keep {p : Pc → Bool} {xs : List Pc} {c : Array Value} {i j : Nat} (h : PcKept p xs c i j) (hij : i ≤ j) (hj : j < xs.length) (hs : xs.length * 4 ≤ c.size) (hp : p xs[j]! = false) :
    PcKept p xs (pcPut c (i * 4) xs[j]!) (i + 1) (j + 1) := by
  have e : (xs.take (j + 1)).filter (fun x => !p x) = ((xs.take j).filter fun x => !p x) ++ [xs[j]!] := by
    rw [List.take_add_one, List.getElem?_eq_getElem hj, List.filter_append]
    rw [getElem!_pos xs j hj] at hp ⊢
    simp [hp]
  refine ⟨?_, by rw [e]; simp [h.len], fun m r hm hml hr => ?_⟩
  · rw [e, flatE_append, ← h.done]
    apply List.ext_getElem?
    intro k
    have hsz : (c.toList.take (i * 4)).length = i * 4 := by simp; omega
    rw [List.getElem?_take, Array.getElem?_toList, pcPut_get _ _ _ _ (by omega)]
    by_cases h1 : k < i * 4
    · rw [if_pos (by omega), if_neg (by omega), List.getElem?_append_left (by omega), List.getElem?_take, if_pos h1, Array.getElem?_toList]
    · rw [List.getElem?_append_right (by omega), hsz]
      by_cases h2 : k < (i + 1) * 4
      · rw [if_pos h2, if_pos (by omega), flatE_one]
      · rw [if_neg h2, List.getElem?_eq_none (by rw [flatE_one, pc_len]; omega)]
  · rw [pcPut_get _ _ _ _ (by omega), if_neg (by omega)]
    exact h.rest m r (by omega) hml hr
/-- A predicate that answers alike wherever nothing but the row turned. -/
def PcPredG (P : Program) (g : Nat) (lb : Array Value) (p : Pc → Bool) (xs : List Pc) (w : World) (r : Option Nat) : Prop :=
  ∀ W x, x ∈ xs → w.grownBy W r → Calls P g (#[Pc.val x] ++ lb) W fun e w' => e = .returned (.bool (p x)) ∧ Below W.heap.size W w'
theorem pcGrown {u x : World} {g : Nat} {cur c : Array Value} (hsz : g < u.heap.size) : (holds u g cur 47).grownBy (plus (holds u g c 47) x) (some g) := by
  refine ⟨rfl, rfl, rfl, by simp [size_plus, size_holds], fun k hk hne => ?_⟩
  have hkg : ¬ k = g := fun e => hne (by rw [e])
  rw [(below_plus _ x).block k (by simpa [size_holds] using hk), heap_holds, heap_holds, if_neg (fun e => hkg e.1), if_neg (fun e => hkg e.1)]

set_option maxHeartbeats 4000000 in
set_option maxRecDepth 20000 in
theorem pcDeleteFunc_calls (p : Pc → Bool) (f : Nat) (lb : Array Value) (eg : ∀ args w, (callFunc f args).run Try.prog w = .ok (.enter f args) w) (v : Value) (n B : Nat) (xs : List Pc) (w : World)
    (hw : w.ownsRow B 47 4 v n (flatE Pc.enc xs)) (hp : PcPredG Try.prog f lb p xs w v.ownBlock) (hn : n ≤ 1000000) :
    Calls Try.prog 37 #[v, .func (.func f) #[] lb] w fun e w' => ∃ v', e = .returned v' ∧ w'.ownsRow B 47 4 v' (xs.filter fun x => !p x).length (flatE Pc.enc (xs.filter fun x => !p x)) ∧ w.grownBy w' v.ownBlock ∧ v'.ownBlock = v.ownBlock := by
  obtain ⟨ao, cap, hv, hsl⟩ := ownE_sl pc_len (by omega) hw
  have hln := Sl.lenE hsl
  have hIX := pcIndexFunc_calls p f lb eg ao n cap xs w hsl (fun W x hx hW => hp W x hx (grownBy_of_below hW _))
  rcases pcIdx_spec (fun _ y => p y) default xs 0 with ⟨e1, hall⟩ | ⟨k0, hk0, e1, ht, hall⟩
  · have e2 : Lib.idxBy (fun _ y => p y) xs default = -1 := e1
    rw [e2] at hIX
    have e3 : xs.filter (fun x => !p x) = xs := List.filter_eq_self.2 (fun x hx => by
      obtain ⟨i, hi, rfl⟩ := List.getElem_of_mem hx
      have := hall i hi
      rw [getElem!_pos xs i hi] at this
      simp [this])
    rw [e3, hln]
    have W : Aside (w.ownsRow B 47 4 v n (flatE Pc.enc xs)) := hw
    subst hv
    clear hall e1 hw hsl hp e2
    go_enter Try.func37, Try.ntmps37
    go_wp2_with (go_at_call 35; refine hIX.mono ?_; rintro e w1 ⟨rfl, hb1⟩)
    go_ret
    obtain ⟨x, rfl⟩ := plus_of_below hb1
    exact ⟨_, rfl, own_plus W.out, grownBy_of_below hb1 _, rfl⟩
  · have e2 : Lib.idxBy (fun _ y => p y) xs default = (k0 : Int) := by have := e1; rw [Nat.zero_add] at this; exact this
    rw [e2] at hIX
    obtain ⟨hl, ⟨_, hn0⟩ | ⟨g, cp, cur, hv', hg, hh, hnc, hcm, hcs, htk⟩⟩ := hw
    · omega
    rw [hv] at hv'
    cases hv'
    subst hv
    have hbig : cap ≤ 9223372036854775807 := by unfold maxLen at hcm; omega
    obtain ⟨u, hself, hsz⟩ : ∃ u : World, w = holds u g cur 47 ∧ g < u.heap.size := ⟨w, holds_self hh, (Array.getElem?_eq_some_iff.1 hh).1⟩
    subst hself
    have hkept : PcKept p xs cur k0 (k0 + 1) := pcKept_start hk0 ht hall (by rw [hln]; exact htk) (by omega)
    have K0 : Aside (PcKept p xs cur k0 (k0 + 1)) := hkept
    have P0 : Aside (∀ c x y, y ∈ xs → Calls Try.prog f (#[Pc.val y] ++ lb) (plus (holds u g c 47) x) fun e w' => e = .returned (.bool (p y)) ∧ Below (plus (holds u g c 47) x).heap.size (plus (holds u g c 47) x) w') := fun c x y hy => hp _ y hy (pcGrown hsz)
    clear hkept hp hall ht e1 e2 hsl htk hh
    go_enter Try.func37, Try.ntmps37
    go_wp2_with (go_at_call 35; refine hIX.mono ?_; rintro e w1 ⟨rfl, hb1⟩; obtain ⟨x, hx⟩ := plus_of_below hb1; subst hx; clear hb1)
    go_loopg [5, 6] (n - (k0 + 1)) (fun k s5 s6 wr => ∃ (i j : Nat) (c : Array Value) (x : World), s5 = .int .i64 (i : Int) ∧ s6 = .int .i64 (j : Int) ∧ wr = plus (holds u g c 47) x ∧ k + j = n ∧ i < j ∧ c.size = cap * 4 ∧ Aside (PcKept p xs c i j))
    case atStart => exact ⟨k0, k0 + 1, cur, x, rfl, by simp, rfl, by omega, by omega, hcs, K0⟩
    case round =>
      obtain ⟨i, j, c, x, rfl, rfl, rfl, hkj, hij, hcz, KK⟩ := hrel
      by_cases hj : j < n
      · have hr := KK.out.rest j
        have l0 : c[j * 4]? = some (.int .i64 xs[j]!.pid) := hr 0 (Nat.le_refl _) (by omega) (by omega)
        have l1 : c[j * 4 + 1]? = some (.int .i64 xs[j]!.vers) := hr 1 (Nat.le_refl _) (by omega) (by omega)
        have l2 : c[j * 4 + 2]? = some (.int .i64 xs[j]!.pos) := hr 2 (Nat.le_refl _) (by omega) (by omega)
        have l3 : c[j * 4 + 3]? = some (.string xs[j]!.data) := hr 3 (Nat.le_refl _) (by omega) (by omega)
        have hcall : ∀ W, Below (holds u g c 47).heap.size (holds u g c 47) W → Calls Try.prog f (#[Pc.val xs[j]!] ++ lb) W fun e w' => e = .returned (.bool (p xs[j]!)) ∧ Below W.heap.size W w' := fun W hW => by
          obtain ⟨x, rfl⟩ := plus_of_below hW
          exact P0.out c x xs[j]! (by rw [getElem!_pos xs j (by omega)]; exact List.getElem_mem _)
        have KS := fun h => PcKept.skip KK.out (by omega : j < xs.length) h
        have KP := fun h => PcKept.keep KK.out (by omega : i ≤ j) (by omega : j < xs.length) (by omega) h
        have KS' : Aside (p xs[j]! = true → PcKept p xs c i (j + 1)) := KS
        have KP' : Aside (p xs[j]! = false → PcKept p xs (pcPut c (i * 4) xs[j]!) (i + 1) (j + 1)) := KP
        clear hr KS KP KK
        unfold pcPut at KP'
        generalize xs[j]! = y at l0 l1 l2 l3 hcall KS' KP'
        obtain ⟨y1, y2, y3, y4⟩ := y
        simp only [] at l0 l1 l2 l3 KP'
        have hcall : ∀ W, Below (holds u g c 47).heap.size (holds u g c 47) W → Calls Try.prog f (#[.agg #[.int .i64 y1, .int .i64 y2, .int .i64 y3, .string y4]] ++ lb) W fun e w' => e = .returned (.bool (p ⟨y1, y2, y3, y4⟩)) ∧ Below W.heap.size W w' := hcall
        obtain ⟨z0, s0⟩ : ∃ z, c[i * 4]? = some z := ⟨_, Array.getElem?_eq_getElem (by omega)⟩
        obtain ⟨z1, s1⟩ : ∃ z, c[i * 4 + 1]? = some z := ⟨_, Array.getElem?_eq_getElem (by omega)⟩
        obtain ⟨z2, s2⟩ : ∃ z, c[i * 4 + 2]? = some z := ⟨_, Array.getElem?_eq_getElem (by omega)⟩
        obtain ⟨z3, s3⟩ : ∃ z, c[i * 4 + 3]? = some z := ⟨_, Array.getElem?_eq_getElem (by omega)⟩
        cases hq : p ⟨y1, y2, y3, y4⟩ with
        | true =>
          rw [hq] at hcall
          have K2 : Aside (PcKept p xs c i (j + 1)) := KS'.out hq
          clear KS' KP' hq
          have key : ∀ wr', Below (holds u g c 47).heap.size (holds u g c 47) wr' →
              ∃ (i' j' : Nat) (c' : Array Value) (x' : World), Value.int .i64 (i : Int) = .int .i64 (i' : Int) ∧ Value.int .i64 ((j : Int) + 1) = .int .i64 (j' : Int) ∧ wr' = plus (holds u g c' 47) x' ∧ (gk - 1) + j' = n ∧ i' < j' ∧ c'.size = cap * 4 ∧ Aside (PcKept p xs c' i' j') := fun wr' hb =>
            let ⟨z, hz⟩ := plus_of_below hb
            ⟨i, j + 1, c, z, rfl, by simp, hz, by omega, by omega, hcz, K2⟩
          go_wp2_with (go_at_fn f; (with_reducible refine (hcall _ ?_).mono ?_); (rotate_left 1); (rintro e w1 ⟨rfl, hb⟩; obtain ⟨x, hx⟩ := plus_of_below hb; subst hx); clear hb)
          · go_roundg (gk - 1)
            case measure => omega
            case rel =>
              refine key _ ?_
              repeat (first | (with_reducible exact Below.refl _ _) | (with_reducible assumption) | (with_reducible refine below_to_plus ?_ ?_ _) | (with_reducible refine below_holds ?_ ?_ _ _) | (with_reducible refine Below.alloc ?_ ?_ _) | (with_reducible refine Below.drew ?_) | (with_reducible refine below_drewN ?_ _) | (with_reducible refine Below.setCell ?_ ?_ _))
              all_goals first | omega | (simp; done) | (simp [go_sem]; done) | (simp [go_sem]; omega)
          · repeat (first | (with_reducible exact Below.refl _ _) | (with_reducible assumption) | (with_reducible refine below_to_plus ?_ ?_ _) | (with_reducible refine below_holds ?_ ?_ _ _) | (with_reducible refine Below.alloc ?_ ?_ _) | (with_reducible refine Below.drew ?_) | (with_reducible refine below_drewN ?_ _) | (with_reducible refine Below.setCell ?_ ?_ _))
            all_goals first | omega | (simp; done) | (simp [go_sem]; done) | (simp [go_sem]; omega)
        | false =>
          rw [hq] at hcall
          have K2 : Aside (PcKept p xs ((((c.setIfInBounds (i * 4) (.int .i64 y1)).setIfInBounds (i * 4 + 1) (.int .i64 y2)).setIfInBounds (i * 4 + 2) (.int .i64 y3)).setIfInBounds (i * 4 + 3) (.string y4)) (i + 1) (j + 1)) := KP'.out hq
          clear KS' KP' hq
          have key : ∀ wr', Below (holds u g ((((c.setIfInBounds (i * 4) (.int .i64 y1)).setIfInBounds (i * 4 + 1) (.int .i64 y2)).setIfInBounds (i * 4 + 2) (.int .i64 y3)).setIfInBounds (i * 4 + 3) (.string y4)) 47).heap.size (holds u g ((((c.setIfInBounds (i * 4) (.int .i64 y1)).setIfInBounds (i * 4 + 1) (.int .i64 y2)).setIfInBounds (i * 4 + 2) (.int .i64 y3)).setIfInBounds (i * 4 + 3) (.string y4)) 47) wr' →
              ∃ (i' j' : Nat) (c' : Array Value) (x' : World), Value.int .i64 ((i : Int) + 1) = .int .i64 (i' : Int) ∧ Value.int .i64 ((j : Int) + 1) = .int .i64 (j' : Int) ∧ wr' = plus (holds u g c' 47) x' ∧ (gk - 1) + j' = n ∧ i' < j' ∧ c'.size = cap * 4 ∧ Aside (PcKept p xs c' i' j') := fun wr' hb =>
            let ⟨z, hz⟩ := plus_of_below hb
            ⟨i + 1, j + 1, _, z, by simp, by simp, hz, by omega, by omega, by simp [hcz], K2⟩
          go_wp2_with (go_at_fn f; (with_reducible refine (hcall _ ?_).mono ?_); (rotate_left 1); (rintro e w1 ⟨rfl, hb⟩; obtain ⟨x, hx⟩ := plus_of_below hb; subst hx); clear hb)
          · go_roundg (gk - 1)
            case measure => omega
            case rel =>
              refine key _ ?_
              repeat (first | (with_reducible exact Below.refl _ _) | (with_reducible assumption) | (with_reducible refine below_to_plus ?_ ?_ _) | (with_reducible refine below_holds ?_ ?_ _ _) | (with_reducible refine Below.alloc ?_ ?_ _) | (with_reducible refine Below.drew ?_) | (with_reducible refine below_drewN ?_ _) | (with_reducible refine Below.setCell ?_ ?_ _))
              all_goals first | omega | (simp; done) | (simp [go_sem]; done) | (simp [go_sem]; omega)
          · repeat (first | (with_reducible exact Below.refl _ _) | (with_reducible assumption) | (with_reducible refine below_to_plus ?_ ?_ _) | (with_reducible refine below_holds ?_ ?_ _ _) | (with_reducible refine Below.alloc ?_ ?_ _) | (with_reducible refine Below.drew ?_) | (with_reducible refine below_drewN ?_ _) | (with_reducible refine Below.setCell ?_ ?_ _))
            all_goals first | omega | (simp; done) | (simp [go_sem]; done) | (simp [go_sem]; omega)
      · have hjn : j = n := by omega
        have hjz : ¬ (j : Int) < (n : Int) := by omega
        have hcl : ∀ ty, (Builtin.clear_ #[22] ty #[.slice (some ⟨g, i * 4, none⟩) (n - i) (cap - i)]).run Try.prog (plus (holds u g c 47) x) = .ok (.tuple #[]) ((plus (holds u g c 47) x).setCells g (i * 4) (Builtin.zeroCells (Value.cells (.agg #[.int .i64 0, .int .i64 0, .int .i64 0, .string ⟨#[]⟩])) (n - i)).toList) :=
          fun ty => run_clear_k _ 22 47 ty (.agg #[.int .i64 0, .int .i64 0, .int .i64 0, .string ⟨#[]⟩]) Try.underlying22 (fun w => by kernel_rfl) (by intro v hv; simp [Value.cells] at hv; rcases hv with rfl | rfl <;> rfl) (by simp [Value.cells]) g (i * 4) (n - i) (cap - i) (by omega)
            (fun m hm => by simp [Value.cells] at hm; rw [cell?_plus, if_pos (by rw [size_holds]; exact hsz), cell?_holds, if_pos ⟨rfl, hsz⟩, Array.getElem?_eq_getElem (by omega)]; rfl)
            (fun m hm => by simp [Value.cells] at hm; rw [frozen?_plus, if_pos (by rw [size_holds]; exact hsz)]; show (holds u g c 47).frozen? _ = false; rw [frozen?_holds, if_pos ⟨rfl, hsz⟩])
        have hsc := setCells_putAll u x g 47 hsz (Builtin.zeroCells (Value.cells (.agg #[.int .i64 0, .int .i64 0, .int .i64 0, .string ⟨#[]⟩])) (n - i)).toList (i * 4) c
        obtain ⟨c', hc'⟩ : ∃ c', c' = putAll c (i * 4) (Builtin.zeroCells (Value.cells (.agg #[.int .i64 0, .int .i64 0, .int .i64 0, .string ⟨#[]⟩])) (n - i)).toList := ⟨_, rfl⟩
        rw [← hc'] at hsc
        rw [hsc] at hcl
        have hzl : (Builtin.zeroCells (Value.cells (.agg #[.int .i64 0, .int .i64 0, .int .i64 0, .string ⟨#[]⟩])) (n - i)).toList.length = (n - i) * 4 := by simp [Builtin.zeroCells, Value.cells]
        have HT : Aside (c'.toList.take (i * 4) = c.toList.take (i * 4)) := by show _ = _; rw [hc']; exact putAll_keep _ _ _ _ (by rw [hzl]; omega) (Nat.le_refl _)
        have HS : Aside (c'.size = c.size) := by show _ = _; rw [hc', putAll_size]
        clear hsc hc' hzl
        go_wp2
        go_ret
        have hK := KK.out
        have hlen : (xs.filter fun x => !p x).length = i := by have := hK.len; rw [List.take_of_length_le (by omega)] at this; exact this
        have hdone : c.toList.take (i * 4) = flatE Pc.enc (xs.filter fun x => !p x) := by have := hK.done; rw [List.take_of_length_le (l := xs) (by omega)] at this; exact this
        have hS := HS.out
        rw [hlen]
        refine ⟨_, rfl, ⟨by rw [flatE_length pc_len, hlen], .inr ⟨g, cap, c', rfl, hg, ?_, by omega, hcm, by omega, ?_⟩⟩, pcGrown hsz, rfl⟩
        · rw [(below_plus _ _).block g (by rw [size_holds]; exact hsz), heap_holds, if_pos ⟨rfl, hsz⟩]
        · rw [HT.out]; exact hdone

structure Hd where
  hid : Int
  vers : Int
  til : Int
instance : Inhabited Hd := ⟨⟨0, 0, 0⟩⟩
def Hd.enc (x : Hd) : List Value := [.int .i64 x.hid, .int .i64 x.vers, .int .i64 x.til]
def Hd.val (x : Hd) : Value := .agg #[.int .i64 x.hid, .int .i64 x.vers, .int .i64 x.til]
theorem hd_len (x : Hd) : x.enc.length = 3 := rfl
theorem hd_one (x : Hd) : ∀ u ∈ x.enc, u.oneCell' = true := by
  intro u hu
  simp only [Hd.enc, List.mem_cons, List.not_mem_nil, or_false] at hu
  rcases hu with rfl | rfl | rfl <;> rfl
/-- The cells of a slice of these elements. -/
def CellsHd (W : World) (ao : Option Addr) (ys : List Hd) : Prop := ∀ j, j < ys.length → ∃ b off, ao = some ⟨b, off, none⟩ ∧ b < W.heap.size ∧ W.cell? ⟨b, off + j * 3, none⟩ = some (.int .i64 ys[j]!.hid) ∧ W.cell? ⟨b, off + j * 3 + 1, none⟩ = some (.int .i64 ys[j]!.vers) ∧ W.cell? ⟨b, off + j * 3 + 2, none⟩ = some (.int .i64 ys[j]!.til)
theorem cellsHd {W : World} {ao : Option Addr} {n cap : Nat} {ys : List Hd} (h : Sl W 3 ao n cap (ys.map Hd.enc)) : CellsHd W ao ys := by
  intro j hj
  have hl := Sl.lenE h
  obtain ⟨b, off, rfl, hb, hc⟩ := h.here (by omega)
  have hx : (ys.map Hd.enc)[j]? = some ys[j]!.enc := by rw [List.getElem?_map, List.getElem?_eq_getElem hj, getElem!_pos ys j hj]; rfl
  exact ⟨b, off, rfl, hb, hc j _ hx 0 _ rfl, hc j _ hx 1 _ rfl, hc j _ hx 2 _ rfl⟩
theorem CellsHd.later {W W' : World} {ao : Option Addr} {ys : List Hd} (h : CellsHd W ao ys) (hb : Below W.heap.size W W') : CellsHd W' ao ys := fun j hj => by
  obtain ⟨b, off, e, hlt, h0, h1, h2⟩ := h j hj
  exact ⟨b, off, e, Nat.lt_of_lt_of_le hlt hb.size, (hb.cell (p := ⟨b, off + j * 3, none⟩) hlt).trans h0, (hb.cell (p := ⟨b, off + j * 3 + 1, none⟩) hlt).trans h1, (hb.cell (p := ⟨b, off + j * 3 + 2, none⟩) hlt).trans h2⟩
theorem hdLeaves : leavesOf Try.prog 8 36 = some [some (some .i64), some (some .i64), some (some .i64)] := by kernel_rfl
/-- What the leaves tell of an element: strings are no longer than an int says. -/
def Hd.fit (x : Hd) : Prop := (Lit.int .i64 x.hid).wf = true ∧ (Lit.int .i64 x.vers).wf = true ∧ (Lit.int .i64 x.til).wf = true
theorem hd_cells (l : List Value) (h0 : leavesOk [some (some .i64), some (some .i64), some (some .i64)] l) : ∃ y : Hd, l = y.enc ∧ y.fit := by
  obtain ⟨a0, r0, e0, ⟨v0, rfl, g0⟩, h1⟩ := leavesOk_cons h0
  obtain ⟨a1, r1, e1, ⟨v1, rfl, g1⟩, h2⟩ := leavesOk_cons h1
  obtain ⟨a2, r2, e2, ⟨v2, rfl, g2⟩, h3⟩ := leavesOk_cons h2
  have e3 := leavesOk_nil h3
  exact ⟨⟨v0, v1, v2⟩, by rw [e0, e1, e2, e3]; rfl, ⟨g0, g1, g2⟩⟩
theorem hds_of : ∀ (xs : List (List Value)), (∀ x ∈ xs, leavesOk [some (some .i64), some (some .i64), some (some .i64)] x) → ∃ ys : List Hd, xs = ys.map Hd.enc ∧ ∀ y ∈ ys, y.fit
  | [], _ => ⟨[], rfl, fun y h => by cases h⟩
  | x :: xs, h => by
    obtain ⟨y, rfl, hy⟩ := hd_cells x (h x (by simp))
    obtain ⟨ys, rfl, hys⟩ := hds_of xs (fun z hz => h z (by simp [hz]))
    exact ⟨y :: ys, rfl, fun z hz => by
      rcases List.mem_cons.1 hz with e | hz'
      · rw [e]; exact hy
      · exact hys z hz'⟩
theorem hdInfo : ∃ i0 : TypeInfo, Try.prog.info? 36 = some i0 ∧ i0.zero = some (.agg #[.int .i64 0, .int .i64 0, .int .i64 0]) ∧ i0.size = 3 ∧ i0.bytes = 24 := by
  have h : (Try.prog.info? 36).map (fun i => (i.zero, i.size, i.bytes)) = some (some (.agg #[.int .i64 0, .int .i64 0, .int .i64 0]), 3, 24) := by kernel_rfl
  cases hi : Try.prog.info? 36 with
  | none => rw [hi] at h; cases h
  | some i0 =>
    rw [hi] at h
    simp only [Option.map_some, Option.some.injEq, Prod.mk.injEq] at h
    exact ⟨i0, rfl, h.1, h.2.1, h.2.2⟩

set_option maxHeartbeats 1000000 in
theorem hdClone_calls (ao : Option Addr) (n cap : Nat) (xs : List Hd) (w : World) (h : Sl w 3 ao n cap (xs.map Hd.enc)) (hn : n ≤ 1000000) :
    Calls Try.prog 55 #[.slice ao n cap] w fun e w' => ∃ v', e = .returned v' ∧ w'.ownsRow w.heap.size 36 3 v' n (flatE Hd.enc xs) ∧ Below w.heap.size w w' := by
  have q22 : ∀ (w : World) (a : Option Addr) (n c n' c' : Nat), (binOp .eql 23 (.slice a n c) (.slice none n' c')).run Try.prog w = .ok (.bool a.isNone) w := fun w a n c n' c' => Lib.run_eql_slice_nil w _ _ a n c n' c' Try.underlying23
  have hln := Sl.lenE h
  cases ao with
  | none =>
    have hc0 := h.hnil rfl
    have h0 : n = 0 := by have := h.hcap; omega
    subst hc0
    subst h0
    have hxs : xs = [] := List.eq_nil_of_length_eq_zero hln
    subst hxs
    clear h
    go_enter Try.func55, Try.ntmps55
    go_wp2
    go_ret
    exact ⟨_, rfl, World.ownsRow_nil _ _ _ _, Below.refl _ _⟩
  | some a =>
    obtain ⟨i0, hi, hz, hs4, hby⟩ := hdInfo
    have A : Aside (∀ j u, (flatE Hd.enc xs)[j]? = some u → w.cell? (a.add j) = some u) := by
      intro j u hu
      by_cases h0 : n = 0
      · have hxs : xs = [] := List.eq_nil_of_length_eq_zero (by omega)
        subst hxs
        cases hu
      · obtain ⟨b, off, e, _, _⟩ := h.here (by omega)
        cases e
        rw [Addr.add_lit]
        exact Sl.cellsE hd_len (by omega) h j u hu
    have HL : Aside ((flatE Hd.enc xs).length = n * 3) := by show _ = _; rw [flatE_length hd_len, hln]
    clear h
    go_enter Try.func55, Try.ntmps55
    go_wp2_with (at_builtin; refine wpList_append_own _ rfl _ _ 23 rfl w.heap.size 36 i0 _ 3 24 Try.underlying23 hi hz hs4 hby rfl (by omega) _ _ _ rfl (World.ownsRow_made w #[] 0 (Nat.le_refl _) (Nat.zero_le _) (by simp)) a n cap (flatE Hd.enc xs) rfl ?qc1 ?qc2 ?qc3 ?qc4 ?qc5 ?qc6 ?_)
    case qc1 => exact HL.out
    case qc2 =>
      intro j u hj
      exact Lib.cell?_alloc_some _ (A.out j u hj)
    case qc3 => exact flatE_cells hd_one xs
    case qc4 => unfold maxLen; omega
    case qc5 => omega
    case qc6 => simp
    intro v' w1 hown hgrow hnil
    go_wp2
    go_ret
    refine ⟨v', rfl, by simpa using hown, ?_⟩
    exact ((Below.refl _ w).alloc (Nat.le_refl _) _).grown hgrow (by simp) (by intro k hk; simp [Value.ownBlock] at hk; omega)

set_option maxHeartbeats 4000000 in
set_option maxRecDepth 20000 in
theorem hdDelete_calls (v : Value) (n i B : Nat) (xs : List Hd) (w : World) (hown : w.ownsRow B 36 3 v n (flatE Hd.enc xs)) (hi : i < n) (hn : n ≤ 1000000) :
    Calls Try.prog 49 #[v, .int .i64 i, .int .i64 ((i : Int) + 1)] w fun e w' =>
      ∃ v', e = .returned v' ∧ w'.ownsRow B 36 3 v' (n - 1) (flatE Hd.enc (xs.take i ++ xs.drop (i + 1))) ∧ w.grownBy w' v.ownBlock ∧ v'.ownBlock = v.ownBlock := by
  have hfl : (flatE Hd.enc xs).length = xs.length * 3 := flatE_length hd_len xs
  obtain ⟨hl, ⟨_, hn0⟩ | ⟨g, cap, cur, rfl, hBg, hh, hnc, hcm, hcs, htk⟩⟩ := hown
  · omega
  have hln : xs.length = n := by omega
  have hbig : cap ≤ 9223372036854775807 := by unfold maxLen at hcm; omega
  obtain ⟨u, hself, hsz, hsu⟩ : ∃ u : World, w = holds u g cur 36 ∧ g < u.heap.size ∧ u = w := ⟨w, holds_self hh, (Array.getElem?_eq_some_iff.1 hh).1, rfl⟩
  obtain ⟨i0, hi0, hz0, hs0, hb0⟩ := hdInfo
  have hnl : (flatE Hd.enc (xs.drop (i + 1))).length = (n - (i + 1)) * 3 := by rw [flatE_length hd_len, List.length_drop, hln]
  obtain ⟨c1, hc1⟩ : ∃ c, c = putAll cur (i * 3) (flatE Hd.enc (xs.drop (i + 1))) := ⟨_, rfl⟩
  have hz1 : c1.size = cap * 3 := by rw [hc1, putAll_size, hcs]
  obtain ⟨c2, hc2⟩ : ∃ c, c = putAll c1 ((n - 1) * 3) (Builtin.zeroCells (Value.cells (.agg #[.int .i64 0, .int .i64 0, .int .i64 0])) 1).toList := ⟨_, rfl⟩
  have hzl : (Builtin.zeroCells (Value.cells (.agg #[.int .i64 0, .int .i64 0, .int .i64 0])) 1).toList.length = 3 := by simp [Builtin.zeroCells, Value.cells]
  have hz2 : c2.size = cap * 3 := by rw [hc2, putAll_size, hz1]
  have ht2 : c2.toList.take ((n - 1) * 3) = flatE Hd.enc (xs.take i ++ xs.drop (i + 1)) := by
    rw [hc2, putAll_keep _ _ _ _ (by rw [hzl, hz1]; omega) (Nat.le_refl _), hc1, show (n - 1) * 3 = i * 3 + (flatE Hd.enc (xs.drop (i + 1))).length by rw [hnl]; omega, putAll_take _ _ _ (by rw [hnl, hcs]; omega), ← flatE_del hd_len, ← htk, List.take_take, Nat.min_eq_left (by omega)]
  have fin : ∀ x, ∃ v', Ending.returned (.slice (some ⟨g, 0, none⟩) (n - 1) cap) = .returned v' ∧ (plus (holds u g c2 36) x).ownsRow B 36 3 v' (n - 1) (flatE Hd.enc (xs.take i ++ xs.drop (i + 1))) ∧ (holds u g cur 36).grownBy (plus (holds u g c2 36) x) (Value.slice (some ⟨g, 0, none⟩) n cap).ownBlock ∧ v'.ownBlock = (Value.slice (some ⟨g, 0, none⟩) n cap).ownBlock := fun x => by
    refine ⟨_, rfl, ⟨by rw [flatE_length hd_len, List.length_append, List.length_take, List.length_drop]; omega, .inr ⟨g, cap, c2, rfl, hBg, ?_, by omega, hcm, hz2, ht2⟩⟩, ?_, rfl⟩
    · exact hp_plus (by rw [heap_holds, if_pos ⟨rfl, hsz⟩])
    · refine ⟨rfl, rfl, rfl, by simp [size_plus, size_holds], fun k hk hne => ?_⟩
      have hkg : ¬ k = g := fun e => hne (by rw [e]; rfl)
      rw [(below_plus _ x).block k (by simpa [size_holds] using hk), heap_holds, heap_holds, if_neg (fun e => hkg e.1), if_neg (fun e => hkg e.1)]
  have hcl : ∀ ty x, (Builtin.clear_ #[23] ty #[.slice (some ⟨g, (n - 1) * 3, none⟩) 1 (cap - (n - 1))]).run Try.prog (plus (holds u g c1 36) x) = .ok (.tuple #[]) (plus (holds u g c2 36) x) := fun ty x => by
    rw [run_clear_k _ 23 36 ty (.agg #[.int .i64 0, .int .i64 0, .int .i64 0]) Try.underlying23 (fun w => by kernel_rfl) (by intro v hv; simp [Value.cells] at hv; rcases hv with rfl | rfl | rfl <;> rfl) (by simp [Value.cells]) g ((n - 1) * 3) 1 (cap - (n - 1)) (by omega)
      (fun m hm => by simp [Value.cells] at hm; rw [cell_holds_row hsz, Array.getElem?_eq_getElem (by omega)]; rfl)
      (fun m hm => frozen_holds_row hsz _ _), setCells_putAll u x g 36 hsz, hc2]
  have hap : ∀ (a : Addr) (ty : TypeId) (x : World) (m c : Nat), m = n - (i + 1) → (0 < m → a = ⟨g, (i + 1) * 3, none⟩) → (Builtin.append_ #[23, 23] ty #[.slice (some ⟨g, 0, none⟩) i cap, .slice (some a) m c]).run Try.prog (plus (holds u g cur 36) x) = .ok (.slice (some ⟨g, 0, none⟩) (n - 1) cap) (plus (holds u g c1 36) x) := fun a ty x m c hm ha => by
    have h := run_append_room_cells (P := Try.prog) (w := plus (holds u g cur 36) x) 23 ty 36 i0 Try.underlying23 hi0 g 0 i cap a m c (flatE Hd.enc (xs.drop (i + 1))) (by rw [hnl, hm, hs0])
      (fun j w' hj => by
        have hjl := (List.getElem?_eq_some_iff.1 hj).1
        rw [hnl] at hjl
        rw [ha (by omega), Addr.add_lit, cell_holds_row hsz, ← Array.getElem?_toList]
        have h2 := flatE_drop_get hd_len xs (i + 1) j w' hj
        rw [← htk, List.getElem?_take] at h2
        split at h2
        · exact h2
        · cases h2)
      (flatE_cells hd_one _) (by omega)
      (fun j hj => by rw [hnl] at hj; rw [hs0, cell_holds_row hsz, Array.getElem?_eq_getElem (by omega)]; rfl)
      (fun j hj => frozen_holds_row hsz _ _)
    rw [h, hs0, Nat.zero_add, setCells_putAll u x g 36 hsz, ← hc1, show i + m = n - 1 by omega]
  have FIN : Aside (∀ x, _) := fin
  rw [hself]
  have hF : Aside (u = w) := hsu
  clear hself hsu fin htk ht2 hcs hz1 hz2 hc1 hc2 hnl hl hfl hln hzl hh hi0 hz0 hs0 hb0 hF
  obtain ⟨x0, hx0⟩ : ∃ x0, holds u.drew g cur 36 = plus (holds u g cur 36) x0 := ⟨{ (holds u.drew g cur 36) with heap := #[] }, by simp [plus, holds]; exact ⟨rfl, rfl, rfl⟩⟩
  have hapD := fun a ty => hap a ty x0
  rw [← hx0] at hapD
  clear hap hx0
  have hic : i ≤ cap := by omega
  have hi1 : (i : Int) + 1 ≤ (n : Int) := by omega
  have htn : ((i : Int) + 1).toNat = i + 1 := by omega
  have hn1 : n - 1 ≤ n := by omega
  have hn2 : n - (n - 1) = 1 := by omega
  have hi0 : (0 : Int) ≤ (i : Int) + 1 := by omega
  have hcn : ¬ cap = n - 1 := by omega
  obtain ⟨AD, hAD, hADp⟩ : ∃ AD, (if cap = i + 1 then some (⟨g, 0, none⟩ : Addr) else some ⟨g, (i + 1) * 3, none⟩) = some AD ∧ (0 < n - (i + 1) → AD = ⟨g, (i + 1) * 3, none⟩) := by
    by_cases hcc : cap = i + 1
    · exact ⟨⟨g, 0, none⟩, by rw [if_pos hcc], fun h => by omega⟩
    · exact ⟨_, by rw [if_neg hcc], fun _ => rfl⟩
  have hapE := fun ty => hapD AD ty (n - (i + 1)) (cap - (i + 1)) rfl hADp
  clear hapD hADp
  go_enter Try.func49, Try.ntmps49
  go_wp2
  go_region_law (refine step_append_run rfl _ _ 23 23 rfl _ _ (by simp [Act.eval, Act.put]) (by simp [Act.eval, Act.put]) (hapE _) ?_)
  go_wp2
  go_ret
  exact FIN.out _

end Go.Proofs.Ytcgajlobbjoefaa
