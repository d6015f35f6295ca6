/- This text proves the walk of used of the reference of package cache. Conditions: those that each theorem names. -/
import Derived.Test.YtcgajlobbjoefaaCacheU
import Derived.Test.YtcgajlobbjoefaaCacheH
namespace Go.Proofs.Ytcgajlobbjoefaa
open Go.ChangeShapes Go.WideShapes Go.ChangeAt Go.RowKit
set_option linter.unusedVariables false
set_option linter.unusedSimpArgs false

theorem flat_take (bl : List Pc) (i : Nat) (j : Nat) (u : Value) (h : (flatE Pc.enc (bl.take i))[j]? = some u) : (flatE Pc.enc bl)[j]? = some u := by
  have e : flatE Pc.enc bl = flatE Pc.enc (bl.take i) ++ flatE Pc.enc (bl.drop i) := by rw [← flatE_append, List.take_append_drop]
  rw [e, List.getElem?_append_left (List.getElem?_eq_some_iff.1 h).1]
  exact h
theorem flat_drop (bl : List Pc) (i : Nat) (hi : i ≤ bl.length) (j : Nat) (u : Value) (h : (flatE Pc.enc (bl.drop i))[j]? = some u) : (flatE Pc.enc bl)[i * 4 + j]? = some u := by
  have e : flatE Pc.enc bl = flatE Pc.enc (bl.take i) ++ flatE Pc.enc (bl.drop i) := by rw [← flatE_append, List.take_append_drop]
  have l : (flatE Pc.enc (bl.take i)).length = i * 4 := by rw [flatE_length pc_len, List.length_take]; omega
  rw [e, List.getElem?_append_right (by omega), l, show i * 4 + j - i * 4 = j by omega]
  exact h

set_option maxRecDepth 20000 in
set_option maxHeartbeats 8000000 in
theorem rused_own (cp : Int) (ao : Option Addr) (n c1 : Nat) (ao2 : Option Addr) (n2 c2 : Nat) (bl : List Pc) (hs : List Hd) (i : Nat) (w : World) (h1 : Sl w 4 ao n c1 (bl.map Pc.enc)) (h2 : Sl w 3 ao2 n2 c2 (hs.map Hd.enc)) (hn : n ≤ 1000000) (hi : i < n) :
    Calls Try.prog 59 #[.agg #[.int .i64 cp, .slice ao n c1, .slice ao2 n2 c2], .int .i64 (i : Int)] w fun e w' => ∃ a1 k1, e = .returned (.agg #[.int .i64 cp, .slice a1 (useL i bl).length k1, .slice ao2 n2 c2]) ∧ w'.ownsRow w.heap.size 47 4 (.slice a1 (useL i bl).length k1) (useL i bl).length (flatE Pc.enc (useL i bl)) ∧ Below w.heap.size w w' := by
  obtain ⟨i0, hi0, hz0, hs0, hb0⟩ := pcInfo
  have HL : Aside (bl.length = n) := Sl.lenE h1
  have hcp := h1.hcap
  have hcm := h1.hmax
  have UL : Aside (useL i bl = (bl.take i ++ bl.drop (i + 1)) ++ [bl[i]!]) := rfl
  have UN : Aside ((useL i bl).length = n) := by
    show _ = _
    rw [useL_len (by rw [HL.out]; exact hi), HL.out]
  obtain ⟨ul, hul⟩ : ∃ ul, useL i bl = ul := ⟨_, rfl⟩
  rw [hul] at UL UN ⊢
  clear hul
  obtain ⟨b, off, rfl, hbw, q0, q1, q2, q3⟩ := (cellsPc h1) i (by rw [HL.out]; exact hi)
  have hcells : Aside (∀ j u, (flatE Pc.enc bl)[j]? = some u → w.cell? ⟨b, off + j, none⟩ = some u) := Sl.cellsE pc_len (by omega) h1
  clear h1 h2
  have hiz : (i : Int) < (n : Int) := by omega
  have ONE : Aside (∀ l : List Pc, ∀ u ∈ flatE Pc.enc l, u.oneCell' = true) := fun l => flatE_cells pc_one l
  have HT : Aside ((flatE Pc.enc (bl.take i)).length = i * 4) := by
    show _ = _
    rw [flatE_length pc_len, List.length_take, HL.out]; omega
  have HD' : Aside ((flatE Pc.enc (bl.drop (i + 1))).length = (n - (i + 1)) * 4) := by
    show _ = _
    rw [flatE_length pc_len, List.length_drop, HL.out]
  generalize hy : bl[i]! = y at q0 q1 q2 q3 UL
  obtain ⟨y1, y2, y3, y4⟩ := y
  simp only [] at q0 q1 q2 q3
  clear hy
  have hB3 : Below w.heap.size w ((((w.alloc (.cells #[.int .i64 cp, .slice (some ⟨b, off, none⟩) n c1, .slice ao2 n2 c2] 25)).alloc (.cells #[.int .i64 0, .slice none 0 0, .slice none 0 0] 25)).alloc (.cells #[.int .i64 y1, .int .i64 y2, .int .i64 y3, .string y4] 47)).alloc (.cells #[] 47)) := by
    repeat (first | (with_reducible exact Below.refl _ _) | (with_reducible assumption) | (with_reducible refine below_to_plus ?_ ?_ _) | (with_reducible refine below_holds ?_ ?_ _ _) | (with_reducible refine Below.alloc ?_ ?_ _) | (with_reducible refine Below.drew ?_) | (with_reducible refine below_drewN ?_ _) | (with_reducible refine Below.setCell ?_ ?_ _))
    all_goals first | omega | (simp; done) | (simp [go_sem]; done) | (simp [go_sem]; omega)
  have HSRC : Aside (∀ j u, (flatE Pc.enc (bl.take i))[j]? = some u → ((((w.alloc (.cells #[.int .i64 cp, .slice (some ⟨b, off, none⟩) n c1, .slice ao2 n2 c2] 25)).alloc (.cells #[.int .i64 0, .slice none 0 0, .slice none 0 0] 25)).alloc (.cells #[.int .i64 y1, .int .i64 y2, .int .i64 y3, .string y4] 47)).alloc (.cells #[] 47)).cell? ((⟨b, off, none⟩ : Addr).add j) = some u) := fun j u hu => by
    rw [Addr.add_lit]
    exact (hB3.cell (p := ⟨b, off + j, none⟩) hbw).trans (hcells.out j u (flat_take bl i j u hu))
  have HOWN : Aside (((((w.alloc (.cells #[.int .i64 cp, .slice (some ⟨b, off, none⟩) n c1, .slice ao2 n2 c2] 25)).alloc (.cells #[.int .i64 0, .slice none 0 0, .slice none 0 0] 25)).alloc (.cells #[.int .i64 y1, .int .i64 y2, .int .i64 y3, .string y4] 47)).alloc (.cells #[] 47)).ownsRow (w.heap.size + 1 + 1 + 1) 47 4 (.slice (some ⟨(w.heap.size + 1 + 1 + 1), 0, none⟩) 0 0) 0 (flatE Pc.enc ([] : List Pc))) := by
    refine ⟨rfl, .inr ⟨(w.heap.size + 1 + 1 + 1), 0, #[], rfl, Nat.le_refl _, ?_, Nat.le_refl _, by unfold maxLen; omega, rfl, rfl⟩⟩
    exact hp_new (by simp)
  go_enter Try.func59, Try.ntmps59
  go_wp2_with (at_builtin; refine wpList_append_own _ rfl _ _ 22 rfl (w.heap.size + 1 + 1 + 1) 47 i0 _ 4 40 Try.underlying22 hi0 hz0 hs0 hb0 rfl (by omega) _ _ _ rfl HOWN.out ⟨b, off, none⟩ i c1 (flatE Pc.enc (bl.take i)) rfl HT.out HSRC.out (ONE.out _) (by unfold maxLen; omega) (by omega) (by simp) ?_)
  intro v' w1 hown hgrow _
  have hown1 : w1.ownsRow (w.heap.size + 1 + 1 + 1) 47 4 v' i (flatE Pc.enc (bl.take i)) := by simpa [flatE_nil] using hown
  have hblk : ∀ k r, k < (w.heap.size + 1 + 1 + 1) → ((((w.alloc (.cells #[.int .i64 cp, .slice (some ⟨b, off, none⟩) n c1, .slice ao2 n2 c2] 25)).alloc (.cells #[.int .i64 0, .slice none 0 0, .slice none 0 0] 25)).alloc (.cells #[.int .i64 y1, .int .i64 y2, .int .i64 y3, .string y4] 47)).alloc (.cells #[] 47)).heap[k]? = some r → w1.heap[k]? = some r := fun k r hk hr => by
    rw [hgrow.block k (by simp; omega) (by simp [Value.ownBlock]; omega)]
    exact hr
  have HB : Aside (Below w.heap.size w w1) := hB3.grown hgrow (by simp; omega) (fun k hk => by simp [Value.ownBlock] at hk; omega)
  have Hc : Aside (w1.heap[w.heap.size]? = some (.cells #[.int .i64 cp, .slice (some ⟨b, off, none⟩) n c1, .slice ao2 n2 c2] 25 (0, 0))) := hblk _ _ (by omega) (hp_old (hp_old (hp_old (hp_new rfl))))
  have Hr : Aside (w1.heap[w.heap.size + 1]? = some (.cells #[.int .i64 0, .slice none 0 0, .slice none 0 0] 25 (0, 0))) := hblk _ _ (by omega) (hp_old (hp_old (hp_new (by simp))))
  have Hp : Aside (w1.heap[w.heap.size + 1 + 1]? = some (.cells #[.int .i64 y1, .int .i64 y2, .int .i64 y3, .string y4] 47 (0, 0))) := hblk _ _ (by omega) (hp_old (hp_new (by simp)))
  have Rbl : Aside (w1.ownsRow (w.heap.size + 1 + 1 + 1) 47 4 v' i (flatE Pc.enc (bl.take i))) := hown1
  clear hblk hgrow hown hown1 HOWN HSRC hB3 q0 q1 q2 q3
  have b0 := cell_heap Hc.out 0 _ rfl
  have b1 := cell_heap Hc.out 1 _ rfl
  have b2 := cell_heap Hc.out 2 _ rfl
  have ltc : w.heap.size < w1.heap.size := (Array.getElem?_eq_some_iff.1 Hc.out).1
  have ltp : w.heap.size + 1 + 1 < w1.heap.size := (Array.getElem?_eq_some_iff.1 Hp.out).1
  have hcz : (i : Int) + 1 ≤ (n : Int) := by omega
  have hwz : IntKind.i64.wrap ((i : Int) + 1) = (i : Int) + 1 := by rw [IntKind.wrap_i64]; omega
  have HSRC2 : Aside (∀ j u, (flatE Pc.enc (bl.drop (i + 1)))[j]? = some u → w1.cell? ((⟨b, off + (i + 1) * 4, none⟩ : Addr).add j) = some u) := fun j u hu => by
    rw [Addr.add_lit]
    have := hcells.out _ u (flat_drop bl (i + 1) (by rw [HL.out]; omega) j u hu)
    rw [show off + (i + 1) * 4 + j = off + ((i + 1) * 4 + j) by omega]
    exact (HB.out.cell (p := ⟨b, off + ((i + 1) * 4 + j), none⟩) hbw).trans this
  have HSRC3 : Aside (c1 = i + 1 → ∀ j u, (flatE Pc.enc (bl.drop (i + 1)))[j]? = some u → w1.cell? ((⟨b, off, none⟩ : Addr).add j) = some u) := fun hc j u hu => by
    have h0 := HD'.out
    rw [show n - (i + 1) = 0 by omega, Nat.zero_mul] at h0
    rw [List.eq_nil_of_length_eq_zero h0] at hu
    cases hu
  by_cases hcc : c1 = i + 1
  · go_wp2_with (at_builtin; refine wpList_append_own _ rfl _ _ 22 rfl (w.heap.size + 1 + 1 + 1) 47 i0 _ 4 40 Try.underlying22 hi0 hz0 hs0 hb0 rfl (by omega) _ _ _ rfl Rbl.out ⟨b, off, none⟩ (n - (i + 1)) 0 (flatE Pc.enc (bl.drop (i + 1))) rfl HD'.out (HSRC3.out hcc) (ONE.out _) (by unfold maxLen; omega) (by omega) (by omega) ?_)
    intro v2 w2 hown hgrow _
    have hB3' : ∀ k, v2.ownBlock = some k → (w.heap.size + 1 + 1 + 1) ≤ k := fun k hk => (hown.lt k hk).1
    have hv'k : ∀ k, v'.ownBlock = some k → (w.heap.size + 1 + 1 + 1) ≤ k := fun k hk => (Rbl.out.lt k hk).1
    have Hc' : Aside (w2.heap[w.heap.size]? = some (.cells #[.int .i64 cp, .slice (some ⟨b, off, none⟩) n c1, .slice ao2 n2 c2] 25 (0, 0))) := heap_grown hgrow Hc.out (fun e => by have := hv'k _ e; omega)
    have Hr' : Aside (w2.heap[w.heap.size + 1]? = some (.cells #[.int .i64 0, .slice none 0 0, .slice none 0 0] 25 (0, 0))) := heap_grown hgrow Hr.out (fun e => by have := hv'k _ e; omega)
    have Hp' : Aside (w2.heap[w.heap.size + 1 + 1]? = some (.cells #[.int .i64 y1, .int .i64 y2, .int .i64 y3, .string y4] 47 (0, 0))) := heap_grown hgrow Hp.out (fun e => by have := hv'k _ e; omega)
    have HB' : Aside (Below w.heap.size w w2) := below_grown HB.out hgrow (fun k hk => by have := hv'k _ hk; omega)
    have Rbl' : Aside (w2.ownsRow w.heap.size 47 4 v2 (i + (n - (i + 1))) (flatE Pc.enc (bl.take i ++ bl.drop (i + 1)))) := own_lower (by rw [flatE_append]; exact hown) (by omega)
    have nblp : v2.ownBlock ≠ some (w.heap.size + 1 + 1) := fun e => by have := hB3' _ e; omega
    have hg0 : ∀ k, v2.ownBlock = some k → w.heap.size ≤ k := fun k hk => by have := hB3' _ hk; omega
    have hbn : i + (n - (i + 1)) ≤ 1000000 := by omega
    clear hgrow hown hB3' hv'k Hc Hr Hp HB Rbl HSRC2 HSRC3 b0 b1 b2 ltc ltp hcells HT HD' ONE hbw
    have Hc := Hc'
    have Hr := Hr'
    have Hp := Hp'
    have HB := HB'
    have Rbl := Rbl'
    clear Hc' Hr' Hp' HB' Rbl'
    have ltc : w.heap.size < w2.heap.size := (Array.getElem?_eq_some_iff.1 Hc.out).1
    have bc0 := cell_heap Hc.out 0 _ rfl
    have bc1 := cell_heap Hc.out 1 _ rfl
    have bc2 := cell_heap Hc.out 2 _ rfl
    have ltr : w.heap.size + 1 < w2.heap.size := (Array.getElem?_eq_some_iff.1 Hr.out).1
    have br0 := cell_heap Hr.out 0 _ rfl
    have br1 := cell_heap Hr.out 1 _ rfl
    have br2 := cell_heap Hr.out 2 _ rfl
    have ltp : w.heap.size + 1 + 1 < w2.heap.size := (Array.getElem?_eq_some_iff.1 Hp.out).1
    have bp0 := cell_heap Hp.out 0 _ rfl
    have bp1 := cell_heap Hp.out 1 _ rfl
    have bp2 := cell_heap Hp.out 2 _ rfl
    have bp3 := cell_heap Hp.out 3 _ rfl
    have necr : ¬ w.heap.size = w.heap.size + 1 := by omega
    have nerc : ¬ w.heap.size + 1 = w.heap.size := by omega
    have necp : ¬ w.heap.size = w.heap.size + 1 + 1 := by omega
    have nepc : ¬ w.heap.size + 1 + 1 = w.heap.size := by omega
    have nerp : ¬ w.heap.size + 1 = w.heap.size + 1 + 1 := by omega
    have nepr : ¬ w.heap.size + 1 + 1 = w.heap.size + 1 := by omega
    have nblc : (v2 : Value).ownBlock ≠ some w.heap.size := own_ne Rbl.out Hc.out (by decide)
    have nblr : (v2 : Value).ownBlock ≠ some (w.heap.size + 1) := own_ne Rbl.out Hr.out (by decide)
    have hsz := HB.out.size
    go_wp2_with (at_builtin; refine wpList_append_own _ rfl _ _ 22 rfl w.heap.size 47 i0 _ 4 40 Try.underlying22 hi0 hz0 hs0 hb0 rfl (by omega) (v2) (i + (n - (i + 1))) (flatE Pc.enc (bl.take i ++ bl.drop (i + 1))) rfl (own_alloc (by repeat (first | exact Rbl.out | (with_reducible refine own_alloc ?_) | (with_reducible refine own_plus ?_) | (with_reducible refine own_holds ?_ ?_) | assumption))) ⟨w2.heap.size, 0, none⟩ 1 1 [.int .i64 y1, .int .i64 y2, .int .i64 y3, .string y4] rfl rfl (cells_new _ _ _ _ (by first | rfl | simp [size_holds])) (pc_one ⟨y1, y2, y3, y4⟩) (by unfold maxLen; omega) (by omega) (by first | (simp [size_holds]; omega) | omega) ?_)
    intro v' u86 hown' hgrow _
    have Hc' : Aside (u86.heap[w.heap.size]? = some (.cells #[.int .i64 cp, .slice (some ⟨b, off, none⟩) n c1, .slice ao2 n2 c2] 25 (0, 0))) := heap_grown hgrow (hp_old (by repeat (first | exact Hc.out | exact Hr.out | exact Hp.out | exact hp_new (by first | rfl | (simp [size_plus, size_holds]; done) | (simp [size_plus, size_holds]; omega)) | (with_reducible refine hp_old ?_) | (with_reducible refine hp_plus ?_) | (with_reducible refine hh_eq (by first | assumption | (simp only [size_holds]; assumption))) | (with_reducible refine hh_ne (by omega) ?_)))) (by assumption)
    have Hr' : Aside (u86.heap[w.heap.size + 1]? = some (.cells #[.int .i64 0, .slice none 0 0, .slice none 0 0] 25 (0, 0))) := heap_grown hgrow (hp_old (by repeat (first | exact Hc.out | exact Hr.out | exact Hp.out | exact hp_new (by first | rfl | (simp [size_plus, size_holds]; done) | (simp [size_plus, size_holds]; omega)) | (with_reducible refine hp_old ?_) | (with_reducible refine hp_plus ?_) | (with_reducible refine hh_eq (by first | assumption | (simp only [size_holds]; assumption))) | (with_reducible refine hh_ne (by omega) ?_)))) (by assumption)
    have Rbl' : Aside (u86.ownsRow w.heap.size 47 4 (v') ((i + (n - (i + 1))) + 1) (flatE Pc.enc ((bl.take i ++ bl.drop (i + 1)) ++ [⟨y1, y2, y3, y4⟩]))) := by rw [flatE_snoc]; exact hown'
    have HB' : Aside (Below w.heap.size w u86) := below_grown (by
      have hHB := HB.out
      repeat (first | (with_reducible exact Below.refl _ _) | (with_reducible assumption) | (with_reducible refine below_to_plus ?_ ?_ _) | (with_reducible refine below_holds ?_ ?_ _ _) | (with_reducible refine Below.alloc ?_ ?_ _) | (with_reducible refine Below.drew ?_) | (with_reducible refine below_drewN ?_ _) | (with_reducible refine Below.setCell ?_ ?_ _))
      all_goals first | omega | (simp; done) | (simp [go_sem]; done) | (simp [go_sem]; omega)) hgrow (by assumption)
    clear Hc Hr Hp Rbl HB ltc ltr ltp necr necp nerc nerp nepc nepr nblc nblr bc0 bc1 bc2 br0 br1 br2 bp0 bp1 bp2 bp3 hgrow hown' hsz
    have Hc := Hc'
    clear Hc'
    have Hr := Hr'
    clear Hr'
    have Rbl := Rbl'
    clear Rbl'
    have HB := HB'
    clear HB'
    obtain ⟨a5, k5, ev, _⟩ := ownE_sl pc_len (by omega) Rbl.out
    subst ev
    rw [← UL.out] at Rbl
    have en : i + (n - (i + 1)) + 1 = ul.length := by have := UN.out; omega
    rw [en] at Rbl ⊢
    clear nblp hg0 UL UN en
    have ltc : w.heap.size < u86.heap.size := (Array.getElem?_eq_some_iff.1 Hc.out).1
    have ltr : w.heap.size + 1 < u86.heap.size := (Array.getElem?_eq_some_iff.1 Hr.out).1
    have necr : ¬ w.heap.size = w.heap.size + 1 := by omega
    have nerc : ¬ w.heap.size + 1 = w.heap.size := by omega
    have nblc : (.slice a5 ul.length k5 : Value).ownBlock ≠ some w.heap.size := own_ne Rbl.out Hc.out (by decide)
    have nblr : (.slice a5 ul.length k5 : Value).ownBlock ≠ some (w.heap.size + 1) := own_ne Rbl.out Hr.out (by decide)
    rw [holds_add (holds_self Hc.out) Hr.out]
    go_wp2
    refine bodyPost_ret (v := .agg #[.int .i64 cp, .slice a5 ul.length k5, .slice ao2 n2 c2]) (by simp [results, Try.results59, go_sem, ↓IntWalk.iteOmega, *]) rfl ⟨_, _, rfl, (by repeat (first | exact Rbl.out | (with_reducible refine own_alloc ?_) | (with_reducible refine own_plus ?_) | (with_reducible refine own_holds ?_ ?_) | assumption)), (by
      have hHB := HB.out
      repeat (first | (with_reducible exact Below.refl _ _) | (with_reducible assumption) | (with_reducible refine below_to_plus ?_ ?_ _) | (with_reducible refine below_holds ?_ ?_ _ _) | (with_reducible refine Below.alloc ?_ ?_ _) | (with_reducible refine Below.drew ?_) | (with_reducible refine below_drewN ?_ _) | (with_reducible refine Below.setCell ?_ ?_ _))
      all_goals first | omega | (simp; done) | (simp [go_sem]; done) | (simp [go_sem]; omega))⟩
  · go_wp2_with (at_builtin; refine wpList_append_own _ rfl _ _ 22 rfl (w.heap.size + 1 + 1 + 1) 47 i0 _ 4 40 Try.underlying22 hi0 hz0 hs0 hb0 rfl (by omega) _ _ _ rfl Rbl.out ⟨b, off + (i + 1) * 4, none⟩ (n - (i + 1)) (c1 - (i + 1)) (flatE Pc.enc (bl.drop (i + 1))) rfl HD'.out HSRC2.out (ONE.out _) (by unfold maxLen; omega) (by omega) (by omega) ?_)
    intro v2 w2 hown hgrow _
    have hB3' : ∀ k, v2.ownBlock = some k → (w.heap.size + 1 + 1 + 1) ≤ k := fun k hk => (hown.lt k hk).1
    have hv'k : ∀ k, v'.ownBlock = some k → (w.heap.size + 1 + 1 + 1) ≤ k := fun k hk => (Rbl.out.lt k hk).1
    have Hc' : Aside (w2.heap[w.heap.size]? = some (.cells #[.int .i64 cp, .slice (some ⟨b, off, none⟩) n c1, .slice ao2 n2 c2] 25 (0, 0))) := heap_grown hgrow Hc.out (fun e => by have := hv'k _ e; omega)
    have Hr' : Aside (w2.heap[w.heap.size + 1]? = some (.cells #[.int .i64 0, .slice none 0 0, .slice none 0 0] 25 (0, 0))) := heap_grown hgrow Hr.out (fun e => by have := hv'k _ e; omega)
    have Hp' : Aside (w2.heap[w.heap.size + 1 + 1]? = some (.cells #[.int .i64 y1, .int .i64 y2, .int .i64 y3, .string y4] 47 (0, 0))) := heap_grown hgrow Hp.out (fun e => by have := hv'k _ e; omega)
    have HB' : Aside (Below w.heap.size w w2) := below_grown HB.out hgrow (fun k hk => by have := hv'k _ hk; omega)
    have Rbl' : Aside (w2.ownsRow w.heap.size 47 4 v2 (i + (n - (i + 1))) (flatE Pc.enc (bl.take i ++ bl.drop (i + 1)))) := own_lower (by rw [flatE_append]; exact hown) (by omega)
    have nblp : v2.ownBlock ≠ some (w.heap.size + 1 + 1) := fun e => by have := hB3' _ e; omega
    have hg0 : ∀ k, v2.ownBlock = some k → w.heap.size ≤ k := fun k hk => by have := hB3' _ hk; omega
    have hbn : i + (n - (i + 1)) ≤ 1000000 := by omega
    clear hgrow hown hB3' hv'k Hc Hr Hp HB Rbl HSRC2 HSRC3 b0 b1 b2 ltc ltp hcells HT HD' ONE hbw
    have Hc := Hc'
    have Hr := Hr'
    have Hp := Hp'
    have HB := HB'
    have Rbl := Rbl'
    clear Hc' Hr' Hp' HB' Rbl'
    have ltc : w.heap.size < w2.heap.size := (Array.getElem?_eq_some_iff.1 Hc.out).1
    have bc0 := cell_heap Hc.out 0 _ rfl
    have bc1 := cell_heap Hc.out 1 _ rfl
    have bc2 := cell_heap Hc.out 2 _ rfl
    have ltr : w.heap.size + 1 < w2.heap.size := (Array.getElem?_eq_some_iff.1 Hr.out).1
    have br0 := cell_heap Hr.out 0 _ rfl
    have br1 := cell_heap Hr.out 1 _ rfl
    have br2 := cell_heap Hr.out 2 _ rfl
    have ltp : w.heap.size + 1 + 1 < w2.heap.size := (Array.getElem?_eq_some_iff.1 Hp.out).1
    have bp0 := cell_heap Hp.out 0 _ rfl
    have bp1 := cell_heap Hp.out 1 _ rfl
    have bp2 := cell_heap Hp.out 2 _ rfl
    have bp3 := cell_heap Hp.out 3 _ rfl
    have necr : ¬ w.heap.size = w.heap.size + 1 := by omega
    have nerc : ¬ w.heap.size + 1 = w.heap.size := by omega
    have necp : ¬ w.heap.size = w.heap.size + 1 + 1 := by omega
    have nepc : ¬ w.heap.size + 1 + 1 = w.heap.size := by omega
    have nerp : ¬ w.heap.size + 1 = w.heap.size + 1 + 1 := by omega
    have nepr : ¬ w.heap.size + 1 + 1 = w.heap.size + 1 := by omega
    have nblc : (v2 : Value).ownBlock ≠ some w.heap.size := own_ne Rbl.out Hc.out (by decide)
    have nblr : (v2 : Value).ownBlock ≠ some (w.heap.size + 1) := own_ne Rbl.out Hr.out (by decide)
    have hsz := HB.out.size
    go_wp2_with (at_builtin; refine wpList_append_own _ rfl _ _ 22 rfl w.heap.size 47 i0 _ 4 40 Try.underlying22 hi0 hz0 hs0 hb0 rfl (by omega) (v2) (i + (n - (i + 1))) (flatE Pc.enc (bl.take i ++ bl.drop (i + 1))) rfl (own_alloc (by repeat (first | exact Rbl.out | (with_reducible refine own_alloc ?_) | (with_reducible refine own_plus ?_) | (with_reducible refine own_holds ?_ ?_) | assumption))) ⟨w2.heap.size, 0, none⟩ 1 1 [.int .i64 y1, .int .i64 y2, .int .i64 y3, .string y4] rfl rfl (cells_new _ _ _ _ (by first | rfl | simp [size_holds])) (pc_one ⟨y1, y2, y3, y4⟩) (by unfold maxLen; omega) (by omega) (by first | (simp [size_holds]; omega) | omega) ?_)
    intro v' u86 hown' hgrow _
    have Hc' : Aside (u86.heap[w.heap.size]? = some (.cells #[.int .i64 cp, .slice (some ⟨b, off, none⟩) n c1, .slice ao2 n2 c2] 25 (0, 0))) := heap_grown hgrow (hp_old (by repeat (first | exact Hc.out | exact Hr.out | exact Hp.out | exact hp_new (by first | rfl | (simp [size_plus, size_holds]; done) | (simp [size_plus, size_holds]; omega)) | (with_reducible refine hp_old ?_) | (with_reducible refine hp_plus ?_) | (with_reducible refine hh_eq (by first | assumption | (simp only [size_holds]; assumption))) | (with_reducible refine hh_ne (by omega) ?_)))) (by assumption)
    have Hr' : Aside (u86.heap[w.heap.size + 1]? = some (.cells #[.int .i64 0, .slice none 0 0, .slice none 0 0] 25 (0, 0))) := heap_grown hgrow (hp_old (by repeat (first | exact Hc.out | exact Hr.out | exact Hp.out | exact hp_new (by first | rfl | (simp [size_plus, size_holds]; done) | (simp [size_plus, size_holds]; omega)) | (with_reducible refine hp_old ?_) | (with_reducible refine hp_plus ?_) | (with_reducible refine hh_eq (by first | assumption | (simp only [size_holds]; assumption))) | (with_reducible refine hh_ne (by omega) ?_)))) (by assumption)
    have Rbl' : Aside (u86.ownsRow w.heap.size 47 4 (v') ((i + (n - (i + 1))) + 1) (flatE Pc.enc ((bl.take i ++ bl.drop (i + 1)) ++ [⟨y1, y2, y3, y4⟩]))) := by rw [flatE_snoc]; exact hown'
    have HB' : Aside (Below w.heap.size w u86) := below_grown (by
      have hHB := HB.out
      repeat (first | (with_reducible exact Below.refl _ _) | (with_reducible assumption) | (with_reducible refine below_to_plus ?_ ?_ _) | (with_reducible refine below_holds ?_ ?_ _ _) | (with_reducible refine Below.alloc ?_ ?_ _) | (with_reducible refine Below.drew ?_) | (with_reducible refine below_drewN ?_ _) | (with_reducible refine Below.setCell ?_ ?_ _))
      all_goals first | omega | (simp; done) | (simp [go_sem]; done) | (simp [go_sem]; omega)) hgrow (by assumption)
    clear Hc Hr Hp Rbl HB ltc ltr ltp necr necp nerc nerp nepc nepr nblc nblr bc0 bc1 bc2 br0 br1 br2 bp0 bp1 bp2 bp3 hgrow hown' hsz
    have Hc := Hc'
    clear Hc'
    have Hr := Hr'
    clear Hr'
    have Rbl := Rbl'
    clear Rbl'
    have HB := HB'
    clear HB'
    obtain ⟨a5, k5, ev, _⟩ := ownE_sl pc_len (by omega) Rbl.out
    subst ev
    rw [← UL.out] at Rbl
    have en : i + (n - (i + 1)) + 1 = ul.length := by have := UN.out; omega
    rw [en] at Rbl ⊢
    clear nblp hg0 UL UN en
    have ltc : w.heap.size < u86.heap.size := (Array.getElem?_eq_some_iff.1 Hc.out).1
    have ltr : w.heap.size + 1 < u86.heap.size := (Array.getElem?_eq_some_iff.1 Hr.out).1
    have necr : ¬ w.heap.size = w.heap.size + 1 := by omega
    have nerc : ¬ w.heap.size + 1 = w.heap.size := by omega
    have nblc : (.slice a5 ul.length k5 : Value).ownBlock ≠ some w.heap.size := own_ne Rbl.out Hc.out (by decide)
    have nblr : (.slice a5 ul.length k5 : Value).ownBlock ≠ some (w.heap.size + 1) := own_ne Rbl.out Hr.out (by decide)
    rw [holds_add (holds_self Hc.out) Hr.out]
    go_wp2
    refine bodyPost_ret (v := .agg #[.int .i64 cp, .slice a5 ul.length k5, .slice ao2 n2 c2]) (by simp [results, Try.results59, go_sem, ↓IntWalk.iteOmega, *]) rfl ⟨_, _, rfl, (by repeat (first | exact Rbl.out | (with_reducible refine own_alloc ?_) | (with_reducible refine own_plus ?_) | (with_reducible refine own_holds ?_ ?_) | assumption)), (by
      have hHB := HB.out
      repeat (first | (with_reducible exact Below.refl _ _) | (with_reducible assumption) | (with_reducible refine below_to_plus ?_ ?_ _) | (with_reducible refine below_holds ?_ ?_ _ _) | (with_reducible refine Below.alloc ?_ ?_ _) | (with_reducible refine Below.drew ?_) | (with_reducible refine below_drewN ?_ _) | (with_reducible refine Below.setCell ?_ ?_ _))
      all_goals first | omega | (simp; done) | (simp [go_sem]; done) | (simp [go_sem]; omega))⟩
theorem rused_calls (cp : Int) (ao : Option Addr) (n c1 : Nat) (ao2 : Option Addr) (n2 c2 : Nat) (bl : List Pc) (hs : List Hd) (i : Nat) (w : World) (h1 : Sl w 4 ao n c1 (bl.map Pc.enc)) (h2 : Sl w 3 ao2 n2 c2 (hs.map Hd.enc)) (hn : n ≤ 1000000) (hi : i < n) :
    Calls Try.prog 59 #[.agg #[.int .i64 cp, .slice ao n c1, .slice ao2 n2 c2], .int .i64 (i : Int)] w fun e w' => RPost w cp (useL i bl) hs e w' :=
  (rused_own cp ao n c1 ao2 n2 c2 bl hs i w h1 h2 hn hi).mono fun e w' ⟨a1, k1, he, ho, hb⟩ => ⟨a1, k1, ao2, c2, by rw [Sl.lenE h2]; exact he, own_Sl pc_len (by omega) ho, by rw [Sl.lenE h2]; exact h2.stays hb, hb⟩

end Go.Proofs.Ytcgajlobbjoefaa
