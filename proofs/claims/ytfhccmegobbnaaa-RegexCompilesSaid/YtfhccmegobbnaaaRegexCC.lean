/- This text proves the walk of insert of the reference. Conditions: those that each theorem names. -/
import Derived.Test.YtfhccmegobbnaaaRegexCB
import Derived.Test.YtfhccmegobbnaaaRegexI
namespace Go.Proofs.Ytfhccmegobbnaaa
open Go.ChangeShapes Go.WideShapes Go.ChangeAt Go.RowKit
set_option linter.unusedVariables false
set_option linter.unusedSimpArgs false

/-- The cells of an instruction of the code. -/
theorem PS.cells {w0 : World} {code : List In} {gg n lc : Nat} {W : World} (h : PS w0 code (some ⟨gg, 0, none⟩) n lc W) : ∃ cur, W.heap[gg]? = some (.cells cur 34 (0, 0)) ∧ cur.toList.take (code.length * 6) = flatE In.enc code := by
  obtain ⟨_, ⟨h9, _⟩ | ⟨g, cap, cur, hv, hg, hh, hn, hm, hz, ht⟩⟩ := h.row
  · cases h9
  · simp only [Value.slice.injEq, Option.some.injEq, Addr.mk.injEq] at hv
    obtain ⟨⟨rfl, -, -⟩, -, -⟩ := hv
    exact ⟨cur, hh, by rw [h.len]; exact ht⟩
theorem PS.form {w0 : World} {code : List In} {la : Option Addr} {n lc : Nat} {W : World} (h : PS w0 code la n lc W) (hn : 0 < n) : ∃ gg, la = some ⟨gg, 0, none⟩ := by
  obtain ⟨g, c, e⟩ := own_val h.row hn
  simp only [Value.slice.injEq] at e
  exact ⟨g, e.1⟩
/-- A number is written into an instruction of the code. -/
theorem PS.put {w0 : World} {code : List In} {gg n lc : Nat} {W : World} (h : PS w0 code (some ⟨gg, 0, none⟩) n lc W) {k : Nat} (hk : k < n) : ∃ cur, W.heap[gg]? = some (.cells cur 34 (0, 0)) ∧ (∃ x5, cur[k * 6 + 5]? = some x5) ∧ (∃ x4, cur[k * 6 + 4]? = some x4) ∧
    (∀ y : Int, PS w0 (code.set k { code[k]! with y := y }) (some ⟨gg, 0, none⟩) n lc (holds W gg (cur.setIfInBounds (k * 6 + 5) (.int .i64 y)) 34) ∧ Kp (.slice (some ⟨gg, 0, none⟩) n lc) (.slice (some ⟨gg, 0, none⟩) n lc) W (holds W gg (cur.setIfInBounds (k * 6 + 5) (.int .i64 y)) 34)) ∧
    (∀ x : Int, PS w0 (code.set k { code[k]! with x := x }) (some ⟨gg, 0, none⟩) n lc (holds W gg (cur.setIfInBounds (k * 6 + 4) (.int .i64 x)) 34) ∧ Kp (.slice (some ⟨gg, 0, none⟩) n lc) (.slice (some ⟨gg, 0, none⟩) n lc) W (holds W gg (cur.setIfInBounds (k * 6 + 4) (.int .i64 x)) 34)) := by
  have hl := h.len
  subst hl
  obtain ⟨_, ⟨h9, _⟩ | ⟨g, cap, cur, hv, hBg, hh, hnc, hcm, hcs, htk⟩⟩ := h.row
  · cases h9
  simp only [Value.slice.injEq, Option.some.injEq, Addr.mk.injEq] at hv
  obtain ⟨⟨rfl, -, -⟩, -, rfl⟩ := hv
  have e0 := getElem!_pos code k hk
  have q5 := cur_get htk hk 5 (by omega)
  have q4 := cur_get htk hk 4 (by omega)
  have lt := (Array.getElem?_eq_some_iff.1 hh).1
  have kp : ∀ c, Kp (.slice (some ⟨gg, 0, none⟩) code.length lc) (.slice (some ⟨gg, 0, none⟩) code.length lc) W (holds W gg c 34) := fun c =>
    ⟨rfl, rfl, rfl, by rw [size_holds]; exact Nat.le_refl _, fun b hb hne => by rw [heap_holds, if_neg (fun e => hne (by rw [e.1]; rfl))], fun _ _ e => e⟩
  refine ⟨cur, hh, ⟨_, q5⟩, ⟨_, q4⟩, fun y => ⟨⟨below_holds h.hb hBg _ _, ?_, by rw [List.length_set]⟩, kp _⟩, fun x => ⟨⟨below_holds h.hb hBg _ _, ?_, by rw [List.length_set]⟩, kp _⟩⟩
  · have t := flat_upd (enc := In.enc) in_len (y := { code[k]! with y := y }) (v := .int .i64 y) hk (f := 5) (by omega) (by rw [← e0]; rfl) htk
    have := own_row (w := holds W gg (cur.setIfInBounds (k * 6 + 5) (.int .i64 y)) 34) (xs := code.set k { code[k]! with y := y }) (hh_eq lt) hBg (by rw [List.length_set]; exact hnc) hcm (by rw [Array.size_setIfInBounds, hcs]) t
    rw [List.length_set] at this
    exact this
  · have t := flat_upd (enc := In.enc) in_len (y := { code[k]! with x := x }) (v := .int .i64 x) hk (f := 4) (by omega) (by rw [← e0]; rfl) htk
    have := own_row (w := holds W gg (cur.setIfInBounds (k * 6 + 4) (.int .i64 x)) 34) (xs := code.set k { code[k]! with x := x }) (hh_eq lt) hBg (by rw [List.length_set]; exact hnc) hcm (by rw [Array.size_setIfInBounds, hcs]) t
    rw [List.length_set] at this
    exact this
theorem own_lt {w : World} {B : Nat} {E : TypeId} {k : Nat} {v : Value} {n : Nat} {l : List Value} (h : w.ownsRow B E k v n l) {b : Nat} (hb : v.ownBlock = some b) : B ≤ b ∧ b < w.heap.size := by
  obtain ⟨e, ⟨h0, _⟩ | ⟨g, cap, cur, hv, hg, hh, r⟩⟩ := h
  · rw [h0] at hb; cases hb
  · rw [hv] at hb
    have : g = b := Option.some.inj hb
    subst this
    exact ⟨hg, (Array.getElem?_eq_some_iff.1 hh).1⟩
theorem cur_step {code : List In} {fr k : Nat} {y : In} (hf : fr ≤ k) (hk : k < code.length) : code.take fr ++ y :: ((code.take (k + 1)).drop fr).map bump = (code.take fr ++ y :: ((code.take k).drop fr).map bump) ++ [bump code[k]!] := by
  rw [List.take_succ_eq_append_getElem hk, List.drop_append_of_le_length (by rw [List.length_take]; omega), List.map_append, ← getElem!_pos code k hk]
  simp
theorem cur_end {code : List In} {fr : Nat} {y : In} : code.take fr ++ y :: ((code.take code.length).drop fr).map bump = insF fr y code := by
  rw [List.take_length]
  rfl

set_option maxRecDepth 20000 in
set_option maxHeartbeats 64000000 in
theorem rinsert_calls (w0 : World) (code : List In) (la : Option Addr) (n lc i g fr : Nat) (y1 y2 : Int) (y3 : ByteArray) (y4 : Bool) (y5 y6 : Int) (W : World) (h : PS w0 code la n lc W) (hn : n ≤ 100000) (hfr : fr ≤ n) (hf0 : 0 < fr) (hm : Sml code) :
    Calls Try.prog 51 #[.agg #[.slice la n lc, .int .i64 (i : Int), .int .i64 (g : Int), .bool false], .int .i64 (fr : Int), .agg #[.int .i64 y1, .int .u8 y2, .string y3, .bool y4, .int .i64 y5, .int .i64 y6]] W fun e W' => ∃ la2 lc2, e = .returned (.agg #[.slice la2 (n + 1) lc2, .int .i64 (i : Int), .int .i64 (g : Int), .bool false]) ∧ PS w0 (insF fr ⟨y1, y2, y3, y4, y5, y6⟩ code) la2 (n + 1) lc2 W' ∧ Kp (.slice la n lc) (.slice la2 (n + 1) lc2) W W' := by
  obtain ⟨gg, rfl⟩ := h.form (by omega)
  obtain ⟨Q, hQ⟩ : ∃ Q : Ending → World → Prop, (fun e W' => ∃ la2 lc2, e = .returned (.agg #[.slice la2 (n + 1) lc2, .int .i64 (i : Int), .int .i64 (g : Int), .bool false]) ∧ PS w0 (insF fr ⟨y1, y2, y3, y4, y5, y6⟩ code) la2 (n + 1) lc2 W' ∧ Kp (.slice (some ⟨gg, 0, none⟩) n lc) (.slice la2 (n + 1) lc2) W W') = Q := ⟨_, rfl⟩
  rw [hQ]
  have HQ : Aside (∀ la2 lc2 W', W'.ownsRow (W.heap.size + 1 + 1 + 1) 34 6 (.slice la2 (n + 1) lc2) (n + 1) (flatE In.enc (insF fr ⟨y1, y2, y3, y4, y5, y6⟩ code)) → Below W.heap.size W W' → Q (.returned (.agg #[.slice la2 (n + 1) lc2, .int .i64 (i : Int), .int .i64 (g : Int), .bool false])) W') := fun la2 lc2 W' h1 h2 => by
    rw [← hQ]
    refine ⟨_, _, rfl, ⟨h.hb.trans (h2.mono h.hb.size), own_lower h1 (by have := h.hb.size; omega), by rw [insF_len (by rw [h.len]; omega), h.len]⟩, ⟨h2.os, h2.tape, h2.output, h2.size, fun b hb _ => h2.block b hb, fun b hb e => ?_⟩⟩
    obtain ⟨_, ⟨h9, _⟩ | ⟨g9, _, _, hv, hg9, _⟩⟩ := h1
    · rw [h9] at e; cases e
    · rw [hv] at e
      have : g9 = b := Option.some.inj e
      omega
  obtain ⟨i0, hi0, hz0, hs0, hb0⟩ := inInfo
  obtain ⟨cur, hcu, htk⟩ := h.cells
  have lgg : gg < W.heap.size := (Array.getElem?_eq_some_iff.1 hcu).1
  have hcl : n ≤ lc := by
    obtain ⟨_, ⟨h9, _⟩ | ⟨_, cap, _, hv, _, _, hnc, _⟩⟩ := h.row
    · cases h9
    · simp only [Value.slice.injEq] at hv
      omega
  have LEN : Aside (code.length = n) := h.len
  have CELL : Aside (∀ (j f : Nat), j < n → f < 6 → W.cell? ⟨gg, j * 6 + f, none⟩ = code[j]!.enc[f]?) := fun j f hj hf => by
    have h1 := cur_get htk (k := j) (by rw [LEN.out]; exact hj) f hf
    have h2 : ∃ u, code[j]!.enc[f]? = some u := ⟨_, List.getElem?_eq_getElem (by rw [in_len]; exact hf)⟩
    obtain ⟨u, hu⟩ := h2
    rw [hu] at h1 ⊢
    exact cell_heap hcu _ _ h1
  have SRC : Aside (∀ j u, (flatE In.enc (code.take fr))[j]? = some u → (((W.alloc (.cells #[.slice (some ⟨gg, 0, none⟩) n lc, .int .i64 (i : Int), .int .i64 (g : Int), .bool false] 58)).alloc (.cells #[.int .i64 y1, .int .u8 y2, .string y3, .bool y4, .int .i64 y5, .int .i64 y6] 34)).alloc (.cells #[.slice none 0 0, .int .i64 0, .int .i64 0, .bool false] 58)).cell? ((⟨gg, 0, none⟩ : Addr).add j) = some u) := fun j u hu => by
    rw [Addr.add_lit, Nat.zero_add]
    refine cell_heap (hp_old (hp_old (hp_old hcu))) _ _ ?_
    rw [flatE_take in_len] at hu
    have hj : j < fr * 6 := by
      have := (List.getElem?_eq_some_iff.1 hu).1
      simp at this
      omega
    rw [List.getElem?_take, if_pos hj, ← htk, List.getElem?_take, if_pos (by rw [LEN.out]; omega)] at hu
    rw [← Array.getElem?_toList]
    exact hu
  have SLN : Aside ((flatE In.enc (code.take fr)).length = fr * 6) := by
    show _ = _
    rw [flatE_length in_len, List.length_take, LEN.out, Nat.min_eq_left (by omega)]
  have SON : Aside (∀ u ∈ flatE In.enc (code.take fr), u.oneCell' = true) := flatE_cells in_one _
  have YON : Aside (∀ u ∈ ([.int .i64 y1, .int .u8 y2, .string y3, .bool y4, .int .i64 y5, .int .i64 y6] : List Value), u.oneCell' = true) := in_one ⟨y1, y2, y3, y4, y5, y6⟩
  have HM : Aside (Sml code) := hm
  have NOW : Aside ((((W.alloc (.cells #[.slice (some ⟨gg, 0, none⟩) n lc, .int .i64 (i : Int), .int .i64 (g : Int), .bool false] 58)).alloc (.cells #[.int .i64 y1, .int .u8 y2, .string y3, .bool y4, .int .i64 y5, .int .i64 y6] 34)).alloc (.cells #[.slice none 0 0, .int .i64 0, .int .i64 0, .bool false] 58)).ownsRow (W.heap.size + 1 + 1 + 1) 34 6 (.slice none 0 0) 0 []) := ⟨rfl, .inl ⟨rfl, rfl⟩⟩
  have X0 : Aside ((((W.alloc (.cells #[.slice (some ⟨gg, 0, none⟩) n lc, .int .i64 (i : Int), .int .i64 (g : Int), .bool false] 58)).alloc (.cells #[.int .i64 y1, .int .u8 y2, .string y3, .bool y4, .int .i64 y5, .int .i64 y6] 34)).alloc (.cells #[.slice none 0 0, .int .i64 0, .int .i64 0, .bool false] 58)).heap[W.heap.size]? = some (.cells #[.slice (some ⟨gg, 0, none⟩) n lc, .int .i64 (i : Int), .int .i64 (g : Int), .bool false] 58 (0, 0))) := hp_old (hp_old (hp_new rfl))
  have X1 : Aside ((((W.alloc (.cells #[.slice (some ⟨gg, 0, none⟩) n lc, .int .i64 (i : Int), .int .i64 (g : Int), .bool false] 58)).alloc (.cells #[.int .i64 y1, .int .u8 y2, .string y3, .bool y4, .int .i64 y5, .int .i64 y6] 34)).alloc (.cells #[.slice none 0 0, .int .i64 0, .int .i64 0, .bool false] 58)).heap[(W.heap.size + 1)]? = some (.cells #[.int .i64 y1, .int .u8 y2, .string y3, .bool y4, .int .i64 y5, .int .i64 y6] 34 (0, 0))) := hp_old (hp_new (by simp))
  have X2 : Aside ((((W.alloc (.cells #[.slice (some ⟨gg, 0, none⟩) n lc, .int .i64 (i : Int), .int .i64 (g : Int), .bool false] 58)).alloc (.cells #[.int .i64 y1, .int .u8 y2, .string y3, .bool y4, .int .i64 y5, .int .i64 y6] 34)).alloc (.cells #[.slice none 0 0, .int .i64 0, .int .i64 0, .bool false] 58)).heap[(W.heap.size + 1 + 1)]? = some (.cells #[.slice none 0 0, .int .i64 0, .int .i64 0, .bool false] 58 (0, 0))) := hp_new (by simp)
  have WB : Aside (Below W.heap.size W (((W.alloc (.cells #[.slice (some ⟨gg, 0, none⟩) n lc, .int .i64 (i : Int), .int .i64 (g : Int), .bool false] 58)).alloc (.cells #[.int .i64 y1, .int .u8 y2, .string y3, .bool y4, .int .i64 y5, .int .i64 y6] 34)).alloc (.cells #[.slice none 0 0, .int .i64 0, .int .i64 0, .bool false] 58))) := by
    show Below _ _ _
    repeat (first | (with_reducible exact Below.refl _ _) | (with_reducible assumption) | (with_reducible refine below_to_plus ?_ ?_ _) | (with_reducible refine below_holds ?_ ?_ _ _) | (with_reducible refine Below.alloc ?_ ?_ _) | (with_reducible refine Below.drew ?_) | (with_reducible refine below_drewN ?_ _) | (with_reducible refine Below.setCell ?_ ?_ _))
    all_goals first | omega | (simp; done) | (simp [go_sem]; done) | (simp [go_sem]; omega)
  have hfz : (fr : Int) ≤ (n : Int) := by omega
  have hfz2 : (fr : Int) ≤ (lc : Int) := by omega
  clear hQ h hcu htk hm
  go_enter Try.func51, Try.ntmps51
  go_wp2_with (at_builtin; refine wpList_append_own _ rfl _ _ 22 rfl (W.heap.size + 1 + 1 + 1) 34 i0 _ 6 56 Try.underlying22 hi0 hz0 hs0 hb0 rfl (by omega) (.slice none 0 0) 0 [] rfl NOW.out ⟨gg, 0, none⟩ fr lc (flatE In.enc (code.take fr)) rfl SLN.out SRC.out SON.out (by unfold maxLen; omega) (by omega) (by simp) ?_)
  intro v' w4 hown hgrow _
  obtain ⟨g4, c4, rfl⟩ := own_val hown (by omega)
  have hown4 : w4.ownsRow (W.heap.size + 1 + 1 + 1) 34 6 (.slice (some ⟨g4, 0, none⟩) fr c4) fr (flatE In.enc (code.take fr)) := by
    first
      | exact hown
      | (have h := hown
         rw [Nat.zero_add, List.nil_append] at h
         exact h)
  have R4 : Aside (w4.ownsRow (W.heap.size + 1 + 1 + 1) 34 6 (.slice (some ⟨g4, 0, none⟩) fr c4) fr (flatE In.enc (code.take fr))) := hown4
  have Y0 : Aside (w4.heap[W.heap.size]? = some (.cells #[.slice (some ⟨gg, 0, none⟩) n lc, .int .i64 (i : Int), .int .i64 (g : Int), .bool false] 58 (0, 0))) := (hgrow.block W.heap.size (by simp; try omega) (by simp [Value.ownBlock])).trans X0.out
  have Y1 : Aside (w4.heap[(W.heap.size + 1)]? = some (.cells #[.int .i64 y1, .int .u8 y2, .string y3, .bool y4, .int .i64 y5, .int .i64 y6] 34 (0, 0))) := (hgrow.block (W.heap.size + 1) (by simp; try omega) (by simp [Value.ownBlock])).trans X1.out
  have Y2 : Aside (w4.heap[(W.heap.size + 1 + 1)]? = some (.cells #[.slice none 0 0, .int .i64 0, .int .i64 0, .bool false] 58 (0, 0))) := (hgrow.block (W.heap.size + 1 + 1) (by simp; try omega) (by simp [Value.ownBlock])).trans X2.out
  have BW4 : Aside (Below W.heap.size W w4) := WB.out.grown hgrow WB.out.size (fun q hq => by simp [Value.ownBlock] at hq)
  have LB4 : ∀ q, (Value.slice (some ⟨g4, 0, none⟩) fr c4).ownBlock = some q → W.heap.size + 1 + 1 + 1 ≤ q := fun q hq => (own_lt hown4 hq).1
  have LB4A : Aside (∀ q, (Value.slice (some ⟨g4, 0, none⟩) fr c4).ownBlock = some q → W.heap.size + 1 + 1 + 1 ≤ q) := LB4
  have HSZ4 := BW4.out.size
  have lz2 : W.heap.size + 1 + 1 < w4.heap.size := (Array.getElem?_eq_some_iff.1 Y2.out).1
  have e0 := cell_heap Y1.out 0 _ rfl
  have e1 := cell_heap Y1.out 1 _ rfl
  have e2 := cell_heap Y1.out 2 _ rfl
  have e3 := cell_heap Y1.out 3 _ rfl
  have e4 := cell_heap Y1.out 4 _ rfl
  have e5 := cell_heap Y1.out 5 _ rfl
  clear hown hown4 hgrow X0 X1 X2 WB SRC SLN SON NOW LB4
  go_wp2_with (at_builtin; refine wpList_append_own _ rfl _ _ 22 rfl (W.heap.size + 1 + 1 + 1) 34 i0 _ 6 56 Try.underlying22 hi0 hz0 hs0 hb0 rfl (by omega) (.slice (some ⟨g4, 0, none⟩) fr c4) fr (flatE In.enc (code.take fr)) rfl (own_alloc R4.out) ⟨w4.heap.size, 0, none⟩ 1 1 [.int .i64 y1, .int .u8 y2, .string y3, .bool y4, .int .i64 y5, .int .i64 y6] rfl rfl (cells_new _ _ _ _ (by simp)) YON.out (by unfold maxLen; omega) (by omega) (by simp; omega) ?_)
  intro v' w5 hown hgrow _
  obtain ⟨g5, c5, rfl⟩ := own_val hown (by omega)
  have Z0 : Aside (w5.heap[W.heap.size]? = some (.cells #[.slice (some ⟨gg, 0, none⟩) n lc, .int .i64 (i : Int), .int .i64 (g : Int), .bool false] 58 (0, 0))) := (hgrow.block W.heap.size (by simp; omega) (fun e => by have := LB4A.out _ e.symm; omega)).trans (hp_old Y0.out)
  have Z2 : Aside (w5.heap[(W.heap.size + 1 + 1)]? = some (.cells #[.slice none 0 0, .int .i64 0, .int .i64 0, .bool false] 58 (0, 0))) := (hgrow.block (W.heap.size + 1 + 1) (by simp; omega) (fun e => by have := LB4A.out _ e.symm; omega)).trans (hp_old Y2.out)
  have BW5 : Aside (Below W.heap.size W w5) := (BW4.out.alloc BW4.out.size _).grown hgrow (by simp; omega) (fun q hq => by have := LB4A.out q hq; omega)
  have RL5 : Aside (w5.ownsRow (W.heap.size + 1 + 1 + 1) 34 6 (.slice (some ⟨g5, 0, none⟩) (fr + 1) c5) (fr + 1) (flatE In.enc (code.take fr ++ ⟨y1, y2, y3, y4, y5, y6⟩ :: ((code.take fr).drop fr).map bump))) := by
    have e : (code.take fr ++ ⟨y1, y2, y3, y4, y5, y6⟩ :: ((code.take fr).drop fr).map bump) = code.take fr ++ [⟨y1, y2, y3, y4, y5, y6⟩] := by
      rw [List.drop_of_length_le (by rw [List.length_take]; omega)]
      rfl
    rw [e, flatE_snoc]
    exact hown
  clear hown hgrow R4 Y0 Y1 Y2 BW4 LB4A HSZ4 lz2 e0 e1 e2 e3 e4 e5 YON
  go_wp2_with fail
  go_loopg [7, 8] (n + 1 - fr) (fun gk s7 s8 wr => ∃ (k : Nat) (la2 : Option Addr) (lc2 : Nat), s7 = .slice la2 (k + 1) lc2 ∧ s8 = .int .i64 (k : Int) ∧ k + gk = n + 1 ∧ fr ≤ k ∧ k ≤ n ∧ Aside (wr.ownsRow (W.heap.size + 1 + 1 + 1) 34 6 (.slice la2 (k + 1) lc2) (k + 1) (flatE In.enc (code.take fr ++ ⟨y1, y2, y3, y4, y5, y6⟩ :: ((code.take k).drop fr).map bump))) ∧ Aside (wr.heap[W.heap.size]? = some (.cells #[.slice (some ⟨gg, 0, none⟩) n lc, .int .i64 (i : Int), .int .i64 (g : Int), .bool false] 58 (0, 0))) ∧ Aside (wr.heap[(W.heap.size + 1 + 1)]? = some (.cells #[.slice none 0 0, .int .i64 0, .int .i64 0, .bool false] 58 (0, 0))) ∧ Aside (Below W.heap.size W wr))
  case atStart => exact ⟨fr, _, c5, rfl, rfl, by omega, by omega, by omega, RL5.out, Z0.out, Z2.out, BW5.out⟩
  case round =>
    obtain ⟨k, la2, lc2, rfl, rfl, hgk, hk1, hk2, RL, H0, H2, HB⟩ := hrel
    clear RL5 Z0 Z2 BW5
    have LB : Aside (∀ q, (Value.slice la2 (k + 1) lc2).ownBlock = some q → W.heap.size + 1 + 1 + 1 ≤ q) := fun q hq => (own_lt RL.out hq).1
    have NL : Aside (∀ b, b < W.heap.size + 1 + 1 + 1 → (Value.slice la2 (k + 1) lc2).ownBlock ≠ some b) := fun b hb e => by have := LB.out b e; omega
    have c00 := cell_heap H0.out 0 _ rfl
    have lz0 : W.heap.size < wr.heap.size := (Array.getElem?_eq_some_iff.1 H0.out).1
    have lz2 : (W.heap.size + 1 + 1) < wr.heap.size := (Array.getElem?_eq_some_iff.1 H2.out).1
    have hws := HB.out.size
    by_cases hkn : k < n
    rotate_left
    · have ek : k = n := by omega
      subst ek
      have dz : ¬ (k : Int) < (k : Int) := by omega
      have dd : decide ((k : Int) < (k : Int)) = false := decide_eq_false dz
      have RL9 : Aside (wr.ownsRow (W.heap.size + 1 + 1 + 1) 34 6 (.slice la2 (k + 1) lc2) (k + 1) (flatE In.enc (insF fr ⟨y1, y2, y3, y4, y5, y6⟩ code))) := by
        rw [← cur_end, LEN.out]
        exact RL.out
      have O1 := own_ne RL9.out H0.out (by decide)
      have O2 := own_ne RL9.out H2.out (by decide)
      have O1A : Aside ((Value.slice la2 (k + 1) lc2).ownBlock ≠ some W.heap.size) := O1
      have O2A : Aside ((Value.slice la2 (k + 1) lc2).ownBlock ≠ some (W.heap.size + 1 + 1)) := O2
      clear O1 O2 c00
      rw [holds_add (holds_self H0.out) H2.out]
      go_wp2
      refine bodyPost_ret (v := .agg #[.slice la2 (k + 1) lc2, .int .i64 (i : Int), .int .i64 (g : Int), .bool false]) (by simp [results, Try.results51, go_sem, ↓IntWalk.iteOmega, *]) rfl ?_
      exact HQ.out _ _ _ (own_holds (own_holds RL9.out O1A.out) O2A.out) (below_holds (below_holds HB.out (by omega) _ _) (by omega) _ _)
    have hkz : (k : Int) < (n : Int) := by omega
    have hkd : decide ((k : Int) < (n : Int)) = true := decide_eq_true hkz
    have wk : IntKind.i64.wrap ((k : Int) + 1) = ((k + 1 : Nat) : Int) := by rw [IntKind.wrap_i64]; omega
    have SM := HM.out code[k]! (by rw [getElem!_pos code k (by rw [LEN.out]; exact hkn)]; exact List.getElem_mem _)
    have q0 := (HB.out.cell (p := ⟨gg, k * 6 + 0, none⟩) lgg).trans (CELL.out k 0 hkn (by omega))
    have q1 := (HB.out.cell (p := ⟨gg, k * 6 + 1, none⟩) lgg).trans (CELL.out k 1 hkn (by omega))
    have q2 := (HB.out.cell (p := ⟨gg, k * 6 + 2, none⟩) lgg).trans (CELL.out k 2 hkn (by omega))
    have q3 := (HB.out.cell (p := ⟨gg, k * 6 + 3, none⟩) lgg).trans (CELL.out k 3 hkn (by omega))
    have q4 := (HB.out.cell (p := ⟨gg, k * 6 + 4, none⟩) lgg).trans (CELL.out k 4 hkn (by omega))
    have q5 := (HB.out.cell (p := ⟨gg, k * 6 + 5, none⟩) lgg).trans (CELL.out k 5 hkn (by omega))
    have STEP0 := cur_step (code := code) (fr := fr) (k := k) (y := ⟨y1, y2, y3, y4, y5, y6⟩) hk1 (by rw [LEN.out]; exact hkn)
    obtain ⟨x, hx⟩ : ∃ x, code[k]! = x := ⟨_, rfl⟩
    rw [hx] at q0 q1 q2 q3 q4 q5 STEP0 SM
    obtain ⟨z1, z2, z3, z4, z5, z6⟩ := x
    clear hx
    simp only [In.enc, List.getElem?_cons_zero, List.getElem?_cons_succ, Nat.add_zero] at q0 q1 q2 q3 q4 q5
    simp only [] at SM
    have lggr : gg < wr.heap.size := Nat.lt_of_lt_of_le lgg hws
    have ngg : ¬ gg = wr.heap.size := by omega
    have nS0 : ¬ W.heap.size = wr.heap.size := by omega
    have w5' : IntKind.i64.wrap (z5 + 1) = z5 + 1 := by rw [IntKind.wrap_i64]; omega
    have w6' : IntKind.i64.wrap (z6 + 1) = z6 + 1 := by rw [IntKind.wrap_i64]; omega
    obtain ⟨fl, hfl⟩ : ∃ f, flatE In.enc (code.take fr ++ ⟨y1, y2, y3, y4, y5, y6⟩ :: ((code.take k).drop fr).map bump) = f := ⟨_, rfl⟩
    have HFL : Aside (flatE In.enc (code.take fr ++ ⟨y1, y2, y3, y4, y5, y6⟩ :: ((code.take k).drop fr).map bump) = fl) := hfl
    rw [hfl] at RL
    clear hfl
    by_cases o6 : z1 = 6
    · subst o6
      have STEP : Aside ((code.take fr ++ ⟨y1, y2, y3, y4, y5, y6⟩ :: ((code.take (k + 1)).drop fr).map bump) = (code.take fr ++ ⟨y1, y2, y3, y4, y5, y6⟩ :: ((code.take k).drop fr).map bump) ++ [⟨6, z2, z3, z4, z5 + 1, z6 + 1⟩]) := STEP0
      clear STEP0 SM
      have NBP : Aside (∀ b, W.heap.size + 1 + 1 < b ∨ b < W.heap.size → True) := fun _ _ => trivial
      have ON : Aside (∀ u ∈ ([.int .i64 6, .int .u8 z2, .string z3, .bool z4, .int .i64 (z5 + 1), .int .i64 (z6 + 1)] : List Value), u.oneCell' = true) := in_one ⟨6, z2, z3, z4, z5 + 1, z6 + 1⟩
      have WA : Aside ((wr.alloc (.cells #[.int .i64 6, .int .u8 z2, .string z3, .bool z4, .int .i64 (z5 + 1), .int .i64 (z6 + 1)] 34)).ownsRow (W.heap.size + 1 + 1 + 1) 34 6 (.slice la2 (k + 1) lc2) (k + 1) fl) := own_alloc RL.out
      go_wp2_with (at_builtin; refine wpList_append_own _ rfl _ _ 22 rfl (W.heap.size + 1 + 1 + 1) 34 i0 _ 6 56 Try.underlying22 hi0 hz0 hs0 hb0 rfl (by omega) (.slice la2 (k + 1) lc2) (k + 1) fl rfl (own_alloc WA.out) ⟨wr.heap.size + 1, 0, none⟩ 1 1 [.int .i64 6, .int .u8 z2, .string z3, .bool z4, .int .i64 (z5 + 1), .int .i64 (z6 + 1)] rfl rfl (cells_new _ _ _ _ (by simp)) ON.out (by unfold maxLen; omega) (by omega) (by simp; omega) ?_)
      intro v' w9 hown hgrow _
      obtain ⟨g9, c9, rfl⟩ := own_val hown (by omega)
      have G0 : Aside (w9.heap[W.heap.size]? = some (.cells #[.slice (some ⟨gg, 0, none⟩) n lc, .int .i64 (i : Int), .int .i64 (g : Int), .bool false] 58 (0, 0))) := (hgrow.block W.heap.size (by simp; omega) (fun e => NL.out W.heap.size (by omega) e.symm)).trans (hp_old (hp_old H0.out))
      have G2 : Aside (w9.heap[(W.heap.size + 1 + 1)]? = some (.cells #[.slice none 0 0, .int .i64 0, .int .i64 0, .bool false] 58 (0, 0))) := (hgrow.block (W.heap.size + 1 + 1) (by simp; omega) (fun e => NL.out (W.heap.size + 1 + 1) (by omega) e.symm)).trans (hp_old (hp_old H2.out))
      have GB : Aside (Below W.heap.size W w9) := (((HB.out.alloc HB.out.size _).alloc (by simp; omega) _).grown hgrow (by simp; omega) (fun q hq => by have := LB.out q hq; omega))
      have GR : Aside (w9.ownsRow (W.heap.size + 1 + 1 + 1) 34 6 (.slice (some ⟨g9, 0, none⟩) (k + 1 + 1) c9) (k + 1 + 1) (flatE In.enc (code.take fr ++ ⟨y1, y2, y3, y4, y5, y6⟩ :: ((code.take (k + 1)).drop fr).map bump))) := by
        rw [STEP.out, flatE_snoc, HFL.out]
        exact hown
      clear hown hgrow WA ON NBP
      go_wp2_with fail
      go_roundg (n - k)
      case measure => omega
      case rel => exact ⟨k + 1, _, c9, rfl, rfl, by omega, by omega, by omega, GR.out, G0.out, G2.out, GB.out⟩
    have o6b : (z1 == 6) = false := by simpa using o6
    have o6d : decide (z1 = 6) = false := decide_eq_false o6
    by_cases o7 : z1 = 7
    · subst o7
      have STEP : Aside ((code.take fr ++ ⟨y1, y2, y3, y4, y5, y6⟩ :: ((code.take (k + 1)).drop fr).map bump) = (code.take fr ++ ⟨y1, y2, y3, y4, y5, y6⟩ :: ((code.take k).drop fr).map bump) ++ [⟨7, z2, z3, z4, z5 + 1, z6⟩]) := STEP0
      clear STEP0 SM o6
      have NBP : Aside (∀ b, W.heap.size + 1 + 1 < b ∨ b < W.heap.size → True) := fun _ _ => trivial
      have ON : Aside (∀ u ∈ ([.int .i64 7, .int .u8 z2, .string z3, .bool z4, .int .i64 (z5 + 1), .int .i64 z6] : List Value), u.oneCell' = true) := in_one ⟨7, z2, z3, z4, z5 + 1, z6⟩
      have WA : Aside ((wr.alloc (.cells #[.int .i64 7, .int .u8 z2, .string z3, .bool z4, .int .i64 (z5 + 1), .int .i64 z6] 34)).ownsRow (W.heap.size + 1 + 1 + 1) 34 6 (.slice la2 (k + 1) lc2) (k + 1) fl) := own_alloc RL.out
      go_wp2_with (at_builtin; refine wpList_append_own _ rfl _ _ 22 rfl (W.heap.size + 1 + 1 + 1) 34 i0 _ 6 56 Try.underlying22 hi0 hz0 hs0 hb0 rfl (by omega) (.slice la2 (k + 1) lc2) (k + 1) fl rfl (own_alloc WA.out) ⟨wr.heap.size + 1, 0, none⟩ 1 1 [.int .i64 7, .int .u8 z2, .string z3, .bool z4, .int .i64 (z5 + 1), .int .i64 z6] rfl rfl (cells_new _ _ _ _ (by simp)) ON.out (by unfold maxLen; omega) (by omega) (by simp; omega) ?_)
      intro v' w9 hown hgrow _
      obtain ⟨g9, c9, rfl⟩ := own_val hown (by omega)
      have G0 : Aside (w9.heap[W.heap.size]? = some (.cells #[.slice (some ⟨gg, 0, none⟩) n lc, .int .i64 (i : Int), .int .i64 (g : Int), .bool false] 58 (0, 0))) := (hgrow.block W.heap.size (by simp; omega) (fun e => NL.out W.heap.size (by omega) e.symm)).trans (hp_old (hp_old H0.out))
      have G2 : Aside (w9.heap[(W.heap.size + 1 + 1)]? = some (.cells #[.slice none 0 0, .int .i64 0, .int .i64 0, .bool false] 58 (0, 0))) := (hgrow.block (W.heap.size + 1 + 1) (by simp; omega) (fun e => NL.out (W.heap.size + 1 + 1) (by omega) e.symm)).trans (hp_old (hp_old H2.out))
      have GB : Aside (Below W.heap.size W w9) := (((HB.out.alloc HB.out.size _).alloc (by simp; omega) _).grown hgrow (by simp; omega) (fun q hq => by have := LB.out q hq; omega))
      have GR : Aside (w9.ownsRow (W.heap.size + 1 + 1 + 1) 34 6 (.slice (some ⟨g9, 0, none⟩) (k + 1 + 1) c9) (k + 1 + 1) (flatE In.enc (code.take fr ++ ⟨y1, y2, y3, y4, y5, y6⟩ :: ((code.take (k + 1)).drop fr).map bump))) := by
        rw [STEP.out, flatE_snoc, HFL.out]
        exact hown
      clear hown hgrow WA ON NBP
      go_wp2_with fail
      go_roundg (n - k)
      case measure => omega
      case rel => exact ⟨k + 1, _, c9, rfl, rfl, by omega, by omega, by omega, GR.out, G0.out, G2.out, GB.out⟩
    have o7b : (z1 == 7) = false := by simpa using o7
    have o7d : decide (z1 = 7) = false := decide_eq_false o7
    have STEP : Aside ((code.take fr ++ ⟨y1, y2, y3, y4, y5, y6⟩ :: ((code.take (k + 1)).drop fr).map bump) = (code.take fr ++ ⟨y1, y2, y3, y4, y5, y6⟩ :: ((code.take k).drop fr).map bump) ++ [⟨z1, z2, z3, z4, z5, z6⟩]) := by
      show _ = _
      rw [STEP0]
      have : bump ⟨z1, z2, z3, z4, z5, z6⟩ = ⟨z1, z2, z3, z4, z5, z6⟩ := by
        unfold bump
        rw [if_neg o6, if_neg o7]
      rw [this]
    clear STEP0 SM o6 o7
    have NBP : Aside (∀ b, W.heap.size + 1 + 1 < b ∨ b < W.heap.size → True) := fun _ _ => trivial
    have ON : Aside (∀ u ∈ ([.int .i64 z1, .int .u8 z2, .string z3, .bool z4, .int .i64 z5, .int .i64 z6] : List Value), u.oneCell' = true) := in_one ⟨z1, z2, z3, z4, z5, z6⟩
    have WA : Aside ((wr.alloc (.cells #[.int .i64 z1, .int .u8 z2, .string z3, .bool z4, .int .i64 z5, .int .i64 z6] 34)).ownsRow (W.heap.size + 1 + 1 + 1) 34 6 (.slice la2 (k + 1) lc2) (k + 1) fl) := own_alloc RL.out
    go_wp2_with (at_builtin; refine wpList_append_own _ rfl _ _ 22 rfl (W.heap.size + 1 + 1 + 1) 34 i0 _ 6 56 Try.underlying22 hi0 hz0 hs0 hb0 rfl (by omega) (.slice la2 (k + 1) lc2) (k + 1) fl rfl (own_alloc WA.out) ⟨wr.heap.size + 1, 0, none⟩ 1 1 [.int .i64 z1, .int .u8 z2, .string z3, .bool z4, .int .i64 z5, .int .i64 z6] rfl rfl (cells_new _ _ _ _ (by simp)) ON.out (by unfold maxLen; omega) (by omega) (by simp; omega) ?_)
    intro v' w9 hown hgrow _
    obtain ⟨g9, c9, rfl⟩ := own_val hown (by omega)
    have G0 : Aside (w9.heap[W.heap.size]? = some (.cells #[.slice (some ⟨gg, 0, none⟩) n lc, .int .i64 (i : Int), .int .i64 (g : Int), .bool false] 58 (0, 0))) := (hgrow.block W.heap.size (by simp; omega) (fun e => NL.out W.heap.size (by omega) e.symm)).trans (hp_old (hp_old H0.out))
    have G2 : Aside (w9.heap[(W.heap.size + 1 + 1)]? = some (.cells #[.slice none 0 0, .int .i64 0, .int .i64 0, .bool false] 58 (0, 0))) := (hgrow.block (W.heap.size + 1 + 1) (by simp; omega) (fun e => NL.out (W.heap.size + 1 + 1) (by omega) e.symm)).trans (hp_old (hp_old H2.out))
    have GB : Aside (Below W.heap.size W w9) := (((HB.out.alloc HB.out.size _).alloc (by simp; omega) _).grown hgrow (by simp; omega) (fun q hq => by have := LB.out q hq; omega))
    have GR : Aside (w9.ownsRow (W.heap.size + 1 + 1 + 1) 34 6 (.slice (some ⟨g9, 0, none⟩) (k + 1 + 1) c9) (k + 1 + 1) (flatE In.enc (code.take fr ++ ⟨y1, y2, y3, y4, y5, y6⟩ :: ((code.take (k + 1)).drop fr).map bump))) := by
      rw [STEP.out, flatE_snoc, HFL.out]
      exact hown
    clear hown hgrow WA ON NBP
    go_wp2_with fail
    go_roundg (n - k)
    case measure => omega
    case rel => exact ⟨k + 1, _, c9, rfl, rfl, by omega, by omega, by omega, GR.out, G0.out, G2.out, GB.out⟩

end Go.Proofs.Ytfhccmegobbnaaa
