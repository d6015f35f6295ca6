/- This text proves the walks of slices.Insert and slices.BinarySearchFunc at holds. Conditions: those that each theorem names. -/
import Derived.Test.YtcgajlobbjoefaaCacheA
namespace Go.Proofs.Ytcgajlobbjoefaa
open Go.ChangeShapes Go.WideShapes Go.ChangeAt Go.RowKit
set_option linter.unusedVariables false
set_option linter.unusedSimpArgs false

set_option maxHeartbeats 4000000 in
set_option maxRecDepth 100000 in
theorem hdInsert_shift (b n c i vb m vc : Nat) (cs vs : List Value) (w : World) (hi : i < n) (hm : 0 < m) (hroom : n + m ≤ c) (hc63 : c ≤ 9223372036854775807) (hvb : vb ≠ b)
    (hcl : cs.length = n * 3) (hvl : vs.length = m * 3)
    (hcs : ∀ j v, cs[j]? = some v → w.cell? ⟨b, 0 + j, none⟩ = some v) (hsp : ∀ j, j < (n + m) * 3 → (w.cell? ⟨b, 0 + j, none⟩).isSome = true) (hfz : ∀ j, j < (n + m) * 3 → w.frozen? ⟨b, 0 + j, none⟩ = false)
    (hvs : ∀ j v, vs[j]? = some v → w.cell? ⟨vb, 0 + j, none⟩ = some v) (h1c : ∀ v ∈ cs, v.oneCell' = true) (h1v : ∀ v ∈ vs, v.oneCell' = true)
    (tA tB : TypeId) (kA kB : Nat) (hsa : w.shape? vb = some (tA, kA)) (hsb : w.shape? b = some (tB, kB)) (hkB : kB ≠ 0) (hfa : w.frozen? ⟨vb, 0, none⟩ = false) (hfe : w.frozen? ⟨vb, kA, none⟩ = false) :
    Calls Try.prog 47 #[.slice (some ⟨b, 0, none⟩) n c, .int .i64 i, .slice (some ⟨vb, 0, none⟩) m vc] w fun e w' =>
      e = .returned (.slice (some ⟨b, 0, none⟩) (n + m) c) ∧ w' = (w.drew.setCells b ((i + m) * 3) (cs.drop (i * 3))).setCells b (i * 3) vs := by
  have hz1 : ¬ ((m : Int) = 0) := by omega
  have hz2 : ¬ ((i : Int) = (n : Int)) := by omega
  have hsz : (Try.prog.info? 36).map (·.size) = some 3 := by
    obtain ⟨i0, hi0, h0, h1, h2⟩ := hdInfo
    rw [hi0]; simp [h1]
  have hov : ∀ lb cb, (callFunc 60 #[.slice (some ⟨vb, 0, none⟩) m vc, .slice (some ⟨b, (i + m) * 3, none⟩) lb cb]).run Try.prog w = .ok (.value (.bool false)) w := fun lb cb => by
    rw [run_callFunc_extern Try.func60 (by kernel_rfl) (by kernel_rfl) (by kernel_rfl) (e := Extern.SlicesOverlaps.overlaps #[23, 23] #[4]) (by kernel_rfl),
      Lib.run_overlaps_apart w 23 4 36 Try.underlying23 3 (fun w => by kernel_rfl) ⟨vb, 0, none⟩ ⟨b, (i + m) * 3, none⟩ m vc lb cb hvb tA tB kA kB hsa hsb hkB hfa hfe]
    rfl
  have hdl : (cs.drop (i * 3)).length = (n - i) * 3 := by rw [List.length_drop, hcl]; omega
  have hw1 : IntKind.i64.wrap ((i : Int) + (m : Int)) = (i : Int) + (m : Int) := by rw [IntKind.wrap_i64]; omega
  have hb1 : (0 : Int) ≤ (i : Int) + (m : Int) := by omega
  have hin : i ≤ n := by omega
  have htn : ((i : Int) + (m : Int)).toNat = i + m := by omega
  have hb2 : ¬ (c = i + m) := by omega
  have hb3 : (i : Int) ≤ (n : Int) + (m : Int) := by omega
  have hb4 : ¬ (c = i) := by omega
  have hcp1 : ∀ ty dc sc, (Builtin.copy_ #[23, 23] ty #[.slice (some ⟨b, (i + m) * 3, none⟩) (n + m - (i + m)) dc, .slice (some ⟨b, i * 3, none⟩) (n + m - i) sc]).run Try.prog w.drew = .ok (goInt ((n - i : Nat) : Int)) (w.drew.setCells b ((i + m) * 3) (cs.drop (i * 3))) := fun ty dc sc =>
    run_copy_cells_k w.drew _ _ ty 36 3 b ((i + m) * 3) (n + m - (i + m)) dc ⟨b, i * 3, none⟩ (n + m - i) sc (n - i) (cs.drop (i * 3)) Try.underlying23 hsz (by simp only [Nat.min_def]; split <;> omega) hdl
      (fun j v hj => by rw [Addr.add_lit]; have := hcs (i * 3 + j) v (by rwa [List.getElem?_drop] at hj); rw [Nat.zero_add] at this; exact this)
      (fun j hj => by have := hsp ((i + m) * 3 + j) (by omega); rw [Nat.zero_add] at this; exact this) (fun j hj => by have := hfz ((i + m) * 3 + j) (by omega); rw [Nat.zero_add] at this; exact this) (fun v hv => h1c v (List.mem_of_mem_drop hv))
  obtain ⟨W1, hW1⟩ : ∃ W1, W1 = w.drew.setCells b ((i + m) * 3) (cs.drop (i * 3)) := ⟨_, rfl⟩
  have hsp1 : ∀ k, k < (n + m) * 3 → (W1.cell? ⟨b, k, none⟩).isSome = true := fun k hk => by
    rw [hW1]
    exact isSome_setCells b _ _ _ k (by have := hsp k hk; rw [Nat.zero_add] at this; exact this) (fun j hj => by have := hsp ((i + m) * 3 + j) (by omega); rw [Nat.zero_add] at this; exact this)
  have hcp2 : ∀ (W : World), (∀ x, W.cell? x = W1.cell? x) → (∀ x, W.frozen? x = W1.frozen? x) → ∀ ty dc, (Builtin.copy_ #[23, 23] ty #[.slice (some ⟨b, i * 3, none⟩) (n + m - i) dc, .slice (some ⟨vb, 0, none⟩) m vc]).run Try.prog W = .ok (goInt (m : Int)) (W.setCells b (i * 3) vs) := fun W hWc hWf ty dc =>
    run_copy_cells_k W _ _ ty 36 3 b (i * 3) (n + m - i) dc ⟨vb, 0, none⟩ m vc m vs Try.underlying23 hsz (by simp only [Nat.min_def]; split <;> omega) hvl
      (fun j v hj => by
        rw [Addr.add_lit, hWc, hW1, World.cell?_setCells_out b _ _ _ _ (fun h _ => absurd h hvb)]
        exact hvs j v hj)
      (fun j hj => by rw [hWc]; exact hsp1 _ (by omega)) (fun j hj => by rw [hWf, hW1, World.frozen?_setCells]; have := hfz (i * 3 + j) (by omega); rw [Nat.zero_add] at this; exact this) h1v
  rw [← hW1] at hcp1
  go_enter Try.func47, Try.ntmps47
  go_wp2_with (simp only [hov])
  go_region_law (refine step_copy_run rfl _ _ 23 23 rfl _ _ (by simp [Act.eval, Act.put]) (by simp [Act.eval, Act.put]) (hcp1 _ _ _) ?_)
  go_wp2_with (at_builtin; refine wpList_copy_run _ rfl _ _ 23 23 rfl _ _ rfl rfl (hcp2 _ (fun _ => rfl) (fun _ => rfl) _ _) ?_)
  go_ret
  first | exact ⟨rfl, rfl⟩ | exact ⟨rfl, by rw [hW1]⟩

set_option maxHeartbeats 4000000 in
set_option maxRecDepth 100000 in
theorem hdInsert_end (v : Value) (n vb m vc B : Nat) (cs vs : List Value) (w : World) (hm : 0 < m) (hown : w.ownsRow B 36 3 v n cs) (hB : B ≤ w.heap.size) (hbig : (n + m) * 24 ≤ 140737488355328)
    (hvl : vs.length = m * 3) (hvs : ∀ j v, vs[j]? = some v → w.cell? ⟨vb, 0 + j, none⟩ = some v) (h1v : ∀ v ∈ vs, v.oneCell' = true) :
    Calls Try.prog 47 #[v, .int .i64 n, .slice (some ⟨vb, 0, none⟩) m vc] w fun e w' =>
      ∃ v', e = .returned v' ∧ w'.ownsRow B 36 3 v' (n + m) (cs ++ vs) ∧ w.grownBy w' v.ownBlock := by
  obtain ⟨i0, hi, hz, hs4, hby⟩ := hdInfo
  have hz1 : ¬ ((m : Int) = 0) := by omega
  have H : ∀ ty, ∃ v' w', (Builtin.append_ #[23, 23] ty #[v, .slice (some ⟨vb, 0, none⟩) m vc]).run Try.prog w = .ok v' w' ∧ w'.ownsRow B 36 3 v' (n + m) (cs ++ vs) ∧ w.grownBy w' v.ownBlock := fun ty => by
    obtain ⟨v', w', hr, h2, h3, h4⟩ := run_append_own (P := Try.prog) w B 23 ty 36 i0 _ 3 24 Try.underlying23 hi hz hs4 hby rfl (by omega) v n cs hown ⟨vb, 0, none⟩ m vc vs hvl (fun j u hj => by rw [Addr.add_lit]; exact hvs j u hj) h1v (by unfold maxLen; omega) hbig hB
    exact ⟨v', w', hr, h2, h3⟩
  obtain ⟨ao, cap, rfl, hnil, hnc⟩ : ∃ ao cap, v = .slice ao n cap ∧ (∀ a, ao = some a → ∃ g, a = ⟨g, 0, none⟩) ∧ n ≤ cap := by
    rcases hown.2 with ⟨rfl, rfl⟩ | ⟨g, cap, cur, rfl, _, _, hnc, _⟩
    · exact ⟨none, 0, rfl, (fun a h => by cases h), Nat.le_refl _⟩
    · exact ⟨_, cap, rfl, (fun a h => by cases h; exact ⟨g, rfl⟩), hnc⟩
  have hnb : n ≤ 9223372036854775807 := by omega
  clear hown hvs hi hz hs4 hby hvl
  obtain ⟨v', w', hr, h2, h3⟩ := H 23
  clear H
  have HG : Hid (w'.ownsRow B 36 3 v' (n + m) (cs ++ vs) ∧ w.grownBy w' (Value.slice ao n cap).ownBlock) := ⟨h2, h3⟩
  clear h2 h3
  cases ao with
  | none =>
    go_enter Try.func47, Try.ntmps47
    go_wp2_with (at_builtin; refine Lib.wpList_append_run _ rfl _ _ _ _ rfl _ _ rfl rfl _ _ hr ?_)
    all_goals (go_ret; exact ⟨v', rfl, HG.out.1, HG.out.2⟩)
  | some a =>
    obtain ⟨g, rfl⟩ := hnil a rfl
    clear hnil
    go_enter Try.func47, Try.ntmps47
    go_wp2_with (at_builtin; refine Lib.wpList_append_run _ rfl _ _ _ _ rfl _ _ rfl rfl _ _ hr ?_)
    all_goals (go_ret; exact ⟨v', rfl, HG.out.1, HG.out.2⟩)

set_option maxHeartbeats 4000000 in
set_option maxRecDepth 100000 in
theorem hdInsert_grow (b n c i vb m vc : Nat) (cs vs : List Value) (w : World) (hi : i < n) (hm : 0 < m) (hnc : n ≤ c) (hroom : c < n + m) (hbig : (n + m) * 24 ≤ 140737488355328)
    (hcl : cs.length = n * 3) (hvl : vs.length = m * 3)
    (hcs : ∀ j v, cs[j]? = some v → w.cell? ⟨b, 0 + j, none⟩ = some v)
    (hvs : ∀ j v, vs[j]? = some v → w.cell? ⟨vb, 0 + j, none⟩ = some v) (h1c : ∀ v ∈ cs, v.oneCell' = true) (h1v : ∀ v ∈ vs, v.oneCell' = true) :
    Calls Try.prog 47 #[.slice (some ⟨b, 0, none⟩) n c, .int .i64 i, .slice (some ⟨vb, 0, none⟩) m vc] w fun e w' =>
      ∃ (G : Nat) (ROW : List Value), n + m ≤ G ∧ G ≤ maxLen ∧ ROW.length = G * 3 ∧ ROW.take (i * 3) = cs.take (i * 3) ∧ e = .returned (.slice (some ⟨w.heap.size, 0, none⟩) (n + m) G) ∧
      w' = (((w.alloc (.cells ROW.toArray 36)).drew.setCells w.heap.size (i * 3) vs).drew).setCells w.heap.size ((i + m) * 3) (cs.drop (i * 3)) := by
  obtain ⟨i0, hi0, hz0, hzs, hzb⟩ := hdInfo
  have hz1 : ¬ ((m : Int) = 0) := by omega
  have hz2 : ¬ ((i : Int) = (n : Int)) := by omega
  have hz3 : (c : Int) < (n : Int) + (m : Int) := by omega
  have hsz : (Try.prog.info? 36).map (·.size) = some 3 := by rw [hi0]; simp [hzs]
  have hbw : b < w.heap.size := block_lt_of_cell (hcs 0 _ (List.getElem?_eq_getElem (by omega)))
  have hvw : vb < w.heap.size := block_lt_of_cell (hvs 0 _ (List.getElem?_eq_getElem (by omega)))
  have hkk : (n : Int) + (m : Int) - (i : Int) = ((n + m - i : Nat) : Int) := by omega
  have hik : i + (n + m - i) = n + m := by omega
  have hold : (Builtin.firstCells i0.size i (.slice (some ⟨b, 0, none⟩) i c)).run Try.prog w.drew = .ok (cs.take (i * 3)).toArray w.drew := by
    rw [hzs]
    exact run_firstCells_some w.drew 3 i ⟨b, 0, none⟩ i c (cs.take (i * 3)) (by rw [List.length_take]; omega) (fun j v hj => by
      rw [Addr.add_lit]
      rw [List.getElem?_take] at hj
      split at hj
      · exact hcs j v hj
      · cases hj)
  obtain ⟨G, hG⟩ : ∃ G, G = grownCap w (n + m) c 36 := ⟨_, rfl⟩
  obtain ⟨ROW, hROW⟩ : ∃ ROW : Array Value, ROW = (cs.take (i * 3)).toArray ++ Builtin.zeroCells (Value.cells (.agg #[.int .i64 0, .int .i64 0, .int .i64 0])) (n + m - i) ++ Builtin.zeroCells (Value.cells (.agg #[.int .i64 0, .int .i64 0, .int .i64 0])) (G - (n + m)) := ⟨_, rfl⟩
  have hrz : ∀ ty, (Builtin.append_ #[23, 3] ty #[.slice (some ⟨b, 0, none⟩) i c, .int .i64 ((n : Int) + (m : Int) - (i : Int))]).run Try.prog w =
      .ok (.slice (some ⟨w.heap.size, 0, none⟩) (n + m) G) (w.drew.alloc (.cells ROW 36)) := fun ty => by
    have h := Lib.run_append_grow_zeros w 23 3 ty 36 i0 _ .i64 .i64 Try.underlying23 Try.underlying3 hi0 hz0 (some ⟨b, 0, none⟩) i c (cs.take (i * 3)) hold (n + m - i) (by omega) (by omega) (by omega) (by omega) (by rw [hzb]; omega) (by rw [hzb, hik]; exact growslice_fits hroom hbig)
    rw [hik, ← hG, ← hROW] at h
    rw [hkk]
    exact h
  have hGn : n + m ≤ G := by rw [hG]; exact grownCap_ge w _ _ _
  have hGM : G ≤ maxLen := by rw [hG]; exact grownCap_le_maxLen w (n + m) c 36 (by unfold maxLen; omega)
  have hG63 : G ≤ 9223372036854775807 := by unfold maxLen at hGM; omega
  have hRs : ROW.size = G * 3 := by
    have e : (Value.cells (.agg #[.int .i64 0, .int .i64 0, .int .i64 0])).size = 3 := by rfl
    rw [hROW]
    simp only [Array.size_append, size_zeroCells, List.size_toArray, List.length_take, e]
    omega
  have hRt : ROW.toList.take (i * 3) = cs.take (i * 3) := by
    rw [hROW]
    simp only [Array.toList_append, List.append_assoc]
    exact List.take_left' (by rw [List.length_take]; omega)
  have hRl : (n + m) * 3 ≤ ROW.size := by omega
  obtain ⟨W1, hW1⟩ : ∃ W1, W1 = w.drew.alloc (.cells ROW 36) := ⟨_, rfl⟩
  rw [← hW1] at hrz
  have hN : ∀ j, j < (n + m) * 3 → (W1.cell? ⟨w.heap.size, j, none⟩).isSome = true := fun j hj => by
    rw [hW1, World.cell?_alloc_at (w := w.drew) ROW _ w.heap.size j rfl, Array.getElem?_eq_getElem (by omega)]; rfl
  have hNf : ∀ j, W1.frozen? ⟨w.heap.size, j, none⟩ = false := fun j => by rw [hW1]; exact World.frozen?_alloc_at (w := w.drew) ROW _ w.heap.size j rfl
  have hOb : ∀ j v, w.cell? ⟨b, j, none⟩ = some v → W1.cell? ⟨b, j, none⟩ = some v := fun j v h => by rw [hW1, World.cell?_alloc_past (w := w.drew) _ b j hbw]; exact h
  have hOv : ∀ j v, w.cell? ⟨vb, j, none⟩ = some v → W1.cell? ⟨vb, j, none⟩ = some v := fun j v h => by rw [hW1, World.cell?_alloc_past (w := w.drew) _ vb j hvw]; exact h
  have hcpA : ∀ (W : World), (∀ x, W.cell? x = W1.cell? x) → (∀ x, W.frozen? x = W1.frozen? x) → ∀ ty dc, (Builtin.copy_ #[23, 23] ty #[.slice (some ⟨w.heap.size, i * 3, none⟩) (n + m - i) dc, .slice (some ⟨vb, 0, none⟩) m vc]).run Try.prog W = .ok (goInt (m : Int)) (W.setCells w.heap.size (i * 3) vs) := fun W hWc hWf ty dc =>
    run_copy_cells_k W _ _ ty 36 3 w.heap.size (i * 3) (n + m - i) dc ⟨vb, 0, none⟩ m vc m vs Try.underlying23 hsz (by simp only [Nat.min_def]; split <;> omega) hvl
      (fun j v hj => by rw [Addr.add_lit, hWc]; exact hOv _ v (hvs j v hj))
      (fun j hj => by rw [hWc]; exact hN _ (by omega)) (fun j hj => by rw [hWf]; exact hNf _) h1v
  have hGi : ¬ (G = i) := by omega
  have hGim : ¬ (G = i + m) := by omega
  have hci : ¬ (c = i) := by omega
  have hbN : b ≠ w.heap.size := by omega
  have hdl : (cs.drop (i * 3)).length = (n - i) * 3 := by rw [List.length_drop, hcl]; omega
  have hcpB : ∀ (W : World), (∀ x, W.cell? x = (W1.setCells w.heap.size (i * 3) vs).cell? x) → (∀ x, W.frozen? x = (W1.setCells w.heap.size (i * 3) vs).frozen? x) → ∀ ty dc sc, (Builtin.copy_ #[23, 23] ty #[.slice (some ⟨w.heap.size, (i + m) * 3, none⟩) (n + m - (i + m)) dc, .slice (some ⟨b, i * 3, none⟩) (n - i) sc]).run Try.prog W = .ok (goInt ((n - i : Nat) : Int)) (W.setCells w.heap.size ((i + m) * 3) (cs.drop (i * 3))) := fun W hWc hWf ty dc sc =>
    run_copy_cells_k W _ _ ty 36 3 w.heap.size ((i + m) * 3) (n + m - (i + m)) dc ⟨b, i * 3, none⟩ (n - i) sc (n - i) (cs.drop (i * 3)) Try.underlying23 hsz (by simp only [Nat.min_def]; split <;> omega) hdl
      (fun j v hj => by
        rw [Addr.add_lit, hWc, World.cell?_setCells_out _ _ _ _ _ (fun h _ => absurd h hbN)]
        have := hcs (i * 3 + j) v (by rwa [List.getElem?_drop] at hj)
        rw [Nat.zero_add] at this
        exact hOb _ v this)
      (fun j hj => by rw [hWc]; exact isSome_setCells _ _ _ _ _ (hN _ (by omega)) (fun t ht => hN _ (by omega)))
      (fun j hj => by rw [hWf, World.frozen?_setCells]; exact hNf _) (fun v hv => h1c v (List.mem_of_mem_drop hv))
  have hfin : ∃ (G' : Nat) (ROW' : List Value), n + m ≤ G' ∧ G' ≤ maxLen ∧ ROW'.length = G' * 3 ∧ ROW'.take (i * 3) = cs.take (i * 3) ∧ Ending.returned (.slice (some ⟨w.heap.size, 0, none⟩) (n + m) G) = .returned (.slice (some ⟨w.heap.size, 0, none⟩) (n + m) G') ∧
      (((w.alloc (.cells ROW 36)).drew.setCells w.heap.size (i * 3) vs).drew).setCells w.heap.size ((i + m) * 3) (cs.drop (i * 3)) = (((w.alloc (.cells ROW'.toArray 36)).drew.setCells w.heap.size (i * 3) vs).drew).setCells w.heap.size ((i + m) * 3) (cs.drop (i * 3)) :=
    ⟨G, ROW.toList, hGn, hGM, by simpa using hRs, hRt, rfl, by rw [Array.toArray_toList]⟩
  have HF := Lib.hid hfin
  clear hfin hRt hRs
  subst hW1
  have hE1 : ∀ x, ((w.alloc (.cells ROW 36)).drew).cell? x = (w.drew.alloc (.cells ROW 36)).cell? x := fun x => rfl
  have hE2 : ∀ x, ((w.alloc (.cells ROW 36)).drew).frozen? x = (w.drew.alloc (.cells ROW 36)).frozen? x := fun x => rfl
  have hF1 : ∀ x, (((w.alloc (.cells ROW 36)).drew.setCells w.heap.size (i * 3) vs).drew).cell? x = ((w.drew.alloc (.cells ROW 36)).setCells w.heap.size (i * 3) vs).cell? x := fun x => rfl
  have hF2 : ∀ x, (((w.alloc (.cells ROW 36)).drew.setCells w.heap.size (i * 3) vs).drew).frozen? x = ((w.drew.alloc (.cells ROW 36)).setCells w.heap.size (i * 3) vs).frozen? x := fun x => rfl
  have hw1 : IntKind.i64.wrap ((i : Int) + (m : Int)) = (i : Int) + (m : Int) := by rw [IntKind.wrap_i64]; omega
  have hb1 : (0 : Int) ≤ (i : Int) + (m : Int) := by omega
  have hin : i ≤ n := by omega
  have htn : ((i : Int) + (m : Int)).toNat = i + m := by omega
  have hb3 : (i : Int) ≤ (n : Int) := by omega
  clear hkk hik hold hROW hG hRl hGM
  go_enter Try.func47, Try.ntmps47
  go_wp2_with (first
    | (at_builtin; refine Lib.wpList_append_run _ rfl _ _ _ _ rfl _ _ rfl rfl _ _ (hrz _) ?_)
    | (at_builtin; refine wpList_copy_run _ rfl _ _ 23 23 rfl _ _ rfl rfl (hcpA _ hE1 hE2 _ _) ?_))
  go_region_law (refine step_copy_run rfl _ _ 23 23 rfl (.slice (some ⟨w.heap.size, (i + m) * 3, none⟩) (n + m - (i + m)) (G - (i + m))) (.slice (some ⟨b, i * 3, none⟩) (n - i) (c - i)) (by simp [Act.eval, Act.put]) (by simp [Act.eval, Act.put]) (hcpB _ hF1 hF2 3 (G - (i + m)) (c - i)) ?_)
  go_wp2
  go_ret
  exact HF.out

theorem hdInsert_calls (v : Value) (n i vb B : Nat) (cs vs : List Value) (TV : TypeId) (w : World) (hown : w.ownsRow B 36 3 v n cs) (hi : i ≤ n) (hn : n ≤ 1000000) (hvl : vs.length = 3) (h1c : ∀ u ∈ cs, u.oneCell' = true) (h1v : ∀ u ∈ vs, u.oneCell' = true)
    (hvb : w.heap[vb]? = some (.cells vs.toArray TV (0, 0))) (hne : v.ownBlock ≠ some vb) (hB : B ≤ w.heap.size) :
    Calls Try.prog 47 #[v, .int .i64 i, .slice (some ⟨vb, 0, none⟩) 1 1] w fun e w' =>
      ∃ v', e = .returned v' ∧ w'.ownsRow B 36 3 v' (n + 1) (cs.take (i * 3) ++ vs ++ cs.drop (i * 3)) ∧ w.grownBy w' v.ownBlock := by
  have hvs : ∀ j u, vs[j]? = some u → w.cell? ⟨vb, 0 + j, none⟩ = some u := fun j u hj => by
    rw [Nat.zero_add, cell_of_row w vb j _ _ _ hvb]; simpa using hj
  have hcl := hown.1
  by_cases hin : i = n
  · subst hin
    have h := hdInsert_end v i vb 1 1 B cs vs w (by omega) hown hB (by omega) (by omega) hvs h1v
    rw [List.take_of_length_le (by omega), List.drop_of_length_le (by omega), List.append_nil]
    exact h
  · rcases hown.2 with ⟨_, h0⟩ | ⟨g, cap, cur, rfl, hBg, hg, hnc, hcm, hcs, ht⟩
    · omega
    have hgl := (Array.getElem?_eq_some_iff.1 hg).1
    have hbs : ∀ j u, cs[j]? = some u → w.cell? ⟨g, 0 + j, none⟩ = some u := fun j u hj => by
      rw [Nat.zero_add, cell_of_row w g j _ _ _ hg]
      rw [← ht, List.getElem?_take] at hj
      split at hj
      · simpa using hj
      · cases hj
    have hvg : vb ≠ g := fun e => hne (by rw [e]; rfl)
    by_cases hroom : n + 1 ≤ cap
    · have h := hdInsert_shift g n cap i vb 1 1 cs vs w (by omega) (by omega) hroom (by unfold maxLen at hcm; omega) hvg hcl (by omega) hbs
        (fun j hj => by rw [Nat.zero_add, cell_of_row w g j _ _ _ hg, Array.getElem?_eq_getElem (by omega)]; rfl) (fun j _ => frozen_of_row w g _ _ _ hg) hvs h1c h1v TV 36 vs.toArray.size cur.size
        (by simp [World.shape?, hvb]) (by simp [World.shape?, hg]) (by omega) (frozen_of_row w vb _ _ _ hvb) (frozen_of_row w vb _ _ _ hvb)
      refine h.mono ?_
      rintro e w' ⟨rfl, rfl⟩
      have hcur : (n + 1) * 3 ≤ cur.toList.length := by simp; omega
      have hdl : (cs.drop (i * 3)).length = (n - i) * 3 := by rw [List.length_drop, hcl]; omega
      have s1 := heap_setCells_row g ((i + 1) * 3) 36 (cs.drop (i * 3)) cur.toList w.drew (by rw [Array.toArray_toList]; exact hg) (by rw [hdl]; omega) (fun u hu => h1c u (List.mem_of_mem_drop hu))
      have l1 : (splice cur.toList ((i + 1) * 3) (cs.drop (i * 3))).length = cur.toList.length := length_splice _ _ _ (by rw [hdl]; omega)
      have s2 := heap_setCells_row g (i * 3) 36 vs _ _ s1.1 (by rw [l1]; omega) h1v
      have l2 := length_splice (splice cur.toList ((i + 1) * 3) (cs.drop (i * 3))) (i * 3) vs (by rw [l1]; omega)
      refine ⟨_, rfl, ⟨by simp only [List.length_append, List.length_take, List.length_drop]; omega, .inr ⟨g, cap, _, rfl, hBg, s2.1, hroom, hcm, ?_, ?_⟩⟩, grownBy_trans (grownBy_trans (grownBy_drew w _) s1.2) s2.2⟩
      · rw [List.size_toArray, l2, l1]; simpa using hcs
      · exact splice_shift 3 n i 1 cur.toList cs vs hi hcl (by omega) hcur ht
    · have h := hdInsert_grow g n cap i vb 1 1 cs vs w (by omega) (by omega) hnc (by omega) (by omega) hcl (by omega) hbs hvs h1c h1v
      refine h.mono ?_
      rintro e w' ⟨G, ROW, hGn, hGM, hRl, hRt, rfl, rfl⟩
      have hdl : (cs.drop (i * 3)).length = (n - i) * 3 := by rw [List.length_drop, hcl]; omega
      have s0 : ((w.alloc (.cells ROW.toArray 36)).drew).heap[w.heap.size]? = some (.cells ROW.toArray 36 (0, 0)) := heap_alloc_new w _
      have s1 := heap_setCells_row w.heap.size (i * 3) 36 vs ROW _ s0 (by omega) h1v
      have l1 : (splice ROW (i * 3) vs).length = ROW.length := length_splice _ _ _ (by omega)
      have s1' : ((((w.alloc (.cells ROW.toArray 36)).drew).setCells w.heap.size (i * 3) vs).drew).heap[w.heap.size]? = some (.cells (splice ROW (i * 3) vs).toArray 36 (0, 0)) := s1.1
      have s2 := heap_setCells_row w.heap.size ((i + 1) * 3) 36 (cs.drop (i * 3)) _ _ s1' (by rw [l1, hdl]; omega) (fun u hu => h1c u (List.mem_of_mem_drop hu))
      have l2 := length_splice (splice ROW (i * 3) vs) ((i + 1) * 3) (cs.drop (i * 3)) (by rw [l1, hdl]; omega)
      have g0 : w.grownBy ((w.alloc (.cells ROW.toArray 36)).drew) (Value.slice (some ⟨g, 0, none⟩) n cap).ownBlock := grownBy_trans (World.grownBy_alloc w _ _) (grownBy_drew _ _)
      have g1 := grownBy_past g0 s1.2 (Nat.le_refl _)
      have g2 := grownBy_past (grownBy_trans g1 (grownBy_drew _ _)) s2.2 (Nat.le_refl _)
      refine ⟨_, rfl, ⟨by simp only [List.length_append, List.length_take, List.length_drop]; omega, .inr ⟨w.heap.size, G, _, rfl, hB, s2.1, by omega, hGM, ?_, ?_⟩⟩, g2⟩
      · rw [List.size_toArray, l2, l1, hRl]
      · exact splice_grow 3 n i 1 ROW cs vs hi hcl (by omega) (by omega) hRt

def HdBsPost (c : Hd → Int) (w : World) (xs : List Hd) (n : Nat) (e : Ending) (w' : World) : Prop :=
  ∃ i : Nat, i ≤ n ∧ (∀ a, a < i → c xs[a]! < 0) ∧ (∀ a, i ≤ a → a < n → ¬ c xs[a]! < 0) ∧
        e = .returned (.tuple #[.int .i64 (i : Int), .bool (decide (i < n) && decide (c xs[i]! = 0))]) ∧ Below w.heap.size w w'

def HdKeep (c : Hd → Int) (w : World) (xs : List Hd) (n : Nat) (k : Nat) (s9 s10 : Value) (wr : World) : Prop :=
  ∃ (i j : Nat) (x : World), s9 = .int .i64 (i : Int) ∧ s10 = .int .i64 (j : Int) ∧ wr = plus w x ∧ i ≤ j ∧ j ≤ n ∧ j - i ≤ k ∧
    Aside ((∀ a, a < i → c xs[a]! < 0) ∧ ∀ a, j ≤ a → a < n → ¬ c xs[a]! < 0)

set_option maxHeartbeats 4000000 in
theorem hdBsearch_loop (c : Hd → Int) (g : Nat) (lb : Array Value) (eg : ∀ args w, (callFunc g args).run Try.prog w = .ok (.enter g args) w) (ao : Option Addr) (n cap : Nat) (xs : List Hd) (t : Int) (w : World) (h : Sl w 3 ao n cap (xs.map Hd.enc)) (hn : n ≤ 1000000)
    (hc : ∀ W y, Below w.heap.size w W → Calls Try.prog g (#[Hd.val y, .int .i64 t] ++ lb) W fun e w' => e = .returned (.int .i64 (c y)) ∧ Below W.heap.size W w') (hs : MonoE c xs) :
    Calls Try.prog 50 #[.slice ao n cap, .int .i64 t, .func (.func g) #[] lb] w fun e w' => HdBsPost c w xs n e w' := by
  have hbig : n ≤ 9223372036854775807 := Nat.le_trans h.hcap h.hmax
  have hln := Sl.lenE h
  have HC : Aside (CellsHd w ao xs) := cellsHd h
  have HM : Aside (MonoE c xs) := hs
  have HK : Aside (∀ W y, Below w.heap.size w W → Calls Try.prog g (#[Hd.val y, .int .i64 t] ++ lb) W fun e w' => e = .returned (.int .i64 (c y)) ∧ Below W.heap.size W w') := hc
  clear h hs hc
  go_enter Try.func50, Try.ntmps50
  go_wp2
  go_loopg [9, 10] n (fun k s9 s10 wr => HdKeep c w xs n k s9 s10 wr)
  case atStart => exact ⟨0, n, _, rfl, rfl, plus_self _, by omega, by omega, by omega, fun a h => by omega, fun a h => by omega⟩
  case round =>
    obtain ⟨i, j, x, rfl, rfl, rfl, hij, hjn, hk, FA⟩ := hrel
    have FB : Aside (_ ∧ _) := FA
    clear FA
    by_cases hlt : i < j
    · obtain ⟨m, hm, hm1, hm2⟩ : ∃ m : Nat, ((i : Int) + j) / 2 = m ∧ i ≤ m ∧ m < j := ⟨(i + j) / 2, by omega, by omega, by omega⟩
      obtain ⟨b, off, rfl, hb, q0, q1, q2⟩ := HC.out m (by omega)
      have l0 := q0
      have l1 := q1
      have l2 := q2
      clear q0 q1 q2
      have LT : Aside (∀ r, c xs[m]! = r → (r < 0 → ∀ a, a < m + 1 → c xs[a]! < 0) ∧ (¬ r < 0 → ∀ a, m ≤ a → a < n → ¬ c xs[a]! < 0)) := fun r hr =>
        ⟨fun h a ha => HM.out a m (by omega) (by omega) (by rw [hr]; exact h), fun h a ha1 ha2 h2 => h (by rw [← hr]; exact HM.out m a ha1 (by omega) h2)⟩
      have co0 := fun x => HK.out (plus w x) xs[m]! (below_plus w x)
      clear HC HM HK
      generalize xs[m]! = y at l0 l1 l2 LT co0
      have co : ∀ x, Calls Try.prog g (#[.agg #[.int .i64 y.hid, .int .i64 y.vers, .int .i64 y.til], .int .i64 t] ++ lb) (plus w x) fun e w' => e = .returned (.int .i64 (c y)) ∧ Below (plus w x).heap.size (plus w x) w' := co0
      clear co0
      have LT2 := LT.out _ rfl
      clear LT
      generalize c y = r at co LT2
      have LT3 : Aside (_ ∧ _) := LT2
      clear LT2
      have key : ∀ (i' j' : Nat) wr', Below w.heap.size w wr' → i' ≤ j' → j' ≤ n → j' - i' ≤ gk - 1 →
          ((∀ a, a < i' → c xs[a]! < 0) ∧ ∀ a, j' ≤ a → a < n → ¬ c xs[a]! < 0) → HdKeep c w xs n (gk - 1) (.int .i64 (i' : Int)) (.int .i64 (j' : Int)) wr' := fun i' j' wr' hb h1 h2 h3 h4 =>
        let ⟨z, hz⟩ := plus_of_below hb
        ⟨i', j', z, rfl, rfl, hz, h1, h2, h3, h4⟩
      have hpp : ∀ x5, Below w.heap.size w (plus (plus w x) x5) := fun x5 => (below_plus w x).trans ((below_plus _ _).mono (below_plus w x).size)
      by_cases hr : r < 0
      · have K1 := LT3.out.1 hr
        have K2 : Aside (∀ a, a < m + 1 → c xs[a]! < 0) := K1
        clear K1 LT3
        go_wp2_with (go_at_fn g; (with_reducible refine (co _).mono ?_); (rintro e w1 ⟨rfl, hb5⟩; obtain ⟨x5, hx5⟩ := plus_next hb5; subst hx5); clear hb5)
        go_roundg (gk - 1)
        case measure => omega
        case rel => exact key (m + 1) j _ (by first | exact hpp _ | exact below_plus _ _) (by omega) (by omega) (by omega) ⟨K2.out, FB.out.2⟩
      · have K1 := LT3.out.2 hr
        have K2 : Aside (∀ a, m ≤ a → a < n → ¬ c xs[a]! < 0) := K1
        clear K1 LT3
        go_wp2_with (go_at_fn g; (with_reducible refine (co _).mono ?_); (rintro e w1 ⟨rfl, hb5⟩; obtain ⟨x5, hx5⟩ := plus_next hb5; subst hx5); clear hb5)
        go_roundg (gk - 1)
        case measure => omega
        case rel => exact key i m _ (by first | exact hpp _ | exact below_plus _ _) (by omega) (by omega) (by omega) ⟨FB.out.1, K2.out⟩
    · have hij2 : i = j := by omega
      subst hij2
      have hlt' : ¬ (i : Int) < (i : Int) := by omega
      have hpp : ∀ x5, Below w.heap.size w (plus (plus w x) x5) := fun x5 => (below_plus w x).trans ((below_plus _ _).mono (below_plus w x).size)
      by_cases hin : i < n
      · obtain ⟨b, off, rfl, hb, q0, q1, q2⟩ := HC.out i (by omega)
        have l0 := q0
        have l1 := q1
        have l2 := q2
        clear q0 q1 q2
        have PO : Aside (∀ W' r, Below w.heap.size w W' → c xs[i]! = r → HdBsPost c w xs n (.returned (.tuple #[.int .i64 (i : Int), .bool (decide (r = 0))])) W') := fun W' r hb hr =>
          ⟨i, by omega, FB.out.1, FB.out.2, by rw [decide_eq_true hin, hr]; rfl, hb⟩
        have co0 := fun x => HK.out (plus w x) xs[i]! (below_plus w x)
        clear HC HM HK FB
        generalize xs[i]! = y at l0 l1 l2 PO co0
        have co : ∀ x, Calls Try.prog g (#[.agg #[.int .i64 y.hid, .int .i64 y.vers, .int .i64 y.til], .int .i64 t] ++ lb) (plus w x) fun e w' => e = .returned (.int .i64 (c y)) ∧ Below (plus w x).heap.size (plus w x) w' := co0
        clear co0
        have PO2 : Aside (∀ W', _ → _) := fun W' hb => PO.out W' _ hb rfl
        clear PO
        generalize c y = r at co PO2
        go_wp2_with (go_at_fn g; (with_reducible refine (co _).mono ?_); (rintro e w1 ⟨rfl, hb5⟩; obtain ⟨x5, hx5⟩ := plus_next hb5; subst hx5); clear hb5)
        refine bodyPost_ret (v := .tuple #[.int .i64 (i : Int), .bool (decide (r = 0))]) (by simp [results, Try.results50, go_sem]; try rfl) rfl (PO2.out _ (by first | exact hpp _ | exact below_plus _ _))
      · have PO : Aside (∀ W', Below w.heap.size w W' → HdBsPost c w xs n (.returned (.tuple #[.int .i64 (i : Int), .bool false])) W') := fun W' hb =>
          ⟨i, by omega, FB.out.1, FB.out.2, by rw [decide_eq_false hin]; rfl, hb⟩
        clear HC HM HK FB
        go_wp2
        refine bodyPost_ret (v := .tuple #[.int .i64 (i : Int), .bool false]) (by simp [results, Try.results50, go_sem]; try rfl) rfl (PO.out _ (by first | exact hpp _ | exact below_plus _ _))

theorem hdBsearch_calls (c : Hd → Int) (g : Nat) (lb : Array Value) (eg : ∀ args w, (callFunc g args).run Try.prog w = .ok (.enter g args) w) (ao : Option Addr) (n cap : Nat) (xs : List Hd) (t : Int) (w : World) (h : Sl w 3 ao n cap (xs.map Hd.enc)) (hn : n ≤ 1000000)
    (hc : ∀ W y, Below w.heap.size w W → Calls Try.prog g (#[Hd.val y, .int .i64 t] ++ lb) W fun e w' => e = .returned (.int .i64 (c y)) ∧ Below W.heap.size W w') (hs : MonoE c xs) :
    Calls Try.prog 50 #[.slice ao n cap, .int .i64 t, .func (.func g) #[] lb] w fun e w' => e = .returned (.tuple #[.int .i64 (posE c xs : Nat), .bool (foundE c xs)]) ∧ Below w.heap.size w w' := by
  have hln := Sl.lenE h
  refine (hdBsearch_loop c g lb eg ao n cap xs t w h hn hc hs).mono ?_
  rintro e w' ⟨i, hi, h1, h2, he, hb⟩
  have hp := posE_of c xs i (by omega) h1 (by rw [hln]; exact h2)
  refine ⟨?_, hb⟩
  rw [he, foundE, hp, hln]

end Go.Proofs.Ytcgajlobbjoefaa
