/- This text proves the walk of slices.Delete at descriptors. Conditions: those that each theorem names. -/
import Derived.Test.YtbifanenoejjgaaFdsA
import Derived.Test.YtbifanenoejjgaaRow
import Derived.ArgAppend
namespace Go.Proofs.Ytbifanenoejjgaa
open Go.ChangeShapes Go.WideShapes Go.ChangeAt Go.RowKit
set_option linter.unusedVariables false
set_option linter.unusedSimpArgs false

set_option maxHeartbeats 4000000 in
set_option maxRecDepth 20000 in
theorem fdDelete_calls (v : Value) (n i B : Nat) (xs : List Fd) (w : World) (hown : w.ownsRow B 30 9 v n (flatE Fd.enc xs)) (hi : i < n) (hn : n ≤ 1000000) :
    Calls Try.prog 41 #[v, .int .i64 i, .int .i64 ((i : Int) + 1)] w fun e w' =>
      ∃ v', e = .returned v' ∧ w'.ownsRow B 30 9 v' (n - 1) (flatE Fd.enc (xs.take i ++ xs.drop (i + 1))) ∧ w.grownBy w' v.ownBlock ∧ v'.ownBlock = v.ownBlock := by
  have hfl : (flatE Fd.enc xs).length = xs.length * 9 := flatE_length fd_len xs
  obtain ⟨hl, ⟨_, hn0⟩ | ⟨g, cap, cur, rfl, hBg, hh, hnc, hcm, hcs, htk⟩⟩ := hown
  · omega
  have hln : xs.length = n := by omega
  have hbig : cap ≤ 9223372036854775807 := by unfold maxLen at hcm; omega
  obtain ⟨u, hself, hsz, hsu⟩ : ∃ u : World, w = holds u g cur 30 ∧ g < u.heap.size ∧ u = w := ⟨w, holds_self hh, (Array.getElem?_eq_some_iff.1 hh).1, rfl⟩
  obtain ⟨i0, hi0, hz0, hs0, hb0⟩ := fdInfo
  have hnl : (flatE Fd.enc (xs.drop (i + 1))).length = (n - (i + 1)) * 9 := by rw [flatE_length fd_len, List.length_drop, hln]
  obtain ⟨c1, hc1⟩ : ∃ c, c = putAll cur (i * 9) (flatE Fd.enc (xs.drop (i + 1))) := ⟨_, rfl⟩
  have hz1 : c1.size = cap * 9 := by rw [hc1, putAll_size, hcs]
  obtain ⟨c2, hc2⟩ : ∃ c, c = putAll c1 ((n - 1) * 9) (Builtin.zeroCells (Value.cells (.agg #[.int .i64 0, .int .i64 0, .int .i64 0, .int .i64 0, .string ⟨#[]⟩, .string ⟨#[]⟩, .int .i64 0, .int .i64 0, .int .i64 0])) 1).toList := ⟨_, rfl⟩
  have hzl : (Builtin.zeroCells (Value.cells (.agg #[.int .i64 0, .int .i64 0, .int .i64 0, .int .i64 0, .string ⟨#[]⟩, .string ⟨#[]⟩, .int .i64 0, .int .i64 0, .int .i64 0])) 1).toList.length = 9 := by simp [Builtin.zeroCells, Value.cells]
  have hz2 : c2.size = cap * 9 := by rw [hc2, putAll_size, hz1]
  have ht2 : c2.toList.take ((n - 1) * 9) = flatE Fd.enc (xs.take i ++ xs.drop (i + 1)) := by
    rw [hc2, putAll_keep _ _ _ _ (by rw [hzl, hz1]; omega) (Nat.le_refl _), hc1, show (n - 1) * 9 = i * 9 + (flatE Fd.enc (xs.drop (i + 1))).length by rw [hnl]; omega, putAll_take _ _ _ (by rw [hnl, hcs]; omega), ← flatE_del fd_len, ← htk, List.take_take, Nat.min_eq_left (by omega)]
  have fin : ∀ x, ∃ v', Ending.returned (.slice (some ⟨g, 0, none⟩) (n - 1) cap) = .returned v' ∧ (plus (holds u g c2 30) x).ownsRow B 30 9 v' (n - 1) (flatE Fd.enc (xs.take i ++ xs.drop (i + 1))) ∧ (holds u g cur 30).grownBy (plus (holds u g c2 30) x) (Value.slice (some ⟨g, 0, none⟩) n cap).ownBlock ∧ v'.ownBlock = (Value.slice (some ⟨g, 0, none⟩) n cap).ownBlock := fun x => by
    refine ⟨_, rfl, ⟨by rw [flatE_length fd_len, List.length_append, List.length_take, List.length_drop]; omega, .inr ⟨g, cap, c2, rfl, hBg, ?_, by omega, hcm, hz2, ht2⟩⟩, ?_, rfl⟩
    · exact hp_plus (by rw [heap_holds, if_pos ⟨rfl, hsz⟩])
    · refine ⟨rfl, rfl, rfl, by simp [size_plus, size_holds], fun k hk hne => ?_⟩
      have hkg : ¬ k = g := fun e => hne (by rw [e]; rfl)
      rw [(below_plus _ x).block k (by simpa [size_holds] using hk), heap_holds, heap_holds, if_neg (fun e => hkg e.1), if_neg (fun e => hkg e.1)]
  have hcl : ∀ ty x, (Builtin.clear_ #[22] ty #[.slice (some ⟨g, (n - 1) * 9, none⟩) 1 (cap - (n - 1))]).run Try.prog (plus (holds u g c1 30) x) = .ok (.tuple #[]) (plus (holds u g c2 30) x) := fun ty x => by
    rw [run_clear_k _ 22 30 ty (.agg #[.int .i64 0, .int .i64 0, .int .i64 0, .int .i64 0, .string ⟨#[]⟩, .string ⟨#[]⟩, .int .i64 0, .int .i64 0, .int .i64 0]) Try.underlying22 (fun w => by kernel_rfl) (by intro v hv; simp [Value.cells] at hv; rcases hv with rfl | rfl | rfl | rfl | rfl | rfl | rfl | rfl | rfl <;> rfl) (by simp [Value.cells]) g ((n - 1) * 9) 1 (cap - (n - 1)) (by omega)
      (fun m hm => by simp [Value.cells] at hm; rw [cell_holds_row hsz, Array.getElem?_eq_getElem (by omega)]; rfl)
      (fun m hm => frozen_holds_row hsz _ _), setCells_putAll u x g 30 hsz, hc2]
  have hap : ∀ (a : Addr) (ty : TypeId) (x : World) (m c : Nat), m = n - (i + 1) → (0 < m → a = ⟨g, (i + 1) * 9, none⟩) → (Builtin.append_ #[22, 22] ty #[.slice (some ⟨g, 0, none⟩) i cap, .slice (some a) m c]).run Try.prog (plus (holds u g cur 30) x) = .ok (.slice (some ⟨g, 0, none⟩) (n - 1) cap) (plus (holds u g c1 30) x) := fun a ty x m c hm ha => by
    have h := run_append_room_cells (P := Try.prog) (w := plus (holds u g cur 30) x) 22 ty 30 i0 Try.underlying22 hi0 g 0 i cap a m c (flatE Fd.enc (xs.drop (i + 1))) (by rw [hnl, hm, hs0])
      (fun j w' hj => by
        have hjl := (List.getElem?_eq_some_iff.1 hj).1
        rw [hnl] at hjl
        rw [ha (by omega), Addr.add_lit, cell_holds_row hsz, ← Array.getElem?_toList]
        have h2 := flatE_drop_get fd_len xs (i + 1) j w' hj
        rw [← htk, List.getElem?_take] at h2
        split at h2
        · exact h2
        · cases h2)
      (flatE_cells fd_one _) (by omega)
      (fun j hj => by rw [hnl] at hj; rw [hs0, cell_holds_row hsz, Array.getElem?_eq_getElem (by omega)]; rfl)
      (fun j hj => frozen_holds_row hsz _ _)
    rw [h, hs0, Nat.zero_add, setCells_putAll u x g 30 hsz, ← hc1, show i + m = n - 1 by omega]
  have FIN : Aside (∀ x, _) := fin
  rw [hself]
  have hF : Aside (u = w) := hsu
  clear hself hsu fin htk ht2 hcs hz1 hz2 hc1 hc2 hnl hl hfl hln hzl hh hi0 hz0 hs0 hb0 hF
  obtain ⟨x0, hx0⟩ : ∃ x0, holds u.drew g cur 30 = plus (holds u g cur 30) x0 := ⟨{ (holds u.drew g cur 30) with heap := #[] }, by simp [plus, holds]; exact ⟨rfl, rfl, rfl⟩⟩
  have hapD := fun a ty => hap a ty x0
  rw [← hx0] at hapD
  clear hap hx0
  have hic : i ≤ cap := by omega
  have hi1 : (i : Int) + 1 ≤ (n : Int) := by omega
  have htn : ((i : Int) + 1).toNat = i + 1 := by omega
  have hn1 : n - 1 ≤ n := by omega
  have hn2 : n - (n - 1) = 1 := by omega
  have hi0 : (0 : Int) ≤ (i : Int) + 1 := by omega
  have hcn : ¬ cap = n - 1 := by omega
  obtain ⟨AD, hAD, hADp⟩ : ∃ AD, (if cap = i + 1 then some (⟨g, 0, none⟩ : Addr) else some ⟨g, (i + 1) * 9, none⟩) = some AD ∧ (0 < n - (i + 1) → AD = ⟨g, (i + 1) * 9, none⟩) := by
    by_cases hcc : cap = i + 1
    · exact ⟨⟨g, 0, none⟩, by rw [if_pos hcc], fun h => by omega⟩
    · exact ⟨_, by rw [if_neg hcc], fun _ => rfl⟩
  have hapE := fun ty => hapD AD ty (n - (i + 1)) (cap - (i + 1)) rfl hADp
  clear hapD hADp
  go_enter Try.func41, Try.ntmps41
  go_wp2
  go_region_law (refine step_append_run rfl _ _ 22 22 rfl _ _ (by simp [Act.eval, Act.put]) (by simp [Act.eval, Act.put]) (hapE _) ?_)
  go_wp2
  go_ret
  exact FIN.out _

end Go.Proofs.Ytbifanenoejjgaa
