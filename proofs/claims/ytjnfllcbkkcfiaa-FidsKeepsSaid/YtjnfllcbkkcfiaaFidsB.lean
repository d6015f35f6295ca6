/- This text proves the walks of slices.Delete at fids, of valid in both packages, and of place, index and Find. Conditions: those that each theorem names. -/
import Derived.Test.YtjnfllcbkkcfiaaFidsA
import Derived.Test.YtjnfllcbkkcfiaaRow
import Derived.ArgAppend
namespace Go.Proofs.Ytjnfllcbkkcfiaa
open Go.ChangeShapes Go.WideShapes Go.ChangeAt Go.RowKit
set_option linter.unusedVariables false
set_option linter.unusedSimpArgs false

set_option maxHeartbeats 4000000 in
set_option maxRecDepth 20000 in
theorem fiDelete_calls (v : Value) (n i B : Nat) (xs : List Fi) (w : World) (hown : w.ownsRow B 24 7 v n (flatE Fi.enc xs)) (hi : i < n) (hn : n ≤ 1000000) :
    Calls Try.prog 31 #[v, .int .i64 i, .int .i64 ((i : Int) + 1)] w fun e w' =>
      ∃ v', e = .returned v' ∧ w'.ownsRow B 24 7 v' (n - 1) (flatE Fi.enc (xs.take i ++ xs.drop (i + 1))) ∧ w.grownBy w' v.ownBlock ∧ v'.ownBlock = v.ownBlock := by
  have hfl : (flatE Fi.enc xs).length = xs.length * 7 := flatE_length fi_len xs
  obtain ⟨hl, ⟨_, hn0⟩ | ⟨g, cap, cur, rfl, hBg, hh, hnc, hcm, hcs, htk⟩⟩ := hown
  · omega
  have hln : xs.length = n := by omega
  have hbig : cap ≤ 9223372036854775807 := by unfold maxLen at hcm; omega
  obtain ⟨u, hself, hsz, hsu⟩ : ∃ u : World, w = holds u g cur 24 ∧ g < u.heap.size ∧ u = w := ⟨w, holds_self hh, (Array.getElem?_eq_some_iff.1 hh).1, rfl⟩
  obtain ⟨i0, hi0, hz0, hs0, hb0⟩ := fiInfo
  have hnl : (flatE Fi.enc (xs.drop (i + 1))).length = (n - (i + 1)) * 7 := by rw [flatE_length fi_len, List.length_drop, hln]
  obtain ⟨c1, hc1⟩ : ∃ c, c = putAll cur (i * 7) (flatE Fi.enc (xs.drop (i + 1))) := ⟨_, rfl⟩
  have hz1 : c1.size = cap * 7 := by rw [hc1, putAll_size, hcs]
  obtain ⟨c2, hc2⟩ : ∃ c, c = putAll c1 ((n - 1) * 7) (Builtin.zeroCells (Value.cells (.agg #[.int .i64 0, .int .i64 0, .string ⟨#[]⟩, .bool false, .bool false, .int .i64 0, .int .i64 0])) 1).toList := ⟨_, rfl⟩
  have hzl : (Builtin.zeroCells (Value.cells (.agg #[.int .i64 0, .int .i64 0, .string ⟨#[]⟩, .bool false, .bool false, .int .i64 0, .int .i64 0])) 1).toList.length = 7 := by simp [Builtin.zeroCells, Value.cells]
  have hz2 : c2.size = cap * 7 := by rw [hc2, putAll_size, hz1]
  have ht2 : c2.toList.take ((n - 1) * 7) = flatE Fi.enc (xs.take i ++ xs.drop (i + 1)) := by
    rw [hc2, putAll_keep _ _ _ _ (by rw [hzl, hz1]; omega) (Nat.le_refl _), hc1, show (n - 1) * 7 = i * 7 + (flatE Fi.enc (xs.drop (i + 1))).length by rw [hnl]; omega, putAll_take _ _ _ (by rw [hnl, hcs]; omega), ← flatE_del fi_len, ← htk, List.take_take, Nat.min_eq_left (by omega)]
  have fin : ∀ x, ∃ v', Ending.returned (.slice (some ⟨g, 0, none⟩) (n - 1) cap) = .returned v' ∧ (plus (holds u g c2 24) x).ownsRow B 24 7 v' (n - 1) (flatE Fi.enc (xs.take i ++ xs.drop (i + 1))) ∧ (holds u g cur 24).grownBy (plus (holds u g c2 24) x) (Value.slice (some ⟨g, 0, none⟩) n cap).ownBlock ∧ v'.ownBlock = (Value.slice (some ⟨g, 0, none⟩) n cap).ownBlock := fun x => by
    refine ⟨_, rfl, ⟨by rw [flatE_length fi_len, List.length_append, List.length_take, List.length_drop]; omega, .inr ⟨g, cap, c2, rfl, hBg, ?_, by omega, hcm, hz2, ht2⟩⟩, ?_, rfl⟩
    · exact hp_plus (by rw [heap_holds, if_pos ⟨rfl, hsz⟩])
    · refine ⟨rfl, rfl, rfl, by simp [size_plus, size_holds], fun k hk hne => ?_⟩
      have hkg : ¬ k = g := fun e => hne (by rw [e]; rfl)
      rw [(below_plus _ x).block k (by simpa [size_holds] using hk), heap_holds, heap_holds, if_neg (fun e => hkg e.1), if_neg (fun e => hkg e.1)]
  have hcl : ∀ ty x, (Builtin.clear_ #[22] ty #[.slice (some ⟨g, (n - 1) * 7, none⟩) 1 (cap - (n - 1))]).run Try.prog (plus (holds u g c1 24) x) = .ok (.tuple #[]) (plus (holds u g c2 24) x) := fun ty x => by
    rw [run_clear_k _ 22 24 ty (.agg #[.int .i64 0, .int .i64 0, .string ⟨#[]⟩, .bool false, .bool false, .int .i64 0, .int .i64 0]) Try.underlying22 (fun w => by kernel_rfl) (by intro v hv; simp [Value.cells] at hv; rcases hv with rfl | rfl | rfl | rfl | rfl | rfl | rfl <;> rfl) (by simp [Value.cells]) g ((n - 1) * 7) 1 (cap - (n - 1)) (by omega)
      (fun m hm => by simp [Value.cells] at hm; rw [cell_holds_row hsz, Array.getElem?_eq_getElem (by omega)]; rfl)
      (fun m hm => frozen_holds_row hsz _ _), setCells_putAll u x g 24 hsz, hc2]
  have hap : ∀ (a : Addr) (ty : TypeId) (x : World) (m c : Nat), m = n - (i + 1) → (0 < m → a = ⟨g, (i + 1) * 7, none⟩) → (Builtin.append_ #[22, 22] ty #[.slice (some ⟨g, 0, none⟩) i cap, .slice (some a) m c]).run Try.prog (plus (holds u g cur 24) x) = .ok (.slice (some ⟨g, 0, none⟩) (n - 1) cap) (plus (holds u g c1 24) x) := fun a ty x m c hm ha => by
    have h := run_append_room_cells (P := Try.prog) (w := plus (holds u g cur 24) x) 22 ty 24 i0 Try.underlying22 hi0 g 0 i cap a m c (flatE Fi.enc (xs.drop (i + 1))) (by rw [hnl, hm, hs0])
      (fun j w' hj => by
        have hjl := (List.getElem?_eq_some_iff.1 hj).1
        rw [hnl] at hjl
        rw [ha (by omega), Addr.add_lit, cell_holds_row hsz, ← Array.getElem?_toList]
        have h2 := flatE_drop_get fi_len xs (i + 1) j w' hj
        rw [← htk, List.getElem?_take] at h2
        split at h2
        · exact h2
        · cases h2)
      (flatE_cells fi_one _) (by omega)
      (fun j hj => by rw [hnl] at hj; rw [hs0, cell_holds_row hsz, Array.getElem?_eq_getElem (by omega)]; rfl)
      (fun j hj => frozen_holds_row hsz _ _)
    rw [h, hs0, Nat.zero_add, setCells_putAll u x g 24 hsz, ← hc1, show i + m = n - 1 by omega]
  have FIN : Aside (∀ x, _) := fin
  rw [hself]
  have hF : Aside (u = w) := hsu
  clear hself hsu fin htk ht2 hcs hz1 hz2 hc1 hc2 hnl hl hfl hln hzl hh hi0 hz0 hs0 hb0 hF
  obtain ⟨x0, hx0⟩ : ∃ x0, holds u.drew g cur 24 = plus (holds u g cur 24) x0 := ⟨{ (holds u.drew g cur 24) with heap := #[] }, by simp [plus, holds]; exact ⟨rfl, rfl, rfl⟩⟩
  have hapD := fun a ty => hap a ty x0
  rw [← hx0] at hapD
  clear hap hx0
  have hic : i ≤ cap := by omega
  have hi1 : (i : Int) + 1 ≤ (n : Int) := by omega
  have htn : ((i : Int) + 1).toNat = i + 1 := by omega
  have hn1 : n - 1 ≤ n := by omega
  have hn2 : n - (n - 1) = 1 := by omega
  have hi0 : (0 : Int) ≤ (i : Int) + 1 := by omega
  have hcn : ¬ cap = n - 1 := by omega
  obtain ⟨AD, hAD, hADp⟩ : ∃ AD, (if cap = i + 1 then some (⟨g, 0, none⟩ : Addr) else some ⟨g, (i + 1) * 7, none⟩) = some AD ∧ (0 < n - (i + 1) → AD = ⟨g, (i + 1) * 7, none⟩) := by
    by_cases hcc : cap = i + 1
    · exact ⟨⟨g, 0, none⟩, by rw [if_pos hcc], fun h => by omega⟩
    · exact ⟨_, by rw [if_neg hcc], fun _ => rfl⟩
  have hapE := fun ty => hapD AD ty (n - (i + 1)) (cap - (i + 1)) rfl hADp
  clear hapD hADp
  go_enter Try.func31, Try.ntmps31
  go_wp2
  go_region_law (refine step_append_run rfl _ _ 22 22 rfl _ _ (by simp [Act.eval, Act.put]) (by simp [Act.eval, Act.put]) (hapE _) ?_)
  go_wp2
  go_ret
  exact FIN.out _


/-- A valid fid. -/
def vB (y : Fi) : Bool := decide (0 ≤ y.num ∧ y.num ≤ 4294967294 ∧ 1 ≤ y.id ∧ y.id ≤ 1099511627776) && (if y.opn then decide (0 ≤ y.mode ∧ y.mode ≤ 127 ∧ 0 ≤ y.nxt ∧ y.nxt ≤ 9007199254740991) else decide (y.mode = 0 ∧ y.nxt = 0))
set_option maxHeartbeats 4000000 in
theorem valid_calls (y1 y2 : Int) (y3 : ByteArray) (y4 y5 : Bool) (y6 y7 : Int) (w : World) : Calls Try.prog 26 #[.agg #[.int .i64 y1, .int .i64 y2, .string y3, .bool y4, .bool y5, .int .i64 y6, .int .i64 y7]] w fun e w' => e = .returned (.bool (vB ⟨y1, y2, y3, y4, y5, y6, y7⟩)) ∧ Below w.heap.size w w' := by
  cases y5
  all_goals go_enter Try.func26, Try.ntmps26
  all_goals go_wp2
  all_goals go_ret
  all_goals refine ⟨ret_bool (by first | (simp [vB, *]; done) | (rw [Bool.eq_iff_iff]; simp [vB]; omega) | (rw [Bool.eq_iff_iff]; simp [vB, *]; omega)), ?_⟩
  all_goals try (
    repeat (first | (with_reducible exact Below.refl _ _) | (with_reducible assumption) | (with_reducible refine below_to_plus ?_ ?_ _) | (with_reducible refine below_holds ?_ ?_ _ _) | (with_reducible refine Below.alloc ?_ ?_ _) | (with_reducible refine Below.drew ?_) | (with_reducible refine below_drewN ?_ _) | (with_reducible refine Below.setCell ?_ ?_ _))
    all_goals first | omega | (simp; done) | (simp [go_sem]; done) | (simp [go_sem]; omega))

set_option maxHeartbeats 4000000 in
theorem rvalid_calls (y1 y2 : Int) (y3 : ByteArray) (y4 y5 : Bool) (y6 y7 : Int) (w : World) : Calls Try.prog 25 #[.agg #[.int .i64 y1, .int .i64 y2, .string y3, .bool y4, .bool y5, .int .i64 y6, .int .i64 y7]] w fun e w' => e = .returned (.bool (vB ⟨y1, y2, y3, y4, y5, y6, y7⟩)) ∧ Below w.heap.size w w' := by
  cases y5
  all_goals go_enter Try.func25, Try.ntmps25
  all_goals go_wp2
  all_goals go_ret
  all_goals refine ⟨ret_bool (by first | (simp [vB, *]; done) | (rw [Bool.eq_iff_iff]; simp [vB]; omega) | (rw [Bool.eq_iff_iff]; simp [vB, *]; omega)), ?_⟩
  all_goals try (
    repeat (first | (with_reducible exact Below.refl _ _) | (with_reducible assumption) | (with_reducible refine below_to_plus ?_ ?_ _) | (with_reducible refine below_holds ?_ ?_ _ _) | (with_reducible refine Below.alloc ?_ ?_ _) | (with_reducible refine Below.drew ?_) | (with_reducible refine below_drewN ?_ _) | (with_reducible refine Below.setCell ?_ ?_ _))
    all_goals first | omega | (simp; done) | (simp [go_sem]; done) | (simp [go_sem]; omega))

/-- The number of leading fids whose number is less. -/
def plF (num : Int) (xs : List Fi) : Nat := posE (fun y : Fi => y.num - num) xs
theorem plF_le (num : Int) (xs : List Fi) : plF num xs ≤ xs.length := posE_le _ _
theorem plF_of (num : Int) (xs : List Fi) (i : Nat) (hi : i ≤ xs.length) (h1 : ∀ a, a < i → xs[a]!.num < num) (h2 : ∀ a, i ≤ a → a < xs.length → a = i → ¬ xs[a]!.num < num) : plF num xs = i := by
  unfold plF posE
  have key : ∀ (ys : List Fi) (i : Nat), i ≤ ys.length → (∀ a, a < i → ys[a]!.num < num) → (i < ys.length → ¬ ys[i]!.num < num) → (ys.takeWhile fun y => decide (y.num - num < 0)).length = i := by
    intro ys
    induction ys with
    | nil => intro i hi _ _; simp at hi; simp [hi]
    | cons y ys ih =>
      intro i hi h1 h2
      cases i with
      | zero =>
        have := h2 (by simp)
        simp only [List.getElem!_cons_zero] at this
        rw [List.takeWhile_cons, if_neg (by simp; omega)]
        rfl
      | succ i =>
        have h0 := h1 0 (by omega)
        simp only [List.getElem!_cons_zero] at h0
        rw [List.takeWhile_cons, if_pos (by simp; omega), List.length_cons, ih i (by simpa using hi) (fun a ha => by simpa using h1 (a + 1) (by omega)) (fun hlt => by simpa using h2 (by simpa using hlt))]
  exact key xs i hi h1 (fun hlt => h2 i (Nat.le_refl _) hlt rfl)

set_option maxHeartbeats 4000000 in
theorem place_still (num : Int) (ao : Option Addr) (n cap : Nat) (xs : List Fi) (w : World) (h : Sl w 7 ao n cap (xs.map Fi.enc)) :
    Calls Try.prog 30 #[.slice ao n cap, .int .i64 num] w fun e w' => e = .returned (.int .i64 (plF num xs : Nat)) ∧ w' = w := by
  have hbig : n ≤ 9223372036854775807 := Nat.le_trans h.hcap h.hmax
  have HL : Aside (xs.length = n) := Sl.lenE h
  have HC : Aside (CellsFi w ao xs) := cellsFi h
  have HP : Aside (∀ i, i ≤ xs.length → (∀ a, a < i → xs[a]!.num < num) → (i < xs.length → ¬ xs[i]!.num < num) → plF num xs = i) := fun i hi h1 h2 => plF_of num xs i hi h1 (fun a _ hl e => by subst e; exact h2 hl)
  generalize plF num xs = r at HP ⊢
  clear h
  go_enter Try.func30, Try.ntmps30
  go_wp2
  go_loopg [5] n (fun k s5 wr => ∃ idx : Nat, s5 = .int .i64 (idx : Int) ∧ wr = w ∧ k + idx = n ∧ Aside (∀ a, a < idx → xs[a]!.num < num))
  case atStart => exact ⟨0, rfl, rfl, by omega, fun j hj => absurd hj (Nat.not_lt_zero _)⟩
  case round =>
    obtain ⟨idx, rfl, rfl, hk, A⟩ := hrel
    by_cases hi : idx < n
    · have hiz : (idx : Int) < (n : Int) := by omega
      obtain ⟨b, off, rfl, hbw, l0, l1, l2, l3, l4, l5, l6⟩ := HC.out idx (by have := HL.out; omega)
      by_cases hq : xs[idx]!.num < num
      · have A2 : Aside (∀ a, a < idx + 1 → xs[a]!.num < num) := fun j hj => by
          rcases (by omega : j < idx ∨ j = idx) with h' | h'
          · exact A.out j h'
          · rw [h']; exact hq
        generalize xs[idx]!.num = q at l0 hq
        clear l1 l2 l3 l4 l5 l6 HC A HP
        go_wp2
        go_roundg (gk - 1)
        case measure => omega
        case rel => exact ⟨idx + 1, by simp, rfl, by omega, A2⟩
      · have e1 := HP.out idx (by have := HL.out; omega) A.out (fun _ => by omega)
        subst e1
        generalize xs[r]!.num = q at l0 hq
        clear l1 l2 l3 l4 l5 l6 HC A HP
        go_wp2
        go_ret
        exact ⟨rfl, rfl⟩
    · have hiz : ¬ (idx : Int) < (n : Int) := by omega
      have e1 := HP.out idx (by have := HL.out; omega) A.out (fun hh => by have := HL.out; omega)
      subst e1
      clear HC A HP
      go_wp2
      go_ret
      exact ⟨rfl, rfl⟩

theorem place_calls (num : Int) (ao : Option Addr) (n cap : Nat) (xs : List Fi) (w : World) (h : Sl w 7 ao n cap (xs.map Fi.enc)) :
    Calls Try.prog 30 #[.slice ao n cap, .int .i64 num] w fun e w' => e = .returned (.int .i64 (plF num xs : Nat)) ∧ Below w.heap.size w w' :=
  (place_still num ao n cap xs w h).mono (by rintro e w' ⟨h1, rfl⟩; exact ⟨h1, Below.refl _ _⟩)

/-- The index of a fid; -1 if there is none. -/
def ixF (num : Int) (xs : List Fi) : Int := if plF num xs < xs.length ∧ xs[plF num xs]!.num = num then ((plF num xs : Nat) : Int) else -1

set_option maxHeartbeats 4000000 in
theorem index_calls (num : Int) (ao : Option Addr) (n cap : Nat) (xs : List Fi) (w : World) (h : Sl w 7 ao n cap (xs.map Fi.enc)) :
    Calls Try.prog 28 #[.slice ao n cap, .int .i64 num] w fun e w' => e = .returned (.int .i64 (ixF num xs)) ∧ Below w.heap.size w w' := by
  have hbig : n ≤ 9223372036854775807 := Nat.le_trans h.hcap h.hmax
  have HL : Aside (xs.length = n) := Sl.lenE h
  have HC : Aside (CellsFi w ao xs) := cellsFi h
  have c0 := place_calls num ao n cap xs w h
  have hle := plF_le num xs
  have HI : Aside (ixF num xs = if plF num xs < xs.length ∧ xs[plF num xs]!.num = num then ((plF num xs : Nat) : Int) else -1) := rfl
  generalize ixF num xs = r at HI ⊢
  generalize plF num xs = i at c0 HI hle
  clear h
  by_cases hi : i < n
  · have hiz : (i : Int) < (n : Int) := by omega
    obtain ⟨b, off, rfl, hbw, l0, l1, l2, l3, l4, l5, l6⟩ := HC.out i (by have := HL.out; omega)
    clear l1 l2 l3 l4 l5 l6
    by_cases hq : xs[i]!.num = num
    · have e1 : r = ((i : Nat) : Int) := by rw [HI.out, if_pos ⟨by have := HL.out; omega, hq⟩]
      subst e1
      rw [hq] at l0
      clear hq HI HC hle
      go_enter Try.func28, Try.ntmps28
      go_wp2_with fail
      refine (c0).mono ?_
      rintro e w2 ⟨rfl, hb⟩
      obtain ⟨x, rfl⟩ := plus_of_below hb
      clear hb
      go_wp2
      go_ret
      exact ⟨rfl, below_plus _ _⟩
    · have e1 : r = -1 := by rw [HI.out, if_neg (fun h => hq h.2)]
      subst e1
      generalize xs[i]!.num = q at l0 hq
      have hf : (q == num) = false := by simp [hq]
      clear hq HI HC hle
      go_enter Try.func28, Try.ntmps28
      go_wp2_with fail
      refine (c0).mono ?_
      rintro e w2 ⟨rfl, hb⟩
      obtain ⟨x, rfl⟩ := plus_of_below hb
      clear hb
      go_wp2
      go_ret
      exact ⟨rfl, below_plus _ _⟩
  · have hiz : ¬ (i : Int) < (n : Int) := by omega
    have e1 : r = -1 := by rw [HI.out, if_neg (fun h => by have := HL.out; omega)]
    subst e1
    clear HI HC hle
    go_enter Try.func28, Try.ntmps28
    go_wp2_with fail
    refine (c0).mono ?_
    rintro e w2 ⟨rfl, hb⟩
    obtain ⟨x, rfl⟩ := plus_of_below hb
    clear hb
    go_wp2
    go_ret
    exact ⟨rfl, below_plus _ _⟩

/-- What Find returns. -/
def fdF (num : Int) (xs : List Fi) : Fi × Bool := if ixF num xs < 0 then (default, false) else (xs[plF num xs]!, true)
theorem ixF_spec (num : Int) (xs : List Fi) : (ixF num xs = -1) ∨ (plF num xs < xs.length ∧ xs[plF num xs]!.num = num ∧ ixF num xs = (plF num xs : Nat)) := by
  unfold ixF
  split
  · rename_i h; exact .inr ⟨h.1, h.2, rfl⟩
  · exact .inl rfl

set_option maxHeartbeats 4000000 in
theorem find_calls (num : Int) (ao : Option Addr) (n cap : Nat) (xs : List Fi) (w : World) (h : Sl w 7 ao n cap (xs.map Fi.enc)) :
    Calls Try.prog 20 #[.slice ao n cap, .int .i64 num] w fun e w' => e = .returned (.tuple #[Fi.val (fdF num xs).1, .bool (fdF num xs).2]) ∧ Below w.heap.size w w' := by
  have hbig : n ≤ 9223372036854775807 := Nat.le_trans h.hcap h.hmax
  have HL : Aside (xs.length = n) := Sl.lenE h
  have hb0 : Below w.heap.size w (w.alloc (.cells #[.int .i64 0, .int .i64 0, .string ⟨#[]⟩, .bool false, .bool false, .int .i64 0, .int .i64 0] 24)) := by
    repeat (first | (with_reducible exact Below.refl _ _) | (with_reducible assumption) | (with_reducible refine below_to_plus ?_ ?_ _) | (with_reducible refine below_holds ?_ ?_ _ _) | (with_reducible refine Below.alloc ?_ ?_ _) | (with_reducible refine Below.drew ?_) | (with_reducible refine below_drewN ?_ _) | (with_reducible refine Below.setCell ?_ ?_ _))
    all_goals first | omega | (simp; done) | (simp [go_sem]; done) | (simp [go_sem]; omega)
  have c0 := index_calls num ao n cap xs _ (h.stays hb0)
  rcases ixF_spec num xs with e1 | ⟨h1, h2, e1⟩
  · rw [show fdF num xs = (default, false) by unfold fdF; rw [e1]; rfl]
    rw [e1] at c0
    clear e1 h hb0
    go_enter Try.func20, Try.ntmps20
    go_wp2_with fail
    refine (c0).mono ?_
    rintro e w2 ⟨rfl, hb⟩
    obtain ⟨x, rfl⟩ := plus_of_below hb
    clear hb
    clear c0
    go_wp2
    refine bodyPost_ret (v := .tuple #[.agg #[.int .i64 0, .int .i64 0, .string ⟨#[]⟩, .bool false, .bool false, .int .i64 0, .int .i64 0], .bool false]) (by simp [results, Try.results20, go_sem, ↓IntWalk.iteOmega]) rfl ⟨rfl, ?_⟩
    repeat (first | (with_reducible exact Below.refl _ _) | (with_reducible assumption) | (with_reducible refine below_to_plus ?_ ?_ _) | (with_reducible refine below_holds ?_ ?_ _ _) | (with_reducible refine Below.alloc ?_ ?_ _) | (with_reducible refine Below.drew ?_) | (with_reducible refine below_drewN ?_ _) | (with_reducible refine Below.setCell ?_ ?_ _))
    all_goals first | omega | (simp; done) | (simp [go_sem]; done) | (simp [go_sem]; omega)
  · rw [show fdF num xs = (xs[plF num xs]!, true) by unfold fdF; rw [e1, if_neg (by omega)]]
    rw [e1] at c0
    obtain ⟨b, off, rfl, hbw, l0, l1, l2, l3, l4, l5, l6⟩ := cellsFi h _ h1
    have hkn : plF num xs < n := by have := HL.out; omega
    have hkz : ((plF num xs : Nat) : Int) < (n : Int) := by omega
    clear e1 h hb0 h1 h2
    generalize plF num xs = k at *
    generalize xs[k]! = d at l0 l1 l2 l3 l4 l5 l6 ⊢
    obtain ⟨d1, d2, d3, d4, d5, d6, d7⟩ := d
    simp only [] at l0 l1 l2 l3 l4 l5 l6
    go_enter Try.func20, Try.ntmps20
    go_wp2_with fail
    refine (c0).mono ?_
    rintro e w2 ⟨rfl, hb⟩
    obtain ⟨x, rfl⟩ := plus_of_below hb
    clear hb
    clear c0
    go_wp2
    refine bodyPost_ret (v := .tuple #[.agg #[.int .i64 d1, .int .i64 d2, .string d3, .bool d4, .bool d5, .int .i64 d6, .int .i64 d7], .bool true]) (by simp [results, Try.results20, go_sem, ↓IntWalk.iteOmega]) rfl ⟨rfl, ?_⟩
    repeat (first | (with_reducible exact Below.refl _ _) | (with_reducible assumption) | (with_reducible refine below_to_plus ?_ ?_ _) | (with_reducible refine below_holds ?_ ?_ _ _) | (with_reducible refine Below.alloc ?_ ?_ _) | (with_reducible refine Below.drew ?_) | (with_reducible refine below_drewN ?_ _) | (with_reducible refine Below.setCell ?_ ?_ _))
    all_goals first | omega | (simp; done) | (simp [go_sem]; done) | (simp [go_sem]; omega)

end Go.Proofs.Ytjnfllcbkkcfiaa
