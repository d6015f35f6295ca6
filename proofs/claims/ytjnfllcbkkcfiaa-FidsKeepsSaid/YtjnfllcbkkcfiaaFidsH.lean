/- This text proves the walks of Add, Set and Drop of the reference. Conditions: those that each theorem names. -/
import Derived.Test.YtjnfllcbkkcfiaaFidsG
namespace Go.Proofs.Ytjnfllcbkkcfiaa
open Go.ChangeShapes Go.WideShapes Go.ChangeAt Go.RowKit
set_option linter.unusedVariables false
set_option linter.unusedSimpArgs false

theorem app_stateB {α : Type} {enc : α → List Value} {k B : Nat} {E : TypeId} {U1 W0 w' : World} {v v' : Value} {m : Nat} {o : List α} {y : α} (hU : U1.heap.size = B) (hk : ∀ x, (enc x).length = k) (hk0 : 0 < k) (hB : Below U1.heap.size U1 W0) (ho : W0.ownsRow B E k v m (flatE enc o)) (ho' : w'.ownsRow B E k v' (m + 1) (flatE enc o ++ enc y)) (hg : W0.grownBy w' v.ownBlock) :
    ∃ ao2 cap2, v' = .slice ao2 (m + 1) cap2 ∧ Below U1.heap.size U1 w' ∧ w'.ownsRow B E k (.slice ao2 (m + 1) cap2) (m + 1) (flatE enc (o ++ [y])) := by
  subst hU
  exact app_stateE hk hk0 hB ho ho' hg

theorem posE_lt {α : Type} [Inhabited α] (c : α → Int) : ∀ (ys : List α) (j : Nat), j < posE c ys → c ys[j]! < 0
  | [], j, h => by simp [posE] at h
  | y :: ys, j, h => by
    unfold posE at h
    rw [List.takeWhile_cons] at h
    split at h
    · rename_i hy
      cases j with
      | zero => simpa using hy
      | succ j => simpa using posE_lt c ys j (by unfold posE; simpa using h)
    · simp at h
theorem posE_not {α : Type} [Inhabited α] (c : α → Int) : ∀ (ys : List α), posE c ys < ys.length → ¬ c ys[posE c ys]! < 0
  | [], h => by simp at h
  | y :: ys, h => by
    have ih := posE_not c ys
    unfold posE at h ih ⊢
    rw [List.takeWhile_cons] at h ⊢
    split
    · rename_i hy
      rw [if_pos hy] at h
      simpa using ih (by simpa using h)
    · rename_i hy
      simpa using hy
theorem plF_lt (num : Int) (xs : List Fi) (j : Nat) (h : j < plF num xs) : xs[j]!.num < num := by have : xs[j]!.num - num < 0 := posE_lt (fun y : Fi => y.num - num) xs j h; omega
theorem plF_ge (num : Int) (xs : List Fi) (hs : xs.Pairwise (fun x y => x.num < y.num)) (j : Nat) (h : plF num xs ≤ j) (hj : j < xs.length) : ¬ xs[j]!.num < num := by
  have h1 : ¬ xs[plF num xs]!.num - num < 0 := posE_not (fun y : Fi => y.num - num) xs (show plF num xs < xs.length by omega)
  by_cases e : plF num xs = j
  · rw [e] at h1; omega
  · have := asc_get hs (show plF num xs < j by omega) hj
    omega

section
variable {α : Type} [Inhabited α]
/-- The first idx elements with one put in at p. -/
def midL (f : α) (xs : List α) (p idx : Nat) : List α := if p < idx then xs.take p ++ f :: (xs.take idx).drop p else xs.take idx
theorem mid_lt (f : α) (xs : List α) (p idx : Nat) (h : idx < p) (hi : idx < xs.length) : midL f xs p (idx + 1) = midL f xs p idx ++ [xs[idx]!] := by
  unfold midL
  rw [if_neg (by omega), if_neg (by omega), List.take_add_one, List.getElem?_eq_getElem hi, getElem!_pos xs idx hi]; rfl
theorem mid_gt (f : α) (xs : List α) (p idx : Nat) (h : p < idx) (hi : idx < xs.length) : midL f xs p (idx + 1) = midL f xs p idx ++ [xs[idx]!] := by
  unfold midL
  rw [if_pos (by omega), if_pos h, List.take_add_one, List.getElem?_eq_getElem hi, getElem!_pos xs idx hi, List.drop_append_of_le_length (by simp; omega)]
  simp
theorem mid_eq (f : α) (xs : List α) (p : Nat) (hi : p < xs.length) : midL f xs p (p + 1) = midL f xs p p ++ [f] ++ [xs[p]!] := by
  unfold midL
  rw [if_pos (by omega), if_neg (by omega), List.take_add_one, List.getElem?_eq_getElem hi, getElem!_pos xs p hi, List.drop_append_of_le_length (by simp; omega), List.drop_eq_nil_of_le (by simp; omega)]
  simp
omit [Inhabited α] in
theorem mid_end_lt (f : α) (xs : List α) (p : Nat) (h : p < xs.length) : midL f xs p xs.length = xs.take p ++ f :: xs.drop p := by
  unfold midL
  rw [if_pos h, List.take_length]
omit [Inhabited α] in
theorem mid_end_eq (f : α) (xs : List α) (p : Nat) (h : p = xs.length) : midL f xs p xs.length ++ [f] = xs.take p ++ f :: xs.drop p := by
  subst h
  unfold midL
  rw [if_neg (by omega), List.drop_length]
end

/-- What a table of the reference's is: the one that came in, or a row of its own. -/
def RRow (w : World) (ao : Option Addr) (cap : Nat) (xs : List Fi) (ao2 : Option Addr) (cap2 : Nat) (ys : List Fi) (w' : World) : Prop :=
  (ao2 = ao ∧ cap2 = cap ∧ ys = xs) ∨ w'.ownsRow w.heap.size 24 7 (.slice ao2 ys.length cap2) ys.length (flatE Fi.enc ys)
theorem RRow.sl {w w' : World} {ao : Option Addr} {n cap : Nat} {xs : List Fi} {ao2 : Option Addr} {cap2 : Nat} {ys : List Fi} (h : RRow w ao cap xs ao2 cap2 ys w') (hs : Sl w 7 ao n cap (xs.map Fi.enc)) (hb : Below w.heap.size w w') : Sl w' 7 ao2 ys.length cap2 (ys.map Fi.enc) := by
  rcases h with ⟨rfl, rfl, rfl⟩ | h
  · have := Sl.lenE hs
    rw [this]
    exact hs.stays hb
  · obtain ⟨a9, c9, hv9, hsl9⟩ := ownE_sl fi_len (by omega) h
    cases hv9
    exact hsl9
def RPost (w : World) (ao : Option Addr) (cap : Nat) (xs : List Fi) (r : List Fi × Int) (e : Ending) (w' : World) : Prop :=
  ∃ ao2 cap2, e = .returned (.tuple #[.slice ao2 r.1.length cap2, .int .i64 r.2]) ∧ RRow w ao cap xs ao2 cap2 r.1 w' ∧ Below w.heap.size w w'

set_option maxRecDepth 100000 in
set_option maxHeartbeats 8000000 in
theorem radd_calls (f1 f2 : Int) (f3 : ByteArray) (f4 f5 : Bool) (f6 f7 : Int) (ao : Option Addr) (n cap : Nat) (xs : List Fi) (w : World) (h : Sl w 7 ao n cap (xs.map Fi.enc)) (hn : n ≤ 1000) (hs : xs.Pairwise (fun x y => x.num < y.num)) :
    Calls Try.prog 12 #[.slice ao n cap, .agg #[.int .i64 f1, .int .i64 f2, .string f3, .bool f4, .bool f5, .int .i64 f6, .int .i64 f7]] w fun e w' => RPost w ao cap xs (addF ⟨f1, f2, f3, f4, f5, f6, f7⟩ xs) e w' := by
  have HL : Aside (xs.length = n) := Sl.lenE h
  obtain ⟨i0, hi0, hz0, hs0, hb0⟩ := fiInfo
  have cv := fun U => rvalid_calls f1 f2 f3 f4 f5 f6 f7 U
  have c1 : ∀ U, Below w.heap.size w U → Calls Try.prog 21 #[.slice ao n cap, .int .i64 f1] U fun e w' => e = .returned (.tuple #[Fi.val (fdF f1 xs).1, .bool (fdF f1 xs).2]) ∧ Below U.heap.size U w' := fun U hU => rfind_calls f1 ao n cap xs U (h.stays hU) hs
  have H : Aside (Sl w 7 ao n cap (xs.map Fi.enc)) := h
  have hsp := ixF_spec f1 xs
  have HSO : Aside (xs.Pairwise (fun x y => x.num < y.num)) := hs
  have HD : Aside (addF ⟨f1, f2, f3, f4, f5, f6, f7⟩ xs = if vB ⟨f1, f2, f3, f4, f5, f6, f7⟩ = false then (xs, 5) else if 0 ≤ ixF f1 xs then (xs, 14) else if 256 ≤ xs.length then (xs, 22) else (xs.take (plF f1 xs) ++ ⟨f1, f2, f3, f4, f5, f6, f7⟩ :: xs.drop (plF f1 xs), 0)) := rfl
  generalize addF ⟨f1, f2, f3, f4, f5, f6, f7⟩ xs = r at HD ⊢
  clear h hs
  cases hv : vB ⟨f1, f2, f3, f4, f5, f6, f7⟩ with
  | false =>
    have er : r = (xs, 5) := by rw [HD.out, hv]; rfl
    subst er
    rw [hv] at cv
    clear HD hv hsp c1
    go_enter Try.func12, Try.ntmps12
    go_wp2_with fail
    refine (cv _).mono ?_
    rintro e w2 ⟨rfl, hb⟩
    obtain ⟨x1, rfl⟩ := plus_of_below hb
    clear hb
    clear cv
    go_wp2
    go_ret2
    refine ⟨ao, cap, ?_, .inl ⟨rfl, rfl, rfl⟩, ?_⟩
    · show _ = Ending.returned (.tuple #[.slice ao xs.length cap, .int .i64 5])
      rw [HL.out]
      rfl
    · repeat (first | (with_reducible exact Below.refl _ _) | (with_reducible assumption) | (with_reducible refine below_to_plus ?_ ?_ _) | (with_reducible refine below_holds ?_ ?_ _ _) | (with_reducible refine Below.alloc ?_ ?_ _) | (with_reducible refine Below.drew ?_) | (with_reducible refine below_drewN ?_ _) | (with_reducible refine Below.setCell ?_ ?_ _))
      all_goals first | omega | (simp; done) | (simp [go_sem]; done) | (simp [go_sem]; omega)
  | true =>
  rw [hv] at cv
  rcases hsp with e1 | ⟨h1, h2, e1⟩
  · have efd : fdF f1 xs = (default, false) := by unfold fdF; rw [e1]; rfl
    rw [efd] at c1
    have c1 : ∀ U, Below w.heap.size w U → Calls Try.prog 21 #[.slice ao n cap, .int .i64 f1] U fun e w' => e = .returned (.tuple #[.agg #[.int .i64 0, .int .i64 0, .string ⟨#[]⟩, .bool false, .bool false, .int .i64 0, .int .i64 0], .bool false]) ∧ Below U.heap.size U w' := c1
    by_cases hfl : 256 ≤ n
    · have er : r = (xs, 22) := by rw [HD.out, hv, if_neg (by simp), if_neg (by omega), if_pos (by have := HL.out; omega)]
      subst er
      have hfz : (256 : Int) ≤ (n : Int) := by omega
      clear HD hv e1 efd
      go_enter Try.func12, Try.ntmps12
      go_wp2_with fail
      refine (cv _).mono ?_
      rintro e w2 ⟨rfl, hb⟩
      obtain ⟨x1, rfl⟩ := plus_of_below hb
      clear hb
      clear cv
      go_wp2_with fail
      refine (c1 _ (by
        repeat (first | (with_reducible exact Below.refl _ _) | (with_reducible assumption) | (with_reducible refine below_to_plus ?_ ?_ _) | (with_reducible refine below_holds ?_ ?_ _ _) | (with_reducible refine Below.alloc ?_ ?_ _) | (with_reducible refine Below.drew ?_) | (with_reducible refine below_drewN ?_ _) | (with_reducible refine Below.setCell ?_ ?_ _))
        all_goals first | omega | (simp; done) | (simp [go_sem]; done) | (simp [go_sem]; omega))).mono ?_
      rintro e w2 ⟨rfl, hb⟩
      obtain ⟨x2, rfl⟩ := plus_next hb
      clear hb
      clear c1
      go_wp2
      go_ret2
      refine ⟨ao, cap, ?_, .inl ⟨rfl, rfl, rfl⟩, ?_⟩
      · show _ = Ending.returned (.tuple #[.slice ao xs.length cap, .int .i64 22])
        rw [HL.out]
        rfl
      · repeat (first | (with_reducible exact Below.refl _ _) | (with_reducible assumption) | (with_reducible refine below_to_plus ?_ ?_ _) | (with_reducible refine below_holds ?_ ?_ _ _) | (with_reducible refine Below.alloc ?_ ?_ _) | (with_reducible refine Below.drew ?_) | (with_reducible refine below_drewN ?_ _) | (with_reducible refine Below.setCell ?_ ?_ _))
        all_goals first | omega | (simp; done) | (simp [go_sem]; done) | (simp [go_sem]; omega)
    have er : r = (xs.take (plF f1 xs) ++ ⟨f1, f2, f3, f4, f5, f6, f7⟩ :: xs.drop (plF f1 xs), 0) := by rw [HD.out, hv, if_neg (by simp), if_neg (by omega), if_neg (by have := HL.out; omega)]
    have hfz : ¬ (256 : Int) ≤ (n : Int) := by omega
    have HP1 : Aside (∀ j, j < plF f1 xs → xs[j]!.num < f1) := plF_lt f1 xs
    have HP2 : Aside (∀ j, plF f1 xs ≤ j → j < xs.length → f1 < xs[j]!.num) := fun j h1 h2 => by
      have h3 := plF_ge f1 xs HSO.out j h1 h2
      rcases Int.lt_or_eq_of_le (show f1 ≤ xs[j]!.num by omega) with h4 | h4
      · exact h4
      · rw [(find_hit f1 xs HSO.out j h2 h4.symm).2.1] at e1; omega
    have hple := plF_le f1 xs
    have ER : Aside (r = (xs.take (plF f1 xs) ++ ⟨f1, f2, f3, f4, f5, f6, f7⟩ :: xs.drop (plF f1 xs), 0)) := er
    clear HD hv e1 efd er
    generalize plF f1 xs = p at HP1 HP2 hple ER
    go_enter Try.func12, Try.ntmps12
    go_wp2_with fail
    refine (cv _).mono ?_
    rintro e w2 ⟨rfl, hb⟩
    obtain ⟨x1, rfl⟩ := plus_of_below hb
    clear hb
    clear cv
    go_wp2_with fail
    refine (c1 _ (by
      repeat (first | (with_reducible exact Below.refl _ _) | (with_reducible assumption) | (with_reducible refine below_to_plus ?_ ?_ _) | (with_reducible refine below_holds ?_ ?_ _ _) | (with_reducible refine Below.alloc ?_ ?_ _) | (with_reducible refine Below.drew ?_) | (with_reducible refine below_drewN ?_ _) | (with_reducible refine Below.setCell ?_ ?_ _))
      all_goals first | omega | (simp; done) | (simp [go_sem]; done) | (simp [go_sem]; omega))).mono ?_
    rintro e w2 ⟨rfl, hb⟩
    obtain ⟨x2, rfl⟩ := plus_next hb
    clear hb
    clear c1
    have hbC : Below w.heap.size w ((plus (w.alloc (.cells #[.int .i64 f1, .int .i64 f2, .string f3, .bool f4, .bool f5, .int .i64 f6, .int .i64 f7] 24)) x2).alloc (.cells #[.int .i64 0, .int .i64 0, .string ⟨#[]⟩, .bool false, .bool false, .int .i64 0, .int .i64 0] 24)) := by
      repeat (first | (with_reducible exact Below.refl _ _) | (with_reducible assumption) | (with_reducible refine below_to_plus ?_ ?_ _) | (with_reducible refine below_holds ?_ ?_ _ _) | (with_reducible refine Below.alloc ?_ ?_ _) | (with_reducible refine Below.drew ?_) | (with_reducible refine below_drewN ?_ _) | (with_reducible refine Below.setCell ?_ ?_ _))
      all_goals first | omega | (simp; done) | (simp [go_sem]; done) | (simp [go_sem]; omega)
    have HC : Aside (CellsFi ((plus (w.alloc (.cells #[.int .i64 f1, .int .i64 f2, .string f3, .bool f4, .bool f5, .int .i64 f6, .int .i64 f7] 24)) x2).alloc (.cells #[.int .i64 0, .int .i64 0, .string ⟨#[]⟩, .bool false, .bool false, .int .i64 0, .int .i64 0] 24)) ao xs) := cellsFi (H.out.stays hbC)
    clear hbC
    have BX : Aside (((plus (w.alloc (.cells #[.int .i64 f1, .int .i64 f2, .string f3, .bool f4, .bool f5, .int .i64 f6, .int .i64 f7] 24)) x2).alloc (.cells #[.int .i64 0, .int .i64 0, .string ⟨#[]⟩, .bool false, .bool false, .int .i64 0, .int .i64 0] 24)).cell? ⟨w.heap.size, 0, none⟩ = some (.int .i64 f1) ∧ ((plus (w.alloc (.cells #[.int .i64 f1, .int .i64 f2, .string f3, .bool f4, .bool f5, .int .i64 f6, .int .i64 f7] 24)) x2).alloc (.cells #[.int .i64 0, .int .i64 0, .string ⟨#[]⟩, .bool false, .bool false, .int .i64 0, .int .i64 0] 24)).cell? ⟨w.heap.size, 1, none⟩ = some (.int .i64 f2) ∧ ((plus (w.alloc (.cells #[.int .i64 f1, .int .i64 f2, .string f3, .bool f4, .bool f5, .int .i64 f6, .int .i64 f7] 24)) x2).alloc (.cells #[.int .i64 0, .int .i64 0, .string ⟨#[]⟩, .bool false, .bool false, .int .i64 0, .int .i64 0] 24)).cell? ⟨w.heap.size, 2, none⟩ = some (.string f3) ∧ ((plus (w.alloc (.cells #[.int .i64 f1, .int .i64 f2, .string f3, .bool f4, .bool f5, .int .i64 f6, .int .i64 f7] 24)) x2).alloc (.cells #[.int .i64 0, .int .i64 0, .string ⟨#[]⟩, .bool false, .bool false, .int .i64 0, .int .i64 0] 24)).cell? ⟨w.heap.size, 3, none⟩ = some (.bool f4) ∧ ((plus (w.alloc (.cells #[.int .i64 f1, .int .i64 f2, .string f3, .bool f4, .bool f5, .int .i64 f6, .int .i64 f7] 24)) x2).alloc (.cells #[.int .i64 0, .int .i64 0, .string ⟨#[]⟩, .bool false, .bool false, .int .i64 0, .int .i64 0] 24)).cell? ⟨w.heap.size, 4, none⟩ = some (.bool f5) ∧ ((plus (w.alloc (.cells #[.int .i64 f1, .int .i64 f2, .string f3, .bool f4, .bool f5, .int .i64 f6, .int .i64 f7] 24)) x2).alloc (.cells #[.int .i64 0, .int .i64 0, .string ⟨#[]⟩, .bool false, .bool false, .int .i64 0, .int .i64 0] 24)).cell? ⟨w.heap.size, 5, none⟩ = some (.int .i64 f6) ∧ ((plus (w.alloc (.cells #[.int .i64 f1, .int .i64 f2, .string f3, .bool f4, .bool f5, .int .i64 f6, .int .i64 f7] 24)) x2).alloc (.cells #[.int .i64 0, .int .i64 0, .string ⟨#[]⟩, .bool false, .bool false, .int .i64 0, .int .i64 0] 24)).cell? ⟨w.heap.size, 6, none⟩ = some (.int .i64 f7)) := ⟨by simp [go_sem, ↓IntWalk.iteOmega], by simp [go_sem, ↓IntWalk.iteOmega], by simp [go_sem, ↓IntWalk.iteOmega], by simp [go_sem, ↓IntWalk.iteOmega], by simp [go_sem, ↓IntWalk.iteOmega], by simp [go_sem, ↓IntWalk.iteOmega], by simp [go_sem, ↓IntWalk.iteOmega]⟩
    go_wp2
    go_loopg [8, 9, 10] n (fun k s8 s9 s10 wr => ∃ (idx : Nat) (ao' : Option Addr) (cap' : Nat) (l : List Fi) (dn : Bool), s10 = .int .i64 (idx : Int) ∧ s8 = .slice ao' l.length cap' ∧ s9 = .bool dn ∧ k + idx = n ∧ l.length ≤ idx + 1 ∧ Aside (dn = false → l.length ≤ idx) ∧ Aside (midL ⟨f1, f2, f3, f4, f5, f6, f7⟩ xs p idx = l ∧ dn = decide (p < idx)) ∧ Aside (Below ((plus (w.alloc (.cells #[.int .i64 f1, .int .i64 f2, .string f3, .bool f4, .bool f5, .int .i64 f6, .int .i64 f7] 24)) x2).alloc (.cells #[.int .i64 0, .int .i64 0, .string ⟨#[]⟩, .bool false, .bool false, .int .i64 0, .int .i64 0] 24)).heap.size ((plus (w.alloc (.cells #[.int .i64 f1, .int .i64 f2, .string f3, .bool f4, .bool f5, .int .i64 f6, .int .i64 f7] 24)) x2).alloc (.cells #[.int .i64 0, .int .i64 0, .string ⟨#[]⟩, .bool false, .bool false, .int .i64 0, .int .i64 0] 24)) wr ∧ wr.ownsRow (w.heap.size + 1 + x2.heap.size + 1) 24 7 (.slice ao' l.length cap') l.length (flatE Fi.enc l)))
    case atStart => exact ⟨0, none, 0, [], false, rfl, rfl, rfl, by omega, by simp, (fun _ => by simp), (show _ ∧ _ from ⟨by simp [midL], by simp⟩), ⟨Below.refl _ _, World.ownsRow_nil _ _ _ _⟩⟩
    case round =>
      obtain ⟨idx, ao', cap', l, dn, rfl, rfl, rfl, hk, hll, HL0, A, ST⟩ := hrel
      by_cases hi : idx < n
      · have hiz : (idx : Int) < (n : Int) := by omega
        have ML : Aside (idx < p → midL ⟨f1, f2, f3, f4, f5, f6, f7⟩ xs p (idx + 1) = l ++ [xs[idx]!]) := fun hh => by rw [← A.out.1]; exact mid_lt _ xs p idx hh (by have := HL.out; omega)
        have MG : Aside (p < idx → midL ⟨f1, f2, f3, f4, f5, f6, f7⟩ xs p (idx + 1) = l ++ [xs[idx]!]) := fun hh => by rw [← A.out.1]; exact mid_gt _ xs p idx hh (by have := HL.out; omega)
        have ME : Aside (idx = p → midL ⟨f1, f2, f3, f4, f5, f6, f7⟩ xs p (idx + 1) = l ++ [⟨f1, f2, f3, f4, f5, f6, f7⟩] ++ [xs[idx]!]) := fun hh => by rw [← A.out.1]; subst hh; exact mid_eq _ xs idx (by have := HL.out; omega)
        have N1 : Aside (idx < p → xs[idx]!.num < f1) := HP1.out idx
        have N2 : Aside (p ≤ idx → f1 < xs[idx]!.num) := fun hh => HP2.out idx hh (by have := HL.out; omega)
        have DN : Aside (dn = decide (p < idx)) := A.out.2
        obtain ⟨b, off, rfl, hby, l0, l1, l2, l3, l4, l5, l6⟩ := HC.out idx (by have := HL.out; omega)
        generalize xs[idx]! = y at l0 l1 l2 l3 l4 l5 l6 ML MG ME N1 N2
        obtain ⟨y1, y2, y3, y4, y5, y6, y7⟩ := y
        simp only [] at l0 l1 l2 l3 l4 l5 l6
        have YC : Aside (_ ∧ _ ∧ _ ∧ _ ∧ _ ∧ _ ∧ _) := ⟨l0, l1, l2, l3, l4, l5, l6⟩
        clear l0 l1 l2 l3 l4 l5 l6 HC A H HP1 HP2 ER
        rcases Nat.lt_trichotomy idx p with hp | hp | hp
        · have hg : decide (f1 < y1) = false := decide_eq_false (by have := N1.out hp; simp only [] at this; omega)
          have ed : dn = false := by rw [DN.out]; exact decide_eq_false (by omega)
          subst ed
          have A2 : Aside (midL ⟨f1, f2, f3, f4, f5, f6, f7⟩ xs p (idx + 1) = l ++ [(⟨y1, y2, y3, y4, y5, y6, y7⟩ : Fi)] ∧ false = decide (p < idx + 1)) := ⟨ML.out hp, (decide_eq_false (by omega)).symm⟩
          clear ML MG ME N1 N2 DN
          have hsw := ST.out.1.size
          have hbry : b < wr.heap.size := Nat.lt_of_lt_of_le hby hsw
          simp [size_plus] at hsw
          have bf0 := (ST.out.1.cell (p := ⟨w.heap.size, 0, none⟩) (by first | (simp [size_plus]; done) | (simp [size_plus]; omega))).trans BX.out.1
          have bf1 := (ST.out.1.cell (p := ⟨w.heap.size, 1, none⟩) (by first | (simp [size_plus]; done) | (simp [size_plus]; omega))).trans BX.out.2.1
          have bf2 := (ST.out.1.cell (p := ⟨w.heap.size, 2, none⟩) (by first | (simp [size_plus]; done) | (simp [size_plus]; omega))).trans BX.out.2.2.1
          have bf3 := (ST.out.1.cell (p := ⟨w.heap.size, 3, none⟩) (by first | (simp [size_plus]; done) | (simp [size_plus]; omega))).trans BX.out.2.2.2.1
          have bf4 := (ST.out.1.cell (p := ⟨w.heap.size, 4, none⟩) (by first | (simp [size_plus]; done) | (simp [size_plus]; omega))).trans BX.out.2.2.2.2.1
          have bf5 := (ST.out.1.cell (p := ⟨w.heap.size, 5, none⟩) (by first | (simp [size_plus]; done) | (simp [size_plus]; omega))).trans BX.out.2.2.2.2.2.1
          have bf6 := (ST.out.1.cell (p := ⟨w.heap.size, 6, none⟩) (by first | (simp [size_plus]; done) | (simp [size_plus]; omega))).trans BX.out.2.2.2.2.2.2
          have l0 := (ST.out.1.cell (p := ⟨b, off + idx * 7, none⟩) hby).trans YC.out.1
          have l1 := (ST.out.1.cell (p := ⟨b, off + idx * 7 + 1, none⟩) hby).trans YC.out.2.1
          have l2 := (ST.out.1.cell (p := ⟨b, off + idx * 7 + 2, none⟩) hby).trans YC.out.2.2.1
          have l3 := (ST.out.1.cell (p := ⟨b, off + idx * 7 + 3, none⟩) hby).trans YC.out.2.2.2.1
          have l4 := (ST.out.1.cell (p := ⟨b, off + idx * 7 + 4, none⟩) hby).trans YC.out.2.2.2.2.1
          have l5 := (ST.out.1.cell (p := ⟨b, off + idx * 7 + 5, none⟩) hby).trans YC.out.2.2.2.2.2.1
          have l6 := (ST.out.1.cell (p := ⟨b, off + idx * 7 + 6, none⟩) hby).trans YC.out.2.2.2.2.2.2
          go_wp2
          refine wp_region_plus (by kernel_rfl) (by kernel_rfl) ?_
          repeat (go_big_quiet_step (fail))
          refine wpQuiet_nil ?_
          rintro _ ⟨x1, rfl⟩
          have ST8 : Aside (Below ((plus (w.alloc (.cells #[.int .i64 f1, .int .i64 f2, .string f3, .bool f4, .bool f5, .int .i64 f6, .int .i64 f7] 24)) x2).alloc (.cells #[.int .i64 0, .int .i64 0, .string ⟨#[]⟩, .bool false, .bool false, .int .i64 0, .int .i64 0] 24)).heap.size ((plus (w.alloc (.cells #[.int .i64 f1, .int .i64 f2, .string f3, .bool f4, .bool f5, .int .i64 f6, .int .i64 f7] 24)) x2).alloc (.cells #[.int .i64 0, .int .i64 0, .string ⟨#[]⟩, .bool false, .bool false, .int .i64 0, .int .i64 0] 24)) (plus wr x1) ∧ (plus wr x1).ownsRow (w.heap.size + 1 + x2.heap.size + 1) 24 7 (.slice ao' l.length cap') l.length (flatE Fi.enc l)) := ⟨ST.out.1.trans ((below_plus wr x1).mono ST.out.1.size), own_plus ST.out.2⟩
          clear ST hsw hbry bf0 bf1 bf2 bf3 bf4 bf5 bf6 l0 l1 l2 l3 l4 l5 l6
          generalize plus wr x1 = w8 at ST8 ⊢
          have hsw := ST8.out.1.size
          have hbry : b < w8.heap.size := Nat.lt_of_lt_of_le hby hsw
          simp [size_plus] at hsw
          have l0 := (ST8.out.1.cell (p := ⟨b, off + idx * 7, none⟩) hby).trans YC.out.1
          have l1 := (ST8.out.1.cell (p := ⟨b, off + idx * 7 + 1, none⟩) hby).trans YC.out.2.1
          have l2 := (ST8.out.1.cell (p := ⟨b, off + idx * 7 + 2, none⟩) hby).trans YC.out.2.2.1
          have l3 := (ST8.out.1.cell (p := ⟨b, off + idx * 7 + 3, none⟩) hby).trans YC.out.2.2.2.1
          have l4 := (ST8.out.1.cell (p := ⟨b, off + idx * 7 + 4, none⟩) hby).trans YC.out.2.2.2.2.1
          have l5 := (ST8.out.1.cell (p := ⟨b, off + idx * 7 + 5, none⟩) hby).trans YC.out.2.2.2.2.2.1
          have l6 := (ST8.out.1.cell (p := ⟨b, off + idx * 7 + 6, none⟩) hby).trans YC.out.2.2.2.2.2.2
          have hown := ST8.out.2
          go_wp2_with (at_builtin; refine wpList_append_own _ rfl _ _ 22 rfl (w.heap.size + 1 + x2.heap.size + 1) 24 i0 _ 7 56 Try.underlying22 hi0 hz0 hs0 hb0 rfl (by omega) _ _ _ rfl (hown.alloc _) ⟨w8.heap.size, 0, none⟩ 1 1 [.int .i64 y1, .int .i64 y2, .string y3, .bool y4, .bool y5, .int .i64 y6, .int .i64 y7] rfl rfl (cells_new _ _ _ _ rfl) (fi_one ⟨y1, y2, y3, y4, y5, y6, y7⟩) (by unfold maxLen; omega) (by omega) (by first | (simp; omega) | (simp [size_plus]; omega)) ?_)
          intro v' w9 hown' hgrow _
          obtain ⟨ao9, cap9, rfl, hb9, ho9⟩ := app_stateB (U1 := ((plus (w.alloc (.cells #[.int .i64 f1, .int .i64 f2, .string f3, .bool f4, .bool f5, .int .i64 f6, .int .i64 f7] 24)) x2).alloc (.cells #[.int .i64 0, .int .i64 0, .string ⟨#[]⟩, .bool false, .bool false, .int .i64 0, .int .i64 0] 24))) (by simp [size_plus]) fi_len (by omega) (y := ⟨y1, y2, y3, y4, y5, y6, y7⟩) (ST8.out.1.alloc ST8.out.1.size _) (hown.alloc _) hown' hgrow
          have ST9 : Aside (Below ((plus (w.alloc (.cells #[.int .i64 f1, .int .i64 f2, .string f3, .bool f4, .bool f5, .int .i64 f6, .int .i64 f7] 24)) x2).alloc (.cells #[.int .i64 0, .int .i64 0, .string ⟨#[]⟩, .bool false, .bool false, .int .i64 0, .int .i64 0] 24)).heap.size ((plus (w.alloc (.cells #[.int .i64 f1, .int .i64 f2, .string f3, .bool f4, .bool f5, .int .i64 f6, .int .i64 f7] 24)) x2).alloc (.cells #[.int .i64 0, .int .i64 0, .string ⟨#[]⟩, .bool false, .bool false, .int .i64 0, .int .i64 0] 24)) w9 ∧ w9.ownsRow (w.heap.size + 1 + x2.heap.size + 1) 24 7 (.slice ao9 (l.length + 1) cap9) (l.length + 1) (flatE Fi.enc (l ++ [(⟨y1, y2, y3, y4, y5, y6, y7⟩ : Fi)]))) := ⟨hb9, ho9⟩
          clear hown' hgrow hb9 ho9 hown
          clear l0 l1 l2 l3 l4 l5 l6
          go_wp2
          go_roundg (gk - 1)
          case measure => omega
          case rel => exact ⟨idx + 1, ao9, cap9, l ++ [(⟨y1, y2, y3, y4, y5, y6, y7⟩ : Fi)], false, by simp, by simp, rfl, by omega, by simp; omega, (fun _ => by have := HL0.out (by first | rfl | trivial); simp; omega), A2, by first | exact ST9 | simpa using ST9⟩
        · have hg : decide (f1 < y1) = true := decide_eq_true (by have := N2.out (by omega); simp only [] at this; omega)
          have ed : dn = false := by rw [DN.out]; exact decide_eq_false (by omega)
          subst ed
          have A2 : Aside (midL ⟨f1, f2, f3, f4, f5, f6, f7⟩ xs p (idx + 1) = l ++ [(⟨f1, f2, f3, f4, f5, f6, f7⟩ : Fi)] ++ [(⟨y1, y2, y3, y4, y5, y6, y7⟩ : Fi)] ∧ true = decide (p < idx + 1)) := ⟨ME.out hp, (decide_eq_true (by omega)).symm⟩
          have hl2 : l.length ≤ idx := HL0.out rfl
          clear ML MG ME N1 N2 DN hp HL0
          have hsw := ST.out.1.size
          have hbry : b < wr.heap.size := Nat.lt_of_lt_of_le hby hsw
          simp [size_plus] at hsw
          have bf0 := (ST.out.1.cell (p := ⟨w.heap.size, 0, none⟩) (by first | (simp [size_plus]; done) | (simp [size_plus]; omega))).trans BX.out.1
          have bf1 := (ST.out.1.cell (p := ⟨w.heap.size, 1, none⟩) (by first | (simp [size_plus]; done) | (simp [size_plus]; omega))).trans BX.out.2.1
          have bf2 := (ST.out.1.cell (p := ⟨w.heap.size, 2, none⟩) (by first | (simp [size_plus]; done) | (simp [size_plus]; omega))).trans BX.out.2.2.1
          have bf3 := (ST.out.1.cell (p := ⟨w.heap.size, 3, none⟩) (by first | (simp [size_plus]; done) | (simp [size_plus]; omega))).trans BX.out.2.2.2.1
          have bf4 := (ST.out.1.cell (p := ⟨w.heap.size, 4, none⟩) (by first | (simp [size_plus]; done) | (simp [size_plus]; omega))).trans BX.out.2.2.2.2.1
          have bf5 := (ST.out.1.cell (p := ⟨w.heap.size, 5, none⟩) (by first | (simp [size_plus]; done) | (simp [size_plus]; omega))).trans BX.out.2.2.2.2.2.1
          have bf6 := (ST.out.1.cell (p := ⟨w.heap.size, 6, none⟩) (by first | (simp [size_plus]; done) | (simp [size_plus]; omega))).trans BX.out.2.2.2.2.2.2
          have l0 := (ST.out.1.cell (p := ⟨b, off + idx * 7, none⟩) hby).trans YC.out.1
          have l1 := (ST.out.1.cell (p := ⟨b, off + idx * 7 + 1, none⟩) hby).trans YC.out.2.1
          have l2 := (ST.out.1.cell (p := ⟨b, off + idx * 7 + 2, none⟩) hby).trans YC.out.2.2.1
          have l3 := (ST.out.1.cell (p := ⟨b, off + idx * 7 + 3, none⟩) hby).trans YC.out.2.2.2.1
          have l4 := (ST.out.1.cell (p := ⟨b, off + idx * 7 + 4, none⟩) hby).trans YC.out.2.2.2.2.1
          have l5 := (ST.out.1.cell (p := ⟨b, off + idx * 7 + 5, none⟩) hby).trans YC.out.2.2.2.2.2.1
          have l6 := (ST.out.1.cell (p := ⟨b, off + idx * 7 + 6, none⟩) hby).trans YC.out.2.2.2.2.2.2
          go_wp2
          refine wp_region_plus (by kernel_rfl) (by kernel_rfl) ?_
          repeat (go_big_quiet_step (fail))
          refine wpQuiet_nil ?_
          rintro _ ⟨x1, rfl⟩
          have ST8 : Aside (Below ((plus (w.alloc (.cells #[.int .i64 f1, .int .i64 f2, .string f3, .bool f4, .bool f5, .int .i64 f6, .int .i64 f7] 24)) x2).alloc (.cells #[.int .i64 0, .int .i64 0, .string ⟨#[]⟩, .bool false, .bool false, .int .i64 0, .int .i64 0] 24)).heap.size ((plus (w.alloc (.cells #[.int .i64 f1, .int .i64 f2, .string f3, .bool f4, .bool f5, .int .i64 f6, .int .i64 f7] 24)) x2).alloc (.cells #[.int .i64 0, .int .i64 0, .string ⟨#[]⟩, .bool false, .bool false, .int .i64 0, .int .i64 0] 24)) (plus wr x1) ∧ (plus wr x1).ownsRow (w.heap.size + 1 + x2.heap.size + 1) 24 7 (.slice ao' l.length cap') l.length (flatE Fi.enc l)) := ⟨ST.out.1.trans ((below_plus wr x1).mono ST.out.1.size), own_plus ST.out.2⟩
          clear ST hsw hbry bf0 bf1 bf2 bf3 bf4 bf5 bf6 l0 l1 l2 l3 l4 l5 l6
          generalize plus wr x1 = w8 at ST8 ⊢
          have hsw := ST8.out.1.size
          have hbry : b < w8.heap.size := Nat.lt_of_lt_of_le hby hsw
          simp [size_plus] at hsw
          have bf0 := (ST8.out.1.cell (p := ⟨w.heap.size, 0, none⟩) (by first | (simp [size_plus]; done) | (simp [size_plus]; omega))).trans BX.out.1
          have bf1 := (ST8.out.1.cell (p := ⟨w.heap.size, 1, none⟩) (by first | (simp [size_plus]; done) | (simp [size_plus]; omega))).trans BX.out.2.1
          have bf2 := (ST8.out.1.cell (p := ⟨w.heap.size, 2, none⟩) (by first | (simp [size_plus]; done) | (simp [size_plus]; omega))).trans BX.out.2.2.1
          have bf3 := (ST8.out.1.cell (p := ⟨w.heap.size, 3, none⟩) (by first | (simp [size_plus]; done) | (simp [size_plus]; omega))).trans BX.out.2.2.2.1
          have bf4 := (ST8.out.1.cell (p := ⟨w.heap.size, 4, none⟩) (by first | (simp [size_plus]; done) | (simp [size_plus]; omega))).trans BX.out.2.2.2.2.1
          have bf5 := (ST8.out.1.cell (p := ⟨w.heap.size, 5, none⟩) (by first | (simp [size_plus]; done) | (simp [size_plus]; omega))).trans BX.out.2.2.2.2.2.1
          have bf6 := (ST8.out.1.cell (p := ⟨w.heap.size, 6, none⟩) (by first | (simp [size_plus]; done) | (simp [size_plus]; omega))).trans BX.out.2.2.2.2.2.2
          have hown := ST8.out.2
          go_wp2_with (at_builtin; refine wpList_append_own _ rfl _ _ 22 rfl (w.heap.size + 1 + x2.heap.size + 1) 24 i0 _ 7 56 Try.underlying22 hi0 hz0 hs0 hb0 rfl (by omega) _ _ _ rfl (hown.alloc _) ⟨w8.heap.size, 0, none⟩ 1 1 [.int .i64 f1, .int .i64 f2, .string f3, .bool f4, .bool f5, .int .i64 f6, .int .i64 f7] rfl rfl (cells_new _ _ _ _ rfl) (fi_one ⟨f1, f2, f3, f4, f5, f6, f7⟩) (by unfold maxLen; omega) (by omega) (by first | (simp; omega) | (simp [size_plus]; omega)) ?_)
          intro v' w9 hown' hgrow _
          obtain ⟨ao9, cap9, rfl, hb9, ho9⟩ := app_stateB (U1 := ((plus (w.alloc (.cells #[.int .i64 f1, .int .i64 f2, .string f3, .bool f4, .bool f5, .int .i64 f6, .int .i64 f7] 24)) x2).alloc (.cells #[.int .i64 0, .int .i64 0, .string ⟨#[]⟩, .bool false, .bool false, .int .i64 0, .int .i64 0] 24))) (by simp [size_plus]) fi_len (by omega) (y := ⟨f1, f2, f3, f4, f5, f6, f7⟩) (ST8.out.1.alloc ST8.out.1.size _) (hown.alloc _) hown' hgrow
          have ST9 : Aside (Below ((plus (w.alloc (.cells #[.int .i64 f1, .int .i64 f2, .string f3, .bool f4, .bool f5, .int .i64 f6, .int .i64 f7] 24)) x2).alloc (.cells #[.int .i64 0, .int .i64 0, .string ⟨#[]⟩, .bool false, .bool false, .int .i64 0, .int .i64 0] 24)).heap.size ((plus (w.alloc (.cells #[.int .i64 f1, .int .i64 f2, .string f3, .bool f4, .bool f5, .int .i64 f6, .int .i64 f7] 24)) x2).alloc (.cells #[.int .i64 0, .int .i64 0, .string ⟨#[]⟩, .bool false, .bool false, .int .i64 0, .int .i64 0] 24)) w9 ∧ w9.ownsRow (w.heap.size + 1 + x2.heap.size + 1) 24 7 (.slice ao9 (l.length + 1) cap9) (l.length + 1) (flatE Fi.enc (l ++ [(⟨f1, f2, f3, f4, f5, f6, f7⟩ : Fi)]))) := ⟨hb9, ho9⟩
          clear hown' hgrow hb9 ho9 hown
          clear bf0 bf1 bf2 bf3 bf4 bf5 bf6
          clear hsw hbry
          have hsw := ST9.out.1.size
          have hbry : b < w9.heap.size := Nat.lt_of_lt_of_le hby hsw
          simp [size_plus] at hsw
          have l0 := (ST9.out.1.cell (p := ⟨b, off + idx * 7, none⟩) hby).trans YC.out.1
          have l1 := (ST9.out.1.cell (p := ⟨b, off + idx * 7 + 1, none⟩) hby).trans YC.out.2.1
          have l2 := (ST9.out.1.cell (p := ⟨b, off + idx * 7 + 2, none⟩) hby).trans YC.out.2.2.1
          have l3 := (ST9.out.1.cell (p := ⟨b, off + idx * 7 + 3, none⟩) hby).trans YC.out.2.2.2.1
          have l4 := (ST9.out.1.cell (p := ⟨b, off + idx * 7 + 4, none⟩) hby).trans YC.out.2.2.2.2.1
          have l5 := (ST9.out.1.cell (p := ⟨b, off + idx * 7 + 5, none⟩) hby).trans YC.out.2.2.2.2.2.1
          have l6 := (ST9.out.1.cell (p := ⟨b, off + idx * 7 + 6, none⟩) hby).trans YC.out.2.2.2.2.2.2
          have hown := ST9.out.2
          go_wp2_with (at_builtin; refine wpList_append_own _ rfl _ _ 22 rfl (w.heap.size + 1 + x2.heap.size + 1) 24 i0 _ 7 56 Try.underlying22 hi0 hz0 hs0 hb0 rfl (by omega) _ _ _ rfl (hown.alloc _) ⟨w9.heap.size, 0, none⟩ 1 1 [.int .i64 y1, .int .i64 y2, .string y3, .bool y4, .bool y5, .int .i64 y6, .int .i64 y7] rfl rfl (cells_new _ _ _ _ rfl) (fi_one ⟨y1, y2, y3, y4, y5, y6, y7⟩) (by unfold maxLen; omega) (by omega) (by first | (simp; omega) | (simp [size_plus]; omega)) ?_)
          intro v' w10 hown' hgrow _
          obtain ⟨ao10, cap10, rfl, hb10, ho10⟩ := app_stateB (U1 := ((plus (w.alloc (.cells #[.int .i64 f1, .int .i64 f2, .string f3, .bool f4, .bool f5, .int .i64 f6, .int .i64 f7] 24)) x2).alloc (.cells #[.int .i64 0, .int .i64 0, .string ⟨#[]⟩, .bool false, .bool false, .int .i64 0, .int .i64 0] 24))) (by simp [size_plus]) fi_len (by omega) (y := ⟨y1, y2, y3, y4, y5, y6, y7⟩) (ST9.out.1.alloc ST9.out.1.size _) (hown.alloc _) hown' hgrow
          have ST10 : Aside (Below ((plus (w.alloc (.cells #[.int .i64 f1, .int .i64 f2, .string f3, .bool f4, .bool f5, .int .i64 f6, .int .i64 f7] 24)) x2).alloc (.cells #[.int .i64 0, .int .i64 0, .string ⟨#[]⟩, .bool false, .bool false, .int .i64 0, .int .i64 0] 24)).heap.size ((plus (w.alloc (.cells #[.int .i64 f1, .int .i64 f2, .string f3, .bool f4, .bool f5, .int .i64 f6, .int .i64 f7] 24)) x2).alloc (.cells #[.int .i64 0, .int .i64 0, .string ⟨#[]⟩, .bool false, .bool false, .int .i64 0, .int .i64 0] 24)) w10 ∧ w10.ownsRow (w.heap.size + 1 + x2.heap.size + 1) 24 7 (.slice ao10 (l.length + 1 + 1) cap10) (l.length + 1 + 1) (flatE Fi.enc (l ++ [(⟨f1, f2, f3, f4, f5, f6, f7⟩ : Fi)] ++ [(⟨y1, y2, y3, y4, y5, y6, y7⟩ : Fi)]))) := ⟨hb10, ho10⟩
          clear hown' hgrow hb10 ho10 hown
          clear l0 l1 l2 l3 l4 l5 l6
          go_wp2
          go_roundg (gk - 1)
          case measure => omega
          case rel => exact ⟨idx + 1, ao10, cap10, l ++ [(⟨f1, f2, f3, f4, f5, f6, f7⟩ : Fi)] ++ [(⟨y1, y2, y3, y4, y5, y6, y7⟩ : Fi)], true, by simp, by simp, rfl, by omega, by simp; omega, (fun h => by cases h), A2, by first | exact ST10 | simpa using ST10⟩
        · have hg : decide (f1 < y1) = true := decide_eq_true (by have := N2.out (by omega); simp only [] at this; omega)
          have ed : dn = true := by rw [DN.out]; exact decide_eq_true hp
          subst ed
          have A2 : Aside (midL ⟨f1, f2, f3, f4, f5, f6, f7⟩ xs p (idx + 1) = l ++ [(⟨y1, y2, y3, y4, y5, y6, y7⟩ : Fi)] ∧ true = decide (p < idx + 1)) := ⟨MG.out hp, (decide_eq_true (by omega)).symm⟩
          clear ML MG ME N1 N2 DN
          have hsw := ST.out.1.size
          have hbry : b < wr.heap.size := Nat.lt_of_lt_of_le hby hsw
          simp [size_plus] at hsw
          have bf0 := (ST.out.1.cell (p := ⟨w.heap.size, 0, none⟩) (by first | (simp [size_plus]; done) | (simp [size_plus]; omega))).trans BX.out.1
          have bf1 := (ST.out.1.cell (p := ⟨w.heap.size, 1, none⟩) (by first | (simp [size_plus]; done) | (simp [size_plus]; omega))).trans BX.out.2.1
          have bf2 := (ST.out.1.cell (p := ⟨w.heap.size, 2, none⟩) (by first | (simp [size_plus]; done) | (simp [size_plus]; omega))).trans BX.out.2.2.1
          have bf3 := (ST.out.1.cell (p := ⟨w.heap.size, 3, none⟩) (by first | (simp [size_plus]; done) | (simp [size_plus]; omega))).trans BX.out.2.2.2.1
          have bf4 := (ST.out.1.cell (p := ⟨w.heap.size, 4, none⟩) (by first | (simp [size_plus]; done) | (simp [size_plus]; omega))).trans BX.out.2.2.2.2.1
          have bf5 := (ST.out.1.cell (p := ⟨w.heap.size, 5, none⟩) (by first | (simp [size_plus]; done) | (simp [size_plus]; omega))).trans BX.out.2.2.2.2.2.1
          have bf6 := (ST.out.1.cell (p := ⟨w.heap.size, 6, none⟩) (by first | (simp [size_plus]; done) | (simp [size_plus]; omega))).trans BX.out.2.2.2.2.2.2
          have l0 := (ST.out.1.cell (p := ⟨b, off + idx * 7, none⟩) hby).trans YC.out.1
          have l1 := (ST.out.1.cell (p := ⟨b, off + idx * 7 + 1, none⟩) hby).trans YC.out.2.1
          have l2 := (ST.out.1.cell (p := ⟨b, off + idx * 7 + 2, none⟩) hby).trans YC.out.2.2.1
          have l3 := (ST.out.1.cell (p := ⟨b, off + idx * 7 + 3, none⟩) hby).trans YC.out.2.2.2.1
          have l4 := (ST.out.1.cell (p := ⟨b, off + idx * 7 + 4, none⟩) hby).trans YC.out.2.2.2.2.1
          have l5 := (ST.out.1.cell (p := ⟨b, off + idx * 7 + 5, none⟩) hby).trans YC.out.2.2.2.2.2.1
          have l6 := (ST.out.1.cell (p := ⟨b, off + idx * 7 + 6, none⟩) hby).trans YC.out.2.2.2.2.2.2
          go_wp2
          refine wp_region_plus (by kernel_rfl) (by kernel_rfl) ?_
          repeat (go_big_quiet_step (fail))
          refine wpQuiet_nil ?_
          rintro _ ⟨x1, rfl⟩
          have ST8 : Aside (Below ((plus (w.alloc (.cells #[.int .i64 f1, .int .i64 f2, .string f3, .bool f4, .bool f5, .int .i64 f6, .int .i64 f7] 24)) x2).alloc (.cells #[.int .i64 0, .int .i64 0, .string ⟨#[]⟩, .bool false, .bool false, .int .i64 0, .int .i64 0] 24)).heap.size ((plus (w.alloc (.cells #[.int .i64 f1, .int .i64 f2, .string f3, .bool f4, .bool f5, .int .i64 f6, .int .i64 f7] 24)) x2).alloc (.cells #[.int .i64 0, .int .i64 0, .string ⟨#[]⟩, .bool false, .bool false, .int .i64 0, .int .i64 0] 24)) (plus wr x1) ∧ (plus wr x1).ownsRow (w.heap.size + 1 + x2.heap.size + 1) 24 7 (.slice ao' l.length cap') l.length (flatE Fi.enc l)) := ⟨ST.out.1.trans ((below_plus wr x1).mono ST.out.1.size), own_plus ST.out.2⟩
          clear ST hsw hbry bf0 bf1 bf2 bf3 bf4 bf5 bf6 l0 l1 l2 l3 l4 l5 l6
          generalize plus wr x1 = w8 at ST8 ⊢
          have hsw := ST8.out.1.size
          have hbry : b < w8.heap.size := Nat.lt_of_lt_of_le hby hsw
          simp [size_plus] at hsw
          have l0 := (ST8.out.1.cell (p := ⟨b, off + idx * 7, none⟩) hby).trans YC.out.1
          have l1 := (ST8.out.1.cell (p := ⟨b, off + idx * 7 + 1, none⟩) hby).trans YC.out.2.1
          have l2 := (ST8.out.1.cell (p := ⟨b, off + idx * 7 + 2, none⟩) hby).trans YC.out.2.2.1
          have l3 := (ST8.out.1.cell (p := ⟨b, off + idx * 7 + 3, none⟩) hby).trans YC.out.2.2.2.1
          have l4 := (ST8.out.1.cell (p := ⟨b, off + idx * 7 + 4, none⟩) hby).trans YC.out.2.2.2.2.1
          have l5 := (ST8.out.1.cell (p := ⟨b, off + idx * 7 + 5, none⟩) hby).trans YC.out.2.2.2.2.2.1
          have l6 := (ST8.out.1.cell (p := ⟨b, off + idx * 7 + 6, none⟩) hby).trans YC.out.2.2.2.2.2.2
          have hown := ST8.out.2
          go_wp2_with (at_builtin; refine wpList_append_own _ rfl _ _ 22 rfl (w.heap.size + 1 + x2.heap.size + 1) 24 i0 _ 7 56 Try.underlying22 hi0 hz0 hs0 hb0 rfl (by omega) _ _ _ rfl (hown.alloc _) ⟨w8.heap.size, 0, none⟩ 1 1 [.int .i64 y1, .int .i64 y2, .string y3, .bool y4, .bool y5, .int .i64 y6, .int .i64 y7] rfl rfl (cells_new _ _ _ _ rfl) (fi_one ⟨y1, y2, y3, y4, y5, y6, y7⟩) (by unfold maxLen; omega) (by omega) (by first | (simp; omega) | (simp [size_plus]; omega)) ?_)
          intro v' w9 hown' hgrow _
          obtain ⟨ao9, cap9, rfl, hb9, ho9⟩ := app_stateB (U1 := ((plus (w.alloc (.cells #[.int .i64 f1, .int .i64 f2, .string f3, .bool f4, .bool f5, .int .i64 f6, .int .i64 f7] 24)) x2).alloc (.cells #[.int .i64 0, .int .i64 0, .string ⟨#[]⟩, .bool false, .bool false, .int .i64 0, .int .i64 0] 24))) (by simp [size_plus]) fi_len (by omega) (y := ⟨y1, y2, y3, y4, y5, y6, y7⟩) (ST8.out.1.alloc ST8.out.1.size _) (hown.alloc _) hown' hgrow
          have ST9 : Aside (Below ((plus (w.alloc (.cells #[.int .i64 f1, .int .i64 f2, .string f3, .bool f4, .bool f5, .int .i64 f6, .int .i64 f7] 24)) x2).alloc (.cells #[.int .i64 0, .int .i64 0, .string ⟨#[]⟩, .bool false, .bool false, .int .i64 0, .int .i64 0] 24)).heap.size ((plus (w.alloc (.cells #[.int .i64 f1, .int .i64 f2, .string f3, .bool f4, .bool f5, .int .i64 f6, .int .i64 f7] 24)) x2).alloc (.cells #[.int .i64 0, .int .i64 0, .string ⟨#[]⟩, .bool false, .bool false, .int .i64 0, .int .i64 0] 24)) w9 ∧ w9.ownsRow (w.heap.size + 1 + x2.heap.size + 1) 24 7 (.slice ao9 (l.length + 1) cap9) (l.length + 1) (flatE Fi.enc (l ++ [(⟨y1, y2, y3, y4, y5, y6, y7⟩ : Fi)]))) := ⟨hb9, ho9⟩
          clear hown' hgrow hb9 ho9 hown
          clear l0 l1 l2 l3 l4 l5 l6
          go_wp2
          go_roundg (gk - 1)
          case measure => omega
          case rel => exact ⟨idx + 1, ao9, cap9, l ++ [(⟨y1, y2, y3, y4, y5, y6, y7⟩ : Fi)], true, by simp, by simp, rfl, by omega, by simp; omega, (fun h => by cases h), A2, by first | exact ST9 | simpa using ST9⟩
      · have hiz : ¬ (idx : Int) < (n : Int) := by omega
        have hin : idx = xs.length := by have := HL.out; omega
        by_cases hp : p < xs.length
        · have ed : dn = true := by rw [A.out.2]; exact decide_eq_true (by omega)
          subst ed
          have ER2 : Aside (r = (l, 0)) := by show _ = _; rw [ER.out, ← A.out.1, hin, mid_end_lt _ _ _ hp]
          have HBW : Aside (Below w.heap.size w wr) := by
            refine Below.trans (b := ((plus (w.alloc (.cells #[.int .i64 f1, .int .i64 f2, .string f3, .bool f4, .bool f5, .int .i64 f6, .int .i64 f7] 24)) x2).alloc (.cells #[.int .i64 0, .int .i64 0, .string ⟨#[]⟩, .bool false, .bool false, .int .i64 0, .int .i64 0] 24))) ?_ (ST.out.1.mono ?_)
            · repeat (first | (with_reducible exact Below.refl _ _) | (with_reducible assumption) | (with_reducible refine below_to_plus ?_ ?_ _) | (with_reducible refine below_holds ?_ ?_ _ _) | (with_reducible refine Below.alloc ?_ ?_ _) | (with_reducible refine Below.drew ?_) | (with_reducible refine below_drewN ?_ _) | (with_reducible refine Below.setCell ?_ ?_ _))
              all_goals first | omega | (simp; done) | (simp [go_sem]; done) | (simp [go_sem]; omega)
            · simp [size_plus]; omega
          clear A ER HC HP1 HP2 H
          go_wp2
          go_ret2
          refine ⟨ao', cap', ?_, .inr ?_, HBW.out⟩
          · rw [ER2.out]; rfl
          · rw [ER2.out]; exact own_lower ST.out.2 (by omega)
        · have hp2 : p = xs.length := by omega
          have ed : dn = false := by rw [A.out.2]; exact decide_eq_false (by omega)
          subst ed
          have ER2 : Aside (r = (l ++ [(⟨f1, f2, f3, f4, f5, f6, f7⟩ : Fi)], 0)) := by show _ = _; rw [ER.out, ← A.out.1, hin, mid_end_eq _ _ _ hp2]
          clear A ER HC HP1 HP2 H
          have hsw := ST.out.1.size
          simp [size_plus] at hsw
          have bf0 := (ST.out.1.cell (p := ⟨w.heap.size, 0, none⟩) (by first | (simp [size_plus]; done) | (simp [size_plus]; omega))).trans BX.out.1
          have bf1 := (ST.out.1.cell (p := ⟨w.heap.size, 1, none⟩) (by first | (simp [size_plus]; done) | (simp [size_plus]; omega))).trans BX.out.2.1
          have bf2 := (ST.out.1.cell (p := ⟨w.heap.size, 2, none⟩) (by first | (simp [size_plus]; done) | (simp [size_plus]; omega))).trans BX.out.2.2.1
          have bf3 := (ST.out.1.cell (p := ⟨w.heap.size, 3, none⟩) (by first | (simp [size_plus]; done) | (simp [size_plus]; omega))).trans BX.out.2.2.2.1
          have bf4 := (ST.out.1.cell (p := ⟨w.heap.size, 4, none⟩) (by first | (simp [size_plus]; done) | (simp [size_plus]; omega))).trans BX.out.2.2.2.2.1
          have bf5 := (ST.out.1.cell (p := ⟨w.heap.size, 5, none⟩) (by first | (simp [size_plus]; done) | (simp [size_plus]; omega))).trans BX.out.2.2.2.2.2.1
          have bf6 := (ST.out.1.cell (p := ⟨w.heap.size, 6, none⟩) (by first | (simp [size_plus]; done) | (simp [size_plus]; omega))).trans BX.out.2.2.2.2.2.2
          have hown := ST.out.2
          go_wp2_with (at_builtin; refine wpList_append_own _ rfl _ _ 22 rfl (w.heap.size + 1 + x2.heap.size + 1) 24 i0 _ 7 56 Try.underlying22 hi0 hz0 hs0 hb0 rfl (by omega) _ _ _ rfl (hown.alloc _) ⟨wr.heap.size, 0, none⟩ 1 1 [.int .i64 f1, .int .i64 f2, .string f3, .bool f4, .bool f5, .int .i64 f6, .int .i64 f7] rfl rfl (cells_new _ _ _ _ rfl) (fi_one ⟨f1, f2, f3, f4, f5, f6, f7⟩) (by unfold maxLen; omega) (by omega) (by first | (simp; omega) | (simp [size_plus]; omega)) ?_)
          intro v' w9 hown' hgrow _
          obtain ⟨ao9, cap9, rfl, hb9, ho9⟩ := app_stateB (U1 := ((plus (w.alloc (.cells #[.int .i64 f1, .int .i64 f2, .string f3, .bool f4, .bool f5, .int .i64 f6, .int .i64 f7] 24)) x2).alloc (.cells #[.int .i64 0, .int .i64 0, .string ⟨#[]⟩, .bool false, .bool false, .int .i64 0, .int .i64 0] 24))) (by simp [size_plus]) fi_len (by omega) (y := ⟨f1, f2, f3, f4, f5, f6, f7⟩) (ST.out.1.alloc ST.out.1.size _) (hown.alloc _) hown' hgrow
          have ST9 : Aside (Below ((plus (w.alloc (.cells #[.int .i64 f1, .int .i64 f2, .string f3, .bool f4, .bool f5, .int .i64 f6, .int .i64 f7] 24)) x2).alloc (.cells #[.int .i64 0, .int .i64 0, .string ⟨#[]⟩, .bool false, .bool false, .int .i64 0, .int .i64 0] 24)).heap.size ((plus (w.alloc (.cells #[.int .i64 f1, .int .i64 f2, .string f3, .bool f4, .bool f5, .int .i64 f6, .int .i64 f7] 24)) x2).alloc (.cells #[.int .i64 0, .int .i64 0, .string ⟨#[]⟩, .bool false, .bool false, .int .i64 0, .int .i64 0] 24)) w9 ∧ w9.ownsRow (w.heap.size + 1 + x2.heap.size + 1) 24 7 (.slice ao9 (l.length + 1) cap9) (l.length + 1) (flatE Fi.enc (l ++ [(⟨f1, f2, f3, f4, f5, f6, f7⟩ : Fi)]))) := ⟨hb9, ho9⟩
          clear hown' hgrow hb9 ho9 hown
          clear bf0 bf1 bf2 bf3 bf4 bf5 bf6
          have HBW : Aside (Below w.heap.size w w9) := by
            refine Below.trans (b := ((plus (w.alloc (.cells #[.int .i64 f1, .int .i64 f2, .string f3, .bool f4, .bool f5, .int .i64 f6, .int .i64 f7] 24)) x2).alloc (.cells #[.int .i64 0, .int .i64 0, .string ⟨#[]⟩, .bool false, .bool false, .int .i64 0, .int .i64 0] 24))) ?_ (ST9.out.1.mono ?_)
            · repeat (first | (with_reducible exact Below.refl _ _) | (with_reducible assumption) | (with_reducible refine below_to_plus ?_ ?_ _) | (with_reducible refine below_holds ?_ ?_ _ _) | (with_reducible refine Below.alloc ?_ ?_ _) | (with_reducible refine Below.drew ?_) | (with_reducible refine below_drewN ?_ _) | (with_reducible refine Below.setCell ?_ ?_ _))
              all_goals first | omega | (simp; done) | (simp [go_sem]; done) | (simp [go_sem]; omega)
            · simp [size_plus]; omega
          go_wp2
          go_ret2
          refine ⟨ao9, cap9, ?_, .inr ?_, HBW.out⟩
          · rw [ER2.out]
            show _ = Ending.returned (.tuple #[.slice ao9 (l ++ [(⟨f1, f2, f3, f4, f5, f6, f7⟩ : Fi)]).length cap9, .int .i64 0])
            rw [List.length_append]; rfl
          · rw [ER2.out]
            show World.ownsRow _ _ _ _ (.slice ao9 (l ++ [(⟨f1, f2, f3, f4, f5, f6, f7⟩ : Fi)]).length cap9) (l ++ [(⟨f1, f2, f3, f4, f5, f6, f7⟩ : Fi)]).length (flatE Fi.enc (l ++ [(⟨f1, f2, f3, f4, f5, f6, f7⟩ : Fi)]))
            rw [List.length_append]
            exact own_lower ST9.out.2 (by omega)
  · have efd : fdF f1 xs = (xs[plF f1 xs]!, true) := by unfold fdF; rw [e1, if_neg (by omega)]
    have er : r = (xs, 14) := by rw [HD.out, hv, if_neg (by simp), if_pos (by omega)]
    subst er
    rw [efd] at c1
    generalize xs[plF f1 xs]! = d at c1
    obtain ⟨d1, d2, d3, d4, d5, d6, d7⟩ := d
    have c1 : ∀ U, Below w.heap.size w U → Calls Try.prog 21 #[.slice ao n cap, .int .i64 f1] U fun e w' => e = .returned (.tuple #[.agg #[.int .i64 d1, .int .i64 d2, .string d3, .bool d4, .bool d5, .int .i64 d6, .int .i64 d7], .bool true]) ∧ Below U.heap.size U w' := c1
    clear HD hv e1 efd h1 h2
    go_enter Try.func12, Try.ntmps12
    go_wp2_with fail
    refine (cv _).mono ?_
    rintro e w2 ⟨rfl, hb⟩
    obtain ⟨x1, rfl⟩ := plus_of_below hb
    clear hb
    clear cv
    go_wp2_with fail
    refine (c1 _ (by
      repeat (first | (with_reducible exact Below.refl _ _) | (with_reducible assumption) | (with_reducible refine below_to_plus ?_ ?_ _) | (with_reducible refine below_holds ?_ ?_ _ _) | (with_reducible refine Below.alloc ?_ ?_ _) | (with_reducible refine Below.drew ?_) | (with_reducible refine below_drewN ?_ _) | (with_reducible refine Below.setCell ?_ ?_ _))
      all_goals first | omega | (simp; done) | (simp [go_sem]; done) | (simp [go_sem]; omega))).mono ?_
    rintro e w2 ⟨rfl, hb⟩
    obtain ⟨x2, rfl⟩ := plus_next hb
    clear hb
    clear c1
    go_wp2
    go_ret2
    refine ⟨ao, cap, ?_, .inl ⟨rfl, rfl, rfl⟩, ?_⟩
    · show _ = Ending.returned (.tuple #[.slice ao xs.length cap, .int .i64 14])
      rw [HL.out]
      rfl
    · repeat (first | (with_reducible exact Below.refl _ _) | (with_reducible assumption) | (with_reducible refine below_to_plus ?_ ?_ _) | (with_reducible refine below_holds ?_ ?_ _ _) | (with_reducible refine Below.alloc ?_ ?_ _) | (with_reducible refine Below.drew ?_) | (with_reducible refine below_drewN ?_ _) | (with_reducible refine Below.setCell ?_ ?_ _))
      all_goals first | omega | (simp; done) | (simp [go_sem]; done) | (simp [go_sem]; omega)

end Go.Proofs.Ytjnfllcbkkcfiaa
