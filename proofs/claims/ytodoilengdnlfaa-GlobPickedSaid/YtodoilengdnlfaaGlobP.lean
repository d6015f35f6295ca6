/- This text says in plain Lean which names Pick returns: those that match and are shown, in strictly ascending order; that the sorted and compacted names are the same. It has no conditions. -/
import Derived.Test.YtodoilengdnlfaaGlobO
import Derived.Sort.OwnSorted
import Derived.Sort.Walk0
import Derived.Lib.RowBridge
namespace Go.Proofs.Ytodoilengdnlfaa
open Go.ChangeShapes Go.WideShapes Go.ChangeAt Go.RowKit Go.Sort
set_option linter.unusedVariables false
set_option linter.unusedSimpArgs false

theorem ltS_tr {a b c : List UInt8} (h1 : a < b) (h2 : b < c) : a < c := List.lt_trans h1 h2
theorem ltS_ir (a : List UInt8) : ¬ a < a := List.lt_irrefl a
theorem ltS_of {a b : List UInt8} (h1 : ¬ b < a) (h2 : a ≠ b) : a < b := by
  by_cases h : a < b
  · exact h
  · exact absurd (List.le_antisymm h1 h) h2
theorem asc_extS : ∀ (al bl : List (List UInt8)), al.Pairwise (· < ·) → bl.Pairwise (· < ·) → (∀ z, z ∈ al ↔ z ∈ bl) → al = bl
  | [], [], _, _, _ => rfl
  | [], b :: bl, _, _, h => absurd ((h b).2 List.mem_cons_self) List.not_mem_nil
  | a :: al, [], _, _, h => absurd ((h a).1 List.mem_cons_self) List.not_mem_nil
  | a :: al, b :: bl, ha, hb, h => by
    rw [List.pairwise_cons] at ha hb
    have e : a = b := by
      rcases List.mem_cons.1 ((h a).1 List.mem_cons_self) with e | h1
      · exact e
      rcases List.mem_cons.1 ((h b).2 List.mem_cons_self) with e | h2
      · exact e.symm
      exact absurd (ltS_tr (ha.1 b h2) (hb.1 a h1)) (ltS_ir a)
    subst e
    congr 1
    refine asc_extS al bl ha.2 hb.2 (fun z => ⟨fun hz => ?_, fun hz => ?_⟩)
    · rcases List.mem_cons.1 ((h z).1 (List.mem_cons_of_mem _ hz)) with e | h1
      · exact absurd (ha.1 z hz) (by rw [e]; exact ltS_ir a)
      · exact h1
    · rcases List.mem_cons.1 ((h z).2 (List.mem_cons_of_mem _ hz)) with e | h1
      · exact absurd (hb.1 z hz) (by rw [e]; exact ltS_ir a)
      · exact h1
theorem compact_memS (zs : List (List UInt8)) (z : List UInt8) : z ∈ Lib.compact zs ↔ z ∈ zs := by
  unfold Lib.compact Lib.compactUpTo
  simp only [List.mem_map, List.mem_filter, List.mem_range]
  constructor
  · rintro ⟨j, ⟨hj, _⟩, rfl⟩
    rw [getElem!_pos zs.toArray j (by simpa using hj)]
    simp
  · intro hz
    obtain ⟨j, hj, rfl⟩ := List.getElem_of_mem hz
    have key : ∀ j, j < zs.length → ∃ i, i < zs.length ∧ Lib.keeps zs.toArray i = true ∧ zs.toArray[i]! = zs.toArray[j]! := by
      intro j
      induction j with
      | zero => intro hj; exact ⟨0, hj, by simp [Lib.keeps], rfl⟩
      | succ j ih =>
        intro hj
        by_cases e : zs.toArray[j + 1]! = zs.toArray[j]!
        · obtain ⟨i, h1, h2, h3⟩ := ih (by omega)
          exact ⟨i, h1, h2, by rw [h3, e]⟩
        · exact ⟨j + 1, hj, Lib.keeps_pos e, rfl⟩
    obtain ⟨i, h1, h2, h3⟩ := key j hj
    exact ⟨i, ⟨h1, h2⟩, by rw [h3, getElem!_pos zs.toArray j (by simpa using hj)]; simp⟩
theorem compact_ascS (zs : List (List UInt8)) (hs : zs.Pairwise (fun a b => ¬ b < a)) : (Lib.compact zs).Pairwise (· < ·) := by
  unfold Lib.compact Lib.compactUpTo
  rw [List.pairwise_map]
  have h1 : ((List.range zs.length).filter (Lib.keeps zs.toArray)).Pairwise (fun i j => i < j) := List.Pairwise.filter _ List.pairwise_lt_range
  refine List.Pairwise.imp_of_mem ?_ h1
  intro i j hi hj hij
  simp only [List.mem_filter, List.mem_range] at hi hj
  have hk := hj.2
  simp only [Lib.keeps, decide_eq_true_eq] at hk
  have hle : ∀ a b, a ≤ b → b < zs.length → ¬ zs.toArray[b]! < zs.toArray[a]! := by
    intro a b hab hb
    by_cases e : a = b
    · subst e; exact ltS_ir _
    · have := List.pairwise_iff_getElem.1 hs a b (by omega) hb (by omega)
      rw [getElem!_pos zs.toArray a (by simp; omega), getElem!_pos zs.toArray b (by simpa using hb)]
      simpa using this
  have a1 := hle i (j - 1) (by omega) (by omega)
  have a2 := hle (j - 1) j (by omega) hj.1
  rcases hk with hk | hk
  · omega
  · have a3 := ltS_of a2 (fun e => hk e.symm)
    by_cases e : zs.toArray[i]! = zs.toArray[j - 1]!
    · rw [e]; exact a3
    · exact ltS_tr (ltS_of a1 e) a3
theorem compact_leS (zs : List (List UInt8)) : (Lib.compact zs).length ≤ zs.length := by
  unfold Lib.compact Lib.compactUpTo
  rw [List.length_map]
  exact Nat.le_trans (List.length_filter_le _ _) (by simp)
def sortS (zs : List (List UInt8)) : List (List UInt8) := zs.mergeSort fun x y => decide (x ≤ y)
theorem sortS_asc (zs : List (List UInt8)) : (sortS zs).Pairwise (fun a b => ¬ b < a) := by
  have := List.pairwise_mergeSort (le := fun x y : List UInt8 => decide (x ≤ y)) (fun a b c h1 h2 => by
    rw [decide_eq_true_eq] at *
    exact List.le_trans h1 h2) (fun a b => by
    rw [Bool.or_eq_true, decide_eq_true_eq, decide_eq_true_eq]
    exact List.le_total a b) zs
  exact this.imp (fun h => by rw [decide_eq_true_eq] at h; exact h)
theorem sortS_len (zs : List (List UInt8)) : (sortS zs).length = zs.length := List.length_mergeSort _

/-- The bytes of a name. -/
def dl (s : ByteArray) : List UInt8 := s.data.toList
theorem dl_inj {a b : ByteArray} (h : dl a = dl b) : a = b := bytes_inj h
theorem toL (s : ByteArray) : s.toList = dl s := Lib.toList_data s
theorem ltB_iff (a b : ByteArray) : ltB a b = true ↔ ¬ dl b < dl a := by
  unfold ltB
  rw [bytesLess_eq, toL, toL, Bool.not_eq_true', decide_eq_false_iff_not]
def ins (t : ByteArray) : List ByteArray → List ByteArray
  | [] => [t]
  | y :: ys => if ltB t y then t :: y :: ys else y :: ins t ys
theorem insF_true (t : ByteArray) : ∀ (xs o : List ByteArray), xs.foldl (insStep t) (o, true) = (o ++ xs, true)
  | [], o => by simp
  | y :: ys, o => by
    rw [List.foldl_cons, show insStep t (o, true) y = (o ++ [y], true) from rfl, insF_true t ys]
    simp
theorem insF_ins (t : ByteArray) : ∀ (xs o : List ByteArray), (if (xs.foldl (insStep t) (o, false)).2 then (xs.foldl (insStep t) (o, false)).1 else (xs.foldl (insStep t) (o, false)).1 ++ [t]) = o ++ ins t xs
  | [], o => rfl
  | y :: ys, o => by
    rw [List.foldl_cons]
    unfold ins
    by_cases h : ltB t y = true
    · rw [show insStep t (o, false) y = (o ++ [t] ++ [y], true) from by unfold insStep; rw [h]; rfl, insF_true, if_pos h]
      simp
    · rw [show insStep t (o, false) y = (o ++ [y], false) from by unfold insStep; rw [if_neg (by simpa using h)], if_neg h, insF_ins t ys]
      simp
theorem insB_eq (t : ByteArray) (xs : List ByteArray) : insB t xs = if inB t xs then xs else ins t xs := by
  unfold insB
  split
  · rfl
  · have := insF_ins t xs []
    rw [List.nil_append] at this
    exact this
theorem mem_ins (t z : ByteArray) : ∀ xs, z ∈ ins t xs ↔ z = t ∨ z ∈ xs
  | [] => by simp [ins]
  | y :: ys => by
    unfold ins
    split
    · simp
    · rw [List.mem_cons, mem_ins t z ys, List.mem_cons]
      constructor
      · rintro (h | h | h)
        · exact .inr (.inl h)
        · exact .inl h
        · exact .inr (.inr h)
      · rintro (h | h | h)
        · exact .inr (.inl h)
        · exact .inl h
        · exact .inr (.inr h)
theorem mem_insB (t z : ByteArray) (xs : List ByteArray) : z ∈ insB t xs ↔ z = t ∨ z ∈ xs := by
  rw [insB_eq]
  split
  · rename_i h
    have := inB_iff.1 h
    exact ⟨.inr, fun h => h.elim (fun e => e ▸ this) id⟩
  · exact mem_ins t z xs
def AscB (xs : List ByteArray) : Prop := xs.Pairwise (fun a b => dl a < dl b)
theorem asc_ins (t : ByteArray) : ∀ xs, AscB xs → t ∉ xs → AscB (ins t xs)
  | [], _, _ => List.pairwise_singleton _ _
  | y :: ys, h, ht => by
    unfold AscB at h
    rw [List.pairwise_cons] at h
    unfold ins
    split
    · rename_i hl
      rw [ltB_iff] at hl
      have h1 : dl t < dl y := ltS_of hl (fun e => ht (by rw [dl_inj e]; exact List.mem_cons_self))
      unfold AscB
      rw [List.pairwise_cons, List.pairwise_cons]
      refine ⟨fun z hz => ?_, h.1, h.2⟩
      rcases List.mem_cons.1 hz with rfl | hz
      · exact h1
      · exact ltS_tr h1 (h.1 z hz)
    · rename_i hl
      rw [ltB_iff] at hl
      have h1 : dl y < dl t := by
        by_cases e : dl y < dl t
        · exact e
        · exact absurd e hl
      unfold AscB
      rw [List.pairwise_cons]
      refine ⟨fun z hz => ?_, asc_ins t ys h.2 (fun e => ht (List.mem_cons_of_mem _ e))⟩
      rcases (mem_ins t z ys).1 hz with rfl | hz
      · exact h1
      · exact h.1 z hz
theorem asc_insB (t : ByteArray) (xs : List ByteArray) (h : AscB xs) : AscB (insB t xs) := by
  rw [insB_eq]
  split
  · exact h
  · rename_i hn
    exact asc_ins t xs h (fun e => hn (inB_iff.2 e))
theorem pick_all (p q : ByteArray) : ∀ (xs l : List ByteArray), AscB l → AscB (xs.foldl (pickStep p q) l) ∧ ∀ z, z ∈ xs.foldl (pickStep p q) l ↔ z ∈ l ∨ (z ∈ xs ∧ shownB p q z = true)
  | [], l, h => ⟨h, fun z => by simp⟩
  | y :: ys, l, h => by
    rw [List.foldl_cons]
    by_cases hy : shownB p q y = true
    · rw [show pickStep p q l y = insB y l from by unfold pickStep; rw [if_pos hy]]
      obtain ⟨h1, h2⟩ := pick_all p q ys (insB y l) (asc_insB y l h)
      refine ⟨h1, fun z => ?_⟩
      rw [h2, mem_insB, List.mem_cons]
      constructor
      · rintro ((rfl | h3) | ⟨h3, h4⟩)
        · exact .inr ⟨.inl rfl, hy⟩
        · exact .inl h3
        · exact .inr ⟨.inr h3, h4⟩
      · rintro (h3 | ⟨rfl | h3, h4⟩)
        · exact .inl (.inr h3)
        · exact .inl (.inl rfl)
        · exact .inr ⟨h3, h4⟩
    · rw [show pickStep p q l y = l from by unfold pickStep; rw [if_neg hy]]
      obtain ⟨h1, h2⟩ := pick_all p q ys l h
      refine ⟨h1, fun z => ?_⟩
      rw [h2, List.mem_cons]
      constructor
      · rintro (h3 | ⟨h3, h4⟩)
        · exact .inl h3
        · exact .inr ⟨.inr h3, h4⟩
      · rintro (h3 | ⟨rfl | h3, h4⟩)
        · exact .inl h3
        · exact absurd h4 hy
        · exact .inr ⟨h3, h4⟩
theorem pick_asc (p q : ByteArray) (xs : List ByteArray) : AscB (pickL p q xs) := (pick_all p q xs [] List.Pairwise.nil).1
theorem pick_mem (p q : ByteArray) (xs : List ByteArray) (z : ByteArray) : z ∈ pickL p q xs ↔ z ∈ xs ∧ shownB p q z = true := by
  have := (pick_all p q xs [] List.Pairwise.nil).2 z
  exact this.trans ⟨fun h => h.elim (fun h => absurd h List.not_mem_nil) id, .inr⟩
/-- The names that are shown, sorted and compacted. -/
theorem pick_eq (p q : ByteArray) (xs : List ByteArray) : Lib.compact (sortS ((xs.filter (shownB p q)).map dl)) = (pickL p q xs).map dl := by
  refine asc_extS _ _ (compact_ascS _ (sortS_asc _)) (by rw [List.pairwise_map]; exact pick_asc p q xs) (fun z => ?_)
  rw [compact_memS, show z ∈ sortS _ ↔ _ from List.mem_mergeSort, List.mem_map, List.mem_map]
  constructor
  · rintro ⟨y, h1, h2⟩
    rw [List.mem_filter] at h1
    exact ⟨y, (pick_mem p q xs y).2 h1, h2⟩
  · rintro ⟨y, h1, h2⟩
    exact ⟨y, by rw [List.mem_filter]; exact (pick_mem p q xs y).1 h1, h2⟩
theorem pick_len (p q : ByteArray) (xs : List ByteArray) : (pickL p q xs).length ≤ xs.length := by
  have h := congrArg List.length (pick_eq p q xs)
  rw [List.length_map] at h
  rw [← h]
  refine Nat.le_trans (compact_leS _) ?_
  rw [sortS_len, List.length_map]
  exact List.length_filter_le _ _

end Go.Proofs.Ytodoilengdnlfaa
