/- This text proves the walks of Add, Set and Uses of package fids. Conditions: those that each theorem names. -/
import Derived.Test.YtjnfllcbkkcfiaaFidsD
namespace Go.Proofs.Ytjnfllcbkkcfiaa
open Go.ChangeShapes Go.WideShapes Go.ChangeAt Go.RowKit
set_option linter.unusedVariables false
set_option linter.unusedSimpArgs false

theorem own_later {w w' : World} {B : Nat} {E : TypeId} {k : Nat} {v : Value} {n : Nat} {l : List Value} (h : w.ownsRow B E k v n l) (hb : Below w.heap.size w w') : w'.ownsRow B E k v n l := by
  obtain ⟨x, rfl⟩ := plus_of_below hb
  exact own_plus h
theorem putAll_toList (vs : List Value) (c : Array Value) (o : Nat) (h : o + vs.length ≤ c.size) : (putAll c o vs).toList = c.toList.take o ++ vs ++ c.toList.drop (o + vs.length) := by
  rw [← List.take_append_drop (o + vs.length) (putAll c o vs).toList, putAll_take vs c o h]
  congr 1
  apply List.ext_getElem?
  intro k
  rw [List.getElem?_drop, List.getElem?_drop, Array.getElem?_toList, putAll_get _ _ _ _ h, if_neg (by omega), Array.getElem?_toList]
theorem put_setE {α : Type} {enc : α → List Value} {k : Nat} (hk : ∀ x, (enc x).length = k) (xs : List α) (y : α) (j n : Nat) (c : Array Value) (hl : xs.length = n) (hj : j < n) (hc : n * k ≤ c.size) (ht : c.toList.take (n * k) = flatE enc xs) : (putAll c (j * k) (enc y)).toList.take (n * k) = flatE enc (xs.set j y) := by
  have hjk : j * k + k ≤ n * k := by have : (j + 1) * k ≤ n * k := Nat.mul_le_mul_right _ (by omega); rw [Nat.add_mul] at this; omega
  have e1 : j * k + (enc y).length = (j + 1) * k := by rw [hk, Nat.add_mul]; omega
  rw [putAll_toList _ _ _ (by rw [hk]; omega), List.set_eq_take_append_cons_drop, if_pos (by omega), flatE_append, flatE_cons, flatE_take hk, flatE_drop hk, ← ht, e1]
  rw [List.take_append, List.take_append, List.take_take, List.drop_take, List.take_take]
  have l1 : (c.toList.take (j * k)).length = j * k := by simp; omega
  rw [l1, Nat.min_eq_right (by omega), Nat.min_eq_left (by omega), List.take_of_length_le (l := enc y) (by rw [hk]; omega), List.length_append, l1, e1, List.append_assoc]

/-- What Add and Set return: the table, the error. -/
def addF (f : Fi) (xs : List Fi) : List Fi × Int := if vB f = false then (xs, 5) else if 0 ≤ ixF f.num xs then (xs, 14) else if 256 ≤ xs.length then (xs, 22) else (xs.take (plF f.num xs) ++ f :: xs.drop (plF f.num xs), 0)
def setF (f : Fi) (xs : List Fi) : List Fi × Int := if ixF f.num xs < 0 then (xs, 13) else if vB f = false then (xs, 5) else (xs.set (plF f.num xs) f, 0)

set_option maxRecDepth 100000 in
set_option maxHeartbeats 4000000 in
theorem add_calls (f1 f2 : Int) (f3 : ByteArray) (f4 f5 : Bool) (f6 f7 : Int) (ao : Option Addr) (n cap : Nat) (xs : List Fi) (w : World) (h : Sl w 7 ao n cap (xs.map Fi.enc)) (hn : n ≤ 1000) :
    Calls Try.prog 11 #[.slice ao n cap, .agg #[.int .i64 f1, .int .i64 f2, .string f3, .bool f4, .bool f5, .int .i64 f6, .int .i64 f7]] w fun e w' => OwnPost w (addF ⟨f1, f2, f3, f4, f5, f6, f7⟩ xs) e w' := by
  have HL : Aside (xs.length = n) := Sl.lenE h
  have hb0 : Below w.heap.size w (w.alloc (.cells #[.int .i64 f1, .int .i64 f2, .string f3, .bool f4, .bool f5, .int .i64 f6, .int .i64 f7] 24)) := by
    repeat (first | (with_reducible exact Below.refl _ _) | (with_reducible assumption) | (with_reducible refine below_to_plus ?_ ?_ _) | (with_reducible refine below_holds ?_ ?_ _ _) | (with_reducible refine Below.alloc ?_ ?_ _) | (with_reducible refine Below.drew ?_) | (with_reducible refine below_drewN ?_ _) | (with_reducible refine Below.setCell ?_ ?_ _))
    all_goals first | omega | (simp; done) | (simp [go_sem]; done) | (simp [go_sem]; omega)
  have c0 := fiClone_calls ao n cap xs (w.alloc (.cells #[.int .i64 f1, .int .i64 f2, .string f3, .bool f4, .bool f5, .int .i64 f6, .int .i64 f7] 24)) (h.stays hb0) (by omega)
  have c1 : ∀ U, Below w.heap.size w U → Calls Try.prog 28 #[.slice ao n cap, .int .i64 f1] U fun e w' => e = .returned (.int .i64 (ixF f1 xs)) ∧ Below U.heap.size U w' := fun U hU => index_calls f1 ao n cap xs U (h.stays hU)
  have c2 : ∀ U, Below w.heap.size w U → Calls Try.prog 30 #[.slice ao n cap, .int .i64 f1] U fun e w' => e = .returned (.int .i64 (plF f1 xs : Nat)) ∧ w' = U := fun U hU => place_still f1 ao n cap xs U (h.stays hU)
  have cv := fun U => valid_calls f1 f2 f3 f4 f5 f6 f7 U
  have hsp := ixF_spec f1 xs
  clear h hb0
  have hple := plF_le f1 xs
  have HD : Aside (addF ⟨f1, f2, f3, f4, f5, f6, f7⟩ xs = if vB ⟨f1, f2, f3, f4, f5, f6, f7⟩ = false then (xs, 5) else if 0 ≤ ixF f1 xs then (xs, 14) else if 256 ≤ xs.length then (xs, 22) else (xs.take (plF f1 xs) ++ ⟨f1, f2, f3, f4, f5, f6, f7⟩ :: xs.drop (plF f1 xs), 0)) := rfl
  generalize addF ⟨f1, f2, f3, f4, f5, f6, f7⟩ xs = r at HD ⊢
  cases hv : vB ⟨f1, f2, f3, f4, f5, f6, f7⟩ with
  | false =>
    have er : r = (xs, 5) := by rw [HD.out, hv]; rfl
    subst er
    rw [hv] at cv
    clear HD hv hsp c2
    go_enter Try.func11, Try.ntmps11
    go_wp2_with fail
    refine c0.mono ?_
    rintro e w1 ⟨v', rfl, hown, hb⟩
    obtain ⟨x, rfl⟩ := plus_of_below hb
    have HO : Aside ((plus (w.alloc (.cells #[.int .i64 f1, .int .i64 f2, .string f3, .bool f4, .bool f5, .int .i64 f6, .int .i64 f7] 24)) x).ownsRow (w.alloc (.cells #[.int .i64 f1, .int .i64 f2, .string f3, .bool f4, .bool f5, .int .i64 f6, .int .i64 f7] 24)).heap.size 24 7 v' n (flatE Fi.enc xs)) := hown
    clear hown hb c0
    go_wp2_with fail
    refine (cv _).mono ?_
    rintro e w2 ⟨rfl, hb⟩
    have HO2 : Aside (w2.ownsRow (w.alloc (.cells #[.int .i64 f1, .int .i64 f2, .string f3, .bool f4, .bool f5, .int .i64 f6, .int .i64 f7] 24)).heap.size 24 7 v' n (flatE Fi.enc xs)) := own_later HO.out hb
    obtain ⟨x2, rfl⟩ := plus_next hb
    clear hb HO
    have HO : Aside ((plus (w.alloc (.cells #[.int .i64 f1, .int .i64 f2, .string f3, .bool f4, .bool f5, .int .i64 f6, .int .i64 f7] 24)) x2).ownsRow (w.alloc (.cells #[.int .i64 f1, .int .i64 f2, .string f3, .bool f4, .bool f5, .int .i64 f6, .int .i64 f7] 24)).heap.size 24 7 v' n (flatE Fi.enc xs)) := HO2.out
    clear HO2
    obtain ⟨a9, c9, hv9, _⟩ := ownE_sl fi_len (by omega) HO.out
    subst hv9
    clear c1 cv
    go_wp2
    go_ret2
    refine ⟨a9, c9, ?_, ?_, ?_⟩
    · show _ = Ending.returned (.tuple #[.slice a9 xs.length c9, .int .i64 5])
      rw [HL.out]
      rfl
    · show World.ownsRow _ _ _ _ (.slice a9 xs.length c9) xs.length (flatE Fi.enc xs)
      rw [HL.out]; exact own_lower HO.out (by simp)
    · repeat (first | (with_reducible exact Below.refl _ _) | (with_reducible assumption) | (with_reducible refine below_to_plus ?_ ?_ _) | (with_reducible refine below_holds ?_ ?_ _ _) | (with_reducible refine Below.alloc ?_ ?_ _) | (with_reducible refine Below.drew ?_) | (with_reducible refine below_drewN ?_ _) | (with_reducible refine Below.setCell ?_ ?_ _))
      all_goals first | omega | (simp; done) | (simp [go_sem]; done) | (simp [go_sem]; omega)
  | true =>
  rw [hv] at cv
  by_cases hix : 0 ≤ ixF f1 xs
  · have er : r = (xs, 14) := by rw [HD.out, hv, if_neg (by simp), if_pos hix]
    subst er
    generalize ixF f1 xs = i at c1 hix
    clear HD hv hsp c2
    go_enter Try.func11, Try.ntmps11
    go_wp2_with fail
    refine c0.mono ?_
    rintro e w1 ⟨v', rfl, hown, hb⟩
    obtain ⟨x, rfl⟩ := plus_of_below hb
    have HO : Aside ((plus (w.alloc (.cells #[.int .i64 f1, .int .i64 f2, .string f3, .bool f4, .bool f5, .int .i64 f6, .int .i64 f7] 24)) x).ownsRow (w.alloc (.cells #[.int .i64 f1, .int .i64 f2, .string f3, .bool f4, .bool f5, .int .i64 f6, .int .i64 f7] 24)).heap.size 24 7 v' n (flatE Fi.enc xs)) := hown
    clear hown hb c0
    go_wp2_with fail
    refine (cv _).mono ?_
    rintro e w2 ⟨rfl, hb⟩
    have HO2 : Aside (w2.ownsRow (w.alloc (.cells #[.int .i64 f1, .int .i64 f2, .string f3, .bool f4, .bool f5, .int .i64 f6, .int .i64 f7] 24)).heap.size 24 7 v' n (flatE Fi.enc xs)) := own_later HO.out hb
    obtain ⟨x2, rfl⟩ := plus_next hb
    clear hb HO
    have HO : Aside ((plus (w.alloc (.cells #[.int .i64 f1, .int .i64 f2, .string f3, .bool f4, .bool f5, .int .i64 f6, .int .i64 f7] 24)) x2).ownsRow (w.alloc (.cells #[.int .i64 f1, .int .i64 f2, .string f3, .bool f4, .bool f5, .int .i64 f6, .int .i64 f7] 24)).heap.size 24 7 v' n (flatE Fi.enc xs)) := HO2.out
    clear HO2
    go_wp2_with fail
    refine (c1 _ (by
      repeat (first | (with_reducible exact Below.refl _ _) | (with_reducible assumption) | (with_reducible refine below_to_plus ?_ ?_ _) | (with_reducible refine below_holds ?_ ?_ _ _) | (with_reducible refine Below.alloc ?_ ?_ _) | (with_reducible refine Below.drew ?_) | (with_reducible refine below_drewN ?_ _) | (with_reducible refine Below.setCell ?_ ?_ _))
      all_goals first | omega | (simp; done) | (simp [go_sem]; done) | (simp [go_sem]; omega))).mono ?_
    rintro e w2 ⟨rfl, hb⟩
    have HO2 : Aside (w2.ownsRow (w.alloc (.cells #[.int .i64 f1, .int .i64 f2, .string f3, .bool f4, .bool f5, .int .i64 f6, .int .i64 f7] 24)).heap.size 24 7 v' n (flatE Fi.enc xs)) := own_later HO.out hb
    obtain ⟨x3, rfl⟩ := plus_next hb
    clear hb HO
    have HO : Aside ((plus (w.alloc (.cells #[.int .i64 f1, .int .i64 f2, .string f3, .bool f4, .bool f5, .int .i64 f6, .int .i64 f7] 24)) x3).ownsRow (w.alloc (.cells #[.int .i64 f1, .int .i64 f2, .string f3, .bool f4, .bool f5, .int .i64 f6, .int .i64 f7] 24)).heap.size 24 7 v' n (flatE Fi.enc xs)) := HO2.out
    clear HO2
    obtain ⟨a9, c9, hv9, _⟩ := ownE_sl fi_len (by omega) HO.out
    subst hv9
    clear c1 cv
    go_wp2
    go_ret2
    refine ⟨a9, c9, ?_, ?_, ?_⟩
    · show _ = Ending.returned (.tuple #[.slice a9 xs.length c9, .int .i64 14])
      rw [HL.out]
      rfl
    · show World.ownsRow _ _ _ _ (.slice a9 xs.length c9) xs.length (flatE Fi.enc xs)
      rw [HL.out]; exact own_lower HO.out (by simp)
    · repeat (first | (with_reducible exact Below.refl _ _) | (with_reducible assumption) | (with_reducible refine below_to_plus ?_ ?_ _) | (with_reducible refine below_holds ?_ ?_ _ _) | (with_reducible refine Below.alloc ?_ ?_ _) | (with_reducible refine Below.drew ?_) | (with_reducible refine below_drewN ?_ _) | (with_reducible refine Below.setCell ?_ ?_ _))
      all_goals first | omega | (simp; done) | (simp [go_sem]; done) | (simp [go_sem]; omega)
  have hin : ixF f1 xs = -1 := by rcases hsp with e | ⟨_, _, e⟩ <;> omega
  by_cases hfl : 256 ≤ n
  · have er : r = (xs, 22) := by rw [HD.out, hv, if_neg (by simp), if_neg hix, if_pos (by have := HL.out; omega)]
    subst er
    have hfz : (256 : Int) ≤ (n : Int) := by omega
    rw [hin] at c1
    clear HD hv hsp c2 hix hin
    go_enter Try.func11, Try.ntmps11
    go_wp2_with fail
    refine c0.mono ?_
    rintro e w1 ⟨v', rfl, hown, hb⟩
    obtain ⟨x, rfl⟩ := plus_of_below hb
    have HO : Aside ((plus (w.alloc (.cells #[.int .i64 f1, .int .i64 f2, .string f3, .bool f4, .bool f5, .int .i64 f6, .int .i64 f7] 24)) x).ownsRow (w.alloc (.cells #[.int .i64 f1, .int .i64 f2, .string f3, .bool f4, .bool f5, .int .i64 f6, .int .i64 f7] 24)).heap.size 24 7 v' n (flatE Fi.enc xs)) := hown
    clear hown hb c0
    go_wp2_with fail
    refine (cv _).mono ?_
    rintro e w2 ⟨rfl, hb⟩
    have HO2 : Aside (w2.ownsRow (w.alloc (.cells #[.int .i64 f1, .int .i64 f2, .string f3, .bool f4, .bool f5, .int .i64 f6, .int .i64 f7] 24)).heap.size 24 7 v' n (flatE Fi.enc xs)) := own_later HO.out hb
    obtain ⟨x2, rfl⟩ := plus_next hb
    clear hb HO
    have HO : Aside ((plus (w.alloc (.cells #[.int .i64 f1, .int .i64 f2, .string f3, .bool f4, .bool f5, .int .i64 f6, .int .i64 f7] 24)) x2).ownsRow (w.alloc (.cells #[.int .i64 f1, .int .i64 f2, .string f3, .bool f4, .bool f5, .int .i64 f6, .int .i64 f7] 24)).heap.size 24 7 v' n (flatE Fi.enc xs)) := HO2.out
    clear HO2
    go_wp2_with fail
    refine (c1 _ (by
      repeat (first | (with_reducible exact Below.refl _ _) | (with_reducible assumption) | (with_reducible refine below_to_plus ?_ ?_ _) | (with_reducible refine below_holds ?_ ?_ _ _) | (with_reducible refine Below.alloc ?_ ?_ _) | (with_reducible refine Below.drew ?_) | (with_reducible refine below_drewN ?_ _) | (with_reducible refine Below.setCell ?_ ?_ _))
      all_goals first | omega | (simp; done) | (simp [go_sem]; done) | (simp [go_sem]; omega))).mono ?_
    rintro e w2 ⟨rfl, hb⟩
    have HO2 : Aside (w2.ownsRow (w.alloc (.cells #[.int .i64 f1, .int .i64 f2, .string f3, .bool f4, .bool f5, .int .i64 f6, .int .i64 f7] 24)).heap.size 24 7 v' n (flatE Fi.enc xs)) := own_later HO.out hb
    obtain ⟨x3, rfl⟩ := plus_next hb
    clear hb HO
    have HO : Aside ((plus (w.alloc (.cells #[.int .i64 f1, .int .i64 f2, .string f3, .bool f4, .bool f5, .int .i64 f6, .int .i64 f7] 24)) x3).ownsRow (w.alloc (.cells #[.int .i64 f1, .int .i64 f2, .string f3, .bool f4, .bool f5, .int .i64 f6, .int .i64 f7] 24)).heap.size 24 7 v' n (flatE Fi.enc xs)) := HO2.out
    clear HO2
    obtain ⟨a9, c9, hv9, _⟩ := ownE_sl fi_len (by omega) HO.out
    subst hv9
    clear c1 cv
    go_wp2
    go_ret2
    refine ⟨a9, c9, ?_, ?_, ?_⟩
    · show _ = Ending.returned (.tuple #[.slice a9 xs.length c9, .int .i64 22])
      rw [HL.out]
      rfl
    · show World.ownsRow _ _ _ _ (.slice a9 xs.length c9) xs.length (flatE Fi.enc xs)
      rw [HL.out]; exact own_lower HO.out (by simp)
    · repeat (first | (with_reducible exact Below.refl _ _) | (with_reducible assumption) | (with_reducible refine below_to_plus ?_ ?_ _) | (with_reducible refine below_holds ?_ ?_ _ _) | (with_reducible refine Below.alloc ?_ ?_ _) | (with_reducible refine Below.drew ?_) | (with_reducible refine below_drewN ?_ _) | (with_reducible refine Below.setCell ?_ ?_ _))
      all_goals first | omega | (simp; done) | (simp [go_sem]; done) | (simp [go_sem]; omega)
  have er : r = (xs.take (plF f1 xs) ++ ⟨f1, f2, f3, f4, f5, f6, f7⟩ :: xs.drop (plF f1 xs), 0) := by rw [HD.out, hv, if_neg (by simp), if_neg hix, if_neg (by have := HL.out; omega)]
  subst er
  have hfz : ¬ (256 : Int) ≤ (n : Int) := by omega
  rw [hin] at c1
  have HLN : Aside ((xs.take (plF f1 xs) ++ ⟨f1, f2, f3, f4, f5, f6, f7⟩ :: xs.drop (plF f1 xs)).length = n + 1) := by show _ = _; simp; have := HL.out; omega
  have hpn : plF f1 xs ≤ n := by have := HL.out; omega
  have HF : Aside (∀ k, k = plF f1 xs → flatE Fi.enc (xs.take (plF f1 xs) ++ ⟨f1, f2, f3, f4, f5, f6, f7⟩ :: xs.drop (plF f1 xs)) = (flatE Fi.enc xs).take (k * 7) ++ Fi.enc ⟨f1, f2, f3, f4, f5, f6, f7⟩ ++ (flatE Fi.enc xs).drop (k * 7)) := fun k hk => by rw [hk, flatE_insert fi_len]
  generalize hys : xs.take (plF f1 xs) ++ ⟨f1, f2, f3, f4, f5, f6, f7⟩ :: xs.drop (plF f1 xs) = ys at HLN HF ⊢
  have HF2 := HF.out _ rfl
  have HF3 : Aside (_ = _) := HF2
  generalize plF f1 xs = p at c2 hpn HF3
  clear HD hv hsp hix hin hple hys HF HF2
  go_enter Try.func11, Try.ntmps11
  go_wp2_with fail
  refine c0.mono ?_
  rintro e w1 ⟨v', rfl, hown, hb⟩
  obtain ⟨x, rfl⟩ := plus_of_below hb
  have HO : Aside ((plus (w.alloc (.cells #[.int .i64 f1, .int .i64 f2, .string f3, .bool f4, .bool f5, .int .i64 f6, .int .i64 f7] 24)) x).ownsRow (w.alloc (.cells #[.int .i64 f1, .int .i64 f2, .string f3, .bool f4, .bool f5, .int .i64 f6, .int .i64 f7] 24)).heap.size 24 7 v' n (flatE Fi.enc xs)) := hown
  clear hown hb c0
  go_wp2_with fail
  refine (cv _).mono ?_
  rintro e w2 ⟨rfl, hb⟩
  have HO2 : Aside (w2.ownsRow (w.alloc (.cells #[.int .i64 f1, .int .i64 f2, .string f3, .bool f4, .bool f5, .int .i64 f6, .int .i64 f7] 24)).heap.size 24 7 v' n (flatE Fi.enc xs)) := own_later HO.out hb
  obtain ⟨x2, rfl⟩ := plus_next hb
  clear hb HO
  have HO : Aside ((plus (w.alloc (.cells #[.int .i64 f1, .int .i64 f2, .string f3, .bool f4, .bool f5, .int .i64 f6, .int .i64 f7] 24)) x2).ownsRow (w.alloc (.cells #[.int .i64 f1, .int .i64 f2, .string f3, .bool f4, .bool f5, .int .i64 f6, .int .i64 f7] 24)).heap.size 24 7 v' n (flatE Fi.enc xs)) := HO2.out
  clear HO2
  go_wp2_with fail
  refine (c1 _ (by
    repeat (first | (with_reducible exact Below.refl _ _) | (with_reducible assumption) | (with_reducible refine below_to_plus ?_ ?_ _) | (with_reducible refine below_holds ?_ ?_ _ _) | (with_reducible refine Below.alloc ?_ ?_ _) | (with_reducible refine Below.drew ?_) | (with_reducible refine below_drewN ?_ _) | (with_reducible refine Below.setCell ?_ ?_ _))
    all_goals first | omega | (simp; done) | (simp [go_sem]; done) | (simp [go_sem]; omega))).mono ?_
  rintro e w2 ⟨rfl, hb⟩
  have HO2 : Aside (w2.ownsRow (w.alloc (.cells #[.int .i64 f1, .int .i64 f2, .string f3, .bool f4, .bool f5, .int .i64 f6, .int .i64 f7] 24)).heap.size 24 7 v' n (flatE Fi.enc xs)) := own_later HO.out hb
  obtain ⟨x3, rfl⟩ := plus_next hb
  clear hb HO
  have HO : Aside ((plus (w.alloc (.cells #[.int .i64 f1, .int .i64 f2, .string f3, .bool f4, .bool f5, .int .i64 f6, .int .i64 f7] 24)) x3).ownsRow (w.alloc (.cells #[.int .i64 f1, .int .i64 f2, .string f3, .bool f4, .bool f5, .int .i64 f6, .int .i64 f7] 24)).heap.size 24 7 v' n (flatE Fi.enc xs)) := HO2.out
  clear HO2
  have HOD : (plus (w.alloc (.cells #[.int .i64 f1, .int .i64 f2, .string f3, .bool f4, .bool f5, .int .i64 f6, .int .i64 f7] 24)) x3.drew).ownsRow (w.alloc (.cells #[.int .i64 f1, .int .i64 f2, .string f3, .bool f4, .bool f5, .int .i64 f6, .int .i64 f7] 24)).heap.size 24 7 v' n (flatE Fi.enc xs) := HO.out.drew
  have cI : Calls Try.prog 29 #[v', .int .i64 (p : Nat), .slice (some ⟨w.heap.size + 1 + x3.heap.size, 0, none⟩) 1 1] ((plus (w.alloc (.cells #[.int .i64 f1, .int .i64 f2, .string f3, .bool f4, .bool f5, .int .i64 f6, .int .i64 f7] 24)) x3.drew).alloc (.cells #[.int .i64 f1, .int .i64 f2, .string f3, .bool f4, .bool f5, .int .i64 f6, .int .i64 f7] 24)) fun e w' =>
      ∃ v5, e = .returned v5 ∧ w'.ownsRow (w.alloc (.cells #[.int .i64 f1, .int .i64 f2, .string f3, .bool f4, .bool f5, .int .i64 f6, .int .i64 f7] 24)).heap.size 24 7 v5 (n + 1) (flatE Fi.enc ys) ∧ ((plus (w.alloc (.cells #[.int .i64 f1, .int .i64 f2, .string f3, .bool f4, .bool f5, .int .i64 f6, .int .i64 f7] 24)) x3.drew).alloc (.cells #[.int .i64 f1, .int .i64 f2, .string f3, .bool f4, .bool f5, .int .i64 f6, .int .i64 f7] 24)).grownBy w' v'.ownBlock := by
    rw [HF3.out]
    exact fiInsert_calls v' n p (w.heap.size + 1 + x3.heap.size) (w.alloc (.cells #[.int .i64 f1, .int .i64 f2, .string f3, .bool f4, .bool f5, .int .i64 f6, .int .i64 f7] 24)).heap.size (flatE Fi.enc xs) (Fi.enc ⟨f1, f2, f3, f4, f5, f6, f7⟩) 24 _ (own_alloc HOD) hpn (by omega) rfl (flatE_cells fi_one xs) (fi_one _) (hp_new (by simp [size_plus])) (fun e => by have := (HOD.lt _ e).2; simp [size_plus] at this) (by simp [size_plus]; omega)
  have HB : Aside (Below w.heap.size w ((plus (w.alloc (.cells #[.int .i64 f1, .int .i64 f2, .string f3, .bool f4, .bool f5, .int .i64 f6, .int .i64 f7] 24)) x3.drew).alloc (.cells #[.int .i64 f1, .int .i64 f2, .string f3, .bool f4, .bool f5, .int .i64 f6, .int .i64 f7] 24))) := by
    show Below _ _ _
    repeat (first | (with_reducible exact Below.refl _ _) | (with_reducible assumption) | (with_reducible refine below_to_plus ?_ ?_ _) | (with_reducible refine below_holds ?_ ?_ _ _) | (with_reducible refine Below.alloc ?_ ?_ _) | (with_reducible refine Below.drew ?_) | (with_reducible refine below_drewN ?_ _) | (with_reducible refine Below.setCell ?_ ?_ _))
    all_goals first | omega | (simp; done) | (simp [go_sem]; done) | (simp [go_sem]; omega)
  have HOV : Aside (∀ k, v'.ownBlock = some k → w.heap.size ≤ k) := fun k hk => by have := (HOD.lt _ hk).1; simp at this; omega
  clear HO HOD HF3 c1 cv
  go_wp2
  go_region_with (first | (go_at_call 30; refine (c2 _ (by (repeat (first | (with_reducible exact Below.refl _ _) | (with_reducible assumption) | (with_reducible refine below_to_plus ?_ ?_ _) | (with_reducible refine below_holds ?_ ?_ _ _) | (with_reducible refine Below.alloc ?_ ?_ _) | (with_reducible refine Below.drew ?_) | (with_reducible refine below_drewN ?_ _) | (with_reducible refine Below.setCell ?_ ?_ _))); (all_goals first | omega | (simp; done) | (simp [go_sem]; done) | (simp [go_sem]; omega)))).mono ?_; rintro e w2 ⟨rfl, hw⟩; subst hw) | (go_at_call 29; refine cI.mono ?_; rintro e w5 ⟨v5, rfl, hown5, hg5⟩))
  all_goals
    obtain ⟨a9, c9, hv9, _⟩ := ownE_sl fi_len (by omega) hown5
    subst hv9
    have HB3 : Aside (Below w.heap.size w w5) := HB.out.grown hg5 HB.out.size HOV.out
    have HO3 : Aside (w5.ownsRow w.heap.size 24 7 (.slice a9 (n + 1) c9) (n + 1) (flatE Fi.enc ys)) := own_lower hown5 (by simp)
    clear hown5 hg5 c2 cI HB HOV
    go_wp2
    go_ret2
    refine ⟨a9, c9, ?_, ?_, HB3.out⟩
    · show _ = Ending.returned (.tuple #[.slice a9 ys.length c9, .int .i64 0])
      rw [HLN.out]
      rfl
    · show World.ownsRow _ _ _ _ (.slice a9 ys.length c9) ys.length (flatE Fi.enc ys)
      rw [HLN.out]; exact HO3.out

set_option maxRecDepth 100000 in
set_option maxHeartbeats 4000000 in
theorem set_calls (f1 f2 : Int) (f3 : ByteArray) (f4 f5 : Bool) (f6 f7 : Int) (ao : Option Addr) (n cap : Nat) (xs : List Fi) (w : World) (h : Sl w 7 ao n cap (xs.map Fi.enc)) (hn : n ≤ 1000) :
    Calls Try.prog 13 #[.slice ao n cap, .agg #[.int .i64 f1, .int .i64 f2, .string f3, .bool f4, .bool f5, .int .i64 f6, .int .i64 f7]] w fun e w' => OwnPost w (setF ⟨f1, f2, f3, f4, f5, f6, f7⟩ xs) e w' := by
  have HL : Aside (xs.length = n) := Sl.lenE h
  have hb0 : Below w.heap.size w (w.alloc (.cells #[.int .i64 f1, .int .i64 f2, .string f3, .bool f4, .bool f5, .int .i64 f6, .int .i64 f7] 24)) := by
    repeat (first | (with_reducible exact Below.refl _ _) | (with_reducible assumption) | (with_reducible refine below_to_plus ?_ ?_ _) | (with_reducible refine below_holds ?_ ?_ _ _) | (with_reducible refine Below.alloc ?_ ?_ _) | (with_reducible refine Below.drew ?_) | (with_reducible refine below_drewN ?_ _) | (with_reducible refine Below.setCell ?_ ?_ _))
    all_goals first | omega | (simp; done) | (simp [go_sem]; done) | (simp [go_sem]; omega)
  have c0 := fiClone_calls ao n cap xs (w.alloc (.cells #[.int .i64 f1, .int .i64 f2, .string f3, .bool f4, .bool f5, .int .i64 f6, .int .i64 f7] 24)) (h.stays hb0) (by omega)
  have c1 : ∀ U, Below w.heap.size w U → Calls Try.prog 28 #[.slice ao n cap, .int .i64 f1] U fun e w' => e = .returned (.int .i64 (ixF f1 xs)) ∧ Below U.heap.size U w' := fun U hU => index_calls f1 ao n cap xs U (h.stays hU)
  have c2 : ∀ U, Below w.heap.size w U → Calls Try.prog 30 #[.slice ao n cap, .int .i64 f1] U fun e w' => e = .returned (.int .i64 (plF f1 xs : Nat)) ∧ w' = U := fun U hU => place_still f1 ao n cap xs U (h.stays hU)
  have cv := fun U => valid_calls f1 f2 f3 f4 f5 f6 f7 U
  have hsp := ixF_spec f1 xs
  clear h hb0
  have HD : Aside (setF ⟨f1, f2, f3, f4, f5, f6, f7⟩ xs = if ixF f1 xs < 0 then (xs, 13) else if vB ⟨f1, f2, f3, f4, f5, f6, f7⟩ = false then (xs, 5) else (xs.set (plF f1 xs) ⟨f1, f2, f3, f4, f5, f6, f7⟩, 0)) := rfl
  generalize setF ⟨f1, f2, f3, f4, f5, f6, f7⟩ xs = r at HD ⊢
  clear c2
  by_cases hix : ixF f1 xs < 0
  · have er : r = (xs, 13) := by rw [HD.out, if_pos hix]
    subst er
    generalize ixF f1 xs = i at c1 hix
    clear HD hsp cv
    have cv := trivial
    go_enter Try.func13, Try.ntmps13
    go_wp2_with fail
    refine c0.mono ?_
    rintro e w1 ⟨v', rfl, hown, hb⟩
    obtain ⟨x, rfl⟩ := plus_of_below hb
    have HO : Aside ((plus (w.alloc (.cells #[.int .i64 f1, .int .i64 f2, .string f3, .bool f4, .bool f5, .int .i64 f6, .int .i64 f7] 24)) x).ownsRow (w.alloc (.cells #[.int .i64 f1, .int .i64 f2, .string f3, .bool f4, .bool f5, .int .i64 f6, .int .i64 f7] 24)).heap.size 24 7 v' n (flatE Fi.enc xs)) := hown
    clear hown hb c0
    go_wp2_with fail
    refine (c1 _ (by
      repeat (first | (with_reducible exact Below.refl _ _) | (with_reducible assumption) | (with_reducible refine below_to_plus ?_ ?_ _) | (with_reducible refine below_holds ?_ ?_ _ _) | (with_reducible refine Below.alloc ?_ ?_ _) | (with_reducible refine Below.drew ?_) | (with_reducible refine below_drewN ?_ _) | (with_reducible refine Below.setCell ?_ ?_ _))
      all_goals first | omega | (simp; done) | (simp [go_sem]; done) | (simp [go_sem]; omega))).mono ?_
    rintro e w2 ⟨rfl, hb⟩
    have HO2 : Aside (w2.ownsRow (w.alloc (.cells #[.int .i64 f1, .int .i64 f2, .string f3, .bool f4, .bool f5, .int .i64 f6, .int .i64 f7] 24)).heap.size 24 7 v' n (flatE Fi.enc xs)) := own_later HO.out hb
    obtain ⟨x2, rfl⟩ := plus_next hb
    clear hb HO
    have HO : Aside ((plus (w.alloc (.cells #[.int .i64 f1, .int .i64 f2, .string f3, .bool f4, .bool f5, .int .i64 f6, .int .i64 f7] 24)) x2).ownsRow (w.alloc (.cells #[.int .i64 f1, .int .i64 f2, .string f3, .bool f4, .bool f5, .int .i64 f6, .int .i64 f7] 24)).heap.size 24 7 v' n (flatE Fi.enc xs)) := HO2.out
    clear HO2
    obtain ⟨a9, c9, hv9, _⟩ := ownE_sl fi_len (by omega) HO.out
    subst hv9
    clear c1 cv
    go_wp2
    go_ret2
    refine ⟨a9, c9, ?_, ?_, ?_⟩
    · show _ = Ending.returned (.tuple #[.slice a9 xs.length c9, .int .i64 13])
      rw [HL.out]
      rfl
    · show World.ownsRow _ _ _ _ (.slice a9 xs.length c9) xs.length (flatE Fi.enc xs)
      rw [HL.out]; exact own_lower HO.out (by simp)
    · repeat (first | (with_reducible exact Below.refl _ _) | (with_reducible assumption) | (with_reducible refine below_to_plus ?_ ?_ _) | (with_reducible refine below_holds ?_ ?_ _ _) | (with_reducible refine Below.alloc ?_ ?_ _) | (with_reducible refine Below.drew ?_) | (with_reducible refine below_drewN ?_ _) | (with_reducible refine Below.setCell ?_ ?_ _))
      all_goals first | omega | (simp; done) | (simp [go_sem]; done) | (simp [go_sem]; omega)
  rcases hsp with e1 | ⟨h1, h2, e1⟩
  · omega
  have hpn : plF f1 xs < n := by have := HL.out; omega
  rw [e1] at c1
  have hix2 : ¬ (((plF f1 xs : Nat) : Int) < 0) := by omega
  cases hv : vB ⟨f1, f2, f3, f4, f5, f6, f7⟩ with
  | false =>
    have er : r = (xs, 5) := by rw [HD.out, if_neg hix, hv]; rfl
    subst er
    rw [hv] at cv
    generalize plF f1 xs = i at c1 hix2
    clear HD hv h2
    go_enter Try.func13, Try.ntmps13
    go_wp2_with fail
    refine c0.mono ?_
    rintro e w1 ⟨v', rfl, hown, hb⟩
    obtain ⟨x, rfl⟩ := plus_of_below hb
    have HO : Aside ((plus (w.alloc (.cells #[.int .i64 f1, .int .i64 f2, .string f3, .bool f4, .bool f5, .int .i64 f6, .int .i64 f7] 24)) x).ownsRow (w.alloc (.cells #[.int .i64 f1, .int .i64 f2, .string f3, .bool f4, .bool f5, .int .i64 f6, .int .i64 f7] 24)).heap.size 24 7 v' n (flatE Fi.enc xs)) := hown
    clear hown hb c0
    go_wp2_with fail
    refine (c1 _ (by
      repeat (first | (with_reducible exact Below.refl _ _) | (with_reducible assumption) | (with_reducible refine below_to_plus ?_ ?_ _) | (with_reducible refine below_holds ?_ ?_ _ _) | (with_reducible refine Below.alloc ?_ ?_ _) | (with_reducible refine Below.drew ?_) | (with_reducible refine below_drewN ?_ _) | (with_reducible refine Below.setCell ?_ ?_ _))
      all_goals first | omega | (simp; done) | (simp [go_sem]; done) | (simp [go_sem]; omega))).mono ?_
    rintro e w2 ⟨rfl, hb⟩
    have HO2 : Aside (w2.ownsRow (w.alloc (.cells #[.int .i64 f1, .int .i64 f2, .string f3, .bool f4, .bool f5, .int .i64 f6, .int .i64 f7] 24)).heap.size 24 7 v' n (flatE Fi.enc xs)) := own_later HO.out hb
    obtain ⟨x2, rfl⟩ := plus_next hb
    clear hb HO
    have HO : Aside ((plus (w.alloc (.cells #[.int .i64 f1, .int .i64 f2, .string f3, .bool f4, .bool f5, .int .i64 f6, .int .i64 f7] 24)) x2).ownsRow (w.alloc (.cells #[.int .i64 f1, .int .i64 f2, .string f3, .bool f4, .bool f5, .int .i64 f6, .int .i64 f7] 24)).heap.size 24 7 v' n (flatE Fi.enc xs)) := HO2.out
    clear HO2
    go_wp2_with fail
    refine (cv _).mono ?_
    rintro e w2 ⟨rfl, hb⟩
    have HO2 : Aside (w2.ownsRow (w.alloc (.cells #[.int .i64 f1, .int .i64 f2, .string f3, .bool f4, .bool f5, .int .i64 f6, .int .i64 f7] 24)).heap.size 24 7 v' n (flatE Fi.enc xs)) := own_later HO.out hb
    obtain ⟨x3, rfl⟩ := plus_next hb
    clear hb HO
    have HO : Aside ((plus (w.alloc (.cells #[.int .i64 f1, .int .i64 f2, .string f3, .bool f4, .bool f5, .int .i64 f6, .int .i64 f7] 24)) x3).ownsRow (w.alloc (.cells #[.int .i64 f1, .int .i64 f2, .string f3, .bool f4, .bool f5, .int .i64 f6, .int .i64 f7] 24)).heap.size 24 7 v' n (flatE Fi.enc xs)) := HO2.out
    clear HO2
    obtain ⟨a9, c9, hv9, _⟩ := ownE_sl fi_len (by omega) HO.out
    subst hv9
    clear c1 cv
    go_wp2
    go_ret2
    refine ⟨a9, c9, ?_, ?_, ?_⟩
    · show _ = Ending.returned (.tuple #[.slice a9 xs.length c9, .int .i64 5])
      rw [HL.out]
      rfl
    · show World.ownsRow _ _ _ _ (.slice a9 xs.length c9) xs.length (flatE Fi.enc xs)
      rw [HL.out]; exact own_lower HO.out (by simp)
    · repeat (first | (with_reducible exact Below.refl _ _) | (with_reducible assumption) | (with_reducible refine below_to_plus ?_ ?_ _) | (with_reducible refine below_holds ?_ ?_ _ _) | (with_reducible refine Below.alloc ?_ ?_ _) | (with_reducible refine Below.drew ?_) | (with_reducible refine below_drewN ?_ _) | (with_reducible refine Below.setCell ?_ ?_ _))
      all_goals first | omega | (simp; done) | (simp [go_sem]; done) | (simp [go_sem]; omega)
  | true =>
  have er : r = (xs.set (plF f1 xs) ⟨f1, f2, f3, f4, f5, f6, f7⟩, 0) := by rw [HD.out, if_neg hix, hv]; rfl
  subst er
  rw [hv] at cv
  generalize plF f1 xs = p at c1 hix2 hpn ⊢
  clear HD hv h1 h2 e1 hix
  have HLN : Aside ((xs.set p ⟨f1, f2, f3, f4, f5, f6, f7⟩).length = n) := by show _ = _; simp; exact HL.out
  have HSE : Aside (∀ (c : Array Value), n * 7 ≤ c.size → c.toList.take (n * 7) = flatE Fi.enc xs → (putAll c (p * 7) (Fi.enc ⟨f1, f2, f3, f4, f5, f6, f7⟩)).toList.take (n * 7) = flatE Fi.enc (xs.set p ⟨f1, f2, f3, f4, f5, f6, f7⟩)) := fun c hc ht => put_setE fi_len xs ⟨f1, f2, f3, f4, f5, f6, f7⟩ p n c HL.out hpn hc ht
  generalize xs.set p ⟨f1, f2, f3, f4, f5, f6, f7⟩ = ys at HLN HSE ⊢
  have hpz : (p : Int) < (n : Int) := by omega
  have hbig : n ≤ 9223372036854775807 := by omega
  go_enter Try.func13, Try.ntmps13
  go_wp2_with fail
  refine c0.mono ?_
  rintro e w1 ⟨v', rfl, hown, hb⟩
  obtain ⟨x, rfl⟩ := plus_of_below hb
  have HO : Aside ((plus (w.alloc (.cells #[.int .i64 f1, .int .i64 f2, .string f3, .bool f4, .bool f5, .int .i64 f6, .int .i64 f7] 24)) x).ownsRow (w.alloc (.cells #[.int .i64 f1, .int .i64 f2, .string f3, .bool f4, .bool f5, .int .i64 f6, .int .i64 f7] 24)).heap.size 24 7 v' n (flatE Fi.enc xs)) := hown
  clear hown hb c0
  go_wp2_with fail
  refine (c1 _ (by
    repeat (first | (with_reducible exact Below.refl _ _) | (with_reducible assumption) | (with_reducible refine below_to_plus ?_ ?_ _) | (with_reducible refine below_holds ?_ ?_ _ _) | (with_reducible refine Below.alloc ?_ ?_ _) | (with_reducible refine Below.drew ?_) | (with_reducible refine below_drewN ?_ _) | (with_reducible refine Below.setCell ?_ ?_ _))
    all_goals first | omega | (simp; done) | (simp [go_sem]; done) | (simp [go_sem]; omega))).mono ?_
  rintro e w2 ⟨rfl, hb⟩
  have HO2 : Aside (w2.ownsRow (w.alloc (.cells #[.int .i64 f1, .int .i64 f2, .string f3, .bool f4, .bool f5, .int .i64 f6, .int .i64 f7] 24)).heap.size 24 7 v' n (flatE Fi.enc xs)) := own_later HO.out hb
  obtain ⟨x2, rfl⟩ := plus_next hb
  clear hb HO
  have HO : Aside ((plus (w.alloc (.cells #[.int .i64 f1, .int .i64 f2, .string f3, .bool f4, .bool f5, .int .i64 f6, .int .i64 f7] 24)) x2).ownsRow (w.alloc (.cells #[.int .i64 f1, .int .i64 f2, .string f3, .bool f4, .bool f5, .int .i64 f6, .int .i64 f7] 24)).heap.size 24 7 v' n (flatE Fi.enc xs)) := HO2.out
  clear HO2
  go_wp2_with fail
  refine (cv _).mono ?_
  rintro e w2 ⟨rfl, hb⟩
  have HO2 : Aside (w2.ownsRow (w.alloc (.cells #[.int .i64 f1, .int .i64 f2, .string f3, .bool f4, .bool f5, .int .i64 f6, .int .i64 f7] 24)).heap.size 24 7 v' n (flatE Fi.enc xs)) := own_later HO.out hb
  obtain ⟨x3, rfl⟩ := plus_next hb
  clear hb HO
  have HO : Aside ((plus (w.alloc (.cells #[.int .i64 f1, .int .i64 f2, .string f3, .bool f4, .bool f5, .int .i64 f6, .int .i64 f7] 24)) x3).ownsRow (w.alloc (.cells #[.int .i64 f1, .int .i64 f2, .string f3, .bool f4, .bool f5, .int .i64 f6, .int .i64 f7] 24)).heap.size 24 7 v' n (flatE Fi.enc xs)) := HO2.out
  clear HO2
  have hob : (plus (w.alloc (.cells #[.int .i64 f1, .int .i64 f2, .string f3, .bool f4, .bool f5, .int .i64 f6, .int .i64 f7] 24)) x3).heap[w.heap.size]? = some (.cells #[.int .i64 f1, .int .i64 f2, .string f3, .bool f4, .bool f5, .int .i64 f6, .int .i64 f7] 24 (0, 0)) := hp_plus (hp_new rfl)
  have hb2 : Below w.heap.size w (plus (w.alloc (.cells #[.int .i64 f1, .int .i64 f2, .string f3, .bool f4, .bool f5, .int .i64 f6, .int .i64 f7] 24)) x3) := by
    repeat (first | (with_reducible exact Below.refl _ _) | (with_reducible assumption) | (with_reducible refine below_to_plus ?_ ?_ _) | (with_reducible refine below_holds ?_ ?_ _ _) | (with_reducible refine Below.alloc ?_ ?_ _) | (with_reducible refine Below.drew ?_) | (with_reducible refine below_drewN ?_ _) | (with_reducible refine Below.setCell ?_ ?_ _))
    all_goals first | omega | (simp; done) | (simp [go_sem]; done) | (simp [go_sem]; omega)
  have hO2 := HO.out
  clear c1 cv HO
  have hBW : w.heap.size < (w.alloc (.cells #[.int .i64 f1, .int .i64 f2, .string f3, .bool f4, .bool f5, .int .i64 f6, .int .i64 f7] 24)).heap.size := by simp
  generalize (w.alloc (.cells #[.int .i64 f1, .int .i64 f2, .string f3, .bool f4, .bool f5, .int .i64 f6, .int .i64 f7] 24)).heap.size = B at hO2 hBW
  generalize plus (w.alloc (.cells #[.int .i64 f1, .int .i64 f2, .string f3, .bool f4, .bool f5, .int .i64 f6, .int .i64 f7] 24)) x3 = w5 at hob hb2 hO2 ⊢
  obtain ⟨ob, eob⟩ : ∃ ob, w.heap.size = ob := ⟨_, rfl⟩
  rw [eob] at hob hBW ⊢
  obtain ⟨hl, ⟨_, hn0⟩ | ⟨g, cap3, cur, hv, hBg, hh, hnc, hcm, hcs, htk⟩⟩ := hO2
  · omega
  subst hv
  have hgo : ¬ g = ob := by omega
  have hog : ¬ ob = g := by omega
  have hgs : g < w5.heap.size := (Array.getElem?_eq_some_iff.1 hh).1
  have hos : ob < w5.heap.size := (Array.getElem?_eq_some_iff.1 hob).1
  rw [holds_add (holds_self hob) hh]
  have H5 : Aside (Below w.heap.size w w5 ∧ w.heap.size ≤ ob ∧ w.heap.size ≤ g) := ⟨hb2, by omega, by omega⟩
  have HT : Aside (cur.toList.take (n * 7) = flatE Fi.enc xs) := htk
  have HCM : Aside (cap3 ≤ maxLen ∧ cur.size = cap3 * 7) := ⟨hcm, hcs⟩
  have hsz : p * 7 + 6 < cur.size := by omega
  obtain ⟨z0, s0⟩ : ∃ z, cur[p * 7]? = some z := ⟨_, Array.getElem?_eq_getElem (by omega)⟩
  obtain ⟨z1, s1⟩ : ∃ z, cur[p * 7 + 1]? = some z := ⟨_, Array.getElem?_eq_getElem (by omega)⟩
  obtain ⟨z2, s2⟩ : ∃ z, cur[p * 7 + 2]? = some z := ⟨_, Array.getElem?_eq_getElem (by omega)⟩
  obtain ⟨z3, s3⟩ : ∃ z, cur[p * 7 + 3]? = some z := ⟨_, Array.getElem?_eq_getElem (by omega)⟩
  obtain ⟨z4, s4⟩ : ∃ z, cur[p * 7 + 4]? = some z := ⟨_, Array.getElem?_eq_getElem (by omega)⟩
  obtain ⟨z5, s5⟩ : ∃ z, cur[p * 7 + 5]? = some z := ⟨_, Array.getElem?_eq_getElem (by omega)⟩
  obtain ⟨z6, s6⟩ : ∃ z, cur[p * 7 + 6]? = some z := ⟨_, Array.getElem?_eq_getElem (by omega)⟩
  clear hb2 hob hh htk hcm hl hcs
  go_wp2
  go_ret2
  refine ⟨some ⟨g, 0, none⟩, cap3, ?_, ?_, ?_⟩
  · show _ = Ending.returned (.tuple #[.slice (some ⟨g, 0, none⟩) ys.length cap3, .int .i64 0])
    rw [HLN.out]
    rfl
  · show World.ownsRow _ _ _ _ (.slice (some ⟨g, 0, none⟩) ys.length cap3) ys.length (flatE Fi.enc ys)
    rw [HLN.out]
    have h1 := HSE.out cur (by have := HCM.out.2; omega) HT.out
    refine ⟨by rw [flatE_length fi_len, HLN.out], .inr ⟨g, cap3, _, rfl, H5.out.2.2, ?_, hnc, HCM.out.1, ?_, h1⟩⟩
    · rw [heap_holds, if_pos ⟨rfl, by rw [size_holds]; exact hgs⟩]
      rfl
    · rw [putAll_size]; exact HCM.out.2
  · exact below_holds (below_holds H5.out.1 H5.out.2.1 _ _) H5.out.2.2 _ _

/-- The number of fids that denote a file. -/
def usB (id : Int) (y : Fi) : Bool := !y.auth && decide (y.id = id)
def usesF (id : Int) (xs : List Fi) : Nat := (xs.filter (usB id)).length
theorem uses_skip (id : Int) (xs : List Fi) (i : Nat) (hi : i < xs.length) (h : usB id xs[i]! = false) : usesF id (xs.take (i + 1)) = usesF id (xs.take i) := by unfold usesF; rw [filt_skipE _ _ _ hi h]
theorem uses_keep (id : Int) (xs : List Fi) (i : Nat) (hi : i < xs.length) (h : usB id xs[i]! = true) : usesF id (xs.take (i + 1)) = usesF id (xs.take i) + 1 := by unfold usesF; rw [filt_keepE _ _ _ hi h, List.length_append]; rfl
theorem uses_le (id : Int) (xs : List Fi) (i : Nat) : usesF id (xs.take i) ≤ i := by unfold usesF; exact Nat.le_trans (List.length_filter_le _ _) (by rw [List.length_take]; omega)

set_option maxHeartbeats 4000000 in
theorem uses_calls (id : Int) (ao : Option Addr) (n cap : Nat) (xs : List Fi) (w : World) (h : Sl w 7 ao n cap (xs.map Fi.enc)) :
    Calls Try.prog 19 #[.slice ao n cap, .int .i64 id] w fun e w' => e = .returned (.int .i64 (usesF id xs : Nat)) ∧ Below w.heap.size w w' := by
  have hbig : n ≤ 9223372036854775807 := Nat.le_trans h.hcap h.hmax
  have HL : Aside (xs.length = n) := Sl.lenE h
  have HC : Aside (CellsFi w ao xs) := cellsFi h
  clear h
  go_enter Try.func19, Try.ntmps19
  go_wp2
  go_loopg [5, 10] n (fun k s5 s10 wr => ∃ (idx m : Nat) (x : World), s10 = .int .i64 (idx : Int) ∧ s5 = .int .i64 (m : Int) ∧ wr = plus w x ∧ k + idx = n ∧ m ≤ idx ∧ Aside (usesF id (xs.take idx) = m))
  case atStart => exact ⟨0, 0, _, rfl, rfl, plus_self _, by omega, by omega, rfl⟩
  case round =>
    obtain ⟨idx, m, x, rfl, rfl, rfl, hk, hm, A⟩ := hrel
    by_cases hi : idx < n
    · have hiz : (idx : Int) < (n : Int) := by omega
      have AK : Aside (usB id xs[idx]! = true → usesF id (xs.take (idx + 1)) = m + 1) := fun hh => by rw [uses_keep id xs idx (by have := HL.out; omega) hh, A.out]
      have AS : Aside (usB id xs[idx]! = false → usesF id (xs.take (idx + 1)) = m) := fun hh => by rw [uses_skip id xs idx (by have := HL.out; omega) hh, A.out]
      obtain ⟨b, off, rfl, hbw, l0, l1, l2, l3, l4, l5, l6⟩ := HC.out idx (by have := HL.out; omega)
      clear HC A
      generalize xs[idx]! = y at l0 l1 l2 l3 l4 l5 l6 AK AS
      obtain ⟨y1, y2, y3, y4, y5, y6, y7⟩ := y
      simp only [] at l0 l1 l2 l3 l4 l5 l6
      have hbz : ∀ z, Below w.heap.size w ((plus w x).alloc z) := fun z => by
        repeat (first | (with_reducible exact Below.refl _ _) | (with_reducible assumption) | (with_reducible refine below_to_plus ?_ ?_ _) | (with_reducible refine below_holds ?_ ?_ _ _) | (with_reducible refine Below.alloc ?_ ?_ _) | (with_reducible refine Below.drew ?_) | (with_reducible refine below_drewN ?_ _) | (with_reducible refine Below.setCell ?_ ?_ _))
        all_goals first | omega | (simp; done) | (simp [go_sem]; done) | (simp [go_sem]; omega)
      cases hq : usB id ⟨y1, y2, y3, y4, y5, y6, y7⟩ with
      | true =>
        have A2 := AK.out hq
        have A3 : Aside (_ = m + 1) := A2
        have hb1 : y4 = false ∧ y2 = id := by simpa [usB] using hq
        obtain ⟨rfl, rfl⟩ := hb1
        clear A2 AK AS hq
        go_wp2
        go_roundg (gk - 1)
        case measure => omega
        case rel =>
          obtain ⟨z5, hz5⟩ := plus_of_below (hbz _)
          exact ⟨idx + 1, m + 1, z5, by simp, by simp, hz5, by omega, by omega, A3⟩
      | false =>
        have A2 := AS.out hq
        have A3 : Aside (_ = m) := A2
        clear A2 AK AS
        cases y4 with
        | true =>
          clear hq
          go_wp2
          go_roundg (gk - 1)
          case measure => omega
          case rel =>
            obtain ⟨z5, hz5⟩ := plus_of_below (hbz _)
            exact ⟨idx + 1, m, z5, by simp, rfl, hz5, by omega, by omega, A3⟩
        | false =>
          have hf : (y2 == id) = false := by simpa [usB] using hq
          clear hq
          go_wp2
          go_roundg (gk - 1)
          case measure => omega
          case rel =>
            obtain ⟨z5, hz5⟩ := plus_of_below (hbz _)
            exact ⟨idx + 1, m, z5, by simp, rfl, hz5, by omega, by omega, A3⟩
    · have hiz : ¬ (idx : Int) < (n : Int) := by omega
      have e1 : m = usesF id xs := by rw [← A.out, List.take_of_length_le (by have := HL.out; omega)]
      subst e1
      clear HC A
      go_wp2
      refine bodyPost_ret (v := .int .i64 (usesF id xs : Nat)) (by simp [results, Try.results19, go_sem, ↓IntWalk.iteOmega]) rfl ⟨rfl, below_plus _ _⟩

end Go.Proofs.Ytjnfllcbkkcfiaa
