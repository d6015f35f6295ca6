/- This text proves the walks of the small functions of package fds and its reference, and of Copy and find. Conditions: those that each theorem names. -/
import Derived.Test.YtbifanenoejjgaaFdsB
namespace Go.Proofs.Ytbifanenoejjgaa
open Go.ChangeShapes Go.WideShapes Go.ChangeAt Go.RowKit
set_option linter.unusedVariables false

theorem own_past {W W' x : World} {B : Nat} {E : TypeId} {k : Nat} {v : Value} {n : Nat} {l : List Value} (h : (plus W x).ownsRow B E k v n l) (hB : W.heap.size ≤ B) (hs : W'.heap.size = W.heap.size) : (plus W' x).ownsRow B E k v n l := by
  obtain ⟨h1, h2 | ⟨g, cap, cur, h3, h4, h5, h6⟩⟩ := h
  · exact ⟨h1, .inl h2⟩
  · refine ⟨h1, .inr ⟨g, cap, cur, h3, h4, ?_, h6⟩⟩
    simp only [plus, Array.getElem?_append] at h5 ⊢
    rw [if_neg (by omega)] at h5
    rw [if_neg (by omega), hs]
    exact h5

def validB (dev id fid : Int) (p n : ByteArray) : Bool := decide (0 ≤ dev ∧ dev < 32 ∧ 1 ≤ id ∧ id ≤ 1099511627776 ∧ 0 ≤ fid ∧ fid ≤ 4294967295 ∧ p.size ≤ 1024 ∧ n.size ≤ 1024)
def briefB (dev id fid : Int) (p n : ByteArray) : Bool := decide (p.size ≤ 2000 ∧ n.size ≤ 2000)
def cmpI (a b : Int) : Int := if a < b then -1 else if b < a then 1 else 0

set_option maxHeartbeats 2000000 in
theorem valid_calls (dev id fid : Int) (p n : ByteArray) (w : World) (hp : p.size ≤ maxLen) (hn : n.size ≤ maxLen) : Calls Try.prog 27 #[.agg #[.int .i64 dev, .int .i64 id, .int .i64 fid, .string p, .string n]] w fun e w' => e = .returned (.bool (validB dev id fid p n)) ∧ Below w.heap.size w w' := by
  unfold maxLen at hp hn
  go_enter Try.func27, Try.ntmps27
  go_wp2
  all_goals go_ret
  all_goals refine ⟨ret_bool (by first | (simp [validB, *]; done) | (rw [Bool.eq_iff_iff]; simp [validB, *]; done) | (rw [Bool.eq_iff_iff]; simp [validB]; omega) | (rw [Bool.eq_iff_iff]; simp [validB, *]; omega)), ?_⟩
  all_goals try (
    repeat (first | (with_reducible exact Below.refl _ _) | (with_reducible assumption) | (with_reducible refine below_to_plus ?_ ?_ _) | (with_reducible refine below_holds ?_ ?_ _ _) | (with_reducible refine Below.alloc ?_ ?_ _) | (with_reducible refine Below.drew ?_) | (with_reducible refine below_drewN ?_ _) | (with_reducible refine Below.setCell ?_ ?_ _))
    all_goals first | omega | (simp; done) | (simp [go_sem]; done) | (simp [go_sem]; omega))

set_option maxHeartbeats 2000000 in
theorem rvalid_calls (dev id fid : Int) (p n : ByteArray) (w : World) (hp : p.size ≤ maxLen) (hn : n.size ≤ maxLen) : Calls Try.prog 25 #[.agg #[.int .i64 dev, .int .i64 id, .int .i64 fid, .string p, .string n]] w fun e w' => e = .returned (.bool (validB dev id fid p n)) ∧ Below w.heap.size w w' := by
  unfold maxLen at hp hn
  go_enter Try.func25, Try.ntmps25
  go_wp2
  all_goals go_ret
  all_goals refine ⟨ret_bool (by first | (simp [validB, *]; done) | (rw [Bool.eq_iff_iff]; simp [validB, *]; done) | (rw [Bool.eq_iff_iff]; simp [validB]; omega) | (rw [Bool.eq_iff_iff]; simp [validB, *]; omega)), ?_⟩
  all_goals try (
    repeat (first | (with_reducible exact Below.refl _ _) | (with_reducible assumption) | (with_reducible refine below_to_plus ?_ ?_ _) | (with_reducible refine below_holds ?_ ?_ _ _) | (with_reducible refine Below.alloc ?_ ?_ _) | (with_reducible refine Below.drew ?_) | (with_reducible refine below_drewN ?_ _) | (with_reducible refine Below.setCell ?_ ?_ _))
    all_goals first | omega | (simp; done) | (simp [go_sem]; done) | (simp [go_sem]; omega))

set_option maxHeartbeats 2000000 in
theorem brief_calls (dev id fid : Int) (p n : ByteArray) (w : World) (hp : p.size ≤ maxLen) (hn : n.size ≤ maxLen) : Calls Try.prog 17 #[.agg #[.int .i64 dev, .int .i64 id, .int .i64 fid, .string p, .string n]] w fun e w' => e = .returned (.bool (briefB dev id fid p n)) ∧ Below w.heap.size w w' := by
  unfold maxLen at hp hn
  go_enter Try.func17, Try.ntmps17
  go_wp2
  all_goals go_ret
  all_goals refine ⟨ret_bool (by first | (simp [briefB, *]; done) | (rw [Bool.eq_iff_iff]; simp [briefB, *]; done) | (rw [Bool.eq_iff_iff]; simp [briefB]; omega) | (rw [Bool.eq_iff_iff]; simp [briefB, *]; omega)), ?_⟩
  all_goals try (
    repeat (first | (with_reducible exact Below.refl _ _) | (with_reducible assumption) | (with_reducible refine below_to_plus ?_ ?_ _) | (with_reducible refine below_holds ?_ ?_ _ _) | (with_reducible refine Below.alloc ?_ ?_ _) | (with_reducible refine Below.drew ?_) | (with_reducible refine below_drewN ?_ _) | (with_reducible refine Below.setCell ?_ ?_ _))
    all_goals first | omega | (simp; done) | (simp [go_sem]; done) | (simp [go_sem]; omega))

set_option maxHeartbeats 2000000 in
theorem number_calls (y1 : Int) (y2 : Int) (y3 : Int) (y4 : Int) (y5 : ByteArray) (y6 : ByteArray) (y7 : Int) (y8 : Int) (y9 : Int)  (w : World)  : Calls Try.prog 37 #[.agg #[.int .i64 y1, .int .i64 y2, .int .i64 y3, .int .i64 y4, .string y5, .string y6, .int .i64 y7, .int .i64 y8, .int .i64 y9]] w fun e w' => e = .returned (.int .i64 y1) ∧ Below w.heap.size w w' := by
  go_enter Try.func37, Try.ntmps37
  go_wp2
  all_goals go_ret
  all_goals refine ⟨rfl, ?_⟩
  all_goals try (
    repeat (first | (with_reducible exact Below.refl _ _) | (with_reducible assumption) | (with_reducible refine below_to_plus ?_ ?_ _) | (with_reducible refine below_holds ?_ ?_ _ _) | (with_reducible refine Below.alloc ?_ ?_ _) | (with_reducible refine Below.drew ?_) | (with_reducible refine below_drewN ?_ _) | (with_reducible refine Below.setCell ?_ ?_ _))
    all_goals first | omega | (simp; done) | (simp [go_sem]; done) | (simp [go_sem]; omega))

set_option maxHeartbeats 2000000 in
theorem share_calls (y1 : Int) (y2 : Int) (y3 : Int) (y4 : Int) (y5 : ByteArray) (y6 : ByteArray) (y7 : Int) (y8 : Int) (y9 : Int)  (w : World)  : Calls Try.prog 44 #[.agg #[.int .i64 y1, .int .i64 y2, .int .i64 y3, .int .i64 y4, .string y5, .string y6, .int .i64 y7, .int .i64 y8, .int .i64 y9]] w fun e w' => e = .returned (.int .i64 y9) ∧ Below w.heap.size w w' := by
  go_enter Try.func44, Try.ntmps44
  go_wp2
  all_goals go_ret
  all_goals refine ⟨rfl, ?_⟩
  all_goals try (
    repeat (first | (with_reducible exact Below.refl _ _) | (with_reducible assumption) | (with_reducible refine below_to_plus ?_ ?_ _) | (with_reducible refine below_holds ?_ ?_ _ _) | (with_reducible refine Below.alloc ?_ ?_ _) | (with_reducible refine Below.drew ?_) | (with_reducible refine below_drewN ?_ _) | (with_reducible refine Below.setCell ?_ ?_ _))
    all_goals first | omega | (simp; done) | (simp [go_sem]; done) | (simp [go_sem]; omega))

set_option maxHeartbeats 2000000 in
theorem isNaN_calls (n : Int) (w : World)  : Calls Try.prog 56 #[.int .i64 n] w fun e w' => e = .returned (.bool false) ∧ Below w.heap.size w w' := by
  go_enter Try.func56, Try.ntmps56
  go_wp2
  all_goals go_ret
  all_goals refine ⟨ret_bool (by simp), ?_⟩
  all_goals try (
    repeat (first | (with_reducible exact Below.refl _ _) | (with_reducible assumption) | (with_reducible refine below_to_plus ?_ ?_ _) | (with_reducible refine below_holds ?_ ?_ _ _) | (with_reducible refine Below.alloc ?_ ?_ _) | (with_reducible refine Below.drew ?_) | (with_reducible refine below_drewN ?_ _) | (with_reducible refine Below.setCell ?_ ?_ _))
    all_goals first | omega | (simp; done) | (simp [go_sem]; done) | (simp [go_sem]; omega))

theorem compare_calls (a b : Int) (w : World) : Calls Try.prog 54 #[.int .i64 a, .int .i64 b] w fun e w' => e = .returned (.int .i64 (cmpI a b)) ∧ Below w.heap.size w w' := by
  go_enter Try.func54, Try.ntmps54
  go_wp2_with (first | (go_at_call 56; (with_reducible refine (isNaN_calls _ _).mono ?_); (rintro e w1 ⟨rfl, hb⟩; obtain ⟨x, hx⟩ := plus_of_below hb; subst hx); clear hb))
  all_goals go_ret
  all_goals refine ⟨ret_int (by simp [cmpI, *] <;> omega), ?_⟩
  all_goals try (
    repeat (first | (with_reducible exact Below.refl _ _) | (with_reducible assumption) | (with_reducible refine below_to_plus ?_ ?_ _) | (with_reducible refine below_holds ?_ ?_ _ _) | (with_reducible refine Below.alloc ?_ ?_ _) | (with_reducible refine Below.drew ?_) | (with_reducible refine below_drewN ?_ _) | (with_reducible refine Below.setCell ?_ ?_ _))
    all_goals first | omega | (simp; done) | (simp [go_sem]; done) | (simp [go_sem]; omega))

def CopyPost (w : World) (id : Int) (xs : List Fd) (e : Ending) (w' : World) : Prop :=
  ∃ ao cap, e = .returned (.agg #[.int .i64 id, .slice ao xs.length cap]) ∧ w'.ownsRow w.heap.size 30 9 (.slice ao xs.length cap) xs.length (flatE Fd.enc xs) ∧ Below w.heap.size w w'

set_option maxHeartbeats 1000000 in
theorem copy_calls (i0 id : Int) (ao : Option Addr) (n cap : Nat) (xs : List Fd) (w : World) (h : Sl w 9 ao n cap (xs.map Fd.enc)) (hn : n ≤ 1000000) :
    Calls Try.prog 15 #[.agg #[.int .i64 i0, .slice ao n cap], .int .i64 id] w fun e w' => CopyPost w id xs e w' := by
  have hb0 : Below w.heap.size w ((w.alloc (.cells #[.int .i64 i0, .slice ao n cap] 24)).alloc (.cells #[.int .i64 0, .slice none 0 0] 24)) := ((Below.refl _ w).alloc (Nat.le_refl _) _).alloc (by simp) _
  have c := fdClone_calls ao n cap xs _ (h.stays hb0) hn
  have hln := Sl.lenE h
  have HL : Aside (xs.length = n) := hln
  clear h hln hb0
  go_enter Try.func15, Try.ntmps15
  go_wp2_with fail
  refine c.mono ?_
  rintro e w1 ⟨v', rfl, hown, hb⟩
  have HO : Aside (w1.ownsRow _ 30 9 v' n (flatE Fd.enc xs)) := hown
  obtain ⟨ao2, cap2, rfl, _⟩ := ownE_sl fd_len (by omega) hown
  obtain ⟨x, rfl⟩ := plus_of_below hb
  clear hb c hown
  go_wp2
  refine bodyPost_ret (v := .agg #[.int .i64 id, .slice ao2 n cap2]) (by simp [results, Try.results15, go_sem]) rfl ⟨ao2, cap2, by rw [HL.out], ?_, ?_⟩
  · rw [HL.out]
    exact own_lower (own_past HO.out (Nat.le_refl _) (by simp)) (by simp; omega)
  · repeat (first | (with_reducible exact Below.refl _ _) | (with_reducible assumption) | (with_reducible refine below_to_plus ?_ ?_ _) | (with_reducible refine below_holds ?_ ?_ _ _) | (with_reducible refine Below.alloc ?_ ?_ _) | (with_reducible refine Below.drew ?_) | (with_reducible refine below_drewN ?_ _) | (with_reducible refine Below.setCell ?_ ?_ _))
    all_goals first | omega | (simp; done) | (simp [go_sem]; done) | (simp [go_sem]; omega)

set_option maxHeartbeats 1000000 in
theorem pred_find (num : Int) (B : Nat) (w : World) (hB : B < w.heap.size) (cB : w.cell? ⟨B, 0, none⟩ = some (.int .i64 num)) :
    PredE Try.prog 46 #[.pointer (some ⟨B, 0, none⟩)] Fd.val (fun y => decide (y.num = num)) w := fun W y hW => by
  have HB : B < W.heap.size := Nat.lt_of_lt_of_le hB hW.size
  have CB : W.cell? ⟨B, 0, none⟩ = some (.int .i64 num) := (hW.cell (p := ⟨B, 0, none⟩) hB).trans cB
  clear cB hW
  obtain ⟨y1, y2, y3, y4, y5, y6, y7, y8, y9⟩ := y
  show Calls Try.prog 46 #[.agg #[.int .i64 y1, .int .i64 y2, .int .i64 y3, .int .i64 y4, .string y5, .string y6, .int .i64 y7, .int .i64 y8, .int .i64 y9], .pointer (some ⟨B, 0, none⟩)] W _
  go_enter Try.func46, Try.ntmps46
  go_wp2
  all_goals go_ret
  all_goals refine ⟨ret_bool (by first | (simp [*]; done) | (rw [Bool.eq_iff_iff]; simp [*]; done) | (rw [Bool.eq_iff_iff]; simp)), ?_⟩
  all_goals try (
    repeat (first | (with_reducible exact Below.refl _ _) | (with_reducible assumption) | (with_reducible refine below_to_plus ?_ ?_ _) | (with_reducible refine below_holds ?_ ?_ _ _) | (with_reducible refine Below.alloc ?_ ?_ _) | (with_reducible refine Below.drew ?_) | (with_reducible refine below_drewN ?_ _) | (with_reducible refine Below.setCell ?_ ?_ _))
    all_goals first | omega | (simp; done) | (simp [go_sem]; done) | (simp [go_sem]; omega))

/-- The index of a descriptor; -1 if there is none. -/
def findI (num : Int) (xs : List Fd) : Int := Lib.idxBy (fun _ (y : Fd) => decide (y.num = num)) xs default

set_option maxHeartbeats 1000000 in
theorem find_calls (id num : Int) (ao : Option Addr) (n cap : Nat) (xs : List Fd) (w : World) (h : Sl w 9 ao n cap (xs.map Fd.enc)) :
    Calls Try.prog 28 #[.agg #[.int .i64 id, .slice ao n cap], .int .i64 num] w fun e w' => e = .returned (.int .i64 (findI num xs)) ∧ Below w.heap.size w w' := by
  have eg : ∀ args w, (callFunc 46 args).run Try.prog w = .ok (.enter 46 args) w := enters_of Try.func46 (by kernel_rfl) rfl
  have hb0 : Below w.heap.size w ((w.alloc (.cells #[.int .i64 id, .slice ao n cap] 24)).alloc (.cells #[.int .i64 num] 3)) := ((Below.refl _ w).alloc (Nat.le_refl _) _).alloc (by simp) _
  have c := fdIndexFunc_calls (fun y => decide (y.num = num)) 46 #[.pointer (some ⟨w.heap.size + 1, 0, none⟩)] eg ao n cap xs _ (h.stays hb0) (pred_find num (w.heap.size + 1) _ (by simp) (by simp [go_sem]))
  rw [show Lib.idxBy (fun _ (y : Fd) => decide (y.num = num)) xs default = findI num xs from rfl] at c
  clear h
  generalize findI num xs = r at c ⊢
  go_enter Try.func28, Try.ntmps28
  go_wp2_with fail
  refine c.mono ?_
  rintro e w1 ⟨rfl, hb⟩
  go_wp2
  go_ret
  exact ⟨rfl, hb0.trans (hb.mono hb0.size)⟩

end Go.Proofs.Ytbifanenoejjgaa
