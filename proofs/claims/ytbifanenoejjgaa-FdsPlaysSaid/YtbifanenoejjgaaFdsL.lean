/- This text proves the walks of Seek and Moved of package fds. Conditions: those that each theorem names. -/
import Derived.Test.YtbifanenoejjgaaFdsK
namespace Go.Proofs.Ytbifanenoejjgaa
open Go.ChangeShapes Go.WideShapes Go.ChangeAt Go.RowKit
set_option linter.unusedVariables false
set_option linter.unusedSimpArgs false

def baseF (d : Fd) (whence length : Int) : Int := if whence = 0 then 0 else if whence = 1 then d.offset else length
/-- What Seek returns: the list, the offset, the error. -/
def seekF (xs : List Fd) (num offset whence length : Int) : List Fd × Int × Int :=
  if (findF num xs).2 ≠ 0 then (xs, 0, (findF num xs).2) else if whence < 0 ∨ 2 < whence ∨ length < 0 then (xs, 0, 1)
  else if (sumF offset (baseF (findF num xs).1 whence length)).2 = false then (xs, 0, 20)
  else (xs.map (mvF (findF num xs).1.copy (sumF offset (baseF (findF num xs).1 whence length)).1), (sumF offset (baseF (findF num xs).1 whence length)).1, 0)
/-- What Moved returns: the list, the error. -/
def movedF (xs : List Fd) (num n : Int) : List Fd × Int :=
  if (findF num xs).2 ≠ 0 then (xs, (findF num xs).2) else if n < 0 then (xs, 1)
  else if (sumF n (findF num xs).1.offset).2 = false then (xs, 20) else (xs.map (mvF (findF num xs).1.copy (sumF n (findF num xs).1.offset).1), 0)
def MovedPost (w : World) (id : Int) (r : List Fd × Int) (e : Ending) (w' : World) : Prop :=
  ∃ ao cap, e = .returned (.tuple #[.agg #[.int .i64 id, .slice ao r.1.length cap], .int .i64 r.2]) ∧ w'.ownsRow w.heap.size 30 9 (.slice ao r.1.length cap) r.1.length (flatE Fd.enc r.1) ∧ Below w.heap.size w w'

set_option maxHeartbeats 4000000 in
theorem moved_calls (id num m : Int) (ao : Option Addr) (n cap : Nat) (xs : List Fd) (w : World) (h : Sl w 9 ao n cap (xs.map Fd.enc)) (hn : n ≤ 1000) (hf : ∀ y ∈ xs, 0 ≤ y.offset ∧ y.offset ≤ 9223372036854775807) (hm : -9223372036854775808 ≤ m ∧ m ≤ 9223372036854775807) :
    Calls Try.prog 21 #[.agg #[.int .i64 id, .slice ao n cap], .int .i64 num, .int .i64 m] w fun e w' => MovedPost w id (movedF xs num m) e w' := by
  have hln := Sl.lenE h
  have HL : Aside (xs.length = n) := hln
  have hb0 : Below w.heap.size w ((w.alloc (.cells #[.int .i64 id, .slice ao n cap] 24)).alloc (.cells #[.int .i64 0, .slice none 0 0] 24)) := by
    repeat (first | (with_reducible exact Below.refl _ _) | (with_reducible assumption) | (with_reducible refine below_to_plus ?_ ?_ _) | (with_reducible refine below_holds ?_ ?_ _ _) | (with_reducible refine Below.alloc ?_ ?_ _) | (with_reducible refine Below.drew ?_) | (with_reducible refine below_drewN ?_ _) | (with_reducible refine Below.setCell ?_ ?_ _))
    all_goals first | omega | (simp; done) | (simp [go_sem]; done) | (simp [go_sem]; omega)
  have HB0 : Aside (Below w.heap.size w ((w.alloc (.cells #[.int .i64 id, .slice ao n cap] 24)).alloc (.cells #[.int .i64 0, .slice none 0 0] 24))) := hb0
  have c0 := Find_calls id num ao n cap xs ((w.alloc (.cells #[.int .i64 id, .slice ao n cap] 24)).alloc (.cells #[.int .i64 0, .slice none 0 0] 24)) (h.stays hb0)
  have H : Aside (Sl w 9 ao n cap (xs.map Fd.enc)) := h
  have c1 : ∀ U, Below w.heap.size w U → Calls Try.prog 15 #[.agg #[.int .i64 id, .slice ao n cap], .int .i64 id] U fun e w' => CopyPost U id xs e w' := fun U hU => copy_calls id id ao n cap xs U (h.stays hU) (by omega)
  clear h hb0
  generalize hr : movedF xs num m = r
  have HR : Aside (r = movedF xs num m) := hr.symm
  clear hr
  rcases findI_spec num xs with ⟨e1, _⟩ | ⟨k, hk, e1, _⟩
  · 
    have HF : Aside (r = (xs, 44)) := by show _ = _; rw [HR.out]; unfold movedF; rw [show findF num xs = (default, 44) by unfold findF; rw [e1]; rfl]; rfl
    rw [show findF num xs = (default, 44) by unfold findF; rw [e1]; rfl] at c0
    have c0' : Calls Try.prog 12 #[.agg #[.int .i64 id, .slice ao n cap], .int .i64 num] ((w.alloc (.cells #[.int .i64 id, .slice ao n cap] 24)).alloc (.cells #[.int .i64 0, .slice none 0 0] 24)) fun e w' => e = .returned (.tuple #[.agg #[.int .i64 0, .int .i64 0, .int .i64 0, .int .i64 0, .string ⟨#[]⟩, .string ⟨#[]⟩, .int .i64 0, .int .i64 0, .int .i64 0], .int .i64 44]) ∧ Below ((w.alloc (.cells #[.int .i64 id, .slice ao n cap] 24)).alloc (.cells #[.int .i64 0, .slice none 0 0] 24)).heap.size ((w.alloc (.cells #[.int .i64 id, .slice ao n cap] 24)).alloc (.cells #[.int .i64 0, .slice none 0 0] 24)) w' := c0
    clear c0 HR e1 H
    go_enter Try.func21, Try.ntmps21
    go_wp2_with fail
    refine (c0').mono ?_
    rintro e w2 ⟨rfl, hb⟩
    obtain ⟨x, rfl⟩ := plus_of_below hb
    clear hb
    clear c0'
    go_wp2_with fail
    refine (c1 _ ?_).mono ?_
    · repeat (first | (with_reducible exact Below.refl _ _) | (with_reducible assumption) | (with_reducible refine below_to_plus ?_ ?_ _) | (with_reducible refine below_holds ?_ ?_ _ _) | (with_reducible refine Below.alloc ?_ ?_ _) | (with_reducible refine Below.drew ?_) | (with_reducible refine below_drewN ?_ _) | (with_reducible refine Below.setCell ?_ ?_ _))
      all_goals first | omega | (simp; done) | (simp [go_sem]; done) | (simp [go_sem]; omega)
    rintro e w1 ⟨ao2, cap2, rfl, hown, hb⟩
    rw [HL.out] at hown ⊢
    have HO : Aside (w1.ownsRow _ 30 9 (.slice ao2 n cap2) n (flatE Fd.enc xs)) := hown
    obtain ⟨z, rfl⟩ := plus_of_below hb
    clear hb hown c1
    go_wp2

    refine bodyPost_ret (v := .tuple #[.agg #[.int .i64 id, .slice ao2 n cap2], .int .i64 44]) (by simp [results, Try.results21, go_sem, ↓IntWalk.iteOmega]) rfl ⟨ao2, cap2, by rw [HF.out, HL.out], ?_, ?_⟩
    · rw [HF.out]
      show World.ownsRow _ _ _ _ (.slice ao2 xs.length cap2) xs.length (flatE Fd.enc xs)
      rw [HL.out]
      exact own_lower (own_past (W' := ((plus ((w.alloc (.cells #[.int .i64 id, .slice ao n cap] 24)).alloc (.cells #[.int .i64 id, .slice ao2 n cap2] 24)) x).alloc (.cells #[.int .i64 0, .int .i64 0, .int .i64 0, .int .i64 0, .string ⟨#[]⟩, .string ⟨#[]⟩, .int .i64 0, .int .i64 0, .int .i64 0] 30))) HO.out (Nat.le_refl _) (by simp [size_plus])) (by simp [size_plus]; omega)
    · repeat (first | (with_reducible exact Below.refl _ _) | (with_reducible assumption) | (with_reducible refine below_to_plus ?_ ?_ _) | (with_reducible refine below_holds ?_ ?_ _ _) | (with_reducible refine Below.alloc ?_ ?_ _) | (with_reducible refine Below.drew ?_) | (with_reducible refine below_drewN ?_ _) | (with_reducible refine Below.setCell ?_ ?_ _))
      all_goals first | omega | (simp; done) | (simp [go_sem]; done) | (simp [go_sem]; omega)


  · have ef : findF num xs = (xs[k]!, 0) := by unfold findF; rw [e1, if_neg (by omega)]; rfl
    rw [ef] at c0
    have c4 : ∀ s1, ∀ U, Below w.heap.size w U → Calls Try.prog 40 #[.agg #[.int .i64 id, .slice ao n cap], .int .i64 num, .int .i64 s1] U fun e w' => CopyPost U id (xs.map (mvF xs[k]!.copy s1)) e w' := fun s1 U hU => move_calls id num s1 ao n cap k xs U (H.out.stays hU) hn hk e1
    have ho := hf xs[k]! (by rw [getElem!_pos xs k hk]; exact List.getElem_mem _)
    clear hf hk
    generalize xs[k]! = d at ef c0 c4 ho
    obtain ⟨d1, d2, d3, d4, d5, d6, d7, d8, d9⟩ := d
    simp only [] at ho c4
    have c0' : Calls Try.prog 12 #[.agg #[.int .i64 id, .slice ao n cap], .int .i64 num] ((w.alloc (.cells #[.int .i64 id, .slice ao n cap] 24)).alloc (.cells #[.int .i64 0, .slice none 0 0] 24)) fun e w' => e = .returned (.tuple #[.agg #[.int .i64 d1, .int .i64 d2, .int .i64 d3, .int .i64 d4, .string d5, .string d6, .int .i64 d7, .int .i64 d8, .int .i64 d9], .int .i64 0]) ∧ Below ((w.alloc (.cells #[.int .i64 id, .slice ao n cap] 24)).alloc (.cells #[.int .i64 0, .slice none 0 0] 24)).heap.size ((w.alloc (.cells #[.int .i64 id, .slice ao n cap] 24)).alloc (.cells #[.int .i64 0, .slice none 0 0] 24)) w' := c0
    clear c0 e1
    by_cases ht : m < 0
    · skip
      have HF : Aside (r = (xs, 1)) := by show _ = _; rw [HR.out]; unfold movedF; rw [ef, if_neg (by simp)]; simp only []; rw [if_pos ht]
      clear HR H ef c4
      go_enter Try.func21, Try.ntmps21
      go_wp2_with fail
      refine (c0').mono ?_
      rintro e w2 ⟨rfl, hb⟩
      obtain ⟨x, rfl⟩ := plus_of_below hb
      clear hb
      clear c0'
      go_wp2_with fail
      refine (c1 _ ?_).mono ?_
      · repeat (first | (with_reducible exact Below.refl _ _) | (with_reducible assumption) | (with_reducible refine below_to_plus ?_ ?_ _) | (with_reducible refine below_holds ?_ ?_ _ _) | (with_reducible refine Below.alloc ?_ ?_ _) | (with_reducible refine Below.drew ?_) | (with_reducible refine below_drewN ?_ _) | (with_reducible refine Below.setCell ?_ ?_ _))
        all_goals first | omega | (simp; done) | (simp [go_sem]; done) | (simp [go_sem]; omega)
      rintro e w1 ⟨ao2, cap2, rfl, hown, hb⟩
      rw [HL.out] at hown ⊢
      have HO : Aside (w1.ownsRow _ 30 9 (.slice ao2 n cap2) n (flatE Fd.enc xs)) := hown
      obtain ⟨z, rfl⟩ := plus_of_below hb
      clear hb hown c1
      go_wp2
      refine bodyPost_ret (v := .tuple #[.agg #[.int .i64 id, .slice ao2 n cap2], .int .i64 1]) (by simp [results, Try.results21, go_sem, ↓IntWalk.iteOmega]) rfl ⟨ao2, cap2, by rw [HF.out, HL.out], ?_, ?_⟩
      · rw [HF.out]
        show World.ownsRow _ _ _ _ (.slice ao2 xs.length cap2) xs.length (flatE Fd.enc xs)
        rw [HL.out]
        exact own_lower (own_past (W' := ((plus ((w.alloc (.cells #[.int .i64 id, .slice ao n cap] 24)).alloc (.cells #[.int .i64 id, .slice ao2 n cap2] 24)) x).alloc (.cells #[.int .i64 d1, .int .i64 d2, .int .i64 d3, .int .i64 d4, .string d5, .string d6, .int .i64 d7, .int .i64 d8, .int .i64 d9] 30))) HO.out (Nat.le_refl _) (by simp [size_plus])) (by simp [size_plus]; omega)
      · repeat (first | (with_reducible exact Below.refl _ _) | (with_reducible assumption) | (with_reducible refine below_to_plus ?_ ?_ _) | (with_reducible refine below_holds ?_ ?_ _ _) | (with_reducible refine Below.alloc ?_ ?_ _) | (with_reducible refine Below.drew ?_) | (with_reducible refine below_drewN ?_ _) | (with_reducible refine Below.setCell ?_ ?_ _))
        all_goals first | omega | (simp; done) | (simp [go_sem]; done) | (simp [go_sem]; omega)


    have t1 : ¬ m < 0 := ht
    have c3 : ∀ U, Calls Try.prog 39 #[.int .i64 m, .int .i64 d8] U fun e w' => e = .returned (.tuple #[.int .i64 (sumF m d8).1, .bool (sumF m d8).2]) ∧ Below U.heap.size U w' := fun U => sum_calls m d8 U (by omega) (by omega)
    generalize hs : sumF m d8 = s at c3
    obtain ⟨s1, s2⟩ := s
    simp only [] at c3
    cases s2 with
    | false =>
      have HF : Aside (r = (xs, 20)) := by show _ = _; rw [HR.out]; unfold movedF; rw [ef, if_neg (by simp)]; simp only []; rw [if_neg ht, hs]; simp only [Bool.false_eq_true, if_true, if_false]
      clear HR H ef ht hs c4
      go_enter Try.func21, Try.ntmps21
      go_wp2_with fail
      refine (c0').mono ?_
      rintro e w2 ⟨rfl, hb⟩
      obtain ⟨x, rfl⟩ := plus_of_below hb
      clear hb
      clear c0'
      go_wp2_with fail
      refine (c3 _).mono ?_
      rintro e w2 ⟨rfl, hb⟩
      obtain ⟨y, rfl⟩ := plus_of_below hb
      clear hb c3
      go_wp2_with fail
      refine (c1 _ ?_).mono ?_
      · repeat (first | (with_reducible exact Below.refl _ _) | (with_reducible assumption) | (with_reducible refine below_to_plus ?_ ?_ _) | (with_reducible refine below_holds ?_ ?_ _ _) | (with_reducible refine Below.alloc ?_ ?_ _) | (with_reducible refine Below.drew ?_) | (with_reducible refine below_drewN ?_ _) | (with_reducible refine Below.setCell ?_ ?_ _))
        all_goals first | omega | (simp; done) | (simp [go_sem]; done) | (simp [go_sem]; omega)
      rintro e w1 ⟨ao2, cap2, rfl, hown, hb⟩
      rw [HL.out] at hown ⊢
      have HO : Aside (w1.ownsRow _ 30 9 (.slice ao2 n cap2) n (flatE Fd.enc xs)) := hown
      obtain ⟨z, rfl⟩ := plus_of_below hb
      clear hb hown c1
      go_wp2
      refine bodyPost_ret (v := .tuple #[.agg #[.int .i64 id, .slice ao2 n cap2], .int .i64 20]) (by simp [results, Try.results21, go_sem, ↓IntWalk.iteOmega]) rfl ⟨ao2, cap2, by rw [HF.out, HL.out], ?_, ?_⟩
      · rw [HF.out]
        show World.ownsRow _ _ _ _ (.slice ao2 xs.length cap2) xs.length (flatE Fd.enc xs)
        rw [HL.out]
        exact own_lower (own_past (W' := (plus ((plus ((w.alloc (.cells #[.int .i64 id, .slice ao n cap] 24)).alloc (.cells #[.int .i64 id, .slice ao2 n cap2] 24)) x).alloc (.cells #[.int .i64 d1, .int .i64 d2, .int .i64 d3, .int .i64 d4, .string d5, .string d6, .int .i64 d7, .int .i64 d8, .int .i64 d9] 30)) y)) HO.out (Nat.le_refl _) (by simp [size_plus])) (by simp [size_plus]; omega)
      · repeat (first | (with_reducible exact Below.refl _ _) | (with_reducible assumption) | (with_reducible refine below_to_plus ?_ ?_ _) | (with_reducible refine below_holds ?_ ?_ _ _) | (with_reducible refine Below.alloc ?_ ?_ _) | (with_reducible refine Below.drew ?_) | (with_reducible refine below_drewN ?_ _) | (with_reducible refine Below.setCell ?_ ?_ _))
        all_goals first | omega | (simp; done) | (simp [go_sem]; done) | (simp [go_sem]; omega)

    | true =>
      have c4 := c4 s1
      generalize hys : xs.map (mvF d9 s1) = ys at c4
      have HF : Aside (r = (ys, 0)) := by show _ = _; rw [HR.out]; unfold movedF; rw [ef, if_neg (by simp)]; simp only []; rw [if_neg ht, hs]; simp only [reduceCtorEq, if_false]; rw [← hys]
      have HYL : Aside (ys.length = n) := by show _ = _; rw [← hys, List.length_map]; exact HL.out
      clear HR H ef ht hs hys c1
      go_enter Try.func21, Try.ntmps21
      go_wp2_with fail
      refine (c0').mono ?_
      rintro e w2 ⟨rfl, hb⟩
      obtain ⟨x, rfl⟩ := plus_of_below hb
      clear hb
      clear c0'
      go_wp2_with fail
      refine (c3 _).mono ?_
      rintro e w2 ⟨rfl, hb⟩
      obtain ⟨y, rfl⟩ := plus_of_below hb
      clear hb c3
      go_wp2_with fail
      refine (c4 _ ?_).mono ?_
      · repeat (first | (with_reducible exact Below.refl _ _) | (with_reducible assumption) | (with_reducible refine below_to_plus ?_ ?_ _) | (with_reducible refine below_holds ?_ ?_ _ _) | (with_reducible refine Below.alloc ?_ ?_ _) | (with_reducible refine Below.drew ?_) | (with_reducible refine below_drewN ?_ _) | (with_reducible refine Below.setCell ?_ ?_ _))
        all_goals first | omega | (simp; done) | (simp [go_sem]; done) | (simp [go_sem]; omega)
      rintro e w1 ⟨ao2, cap2, rfl, hown, hb⟩
      rw [HYL.out] at hown ⊢
      have HO : Aside (w1.ownsRow _ 30 9 (.slice ao2 n cap2) n (flatE Fd.enc ys)) := hown
      obtain ⟨z, rfl⟩ := plus_of_below hb
      clear hb hown c4
      go_wp2
      refine bodyPost_ret (v := .tuple #[.agg #[.int .i64 id, .slice ao2 n cap2], .int .i64 0]) (by simp [results, Try.results21, go_sem, ↓IntWalk.iteOmega]) rfl ⟨ao2, cap2, by rw [HF.out, HYL.out], ?_, ?_⟩
      · rw [HF.out]
        show World.ownsRow _ _ _ _ (.slice ao2 ys.length cap2) ys.length (flatE Fd.enc ys)
        rw [HYL.out]
        exact own_lower (own_past (W' := (plus ((plus ((w.alloc (.cells #[.int .i64 id, .slice ao n cap] 24)).alloc (.cells #[.int .i64 id, .slice ao2 n cap2] 24)) x).alloc (.cells #[.int .i64 d1, .int .i64 d2, .int .i64 d3, .int .i64 d4, .string d5, .string d6, .int .i64 d7, .int .i64 d8, .int .i64 d9] 30)) y)) HO.out (Nat.le_refl _) (by simp [size_plus])) (by simp [size_plus]; omega)
      · repeat (first | (with_reducible exact Below.refl _ _) | (with_reducible assumption) | (with_reducible refine below_to_plus ?_ ?_ _) | (with_reducible refine below_holds ?_ ?_ _ _) | (with_reducible refine Below.alloc ?_ ?_ _) | (with_reducible refine Below.drew ?_) | (with_reducible refine below_drewN ?_ _) | (with_reducible refine Below.setCell ?_ ?_ _))
        all_goals first | omega | (simp; done) | (simp [go_sem]; done) | (simp [go_sem]; omega)


set_option maxHeartbeats 4000000 in
theorem seek_calls (id num offset whence length : Int) (ao : Option Addr) (n cap : Nat) (xs : List Fd) (w : World) (h : Sl w 9 ao n cap (xs.map Fd.enc)) (hn : n ≤ 1000) (hf : ∀ y ∈ xs, 0 ≤ y.offset ∧ y.offset ≤ 9223372036854775807) (hm : -9223372036854775808 ≤ offset ∧ offset ≤ 9223372036854775807) (hlg : length ≤ 9223372036854775807) :
    Calls Try.prog 22 #[.agg #[.int .i64 id, .slice ao n cap], .int .i64 num, .int .i64 offset, .int .i64 whence, .int .i64 length] w fun e w' => RetPost w id (seekF xs num offset whence length) e w' := by
  have hln := Sl.lenE h
  have HL : Aside (xs.length = n) := hln
  have hb0 : Below w.heap.size w ((w.alloc (.cells #[.int .i64 id, .slice ao n cap] 24)).alloc (.cells #[.int .i64 0, .slice none 0 0] 24)) := by
    repeat (first | (with_reducible exact Below.refl _ _) | (with_reducible assumption) | (with_reducible refine below_to_plus ?_ ?_ _) | (with_reducible refine below_holds ?_ ?_ _ _) | (with_reducible refine Below.alloc ?_ ?_ _) | (with_reducible refine Below.drew ?_) | (with_reducible refine below_drewN ?_ _) | (with_reducible refine Below.setCell ?_ ?_ _))
    all_goals first | omega | (simp; done) | (simp [go_sem]; done) | (simp [go_sem]; omega)
  have HB0 : Aside (Below w.heap.size w ((w.alloc (.cells #[.int .i64 id, .slice ao n cap] 24)).alloc (.cells #[.int .i64 0, .slice none 0 0] 24))) := hb0
  have c0 := Find_calls id num ao n cap xs ((w.alloc (.cells #[.int .i64 id, .slice ao n cap] 24)).alloc (.cells #[.int .i64 0, .slice none 0 0] 24)) (h.stays hb0)
  have H : Aside (Sl w 9 ao n cap (xs.map Fd.enc)) := h
  have c1 : ∀ U, Below w.heap.size w U → Calls Try.prog 15 #[.agg #[.int .i64 id, .slice ao n cap], .int .i64 id] U fun e w' => CopyPost U id xs e w' := fun U hU => copy_calls id id ao n cap xs U (h.stays hU) (by omega)
  clear h hb0
  generalize hr : seekF xs num offset whence length = r
  have HR : Aside (r = seekF xs num offset whence length) := hr.symm
  clear hr
  rcases findI_spec num xs with ⟨e1, _⟩ | ⟨k, hk, e1, _⟩
  · 
    have HF : Aside (r = (xs, 0, 44)) := by show _ = _; rw [HR.out]; unfold seekF; rw [show findF num xs = (default, 44) by unfold findF; rw [e1]; rfl]; rfl
    rw [show findF num xs = (default, 44) by unfold findF; rw [e1]; rfl] at c0
    have c0' : Calls Try.prog 12 #[.agg #[.int .i64 id, .slice ao n cap], .int .i64 num] ((w.alloc (.cells #[.int .i64 id, .slice ao n cap] 24)).alloc (.cells #[.int .i64 0, .slice none 0 0] 24)) fun e w' => e = .returned (.tuple #[.agg #[.int .i64 0, .int .i64 0, .int .i64 0, .int .i64 0, .string ⟨#[]⟩, .string ⟨#[]⟩, .int .i64 0, .int .i64 0, .int .i64 0], .int .i64 44]) ∧ Below ((w.alloc (.cells #[.int .i64 id, .slice ao n cap] 24)).alloc (.cells #[.int .i64 0, .slice none 0 0] 24)).heap.size ((w.alloc (.cells #[.int .i64 id, .slice ao n cap] 24)).alloc (.cells #[.int .i64 0, .slice none 0 0] 24)) w' := c0
    clear c0 HR e1 H
    go_enter Try.func22, Try.ntmps22
    go_wp2_with fail
    refine (c0').mono ?_
    rintro e w2 ⟨rfl, hb⟩
    obtain ⟨x, rfl⟩ := plus_of_below hb
    clear hb
    clear c0'
    go_wp2_with fail
    refine (c1 _ ?_).mono ?_
    · repeat (first | (with_reducible exact Below.refl _ _) | (with_reducible assumption) | (with_reducible refine below_to_plus ?_ ?_ _) | (with_reducible refine below_holds ?_ ?_ _ _) | (with_reducible refine Below.alloc ?_ ?_ _) | (with_reducible refine Below.drew ?_) | (with_reducible refine below_drewN ?_ _) | (with_reducible refine Below.setCell ?_ ?_ _))
      all_goals first | omega | (simp; done) | (simp [go_sem]; done) | (simp [go_sem]; omega)
    rintro e w1 ⟨ao2, cap2, rfl, hown, hb⟩
    rw [HL.out] at hown ⊢
    have HO : Aside (w1.ownsRow _ 30 9 (.slice ao2 n cap2) n (flatE Fd.enc xs)) := hown
    obtain ⟨z, rfl⟩ := plus_of_below hb
    clear hb hown c1
    go_wp2

    refine bodyPost_ret (v := .tuple #[.agg #[.int .i64 id, .slice ao2 n cap2], .int .i64 0, .int .i64 44]) (by simp [results, Try.results22, go_sem, ↓IntWalk.iteOmega]) rfl ⟨ao2, cap2, by rw [HF.out, HL.out], ?_, ?_⟩
    · rw [HF.out]
      show World.ownsRow _ _ _ _ (.slice ao2 xs.length cap2) xs.length (flatE Fd.enc xs)
      rw [HL.out]
      exact own_lower (own_past (W' := ((plus ((w.alloc (.cells #[.int .i64 id, .slice ao n cap] 24)).alloc (.cells #[.int .i64 id, .slice ao2 n cap2] 24)) x).alloc (.cells #[.int .i64 0, .int .i64 0, .int .i64 0, .int .i64 0, .string ⟨#[]⟩, .string ⟨#[]⟩, .int .i64 0, .int .i64 0, .int .i64 0] 30))) HO.out (Nat.le_refl _) (by simp [size_plus])) (by simp [size_plus]; omega)
    · repeat (first | (with_reducible exact Below.refl _ _) | (with_reducible assumption) | (with_reducible refine below_to_plus ?_ ?_ _) | (with_reducible refine below_holds ?_ ?_ _ _) | (with_reducible refine Below.alloc ?_ ?_ _) | (with_reducible refine Below.drew ?_) | (with_reducible refine below_drewN ?_ _) | (with_reducible refine Below.setCell ?_ ?_ _))
      all_goals first | omega | (simp; done) | (simp [go_sem]; done) | (simp [go_sem]; omega)


  · have ef : findF num xs = (xs[k]!, 0) := by unfold findF; rw [e1, if_neg (by omega)]; rfl
    rw [ef] at c0
    have c4 : ∀ s1, ∀ U, Below w.heap.size w U → Calls Try.prog 40 #[.agg #[.int .i64 id, .slice ao n cap], .int .i64 num, .int .i64 s1] U fun e w' => CopyPost U id (xs.map (mvF xs[k]!.copy s1)) e w' := fun s1 U hU => move_calls id num s1 ao n cap k xs U (H.out.stays hU) hn hk e1
    have ho := hf xs[k]! (by rw [getElem!_pos xs k hk]; exact List.getElem_mem _)
    clear hf hk
    generalize xs[k]! = d at ef c0 c4 ho
    obtain ⟨d1, d2, d3, d4, d5, d6, d7, d8, d9⟩ := d
    simp only [] at ho c4
    have c0' : Calls Try.prog 12 #[.agg #[.int .i64 id, .slice ao n cap], .int .i64 num] ((w.alloc (.cells #[.int .i64 id, .slice ao n cap] 24)).alloc (.cells #[.int .i64 0, .slice none 0 0] 24)) fun e w' => e = .returned (.tuple #[.agg #[.int .i64 d1, .int .i64 d2, .int .i64 d3, .int .i64 d4, .string d5, .string d6, .int .i64 d7, .int .i64 d8, .int .i64 d9], .int .i64 0]) ∧ Below ((w.alloc (.cells #[.int .i64 id, .slice ao n cap] 24)).alloc (.cells #[.int .i64 0, .slice none 0 0] 24)).heap.size ((w.alloc (.cells #[.int .i64 id, .slice ao n cap] 24)).alloc (.cells #[.int .i64 0, .slice none 0 0] 24)) w' := c0
    clear c0 e1
    by_cases ht : whence < 0 ∨ 2 < whence ∨ length < 0
    · skip
      have HF : Aside (r = (xs, 0, 1)) := by show _ = _; rw [HR.out]; unfold seekF; rw [ef, if_neg (by simp)]; simp only []; rw [if_pos ht]
      clear HR H ef c4
      by_cases t1 : whence < 0
      · have t2 : ¬ 2 < whence := by omega
        clear ht
        go_enter Try.func22, Try.ntmps22
        go_wp2_with fail
        refine (c0').mono ?_
        rintro e w2 ⟨rfl, hb⟩
        obtain ⟨x, rfl⟩ := plus_of_below hb
        clear hb
        clear c0'
        go_wp2_with fail
        refine (c1 _ ?_).mono ?_
        · repeat (first | (with_reducible exact Below.refl _ _) | (with_reducible assumption) | (with_reducible refine below_to_plus ?_ ?_ _) | (with_reducible refine below_holds ?_ ?_ _ _) | (with_reducible refine Below.alloc ?_ ?_ _) | (with_reducible refine Below.drew ?_) | (with_reducible refine below_drewN ?_ _) | (with_reducible refine Below.setCell ?_ ?_ _))
          all_goals first | omega | (simp; done) | (simp [go_sem]; done) | (simp [go_sem]; omega)
        rintro e w1 ⟨ao2, cap2, rfl, hown, hb⟩
        rw [HL.out] at hown ⊢
        have HO : Aside (w1.ownsRow _ 30 9 (.slice ao2 n cap2) n (flatE Fd.enc xs)) := hown
        obtain ⟨z, rfl⟩ := plus_of_below hb
        clear hb hown c1
        go_wp2
        refine bodyPost_ret (v := .tuple #[.agg #[.int .i64 id, .slice ao2 n cap2], .int .i64 0, .int .i64 1]) (by simp [results, Try.results22, go_sem, ↓IntWalk.iteOmega]) rfl ⟨ao2, cap2, by rw [HF.out, HL.out], ?_, ?_⟩
        · rw [HF.out]
          show World.ownsRow _ _ _ _ (.slice ao2 xs.length cap2) xs.length (flatE Fd.enc xs)
          rw [HL.out]
          exact own_lower (own_past (W' := ((plus ((w.alloc (.cells #[.int .i64 id, .slice ao n cap] 24)).alloc (.cells #[.int .i64 id, .slice ao2 n cap2] 24)) x).alloc (.cells #[.int .i64 d1, .int .i64 d2, .int .i64 d3, .int .i64 d4, .string d5, .string d6, .int .i64 d7, .int .i64 d8, .int .i64 d9] 30))) HO.out (Nat.le_refl _) (by simp [size_plus])) (by simp [size_plus]; omega)
        · repeat (first | (with_reducible exact Below.refl _ _) | (with_reducible assumption) | (with_reducible refine below_to_plus ?_ ?_ _) | (with_reducible refine below_holds ?_ ?_ _ _) | (with_reducible refine Below.alloc ?_ ?_ _) | (with_reducible refine Below.drew ?_) | (with_reducible refine below_drewN ?_ _) | (with_reducible refine Below.setCell ?_ ?_ _))
          all_goals first | omega | (simp; done) | (simp [go_sem]; done) | (simp [go_sem]; omega)

      · by_cases t2 : 2 < whence
        · clear ht
          go_enter Try.func22, Try.ntmps22
          go_wp2_with fail
          refine (c0').mono ?_
          rintro e w2 ⟨rfl, hb⟩
          obtain ⟨x, rfl⟩ := plus_of_below hb
          clear hb
          clear c0'
          go_wp2_with fail
          refine (c1 _ ?_).mono ?_
          · repeat (first | (with_reducible exact Below.refl _ _) | (with_reducible assumption) | (with_reducible refine below_to_plus ?_ ?_ _) | (with_reducible refine below_holds ?_ ?_ _ _) | (with_reducible refine Below.alloc ?_ ?_ _) | (with_reducible refine Below.drew ?_) | (with_reducible refine below_drewN ?_ _) | (with_reducible refine Below.setCell ?_ ?_ _))
            all_goals first | omega | (simp; done) | (simp [go_sem]; done) | (simp [go_sem]; omega)
          rintro e w1 ⟨ao2, cap2, rfl, hown, hb⟩
          rw [HL.out] at hown ⊢
          have HO : Aside (w1.ownsRow _ 30 9 (.slice ao2 n cap2) n (flatE Fd.enc xs)) := hown
          obtain ⟨z, rfl⟩ := plus_of_below hb
          clear hb hown c1
          go_wp2
          refine bodyPost_ret (v := .tuple #[.agg #[.int .i64 id, .slice ao2 n cap2], .int .i64 0, .int .i64 1]) (by simp [results, Try.results22, go_sem, ↓IntWalk.iteOmega]) rfl ⟨ao2, cap2, by rw [HF.out, HL.out], ?_, ?_⟩
          · rw [HF.out]
            show World.ownsRow _ _ _ _ (.slice ao2 xs.length cap2) xs.length (flatE Fd.enc xs)
            rw [HL.out]
            exact own_lower (own_past (W' := ((plus ((w.alloc (.cells #[.int .i64 id, .slice ao n cap] 24)).alloc (.cells #[.int .i64 id, .slice ao2 n cap2] 24)) x).alloc (.cells #[.int .i64 d1, .int .i64 d2, .int .i64 d3, .int .i64 d4, .string d5, .string d6, .int .i64 d7, .int .i64 d8, .int .i64 d9] 30))) HO.out (Nat.le_refl _) (by simp [size_plus])) (by simp [size_plus]; omega)
          · repeat (first | (with_reducible exact Below.refl _ _) | (with_reducible assumption) | (with_reducible refine below_to_plus ?_ ?_ _) | (with_reducible refine below_holds ?_ ?_ _ _) | (with_reducible refine Below.alloc ?_ ?_ _) | (with_reducible refine Below.drew ?_) | (with_reducible refine below_drewN ?_ _) | (with_reducible refine Below.setCell ?_ ?_ _))
            all_goals first | omega | (simp; done) | (simp [go_sem]; done) | (simp [go_sem]; omega)

        · have t3 : length < 0 := by omega
          clear ht
          go_enter Try.func22, Try.ntmps22
          go_wp2_with fail
          refine (c0').mono ?_
          rintro e w2 ⟨rfl, hb⟩
          obtain ⟨x, rfl⟩ := plus_of_below hb
          clear hb
          clear c0'
          go_wp2_with fail
          refine (c1 _ ?_).mono ?_
          · repeat (first | (with_reducible exact Below.refl _ _) | (with_reducible assumption) | (with_reducible refine below_to_plus ?_ ?_ _) | (with_reducible refine below_holds ?_ ?_ _ _) | (with_reducible refine Below.alloc ?_ ?_ _) | (with_reducible refine Below.drew ?_) | (with_reducible refine below_drewN ?_ _) | (with_reducible refine Below.setCell ?_ ?_ _))
            all_goals first | omega | (simp; done) | (simp [go_sem]; done) | (simp [go_sem]; omega)
          rintro e w1 ⟨ao2, cap2, rfl, hown, hb⟩
          rw [HL.out] at hown ⊢
          have HO : Aside (w1.ownsRow _ 30 9 (.slice ao2 n cap2) n (flatE Fd.enc xs)) := hown
          obtain ⟨z, rfl⟩ := plus_of_below hb
          clear hb hown c1
          go_wp2
          refine bodyPost_ret (v := .tuple #[.agg #[.int .i64 id, .slice ao2 n cap2], .int .i64 0, .int .i64 1]) (by simp [results, Try.results22, go_sem, ↓IntWalk.iteOmega]) rfl ⟨ao2, cap2, by rw [HF.out, HL.out], ?_, ?_⟩
          · rw [HF.out]
            show World.ownsRow _ _ _ _ (.slice ao2 xs.length cap2) xs.length (flatE Fd.enc xs)
            rw [HL.out]
            exact own_lower (own_past (W' := ((plus ((w.alloc (.cells #[.int .i64 id, .slice ao n cap] 24)).alloc (.cells #[.int .i64 id, .slice ao2 n cap2] 24)) x).alloc (.cells #[.int .i64 d1, .int .i64 d2, .int .i64 d3, .int .i64 d4, .string d5, .string d6, .int .i64 d7, .int .i64 d8, .int .i64 d9] 30))) HO.out (Nat.le_refl _) (by simp [size_plus])) (by simp [size_plus]; omega)
          · repeat (first | (with_reducible exact Below.refl _ _) | (with_reducible assumption) | (with_reducible refine below_to_plus ?_ ?_ _) | (with_reducible refine below_holds ?_ ?_ _ _) | (with_reducible refine Below.alloc ?_ ?_ _) | (with_reducible refine Below.drew ?_) | (with_reducible refine below_drewN ?_ _) | (with_reducible refine Below.setCell ?_ ?_ _))
            all_goals first | omega | (simp; done) | (simp [go_sem]; done) | (simp [go_sem]; omega)


    have t1 : ¬ whence < 0 := by omega
    have t2 : ¬ 2 < whence := by omega
    have t3 : ¬ length < 0 := by omega
    obtain hw | hw | hw : whence = 0 ∨ whence = 1 ∨ whence = 2 := by omega
    · subst hw
      have c3 : ∀ U, Calls Try.prog 39 #[.int .i64 offset, .int .i64 0] U fun e w' => e = .returned (.tuple #[.int .i64 (sumF offset 0).1, .bool (sumF offset 0).2]) ∧ Below U.heap.size U w' := fun U => sum_calls offset 0 U (by omega) (by omega)
      generalize hs : sumF offset 0 = s at c3
      obtain ⟨s1, s2⟩ := s
      simp only [] at c3
      cases s2 with
      | false =>
        have HF : Aside (r = (xs, 0, 20)) := by show _ = _; rw [HR.out]; unfold seekF; rw [ef, if_neg (by simp)]; simp only []; rw [if_neg ht, show baseF ⟨d1, d2, d3, d4, d5, d6, d7, d8, d9⟩ 0 length = 0 from rfl, hs]; simp only [Bool.false_eq_true, if_true, if_false]
        clear HR H ef ht hs c4
        go_enter Try.func22, Try.ntmps22
        go_wp2_with fail
        refine (c0').mono ?_
        rintro e w2 ⟨rfl, hb⟩
        obtain ⟨x, rfl⟩ := plus_of_below hb
        clear hb
        clear c0'
        go_wp2_with fail
        refine (c3 _).mono ?_
        rintro e w2 ⟨rfl, hb⟩
        obtain ⟨y, rfl⟩ := plus_of_below hb
        clear hb c3
        go_wp2_with fail
        refine (c1 _ ?_).mono ?_
        · repeat (first | (with_reducible exact Below.refl _ _) | (with_reducible assumption) | (with_reducible refine below_to_plus ?_ ?_ _) | (with_reducible refine below_holds ?_ ?_ _ _) | (with_reducible refine Below.alloc ?_ ?_ _) | (with_reducible refine Below.drew ?_) | (with_reducible refine below_drewN ?_ _) | (with_reducible refine Below.setCell ?_ ?_ _))
          all_goals first | omega | (simp; done) | (simp [go_sem]; done) | (simp [go_sem]; omega)
        rintro e w1 ⟨ao2, cap2, rfl, hown, hb⟩
        rw [HL.out] at hown ⊢
        have HO : Aside (w1.ownsRow _ 30 9 (.slice ao2 n cap2) n (flatE Fd.enc xs)) := hown
        obtain ⟨z, rfl⟩ := plus_of_below hb
        clear hb hown c1
        go_wp2
        refine bodyPost_ret (v := .tuple #[.agg #[.int .i64 id, .slice ao2 n cap2], .int .i64 0, .int .i64 20]) (by simp [results, Try.results22, go_sem, ↓IntWalk.iteOmega]) rfl ⟨ao2, cap2, by rw [HF.out, HL.out], ?_, ?_⟩
        · rw [HF.out]
          show World.ownsRow _ _ _ _ (.slice ao2 xs.length cap2) xs.length (flatE Fd.enc xs)
          rw [HL.out]
          exact own_lower (own_past (W' := (plus (((plus ((w.alloc (.cells #[.int .i64 id, .slice ao n cap] 24)).alloc (.cells #[.int .i64 id, .slice ao2 n cap2] 24)) x).alloc (.cells #[.int .i64 d1, .int .i64 d2, .int .i64 d3, .int .i64 d4, .string d5, .string d6, .int .i64 d7, .int .i64 d8, .int .i64 d9] 30)).alloc (.cells #[.int .i64 0, .int .i64 d8, .int .i64 length] 3)) y)) HO.out (Nat.le_refl _) (by simp [size_plus])) (by simp [size_plus]; omega)
        · repeat (first | (with_reducible exact Below.refl _ _) | (with_reducible assumption) | (with_reducible refine below_to_plus ?_ ?_ _) | (with_reducible refine below_holds ?_ ?_ _ _) | (with_reducible refine Below.alloc ?_ ?_ _) | (with_reducible refine Below.drew ?_) | (with_reducible refine below_drewN ?_ _) | (with_reducible refine Below.setCell ?_ ?_ _))
          all_goals first | omega | (simp; done) | (simp [go_sem]; done) | (simp [go_sem]; omega)

      | true =>
        have c4 := c4 s1
        generalize hys : xs.map (mvF d9 s1) = ys at c4
        have HF : Aside (r = (ys, s1, 0)) := by show _ = _; rw [HR.out]; unfold seekF; rw [ef, if_neg (by simp)]; simp only []; rw [if_neg ht, show baseF ⟨d1, d2, d3, d4, d5, d6, d7, d8, d9⟩ 0 length = 0 from rfl, hs]; simp only [reduceCtorEq, if_false]; rw [← hys]
        have HYL : Aside (ys.length = n) := by show _ = _; rw [← hys, List.length_map]; exact HL.out
        clear HR H ef ht hs hys c1
        go_enter Try.func22, Try.ntmps22
        go_wp2_with fail
        refine (c0').mono ?_
        rintro e w2 ⟨rfl, hb⟩
        obtain ⟨x, rfl⟩ := plus_of_below hb
        clear hb
        clear c0'
        go_wp2_with fail
        refine (c3 _).mono ?_
        rintro e w2 ⟨rfl, hb⟩
        obtain ⟨y, rfl⟩ := plus_of_below hb
        clear hb c3
        go_wp2_with fail
        refine (c4 _ ?_).mono ?_
        · repeat (first | (with_reducible exact Below.refl _ _) | (with_reducible assumption) | (with_reducible refine below_to_plus ?_ ?_ _) | (with_reducible refine below_holds ?_ ?_ _ _) | (with_reducible refine Below.alloc ?_ ?_ _) | (with_reducible refine Below.drew ?_) | (with_reducible refine below_drewN ?_ _) | (with_reducible refine Below.setCell ?_ ?_ _))
          all_goals first | omega | (simp; done) | (simp [go_sem]; done) | (simp [go_sem]; omega)
        rintro e w1 ⟨ao2, cap2, rfl, hown, hb⟩
        rw [HYL.out] at hown ⊢
        have HO : Aside (w1.ownsRow _ 30 9 (.slice ao2 n cap2) n (flatE Fd.enc ys)) := hown
        obtain ⟨z, rfl⟩ := plus_of_below hb
        clear hb hown c4
        go_wp2
        refine bodyPost_ret (v := .tuple #[.agg #[.int .i64 id, .slice ao2 n cap2], .int .i64 s1, .int .i64 0]) (by simp [results, Try.results22, go_sem, ↓IntWalk.iteOmega]) rfl ⟨ao2, cap2, by rw [HF.out, HYL.out], ?_, ?_⟩
        · rw [HF.out]
          show World.ownsRow _ _ _ _ (.slice ao2 ys.length cap2) ys.length (flatE Fd.enc ys)
          rw [HYL.out]
          exact own_lower (own_past (W' := (plus (((plus ((w.alloc (.cells #[.int .i64 id, .slice ao n cap] 24)).alloc (.cells #[.int .i64 id, .slice ao2 n cap2] 24)) x).alloc (.cells #[.int .i64 d1, .int .i64 d2, .int .i64 d3, .int .i64 d4, .string d5, .string d6, .int .i64 d7, .int .i64 d8, .int .i64 d9] 30)).alloc (.cells #[.int .i64 0, .int .i64 d8, .int .i64 length] 3)) y)) HO.out (Nat.le_refl _) (by simp [size_plus])) (by simp [size_plus]; omega)
        · repeat (first | (with_reducible exact Below.refl _ _) | (with_reducible assumption) | (with_reducible refine below_to_plus ?_ ?_ _) | (with_reducible refine below_holds ?_ ?_ _ _) | (with_reducible refine Below.alloc ?_ ?_ _) | (with_reducible refine Below.drew ?_) | (with_reducible refine below_drewN ?_ _) | (with_reducible refine Below.setCell ?_ ?_ _))
          all_goals first | omega | (simp; done) | (simp [go_sem]; done) | (simp [go_sem]; omega)



    · subst hw
      have c3 : ∀ U, Calls Try.prog 39 #[.int .i64 offset, .int .i64 d8] U fun e w' => e = .returned (.tuple #[.int .i64 (sumF offset d8).1, .bool (sumF offset d8).2]) ∧ Below U.heap.size U w' := fun U => sum_calls offset d8 U (by omega) (by omega)
      generalize hs : sumF offset d8 = s at c3
      obtain ⟨s1, s2⟩ := s
      simp only [] at c3
      cases s2 with
      | false =>
        have HF : Aside (r = (xs, 0, 20)) := by show _ = _; rw [HR.out]; unfold seekF; rw [ef, if_neg (by simp)]; simp only []; rw [if_neg ht, show baseF ⟨d1, d2, d3, d4, d5, d6, d7, d8, d9⟩ 1 length = d8 from rfl, hs]; simp only [Bool.false_eq_true, if_true, if_false]
        clear HR H ef ht hs c4
        go_enter Try.func22, Try.ntmps22
        go_wp2_with fail
        refine (c0').mono ?_
        rintro e w2 ⟨rfl, hb⟩
        obtain ⟨x, rfl⟩ := plus_of_below hb
        clear hb
        clear c0'
        go_wp2_with fail
        refine (c3 _).mono ?_
        rintro e w2 ⟨rfl, hb⟩
        obtain ⟨y, rfl⟩ := plus_of_below hb
        clear hb c3
        go_wp2_with fail
        refine (c1 _ ?_).mono ?_
        · repeat (first | (with_reducible exact Below.refl _ _) | (with_reducible assumption) | (with_reducible refine below_to_plus ?_ ?_ _) | (with_reducible refine below_holds ?_ ?_ _ _) | (with_reducible refine Below.alloc ?_ ?_ _) | (with_reducible refine Below.drew ?_) | (with_reducible refine below_drewN ?_ _) | (with_reducible refine Below.setCell ?_ ?_ _))
          all_goals first | omega | (simp; done) | (simp [go_sem]; done) | (simp [go_sem]; omega)
        rintro e w1 ⟨ao2, cap2, rfl, hown, hb⟩
        rw [HL.out] at hown ⊢
        have HO : Aside (w1.ownsRow _ 30 9 (.slice ao2 n cap2) n (flatE Fd.enc xs)) := hown
        obtain ⟨z, rfl⟩ := plus_of_below hb
        clear hb hown c1
        go_wp2
        refine bodyPost_ret (v := .tuple #[.agg #[.int .i64 id, .slice ao2 n cap2], .int .i64 0, .int .i64 20]) (by simp [results, Try.results22, go_sem, ↓IntWalk.iteOmega]) rfl ⟨ao2, cap2, by rw [HF.out, HL.out], ?_, ?_⟩
        · rw [HF.out]
          show World.ownsRow _ _ _ _ (.slice ao2 xs.length cap2) xs.length (flatE Fd.enc xs)
          rw [HL.out]
          exact own_lower (own_past (W' := (plus (((plus ((w.alloc (.cells #[.int .i64 id, .slice ao n cap] 24)).alloc (.cells #[.int .i64 id, .slice ao2 n cap2] 24)) x).alloc (.cells #[.int .i64 d1, .int .i64 d2, .int .i64 d3, .int .i64 d4, .string d5, .string d6, .int .i64 d7, .int .i64 d8, .int .i64 d9] 30)).alloc (.cells #[.int .i64 0, .int .i64 d8, .int .i64 length] 3)) y)) HO.out (Nat.le_refl _) (by simp [size_plus])) (by simp [size_plus]; omega)
        · repeat (first | (with_reducible exact Below.refl _ _) | (with_reducible assumption) | (with_reducible refine below_to_plus ?_ ?_ _) | (with_reducible refine below_holds ?_ ?_ _ _) | (with_reducible refine Below.alloc ?_ ?_ _) | (with_reducible refine Below.drew ?_) | (with_reducible refine below_drewN ?_ _) | (with_reducible refine Below.setCell ?_ ?_ _))
          all_goals first | omega | (simp; done) | (simp [go_sem]; done) | (simp [go_sem]; omega)

      | true =>
        have c4 := c4 s1
        generalize hys : xs.map (mvF d9 s1) = ys at c4
        have HF : Aside (r = (ys, s1, 0)) := by show _ = _; rw [HR.out]; unfold seekF; rw [ef, if_neg (by simp)]; simp only []; rw [if_neg ht, show baseF ⟨d1, d2, d3, d4, d5, d6, d7, d8, d9⟩ 1 length = d8 from rfl, hs]; simp only [reduceCtorEq, if_false]; rw [← hys]
        have HYL : Aside (ys.length = n) := by show _ = _; rw [← hys, List.length_map]; exact HL.out
        clear HR H ef ht hs hys c1
        go_enter Try.func22, Try.ntmps22
        go_wp2_with fail
        refine (c0').mono ?_
        rintro e w2 ⟨rfl, hb⟩
        obtain ⟨x, rfl⟩ := plus_of_below hb
        clear hb
        clear c0'
        go_wp2_with fail
        refine (c3 _).mono ?_
        rintro e w2 ⟨rfl, hb⟩
        obtain ⟨y, rfl⟩ := plus_of_below hb
        clear hb c3
        go_wp2_with fail
        refine (c4 _ ?_).mono ?_
        · repeat (first | (with_reducible exact Below.refl _ _) | (with_reducible assumption) | (with_reducible refine below_to_plus ?_ ?_ _) | (with_reducible refine below_holds ?_ ?_ _ _) | (with_reducible refine Below.alloc ?_ ?_ _) | (with_reducible refine Below.drew ?_) | (with_reducible refine below_drewN ?_ _) | (with_reducible refine Below.setCell ?_ ?_ _))
          all_goals first | omega | (simp; done) | (simp [go_sem]; done) | (simp [go_sem]; omega)
        rintro e w1 ⟨ao2, cap2, rfl, hown, hb⟩
        rw [HYL.out] at hown ⊢
        have HO : Aside (w1.ownsRow _ 30 9 (.slice ao2 n cap2) n (flatE Fd.enc ys)) := hown
        obtain ⟨z, rfl⟩ := plus_of_below hb
        clear hb hown c4
        go_wp2
        refine bodyPost_ret (v := .tuple #[.agg #[.int .i64 id, .slice ao2 n cap2], .int .i64 s1, .int .i64 0]) (by simp [results, Try.results22, go_sem, ↓IntWalk.iteOmega]) rfl ⟨ao2, cap2, by rw [HF.out, HYL.out], ?_, ?_⟩
        · rw [HF.out]
          show World.ownsRow _ _ _ _ (.slice ao2 ys.length cap2) ys.length (flatE Fd.enc ys)
          rw [HYL.out]
          exact own_lower (own_past (W' := (plus (((plus ((w.alloc (.cells #[.int .i64 id, .slice ao n cap] 24)).alloc (.cells #[.int .i64 id, .slice ao2 n cap2] 24)) x).alloc (.cells #[.int .i64 d1, .int .i64 d2, .int .i64 d3, .int .i64 d4, .string d5, .string d6, .int .i64 d7, .int .i64 d8, .int .i64 d9] 30)).alloc (.cells #[.int .i64 0, .int .i64 d8, .int .i64 length] 3)) y)) HO.out (Nat.le_refl _) (by simp [size_plus])) (by simp [size_plus]; omega)
        · repeat (first | (with_reducible exact Below.refl _ _) | (with_reducible assumption) | (with_reducible refine below_to_plus ?_ ?_ _) | (with_reducible refine below_holds ?_ ?_ _ _) | (with_reducible refine Below.alloc ?_ ?_ _) | (with_reducible refine Below.drew ?_) | (with_reducible refine below_drewN ?_ _) | (with_reducible refine Below.setCell ?_ ?_ _))
          all_goals first | omega | (simp; done) | (simp [go_sem]; done) | (simp [go_sem]; omega)



    · subst hw
      have c3 : ∀ U, Calls Try.prog 39 #[.int .i64 offset, .int .i64 length] U fun e w' => e = .returned (.tuple #[.int .i64 (sumF offset length).1, .bool (sumF offset length).2]) ∧ Below U.heap.size U w' := fun U => sum_calls offset length U (by omega) (by omega)
      generalize hs : sumF offset length = s at c3
      obtain ⟨s1, s2⟩ := s
      simp only [] at c3
      cases s2 with
      | false =>
        have HF : Aside (r = (xs, 0, 20)) := by show _ = _; rw [HR.out]; unfold seekF; rw [ef, if_neg (by simp)]; simp only []; rw [if_neg ht, show baseF ⟨d1, d2, d3, d4, d5, d6, d7, d8, d9⟩ 2 length = length from rfl, hs]; simp only [Bool.false_eq_true, if_true, if_false]
        clear HR H ef ht hs c4
        go_enter Try.func22, Try.ntmps22
        go_wp2_with fail
        refine (c0').mono ?_
        rintro e w2 ⟨rfl, hb⟩
        obtain ⟨x, rfl⟩ := plus_of_below hb
        clear hb
        clear c0'
        go_wp2_with fail
        refine (c3 _).mono ?_
        rintro e w2 ⟨rfl, hb⟩
        obtain ⟨y, rfl⟩ := plus_of_below hb
        clear hb c3
        go_wp2_with fail
        refine (c1 _ ?_).mono ?_
        · repeat (first | (with_reducible exact Below.refl _ _) | (with_reducible assumption) | (with_reducible refine below_to_plus ?_ ?_ _) | (with_reducible refine below_holds ?_ ?_ _ _) | (with_reducible refine Below.alloc ?_ ?_ _) | (with_reducible refine Below.drew ?_) | (with_reducible refine below_drewN ?_ _) | (with_reducible refine Below.setCell ?_ ?_ _))
          all_goals first | omega | (simp; done) | (simp [go_sem]; done) | (simp [go_sem]; omega)
        rintro e w1 ⟨ao2, cap2, rfl, hown, hb⟩
        rw [HL.out] at hown ⊢
        have HO : Aside (w1.ownsRow _ 30 9 (.slice ao2 n cap2) n (flatE Fd.enc xs)) := hown
        obtain ⟨z, rfl⟩ := plus_of_below hb
        clear hb hown c1
        go_wp2
        refine bodyPost_ret (v := .tuple #[.agg #[.int .i64 id, .slice ao2 n cap2], .int .i64 0, .int .i64 20]) (by simp [results, Try.results22, go_sem, ↓IntWalk.iteOmega]) rfl ⟨ao2, cap2, by rw [HF.out, HL.out], ?_, ?_⟩
        · rw [HF.out]
          show World.ownsRow _ _ _ _ (.slice ao2 xs.length cap2) xs.length (flatE Fd.enc xs)
          rw [HL.out]
          exact own_lower (own_past (W' := (plus (((plus ((w.alloc (.cells #[.int .i64 id, .slice ao n cap] 24)).alloc (.cells #[.int .i64 id, .slice ao2 n cap2] 24)) x).alloc (.cells #[.int .i64 d1, .int .i64 d2, .int .i64 d3, .int .i64 d4, .string d5, .string d6, .int .i64 d7, .int .i64 d8, .int .i64 d9] 30)).alloc (.cells #[.int .i64 0, .int .i64 d8, .int .i64 length] 3)) y)) HO.out (Nat.le_refl _) (by simp [size_plus])) (by simp [size_plus]; omega)
        · repeat (first | (with_reducible exact Below.refl _ _) | (with_reducible assumption) | (with_reducible refine below_to_plus ?_ ?_ _) | (with_reducible refine below_holds ?_ ?_ _ _) | (with_reducible refine Below.alloc ?_ ?_ _) | (with_reducible refine Below.drew ?_) | (with_reducible refine below_drewN ?_ _) | (with_reducible refine Below.setCell ?_ ?_ _))
          all_goals first | omega | (simp; done) | (simp [go_sem]; done) | (simp [go_sem]; omega)

      | true =>
        have c4 := c4 s1
        generalize hys : xs.map (mvF d9 s1) = ys at c4
        have HF : Aside (r = (ys, s1, 0)) := by show _ = _; rw [HR.out]; unfold seekF; rw [ef, if_neg (by simp)]; simp only []; rw [if_neg ht, show baseF ⟨d1, d2, d3, d4, d5, d6, d7, d8, d9⟩ 2 length = length from rfl, hs]; simp only [reduceCtorEq, if_false]; rw [← hys]
        have HYL : Aside (ys.length = n) := by show _ = _; rw [← hys, List.length_map]; exact HL.out
        clear HR H ef ht hs hys c1
        go_enter Try.func22, Try.ntmps22
        go_wp2_with fail
        refine (c0').mono ?_
        rintro e w2 ⟨rfl, hb⟩
        obtain ⟨x, rfl⟩ := plus_of_below hb
        clear hb
        clear c0'
        go_wp2_with fail
        refine (c3 _).mono ?_
        rintro e w2 ⟨rfl, hb⟩
        obtain ⟨y, rfl⟩ := plus_of_below hb
        clear hb c3
        go_wp2_with fail
        refine (c4 _ ?_).mono ?_
        · repeat (first | (with_reducible exact Below.refl _ _) | (with_reducible assumption) | (with_reducible refine below_to_plus ?_ ?_ _) | (with_reducible refine below_holds ?_ ?_ _ _) | (with_reducible refine Below.alloc ?_ ?_ _) | (with_reducible refine Below.drew ?_) | (with_reducible refine below_drewN ?_ _) | (with_reducible refine Below.setCell ?_ ?_ _))
          all_goals first | omega | (simp; done) | (simp [go_sem]; done) | (simp [go_sem]; omega)
        rintro e w1 ⟨ao2, cap2, rfl, hown, hb⟩
        rw [HYL.out] at hown ⊢
        have HO : Aside (w1.ownsRow _ 30 9 (.slice ao2 n cap2) n (flatE Fd.enc ys)) := hown
        obtain ⟨z, rfl⟩ := plus_of_below hb
        clear hb hown c4
        go_wp2
        refine bodyPost_ret (v := .tuple #[.agg #[.int .i64 id, .slice ao2 n cap2], .int .i64 s1, .int .i64 0]) (by simp [results, Try.results22, go_sem, ↓IntWalk.iteOmega]) rfl ⟨ao2, cap2, by rw [HF.out, HYL.out], ?_, ?_⟩
        · rw [HF.out]
          show World.ownsRow _ _ _ _ (.slice ao2 ys.length cap2) ys.length (flatE Fd.enc ys)
          rw [HYL.out]
          exact own_lower (own_past (W' := (plus (((plus ((w.alloc (.cells #[.int .i64 id, .slice ao n cap] 24)).alloc (.cells #[.int .i64 id, .slice ao2 n cap2] 24)) x).alloc (.cells #[.int .i64 d1, .int .i64 d2, .int .i64 d3, .int .i64 d4, .string d5, .string d6, .int .i64 d7, .int .i64 d8, .int .i64 d9] 30)).alloc (.cells #[.int .i64 0, .int .i64 d8, .int .i64 length] 3)) y)) HO.out (Nat.le_refl _) (by simp [size_plus])) (by simp [size_plus]; omega)
        · repeat (first | (with_reducible exact Below.refl _ _) | (with_reducible assumption) | (with_reducible refine below_to_plus ?_ ?_ _) | (with_reducible refine below_holds ?_ ?_ _ _) | (with_reducible refine Below.alloc ?_ ?_ _) | (with_reducible refine Below.drew ?_) | (with_reducible refine below_drewN ?_ _) | (with_reducible refine Below.setCell ?_ ?_ _))
          all_goals first | omega | (simp; done) | (simp [go_sem]; done) | (simp [go_sem]; omega)



end Go.Proofs.Ytbifanenoejjgaa
