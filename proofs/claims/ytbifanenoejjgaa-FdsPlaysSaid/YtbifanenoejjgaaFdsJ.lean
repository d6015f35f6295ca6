/- This text proves the walk of Dup of package fds. Conditions: those that each theorem names. -/
import Derived.Test.YtbifanenoejjgaaFdsI
namespace Go.Proofs.Ytbifanenoejjgaa
open Go.ChangeShapes Go.WideShapes Go.ChangeAt Go.RowKit
set_option linter.unusedVariables false
set_option linter.unusedSimpArgs false

/-- What Dup returns: the list, the number, the error. -/
def dupF (xs : List Fd) (fr to : Int) : List Fd × Int × Int :=
  if (findF fr xs).2 ≠ 0 then (xs, 0, (findF fr xs).2) else if to < -1 ∨ 63 < to then (xs, 0, 5) else if to = fr then (xs, to, 0) else if 0 ≤ findI to xs then (xs, 0, 41)
  else if to = -1 ∧ 64 ≤ xs.length then (xs, 0, 22) else if to = -1 then (withL { (findF fr xs).1 with num := (lowF Fd.num xs : Nat) } xs, (lowF Fd.num xs : Nat), 0) else (withL { (findF fr xs).1 with num := to } xs, to, 0)

set_option maxHeartbeats 4000000 in
theorem dup_calls (id fr to : Int) (ao : Option Addr) (n cap : Nat) (xs : List Fd) (w : World) (h : Sl w 9 ao n cap (xs.map Fd.enc)) (hn : n ≤ 1000) (hs1 : MonoE (fun y : Fd => cmpI y.num (lowF Fd.num xs : Nat)) xs) (hs2 : MonoE (fun y : Fd => cmpI y.num to) xs) :
    Calls Try.prog 20 #[.agg #[.int .i64 id, .slice ao n cap], .int .i64 fr, .int .i64 to] w fun e w' => RetPost w id (dupF xs fr to) e w' := by
  have hln := Sl.lenE h
  have HL : Aside (xs.length = n) := hln
  have hb0 : Below w.heap.size w ((w.alloc (.cells #[.int .i64 id, .slice ao n cap] 24)).alloc (.cells #[.int .i64 0, .slice none 0 0] 24)) := by
    repeat (first | (with_reducible exact Below.refl _ _) | (with_reducible assumption) | (with_reducible refine below_to_plus ?_ ?_ _) | (with_reducible refine below_holds ?_ ?_ _ _) | (with_reducible refine Below.alloc ?_ ?_ _) | (with_reducible refine Below.drew ?_) | (with_reducible refine below_drewN ?_ _) | (with_reducible refine Below.setCell ?_ ?_ _))
    all_goals first | omega | (simp; done) | (simp [go_sem]; done) | (simp [go_sem]; omega)
  have HB0 : Aside (Below w.heap.size w ((w.alloc (.cells #[.int .i64 id, .slice ao n cap] 24)).alloc (.cells #[.int .i64 0, .slice none 0 0] 24))) := hb0
  have c0 := Find_calls id fr ao n cap xs ((w.alloc (.cells #[.int .i64 id, .slice ao n cap] 24)).alloc (.cells #[.int .i64 0, .slice none 0 0] 24)) (h.stays hb0)
  have H : Aside (Sl w 9 ao n cap (xs.map Fd.enc)) := h
  have c1 : ∀ U, Below w.heap.size w U → Calls Try.prog 15 #[.agg #[.int .i64 id, .slice ao n cap], .int .i64 id] U fun e w' => CopyPost U id xs e w' := fun U hU => copy_calls id id ao n cap xs U (h.stays hU) (by omega)
  have c2 : ∀ U, Below w.heap.size w U → Calls Try.prog 28 #[.agg #[.int .i64 id, .slice ao n cap], .int .i64 to] U fun e w' => e = .returned (.int .i64 (findI to xs)) ∧ Below U.heap.size U w' := fun U hU => find_calls id to ao n cap xs U (h.stays hU)
  have HM1 : Aside (MonoE (fun y : Fd => cmpI y.num (lowF Fd.num xs : Nat)) xs) := hs1
  have HM2 : Aside (MonoE (fun y : Fd => cmpI y.num to) xs) := hs2
  clear h hb0 hs1 hs2
  generalize hr : dupF xs fr to = r
  have HR : Aside (r = dupF xs fr to) := hr.symm
  clear hr
  rcases findI_spec fr xs with ⟨e1, _⟩ | ⟨k, hk, e1, _⟩
  · 
    have HF : Aside (r = (xs, 0, 44)) := by show _ = _; rw [HR.out]; unfold dupF; rw [show findF fr xs = (default, 44) by unfold findF; rw [e1]; rfl]; rfl
    rw [show findF fr xs = (default, 44) by unfold findF; rw [e1]; rfl] at c0
    have c0' : Calls Try.prog 12 #[.agg #[.int .i64 id, .slice ao n cap], .int .i64 fr] ((w.alloc (.cells #[.int .i64 id, .slice ao n cap] 24)).alloc (.cells #[.int .i64 0, .slice none 0 0] 24)) fun e w' => e = .returned (.tuple #[.agg #[.int .i64 0, .int .i64 0, .int .i64 0, .int .i64 0, .string ⟨#[]⟩, .string ⟨#[]⟩, .int .i64 0, .int .i64 0, .int .i64 0], .int .i64 44]) ∧ Below ((w.alloc (.cells #[.int .i64 id, .slice ao n cap] 24)).alloc (.cells #[.int .i64 0, .slice none 0 0] 24)).heap.size ((w.alloc (.cells #[.int .i64 id, .slice ao n cap] 24)).alloc (.cells #[.int .i64 0, .slice none 0 0] 24)) w' := c0
    clear c0 HR e1 HM1 HM2 H c2
    go_enter Try.func20, Try.ntmps20
    go_wp2_with fail
    refine (c0').mono ?_
    rintro e w2 ⟨rfl, hb⟩
    obtain ⟨x, rfl⟩ := plus_of_below hb
    clear hb
    clear c0'
    go_wp2_with fail
    refine (c1 _ ?_).mono ?_
    · repeat (first | (with_reducible exact Below.refl _ _) | (with_reducible assumption) | (with_reducible refine below_to_plus ?_ ?_ _) | (with_reducible refine below_holds ?_ ?_ _ _) | (with_reducible refine Below.alloc ?_ ?_ _) | (with_reducible refine Below.drew ?_) | (with_reducible refine below_drewN ?_ _) | (with_reducible refine Below.setCell ?_ ?_ _))
      all_goals first | omega | (simp; done) | (simp [go_sem]; done) | (simp [go_sem]; omega)
    rintro e w1 ⟨ao2, cap2, rfl, hown, hb⟩
    rw [HL.out] at hown ⊢
    have HO : Aside (w1.ownsRow _ 30 9 (.slice ao2 n cap2) n (flatE Fd.enc xs)) := hown
    obtain ⟨z, rfl⟩ := plus_of_below hb
    clear hb hown c1
    go_wp2

    refine bodyPost_ret (v := .tuple #[.agg #[.int .i64 id, .slice ao2 n cap2], .int .i64 0, .int .i64 44]) (by simp [results, Try.results20, go_sem, ↓IntWalk.iteOmega]) rfl ⟨ao2, cap2, by rw [HF.out, HL.out], ?_, ?_⟩
    · rw [HF.out]
      show World.ownsRow _ _ _ _ (.slice ao2 xs.length cap2) xs.length (flatE Fd.enc xs)
      rw [HL.out]
      exact own_lower (own_past (W' := ((plus ((w.alloc (.cells #[.int .i64 id, .slice ao n cap] 24)).alloc (.cells #[.int .i64 id, .slice ao2 n cap2] 24)) x).alloc (.cells #[.int .i64 0, .int .i64 0, .int .i64 0, .int .i64 0, .string ⟨#[]⟩, .string ⟨#[]⟩, .int .i64 0, .int .i64 0, .int .i64 0] 30))) HO.out (Nat.le_refl _) (by simp [size_plus])) (by simp [size_plus]; omega)
    · repeat (first | (with_reducible exact Below.refl _ _) | (with_reducible assumption) | (with_reducible refine below_to_plus ?_ ?_ _) | (with_reducible refine below_holds ?_ ?_ _ _) | (with_reducible refine Below.alloc ?_ ?_ _) | (with_reducible refine Below.drew ?_) | (with_reducible refine below_drewN ?_ _) | (with_reducible refine Below.setCell ?_ ?_ _))
      all_goals first | omega | (simp; done) | (simp [go_sem]; done) | (simp [go_sem]; omega)


  · have ef : findF fr xs = (xs[k]!, 0) := by unfold findF; rw [e1, if_neg (by omega)]; rfl
    rw [ef] at c0
    generalize xs[k]! = d at ef c0
    obtain ⟨d1, d2, d3, d4, d5, d6, d7, d8, d9⟩ := d
    have c0' : Calls Try.prog 12 #[.agg #[.int .i64 id, .slice ao n cap], .int .i64 fr] ((w.alloc (.cells #[.int .i64 id, .slice ao n cap] 24)).alloc (.cells #[.int .i64 0, .slice none 0 0] 24)) fun e w' => e = .returned (.tuple #[.agg #[.int .i64 d1, .int .i64 d2, .int .i64 d3, .int .i64 d4, .string d5, .string d6, .int .i64 d7, .int .i64 d8, .int .i64 d9], .int .i64 0]) ∧ Below ((w.alloc (.cells #[.int .i64 id, .slice ao n cap] 24)).alloc (.cells #[.int .i64 0, .slice none 0 0] 24)).heap.size ((w.alloc (.cells #[.int .i64 id, .slice ao n cap] 24)).alloc (.cells #[.int .i64 0, .slice none 0 0] 24)) w' := c0
    clear c0 e1
    by_cases ht : to < -1 ∨ 63 < to
    · skip
      have HF : Aside (r = (xs, 0, 5)) := by show _ = _; rw [HR.out]; unfold dupF; rw [ef, if_neg (by simp), if_pos ht]
      clear HR HM1 HM2 H c2 ef hk
      rcases ht with ht | ht
      · have ht2 : ¬ 63 < to := by omega
        go_enter Try.func20, Try.ntmps20
        go_wp2_with fail
        refine (c0').mono ?_
        rintro e w2 ⟨rfl, hb⟩
        obtain ⟨x, rfl⟩ := plus_of_below hb
        clear hb
        clear c0'
        go_wp2_with fail
        refine (c1 _ ?_).mono ?_
        · repeat (first | (with_reducible exact Below.refl _ _) | (with_reducible assumption) | (with_reducible refine below_to_plus ?_ ?_ _) | (with_reducible refine below_holds ?_ ?_ _ _) | (with_reducible refine Below.alloc ?_ ?_ _) | (with_reducible refine Below.drew ?_) | (with_reducible refine below_drewN ?_ _) | (with_reducible refine Below.setCell ?_ ?_ _))
          all_goals first | omega | (simp; done) | (simp [go_sem]; done) | (simp [go_sem]; omega)
        rintro e w1 ⟨ao2, cap2, rfl, hown, hb⟩
        rw [HL.out] at hown ⊢
        have HO : Aside (w1.ownsRow _ 30 9 (.slice ao2 n cap2) n (flatE Fd.enc xs)) := hown
        obtain ⟨z, rfl⟩ := plus_of_below hb
        clear hb hown c1
        go_wp2
        refine bodyPost_ret (v := .tuple #[.agg #[.int .i64 id, .slice ao2 n cap2], .int .i64 0, .int .i64 5]) (by simp [results, Try.results20, go_sem, ↓IntWalk.iteOmega]) rfl ⟨ao2, cap2, by rw [HF.out, HL.out], ?_, ?_⟩
        · rw [HF.out]
          show World.ownsRow _ _ _ _ (.slice ao2 xs.length cap2) xs.length (flatE Fd.enc xs)
          rw [HL.out]
          exact own_lower (own_past (W' := ((plus ((w.alloc (.cells #[.int .i64 id, .slice ao n cap] 24)).alloc (.cells #[.int .i64 id, .slice ao2 n cap2] 24)) x).alloc (.cells #[.int .i64 d1, .int .i64 d2, .int .i64 d3, .int .i64 d4, .string d5, .string d6, .int .i64 d7, .int .i64 d8, .int .i64 d9] 30))) HO.out (Nat.le_refl _) (by simp [size_plus])) (by simp [size_plus]; omega)
        · repeat (first | (with_reducible exact Below.refl _ _) | (with_reducible assumption) | (with_reducible refine below_to_plus ?_ ?_ _) | (with_reducible refine below_holds ?_ ?_ _ _) | (with_reducible refine Below.alloc ?_ ?_ _) | (with_reducible refine Below.drew ?_) | (with_reducible refine below_drewN ?_ _) | (with_reducible refine Below.setCell ?_ ?_ _))
          all_goals first | omega | (simp; done) | (simp [go_sem]; done) | (simp [go_sem]; omega)

      · have ht2 : ¬ to < -1 := by omega
        go_enter Try.func20, Try.ntmps20
        go_wp2_with fail
        refine (c0').mono ?_
        rintro e w2 ⟨rfl, hb⟩
        obtain ⟨x, rfl⟩ := plus_of_below hb
        clear hb
        clear c0'
        go_wp2_with fail
        refine (c1 _ ?_).mono ?_
        · repeat (first | (with_reducible exact Below.refl _ _) | (with_reducible assumption) | (with_reducible refine below_to_plus ?_ ?_ _) | (with_reducible refine below_holds ?_ ?_ _ _) | (with_reducible refine Below.alloc ?_ ?_ _) | (with_reducible refine Below.drew ?_) | (with_reducible refine below_drewN ?_ _) | (with_reducible refine Below.setCell ?_ ?_ _))
          all_goals first | omega | (simp; done) | (simp [go_sem]; done) | (simp [go_sem]; omega)
        rintro e w1 ⟨ao2, cap2, rfl, hown, hb⟩
        rw [HL.out] at hown ⊢
        have HO : Aside (w1.ownsRow _ 30 9 (.slice ao2 n cap2) n (flatE Fd.enc xs)) := hown
        obtain ⟨z, rfl⟩ := plus_of_below hb
        clear hb hown c1
        go_wp2
        refine bodyPost_ret (v := .tuple #[.agg #[.int .i64 id, .slice ao2 n cap2], .int .i64 0, .int .i64 5]) (by simp [results, Try.results20, go_sem, ↓IntWalk.iteOmega]) rfl ⟨ao2, cap2, by rw [HF.out, HL.out], ?_, ?_⟩
        · rw [HF.out]
          show World.ownsRow _ _ _ _ (.slice ao2 xs.length cap2) xs.length (flatE Fd.enc xs)
          rw [HL.out]
          exact own_lower (own_past (W' := ((plus ((w.alloc (.cells #[.int .i64 id, .slice ao n cap] 24)).alloc (.cells #[.int .i64 id, .slice ao2 n cap2] 24)) x).alloc (.cells #[.int .i64 d1, .int .i64 d2, .int .i64 d3, .int .i64 d4, .string d5, .string d6, .int .i64 d7, .int .i64 d8, .int .i64 d9] 30))) HO.out (Nat.le_refl _) (by simp [size_plus])) (by simp [size_plus]; omega)
        · repeat (first | (with_reducible exact Below.refl _ _) | (with_reducible assumption) | (with_reducible refine below_to_plus ?_ ?_ _) | (with_reducible refine below_holds ?_ ?_ _ _) | (with_reducible refine Below.alloc ?_ ?_ _) | (with_reducible refine Below.drew ?_) | (with_reducible refine below_drewN ?_ _) | (with_reducible refine Below.setCell ?_ ?_ _))
          all_goals first | omega | (simp; done) | (simp [go_sem]; done) | (simp [go_sem]; omega)



    have ht1 : ¬ to < -1 := fun h => ht (.inl h)
    have ht2 : ¬ 63 < to := fun h => ht (.inr h)
    by_cases he : to = fr
    · subst he
      have HF : Aside (r = (xs, to, 0)) := by show _ = _; rw [HR.out]; unfold dupF; rw [ef, if_neg (by simp), if_neg ht, if_pos rfl]
      clear HR HM1 HM2 H c2 ef hk ht
      go_enter Try.func20, Try.ntmps20
      go_wp2_with fail
      refine (c0').mono ?_
      rintro e w2 ⟨rfl, hb⟩
      obtain ⟨x, rfl⟩ := plus_of_below hb
      clear hb
      clear c0'
      go_wp2_with fail
      refine (c1 _ ?_).mono ?_
      · repeat (first | (with_reducible exact Below.refl _ _) | (with_reducible assumption) | (with_reducible refine below_to_plus ?_ ?_ _) | (with_reducible refine below_holds ?_ ?_ _ _) | (with_reducible refine Below.alloc ?_ ?_ _) | (with_reducible refine Below.drew ?_) | (with_reducible refine below_drewN ?_ _) | (with_reducible refine Below.setCell ?_ ?_ _))
        all_goals first | omega | (simp; done) | (simp [go_sem]; done) | (simp [go_sem]; omega)
      rintro e w1 ⟨ao2, cap2, rfl, hown, hb⟩
      rw [HL.out] at hown ⊢
      have HO : Aside (w1.ownsRow _ 30 9 (.slice ao2 n cap2) n (flatE Fd.enc xs)) := hown
      obtain ⟨z, rfl⟩ := plus_of_below hb
      clear hb hown c1
      go_wp2
      refine bodyPost_ret (v := .tuple #[.agg #[.int .i64 id, .slice ao2 n cap2], .int .i64 to, .int .i64 0]) (by simp [results, Try.results20, go_sem, ↓IntWalk.iteOmega]) rfl ⟨ao2, cap2, by rw [HF.out, HL.out], ?_, ?_⟩
      · rw [HF.out]
        show World.ownsRow _ _ _ _ (.slice ao2 xs.length cap2) xs.length (flatE Fd.enc xs)
        rw [HL.out]
        exact own_lower (own_past (W' := ((plus ((w.alloc (.cells #[.int .i64 id, .slice ao n cap] 24)).alloc (.cells #[.int .i64 id, .slice ao2 n cap2] 24)) x).alloc (.cells #[.int .i64 d1, .int .i64 d2, .int .i64 d3, .int .i64 d4, .string d5, .string d6, .int .i64 d7, .int .i64 d8, .int .i64 d9] 30))) HO.out (Nat.le_refl _) (by simp [size_plus])) (by simp [size_plus]; omega)
      · repeat (first | (with_reducible exact Below.refl _ _) | (with_reducible assumption) | (with_reducible refine below_to_plus ?_ ?_ _) | (with_reducible refine below_holds ?_ ?_ _ _) | (with_reducible refine Below.alloc ?_ ?_ _) | (with_reducible refine Below.drew ?_) | (with_reducible refine below_drewN ?_ _) | (with_reducible refine Below.setCell ?_ ?_ _))
        all_goals first | omega | (simp; done) | (simp [go_sem]; done) | (simp [go_sem]; omega)


    have he1 : (to == fr) = false := by simp [he]
    by_cases hi : 0 ≤ findI to xs
    · skip
      have HF : Aside (r = (xs, 0, 41)) := by show _ = _; rw [HR.out]; unfold dupF; rw [ef, if_neg (by simp), if_neg ht, if_neg he, if_pos hi]
      clear HR HM1 HM2 H ef hk ht he
      generalize findI to xs = fi at c2 hi
      go_enter Try.func20, Try.ntmps20
      go_wp2_with fail
      refine (c0').mono ?_
      rintro e w2 ⟨rfl, hb⟩
      obtain ⟨x, rfl⟩ := plus_of_below hb
      clear hb
      clear c0'
      go_wp2_with fail
      refine (c2 _ ?_).mono ?_
      · repeat (first | (with_reducible exact Below.refl _ _) | (with_reducible assumption) | (with_reducible refine below_to_plus ?_ ?_ _) | (with_reducible refine below_holds ?_ ?_ _ _) | (with_reducible refine Below.alloc ?_ ?_ _) | (with_reducible refine Below.drew ?_) | (with_reducible refine below_drewN ?_ _) | (with_reducible refine Below.setCell ?_ ?_ _))
        all_goals first | omega | (simp; done) | (simp [go_sem]; done) | (simp [go_sem]; omega)
      rintro e w2 ⟨rfl, hb⟩
      obtain ⟨y, rfl⟩ := plus_of_below hb
      clear hb
      clear c2
      go_wp2_with fail
      refine (c1 _ ?_).mono ?_
      · repeat (first | (with_reducible exact Below.refl _ _) | (with_reducible assumption) | (with_reducible refine below_to_plus ?_ ?_ _) | (with_reducible refine below_holds ?_ ?_ _ _) | (with_reducible refine Below.alloc ?_ ?_ _) | (with_reducible refine Below.drew ?_) | (with_reducible refine below_drewN ?_ _) | (with_reducible refine Below.setCell ?_ ?_ _))
        all_goals first | omega | (simp; done) | (simp [go_sem]; done) | (simp [go_sem]; omega)
      rintro e w1 ⟨ao2, cap2, rfl, hown, hb⟩
      rw [HL.out] at hown ⊢
      have HO : Aside (w1.ownsRow _ 30 9 (.slice ao2 n cap2) n (flatE Fd.enc xs)) := hown
      obtain ⟨z, rfl⟩ := plus_of_below hb
      clear hb hown c1
      go_wp2
      refine bodyPost_ret (v := .tuple #[.agg #[.int .i64 id, .slice ao2 n cap2], .int .i64 0, .int .i64 41]) (by simp [results, Try.results20, go_sem, ↓IntWalk.iteOmega]) rfl ⟨ao2, cap2, by rw [HF.out, HL.out], ?_, ?_⟩
      · rw [HF.out]
        show World.ownsRow _ _ _ _ (.slice ao2 xs.length cap2) xs.length (flatE Fd.enc xs)
        rw [HL.out]
        exact own_lower (own_past (W' := (plus ((plus ((w.alloc (.cells #[.int .i64 id, .slice ao n cap] 24)).alloc (.cells #[.int .i64 id, .slice ao2 n cap2] 24)) x).alloc (.cells #[.int .i64 d1, .int .i64 d2, .int .i64 d3, .int .i64 d4, .string d5, .string d6, .int .i64 d7, .int .i64 d8, .int .i64 d9] 30)) y)) HO.out (Nat.le_refl _) (by simp [size_plus])) (by simp [size_plus]; omega)
      · repeat (first | (with_reducible exact Below.refl _ _) | (with_reducible assumption) | (with_reducible refine below_to_plus ?_ ?_ _) | (with_reducible refine below_holds ?_ ?_ _ _) | (with_reducible refine Below.alloc ?_ ?_ _) | (with_reducible refine Below.drew ?_) | (with_reducible refine below_drewN ?_ _) | (with_reducible refine Below.setCell ?_ ?_ _))
        all_goals first | omega | (simp; done) | (simp [go_sem]; done) | (simp [go_sem]; omega)


    have hi2 : findI to xs < 0 := by omega
    by_cases hf : to = -1 ∧ 64 ≤ xs.length
    · skip
      have HF : Aside (r = (xs, 0, 22)) := by show _ = _; rw [HR.out]; unfold dupF; rw [ef, if_neg (by simp), if_neg ht, if_neg he, if_neg hi, if_pos hf]
      clear HR HM1 HM2 H ef hk ht he hi
      obtain ⟨rfl, hf2⟩ := hf
      have hf3 : 64 ≤ n := by have := HL.out; omega
      clear hf2
      generalize findI (-1) xs = fi at c2 hi2
      go_enter Try.func20, Try.ntmps20
      go_wp2_with fail
      refine (c0').mono ?_
      rintro e w2 ⟨rfl, hb⟩
      obtain ⟨x, rfl⟩ := plus_of_below hb
      clear hb
      clear c0'
      go_wp2_with fail
      refine (c2 _ ?_).mono ?_
      · repeat (first | (with_reducible exact Below.refl _ _) | (with_reducible assumption) | (with_reducible refine below_to_plus ?_ ?_ _) | (with_reducible refine below_holds ?_ ?_ _ _) | (with_reducible refine Below.alloc ?_ ?_ _) | (with_reducible refine Below.drew ?_) | (with_reducible refine below_drewN ?_ _) | (with_reducible refine Below.setCell ?_ ?_ _))
        all_goals first | omega | (simp; done) | (simp [go_sem]; done) | (simp [go_sem]; omega)
      rintro e w2 ⟨rfl, hb⟩
      obtain ⟨y, rfl⟩ := plus_of_below hb
      clear hb
      clear c2
      go_wp2_with fail
      refine (c1 _ ?_).mono ?_
      · repeat (first | (with_reducible exact Below.refl _ _) | (with_reducible assumption) | (with_reducible refine below_to_plus ?_ ?_ _) | (with_reducible refine below_holds ?_ ?_ _ _) | (with_reducible refine Below.alloc ?_ ?_ _) | (with_reducible refine Below.drew ?_) | (with_reducible refine below_drewN ?_ _) | (with_reducible refine Below.setCell ?_ ?_ _))
        all_goals first | omega | (simp; done) | (simp [go_sem]; done) | (simp [go_sem]; omega)
      rintro e w1 ⟨ao2, cap2, rfl, hown, hb⟩
      rw [HL.out] at hown ⊢
      have HO : Aside (w1.ownsRow _ 30 9 (.slice ao2 n cap2) n (flatE Fd.enc xs)) := hown
      obtain ⟨z, rfl⟩ := plus_of_below hb
      clear hb hown c1
      go_wp2
      refine bodyPost_ret (v := .tuple #[.agg #[.int .i64 id, .slice ao2 n cap2], .int .i64 0, .int .i64 22]) (by simp [results, Try.results20, go_sem, ↓IntWalk.iteOmega]) rfl ⟨ao2, cap2, by rw [HF.out, HL.out], ?_, ?_⟩
      · rw [HF.out]
        show World.ownsRow _ _ _ _ (.slice ao2 xs.length cap2) xs.length (flatE Fd.enc xs)
        rw [HL.out]
        exact own_lower (own_past (W' := (plus ((plus ((w.alloc (.cells #[.int .i64 id, .slice ao n cap] 24)).alloc (.cells #[.int .i64 id, .slice ao2 n cap2] 24)) x).alloc (.cells #[.int .i64 d1, .int .i64 d2, .int .i64 d3, .int .i64 d4, .string d5, .string d6, .int .i64 d7, .int .i64 d8, .int .i64 d9] 30)) y)) HO.out (Nat.le_refl _) (by simp [size_plus])) (by simp [size_plus]; omega)
      · repeat (first | (with_reducible exact Below.refl _ _) | (with_reducible assumption) | (with_reducible refine below_to_plus ?_ ?_ _) | (with_reducible refine below_holds ?_ ?_ _ _) | (with_reducible refine Below.alloc ?_ ?_ _) | (with_reducible refine Below.drew ?_) | (with_reducible refine below_drewN ?_ _) | (with_reducible refine Below.setCell ?_ ?_ _))
        all_goals first | omega | (simp; done) | (simp [go_sem]; done) | (simp [go_sem]; omega)


    by_cases hg : to = -1
    · skip
      have HF : Aside (r = (withL ⟨(lowF Fd.num xs : Nat), d2, d3, d4, d5, d6, d7, d8, d9⟩ xs, ((lowF Fd.num xs : Nat) : Int), 0)) := by show _ = _; rw [HR.out]; unfold dupF; rw [ef, if_neg (by simp), if_neg ht, if_neg he, if_neg hi, if_neg hf, if_pos hg]
      have c3 : ∀ U, Below w.heap.size w U → Calls Try.prog 36 #[.agg #[.int .i64 id, .slice ao n cap], .func (.func 37) #[] #[]] U fun e w' => e = .returned (.int .i64 (lowF Fd.num xs : Nat)) ∧ Below U.heap.size U w' := fun U hU => lowest_calls Fd.num 37 (enters_of Try.func37 (by kernel_rfl) rfl) number_calls' id ao n cap xs U (H.out.stays hU) (by omega)
      have hm := HM1.out
      clear HM1 HM2 HR
      generalize (lowF Fd.num xs : Nat) = k1 at HF c3 hm
      generalize hys : withL ⟨(k1 : Int), d2, d3, d4, d5, d6, d7, d8, d9⟩ xs = ys at HF
      have c4 : ∀ U, Below w.heap.size w U → Calls Try.prog 38 #[.agg #[.int .i64 id, .slice ao n cap], .agg #[.int .i64 (k1 : Int), .int .i64 d2, .int .i64 d3, .int .i64 d4, .string d5, .string d6, .int .i64 d7, .int .i64 d8, .int .i64 d9]] U fun e w' => CopyPost U id ys e w' := fun U hU => by
        rw [← hys]
        exact with_calls id ao n cap xs (k1 : Int) d2 d3 d4 d5 d6 d7 d8 d9 U (H.out.stays hU) hn hm
      have HYL : Aside (ys.length = n + 1) := by show _ = _; rw [← hys]; unfold withL; simp; have := HL.out; have := posE_le (fun y : Fd => cmpI y.num (k1 : Int)) xs; omega
      have hL : ¬ 64 ≤ n := fun h => hf ⟨hg, by have := HL.out; omega⟩
      subst hg
      generalize findI (-1) xs = fi at c2 hi2
      clear hys hm H ef hk ht he hi hf
      go_enter Try.func20, Try.ntmps20
      go_wp2_with fail
      refine (c0').mono ?_
      rintro e w2 ⟨rfl, hb⟩
      obtain ⟨x, rfl⟩ := plus_of_below hb
      clear hb
      clear c0'
      go_wp2_with fail
      refine (c2 _ ?_).mono ?_
      · repeat (first | (with_reducible exact Below.refl _ _) | (with_reducible assumption) | (with_reducible refine below_to_plus ?_ ?_ _) | (with_reducible refine below_holds ?_ ?_ _ _) | (with_reducible refine Below.alloc ?_ ?_ _) | (with_reducible refine Below.drew ?_) | (with_reducible refine below_drewN ?_ _) | (with_reducible refine Below.setCell ?_ ?_ _))
        all_goals first | omega | (simp; done) | (simp [go_sem]; done) | (simp [go_sem]; omega)
      rintro e w2 ⟨rfl, hb⟩
      obtain ⟨y, rfl⟩ := plus_of_below hb
      clear hb
      clear c2
      go_wp2_with fail
      refine (c3 _ ?_).mono ?_
      · repeat (first | (with_reducible exact Below.refl _ _) | (with_reducible assumption) | (with_reducible refine below_to_plus ?_ ?_ _) | (with_reducible refine below_holds ?_ ?_ _ _) | (with_reducible refine Below.alloc ?_ ?_ _) | (with_reducible refine Below.drew ?_) | (with_reducible refine below_drewN ?_ _) | (with_reducible refine Below.setCell ?_ ?_ _))
        all_goals first | omega | (simp; done) | (simp [go_sem]; done) | (simp [go_sem]; omega)
      rintro e w2 ⟨rfl, hb⟩
      obtain ⟨y2, rfl⟩ := plus_next hb
      clear hb c3
      go_wp2
      go_region_held3 (fun w3 => w3.cell? ⟨w.heap.size, 0, none⟩ = some (.int .i64 id) ∧ w3.cell? ⟨w.heap.size, 1, none⟩ = some (.slice ao n cap) ∧ w3.cell? ⟨w.heap.size + 1 + 1 + x.heap.size, 0, none⟩ = some (.int .i64 k1) ∧ w3.cell? ⟨w.heap.size + 1 + 1 + x.heap.size, 1, none⟩ = some (.int .i64 d2) ∧ w3.cell? ⟨w.heap.size + 1 + 1 + x.heap.size, 2, none⟩ = some (.int .i64 d3) ∧ w3.cell? ⟨w.heap.size + 1 + 1 + x.heap.size, 3, none⟩ = some (.int .i64 d4) ∧ w3.cell? ⟨w.heap.size + 1 + 1 + x.heap.size, 4, none⟩ = some (.string d5) ∧ w3.cell? ⟨w.heap.size + 1 + 1 + x.heap.size, 5, none⟩ = some (.string d6) ∧ w3.cell? ⟨w.heap.size + 1 + 1 + x.heap.size, 6, none⟩ = some (.int .i64 d7) ∧ w3.cell? ⟨w.heap.size + 1 + 1 + x.heap.size, 7, none⟩ = some (.int .i64 d8) ∧ w3.cell? ⟨w.heap.size + 1 + 1 + x.heap.size, 8, none⟩ = some (.int .i64 d9)) (first | (simp [go_sem, ↓IntWalk.iteOmega]; done))
        ((first | (go_at_call 38; refine (c4 _ (by (repeat (first | (with_reducible exact Below.refl _ _) | (with_reducible assumption) | (with_reducible refine below_to_plus ?_ ?_ _) | (with_reducible refine below_holds ?_ ?_ _ _) | (with_reducible refine Below.alloc ?_ ?_ _) | (with_reducible refine Below.drew ?_) | (with_reducible refine below_drewN ?_ _) | (with_reducible refine Below.setCell ?_ ?_ _))); (all_goals first | omega | (simp; done) | (simp [go_sem]; done) | (simp [go_sem]; omega)))).mono ?_; rintro e w2 ⟨ao2, cap2, rfl, hsl0, hb⟩; have hsl : Aside _ := hsl0; clear hsl0; obtain ⟨x4, hx⟩ := plus_next hb; subst hx; clear hb)))
      all_goals go_wp2
      rw [HYL.out] at hsl ⊢
      refine bodyPost_ret (v := .tuple #[.agg #[.int .i64 id, .slice ao2 (n + 1) cap2], .int .i64 k1, .int .i64 0]) (by simp [results, Try.results20, go_sem, ↓IntWalk.iteOmega]) rfl ⟨ao2, cap2, by rw [HF.out, HYL.out], ?_, ?_⟩
      · rw [HF.out]
        show World.ownsRow _ _ _ _ (.slice ao2 ys.length cap2) ys.length (flatE Fd.enc ys)
        rw [HYL.out]
        exact own_lower (own_past (W' := ((plus ((w.alloc (.cells #[.int .i64 id, .slice ao n cap] 24)).alloc (.cells #[.int .i64 id, .slice ao2 (n + 1) cap2] 24)) x).alloc (.cells #[.int .i64 k1, .int .i64 d2, .int .i64 d3, .int .i64 d4, .string d5, .string d6, .int .i64 d7, .int .i64 d8, .int .i64 d9] 30))) hsl.out (by simp [size_plus]) (by simp [size_plus])) (by simp [size_plus]; omega)
      · repeat (first | (with_reducible exact Below.refl _ _) | (with_reducible assumption) | (with_reducible refine below_to_plus ?_ ?_ _) | (with_reducible refine below_holds ?_ ?_ _ _) | (with_reducible refine Below.alloc ?_ ?_ _) | (with_reducible refine Below.drew ?_) | (with_reducible refine below_drewN ?_ _) | (with_reducible refine Below.setCell ?_ ?_ _))
        all_goals first | omega | (simp; done) | (simp [go_sem]; done) | (simp [go_sem]; omega)


    · skip
      have HF : Aside (r = (withL ⟨to, d2, d3, d4, d5, d6, d7, d8, d9⟩ xs, to, 0)) := by show _ = _; rw [HR.out]; unfold dupF; rw [ef, if_neg (by simp), if_neg ht, if_neg he, if_neg hi, if_neg hf, if_neg hg]
      have hm := HM2.out
      clear HM1 HM2 HR
      generalize hys : withL ⟨to, d2, d3, d4, d5, d6, d7, d8, d9⟩ xs = ys at HF
      have c4 : ∀ U, Below w.heap.size w U → Calls Try.prog 38 #[.agg #[.int .i64 id, .slice ao n cap], .agg #[.int .i64 to, .int .i64 d2, .int .i64 d3, .int .i64 d4, .string d5, .string d6, .int .i64 d7, .int .i64 d8, .int .i64 d9]] U fun e w' => CopyPost U id ys e w' := fun U hU => by
        rw [← hys]
        exact with_calls id ao n cap xs to d2 d3 d4 d5 d6 d7 d8 d9 U (H.out.stays hU) hn hm
      have HYL : Aside (ys.length = n + 1) := by show _ = _; rw [← hys]; unfold withL; simp; have := HL.out; have := posE_le (fun y : Fd => cmpI y.num to) xs; omega
      generalize findI to xs = fi at c2 hi2
      have hg1 : (to == -1) = false := by simp [hg]
      clear hys hm H ef hk ht he hi hf
      go_enter Try.func20, Try.ntmps20
      go_wp2_with fail
      refine (c0').mono ?_
      rintro e w2 ⟨rfl, hb⟩
      obtain ⟨x, rfl⟩ := plus_of_below hb
      clear hb
      clear c0'
      go_wp2_with fail
      refine (c2 _ ?_).mono ?_
      · repeat (first | (with_reducible exact Below.refl _ _) | (with_reducible assumption) | (with_reducible refine below_to_plus ?_ ?_ _) | (with_reducible refine below_holds ?_ ?_ _ _) | (with_reducible refine Below.alloc ?_ ?_ _) | (with_reducible refine Below.drew ?_) | (with_reducible refine below_drewN ?_ _) | (with_reducible refine Below.setCell ?_ ?_ _))
        all_goals first | omega | (simp; done) | (simp [go_sem]; done) | (simp [go_sem]; omega)
      rintro e w2 ⟨rfl, hb⟩
      obtain ⟨y, rfl⟩ := plus_of_below hb
      clear hb
      clear c2
      go_wp2
      go_region_held3 (fun w3 => w3.cell? ⟨w.heap.size, 0, none⟩ = some (.int .i64 id) ∧ w3.cell? ⟨w.heap.size, 1, none⟩ = some (.slice ao n cap) ∧ w3.cell? ⟨w.heap.size + 1 + 1 + x.heap.size, 0, none⟩ = some (.int .i64 to) ∧ w3.cell? ⟨w.heap.size + 1 + 1 + x.heap.size, 1, none⟩ = some (.int .i64 d2) ∧ w3.cell? ⟨w.heap.size + 1 + 1 + x.heap.size, 2, none⟩ = some (.int .i64 d3) ∧ w3.cell? ⟨w.heap.size + 1 + 1 + x.heap.size, 3, none⟩ = some (.int .i64 d4) ∧ w3.cell? ⟨w.heap.size + 1 + 1 + x.heap.size, 4, none⟩ = some (.string d5) ∧ w3.cell? ⟨w.heap.size + 1 + 1 + x.heap.size, 5, none⟩ = some (.string d6) ∧ w3.cell? ⟨w.heap.size + 1 + 1 + x.heap.size, 6, none⟩ = some (.int .i64 d7) ∧ w3.cell? ⟨w.heap.size + 1 + 1 + x.heap.size, 7, none⟩ = some (.int .i64 d8) ∧ w3.cell? ⟨w.heap.size + 1 + 1 + x.heap.size, 8, none⟩ = some (.int .i64 d9)) (first | (simp [go_sem, ↓IntWalk.iteOmega]; done))
        ((first | (go_at_call 38; refine (c4 _ (by (repeat (first | (with_reducible exact Below.refl _ _) | (with_reducible assumption) | (with_reducible refine below_to_plus ?_ ?_ _) | (with_reducible refine below_holds ?_ ?_ _ _) | (with_reducible refine Below.alloc ?_ ?_ _) | (with_reducible refine Below.drew ?_) | (with_reducible refine below_drewN ?_ _) | (with_reducible refine Below.setCell ?_ ?_ _))); (all_goals first | omega | (simp; done) | (simp [go_sem]; done) | (simp [go_sem]; omega)))).mono ?_; rintro e w2 ⟨ao2, cap2, rfl, hsl0, hb⟩; have hsl : Aside _ := hsl0; clear hsl0; obtain ⟨x4, hx⟩ := plus_next hb; subst hx; clear hb)))
      all_goals go_wp2
      rw [HYL.out] at hsl ⊢
      refine bodyPost_ret (v := .tuple #[.agg #[.int .i64 id, .slice ao2 (n + 1) cap2], .int .i64 to, .int .i64 0]) (by simp [results, Try.results20, go_sem, ↓IntWalk.iteOmega]) rfl ⟨ao2, cap2, by rw [HF.out, HYL.out], ?_, ?_⟩
      · rw [HF.out]
        show World.ownsRow _ _ _ _ (.slice ao2 ys.length cap2) ys.length (flatE Fd.enc ys)
        rw [HYL.out]
        exact own_lower (own_past (W' := ((plus ((w.alloc (.cells #[.int .i64 id, .slice ao n cap] 24)).alloc (.cells #[.int .i64 id, .slice ao2 (n + 1) cap2] 24)) x).alloc (.cells #[.int .i64 to, .int .i64 d2, .int .i64 d3, .int .i64 d4, .string d5, .string d6, .int .i64 d7, .int .i64 d8, .int .i64 d9] 30))) hsl.out (by simp [size_plus]) (by simp [size_plus])) (by simp [size_plus]; omega)
      · repeat (first | (with_reducible exact Below.refl _ _) | (with_reducible assumption) | (with_reducible refine below_to_plus ?_ ?_ _) | (with_reducible refine below_holds ?_ ?_ _ _) | (with_reducible refine Below.alloc ?_ ?_ _) | (with_reducible refine Below.drew ?_) | (with_reducible refine below_drewN ?_ _) | (with_reducible refine Below.setCell ?_ ?_ _))
        all_goals first | omega | (simp; done) | (simp [go_sem]; done) | (simp [go_sem]; omega)



end Go.Proofs.Ytbifanenoejjgaa
