/- This text proves the walk of Dup of the reference. Conditions: those that each theorem names. -/
import Derived.Test.YtbifanenoejjgaaFdsV
namespace Go.Proofs.Ytbifanenoejjgaa
open Go.ChangeShapes Go.WideShapes Go.ChangeAt Go.RowKit
set_option linter.unusedVariables false
set_option linter.unusedSimpArgs false

/-- What Dup of the reference returns. -/
def rdupF (xs : List Fd) (fr to : Int) : List Fd × Int × Int :=
  if (findF fr xs).2 ≠ 0 then (xs, 0, (findF fr xs).2) else if to < -1 ∨ 63 < to then (xs, 0, 5) else if to = fr then (xs, to, 0) else if 0 ≤ to ∧ 0 ≤ findI to xs then (xs, 0, 41)
  else if (if to < 0 then ((min 64 (lowF Fd.num xs) : Nat) : Int) else to) = 64 then (xs, 0, 22)
  else (rwithL { (findF fr xs).1 with num := (if to < 0 then ((min 64 (lowF Fd.num xs) : Nat) : Int) else to) } xs, (if to < 0 then ((min 64 (lowF Fd.num xs) : Nat) : Int) else to), 0)

set_option maxHeartbeats 8000000 in
theorem rdup_calls (id fr to : Int) (ao : Option Addr) (n cap : Nat) (xs : List Fd) (w : World) (h : Sl w 9 ao n cap (xs.map Fd.enc)) (hn : n ≤ 1000) :
    Calls Try.prog 32 #[.agg #[.int .i64 id, .slice ao n cap], .int .i64 fr, .int .i64 to] w fun e w' => RRet w id ao cap xs (rdupF xs fr to) e w' := by
  have HL : Aside (xs.length = n) := Sl.lenE h
  have H : Aside (Sl w 9 ao n cap (xs.map Fd.enc)) := h
  have hb0 : Below w.heap.size w ((w.alloc (.cells #[.int .i64 id, .slice ao n cap] 24)).alloc (.cells #[.int .i64 0, .slice none 0 0] 24)) := by
    repeat (first | (with_reducible exact Below.refl _ _) | (with_reducible assumption) | (with_reducible refine below_to_plus ?_ ?_ _) | (with_reducible refine below_holds ?_ ?_ _ _) | (with_reducible refine Below.alloc ?_ ?_ _) | (with_reducible refine Below.drew ?_) | (with_reducible refine below_drewN ?_ _) | (with_reducible refine Below.setCell ?_ ?_ _))
    all_goals first | omega | (simp; done) | (simp [go_sem]; done) | (simp [go_sem]; omega)
  have c0 := rFind_calls id fr ao n cap xs ((w.alloc (.cells #[.int .i64 id, .slice ao n cap] 24)).alloc (.cells #[.int .i64 0, .slice none 0 0] 24)) (h.stays hb0)
  have c2 : ∀ U, Below w.heap.size w U → Calls Try.prog 29 #[.agg #[.int .i64 id, .slice ao n cap], .int .i64 to] U fun e w' => e = .returned (.int .i64 (findI to xs)) ∧ Below U.heap.size U w' := fun U hU => at_calls id to ao n cap xs U (h.stays hU)
  have c3 : ∀ U, Below w.heap.size w U → Calls Try.prog 47 #[.agg #[.int .i64 id, .slice ao n cap]] U fun e w' => e = .returned (.int .i64 ((min 64 (lowF Fd.num xs) : Nat) : Int)) ∧ Below U.heap.size U w' := fun U hU => free_calls id ao n cap xs U (h.stays hU)
  clear h hb0
  rcases findI_spec fr xs with ⟨e1, _⟩ | ⟨k, hk, e1, _⟩
  · skip
    have ER : Aside (rdupF xs fr to = (xs, 0, 44)) := by show _ = _; unfold rdupF; rw [show findF fr xs = (default, 44) by unfold findF; rw [e1]; rfl]; rfl
    rw [show findF fr xs = (default, 44) by unfold findF; rw [e1]; rfl] at c0
    have c0' : Calls Try.prog 13 #[.agg #[.int .i64 id, .slice ao n cap], .int .i64 fr] ((w.alloc (.cells #[.int .i64 id, .slice ao n cap] 24)).alloc (.cells #[.int .i64 0, .slice none 0 0] 24)) fun e w' => e = .returned (.tuple #[.agg #[.int .i64 0, .int .i64 0, .int .i64 0, .int .i64 0, .string ⟨#[]⟩, .string ⟨#[]⟩, .int .i64 0, .int .i64 0, .int .i64 0], .int .i64 44]) ∧ Below ((w.alloc (.cells #[.int .i64 id, .slice ao n cap] 24)).alloc (.cells #[.int .i64 0, .slice none 0 0] 24)).heap.size ((w.alloc (.cells #[.int .i64 id, .slice ao n cap] 24)).alloc (.cells #[.int .i64 0, .slice none 0 0] 24)) w' := c0
    clear c0 e1 c2 c3
    go_enter Try.func32, Try.ntmps32
    go_wp2_with fail
    refine (c0').mono ?_
    rintro e w2 ⟨rfl, hb⟩
    obtain ⟨x, rfl⟩ := plus_of_below hb
    clear hb
    clear c0'
    go_wp2
    refine bodyPost_ret (v := .tuple #[.agg #[.int .i64 id, .slice ao n cap], .int .i64 0, .int .i64 44]) (by simp [results, Try.results32, go_sem, ↓IntWalk.iteOmega]) rfl ⟨ao, cap, ?_, ?_, ?_⟩
    · rw [ER.out, HL.out]
    · rw [ER.out]; exact .inl ⟨rfl, rfl, rfl⟩
    · repeat (first | (with_reducible exact Below.refl _ _) | (with_reducible assumption) | (with_reducible refine below_to_plus ?_ ?_ _) | (with_reducible refine below_holds ?_ ?_ _ _) | (with_reducible refine Below.alloc ?_ ?_ _) | (with_reducible refine Below.drew ?_) | (with_reducible refine below_drewN ?_ _) | (with_reducible refine Below.setCell ?_ ?_ _))
      all_goals first | omega | (simp; done) | (simp [go_sem]; done) | (simp [go_sem]; omega)


  · have ef : findF fr xs = (xs[k]!, 0) := by unfold findF; rw [e1, if_neg (by omega)]; rfl
    rw [ef] at c0
    clear hk
    generalize xs[k]! = d at ef c0
    obtain ⟨d1, d2, d3, d4, d5, d6, d7, d8, d9⟩ := d
    have c0' : Calls Try.prog 13 #[.agg #[.int .i64 id, .slice ao n cap], .int .i64 fr] ((w.alloc (.cells #[.int .i64 id, .slice ao n cap] 24)).alloc (.cells #[.int .i64 0, .slice none 0 0] 24)) fun e w' => e = .returned (.tuple #[.agg #[.int .i64 d1, .int .i64 d2, .int .i64 d3, .int .i64 d4, .string d5, .string d6, .int .i64 d7, .int .i64 d8, .int .i64 d9], .int .i64 0]) ∧ Below ((w.alloc (.cells #[.int .i64 id, .slice ao n cap] 24)).alloc (.cells #[.int .i64 0, .slice none 0 0] 24)).heap.size ((w.alloc (.cells #[.int .i64 id, .slice ao n cap] 24)).alloc (.cells #[.int .i64 0, .slice none 0 0] 24)) w' := c0
    clear c0 e1
    by_cases ht : to < -1 ∨ 63 < to
    · skip
      have ER : Aside (rdupF xs fr to = (xs, 0, 5)) := by show _ = _; unfold rdupF; rw [ef, if_neg (by simp), if_pos ht]
      clear ef c2 c3
      rcases ht with ht | ht
      · have ht2 : ¬ 63 < to := by omega
        go_enter Try.func32, Try.ntmps32
        go_wp2_with fail
        refine (c0').mono ?_
        rintro e w2 ⟨rfl, hb⟩
        obtain ⟨x, rfl⟩ := plus_of_below hb
        clear hb
        clear c0'
        go_wp2
        refine bodyPost_ret (v := .tuple #[.agg #[.int .i64 id, .slice ao n cap], .int .i64 0, .int .i64 5]) (by simp [results, Try.results32, go_sem, ↓IntWalk.iteOmega]) rfl ⟨ao, cap, ?_, ?_, ?_⟩
        · rw [ER.out, HL.out]
        · rw [ER.out]; exact .inl ⟨rfl, rfl, rfl⟩
        · repeat (first | (with_reducible exact Below.refl _ _) | (with_reducible assumption) | (with_reducible refine below_to_plus ?_ ?_ _) | (with_reducible refine below_holds ?_ ?_ _ _) | (with_reducible refine Below.alloc ?_ ?_ _) | (with_reducible refine Below.drew ?_) | (with_reducible refine below_drewN ?_ _) | (with_reducible refine Below.setCell ?_ ?_ _))
          all_goals first | omega | (simp; done) | (simp [go_sem]; done) | (simp [go_sem]; omega)

      · have ht2 : ¬ to < -1 := by omega
        go_enter Try.func32, Try.ntmps32
        go_wp2_with fail
        refine (c0').mono ?_
        rintro e w2 ⟨rfl, hb⟩
        obtain ⟨x, rfl⟩ := plus_of_below hb
        clear hb
        clear c0'
        go_wp2
        refine bodyPost_ret (v := .tuple #[.agg #[.int .i64 id, .slice ao n cap], .int .i64 0, .int .i64 5]) (by simp [results, Try.results32, go_sem, ↓IntWalk.iteOmega]) rfl ⟨ao, cap, ?_, ?_, ?_⟩
        · rw [ER.out, HL.out]
        · rw [ER.out]; exact .inl ⟨rfl, rfl, rfl⟩
        · repeat (first | (with_reducible exact Below.refl _ _) | (with_reducible assumption) | (with_reducible refine below_to_plus ?_ ?_ _) | (with_reducible refine below_holds ?_ ?_ _ _) | (with_reducible refine Below.alloc ?_ ?_ _) | (with_reducible refine Below.drew ?_) | (with_reducible refine below_drewN ?_ _) | (with_reducible refine Below.setCell ?_ ?_ _))
          all_goals first | omega | (simp; done) | (simp [go_sem]; done) | (simp [go_sem]; omega)



    have ht1 : ¬ to < -1 := fun h => ht (.inl h)
    have ht2 : ¬ 63 < to := fun h => ht (.inr h)
    by_cases he : to = fr
    · subst he
      have ER : Aside (rdupF xs to to = (xs, to, 0)) := by show _ = _; unfold rdupF; rw [ef, if_neg (by simp), if_neg ht, if_pos rfl]
      clear ef ht c2 c3
      go_enter Try.func32, Try.ntmps32
      go_wp2_with fail
      refine (c0').mono ?_
      rintro e w2 ⟨rfl, hb⟩
      obtain ⟨x, rfl⟩ := plus_of_below hb
      clear hb
      clear c0'
      go_wp2
      refine bodyPost_ret (v := .tuple #[.agg #[.int .i64 id, .slice ao n cap], .int .i64 to, .int .i64 0]) (by simp [results, Try.results32, go_sem, ↓IntWalk.iteOmega]) rfl ⟨ao, cap, ?_, ?_, ?_⟩
      · rw [ER.out, HL.out]
      · rw [ER.out]; exact .inl ⟨rfl, rfl, rfl⟩
      · repeat (first | (with_reducible exact Below.refl _ _) | (with_reducible assumption) | (with_reducible refine below_to_plus ?_ ?_ _) | (with_reducible refine below_holds ?_ ?_ _ _) | (with_reducible refine Below.alloc ?_ ?_ _) | (with_reducible refine Below.drew ?_) | (with_reducible refine below_drewN ?_ _) | (with_reducible refine Below.setCell ?_ ?_ _))
        all_goals first | omega | (simp; done) | (simp [go_sem]; done) | (simp [go_sem]; omega)


    have he1 : (to == fr) = false := by simp [he]
    by_cases hg : 0 ≤ to
    · by_cases hi : 0 ≤ findI to xs
      · skip
        have ER : Aside (rdupF xs fr to = (xs, 0, 41)) := by show _ = _; unfold rdupF; rw [ef, if_neg (by simp), if_neg ht, if_neg he, if_pos ⟨hg, hi⟩]
        clear ef ht he c3
        generalize findI to xs = fi at c2 hi
        go_enter Try.func32, Try.ntmps32
        go_wp2_with fail
        refine (c0').mono ?_
        rintro e w2 ⟨rfl, hb⟩
        obtain ⟨x, rfl⟩ := plus_of_below hb
        clear hb
        clear c0'
        go_wp2_with fail
        refine (c2 _ ?_).mono ?_
        · repeat (first | (with_reducible exact Below.refl _ _) | (with_reducible assumption) | (with_reducible refine below_to_plus ?_ ?_ _) | (with_reducible refine below_holds ?_ ?_ _ _) | (with_reducible refine Below.alloc ?_ ?_ _) | (with_reducible refine Below.drew ?_) | (with_reducible refine below_drewN ?_ _) | (with_reducible refine Below.setCell ?_ ?_ _))
          all_goals first | omega | (simp; done) | (simp [go_sem]; done) | (simp [go_sem]; omega)
        rintro e w2 ⟨rfl, hb⟩
        obtain ⟨y, rfl⟩ := plus_of_below hb
        clear hb
        clear c2
        go_wp2
        refine bodyPost_ret (v := .tuple #[.agg #[.int .i64 id, .slice ao n cap], .int .i64 0, .int .i64 41]) (by simp [results, Try.results32, go_sem, ↓IntWalk.iteOmega]) rfl ⟨ao, cap, ?_, ?_, ?_⟩
        · rw [ER.out, HL.out]
        · rw [ER.out]; exact .inl ⟨rfl, rfl, rfl⟩
        · repeat (first | (with_reducible exact Below.refl _ _) | (with_reducible assumption) | (with_reducible refine below_to_plus ?_ ?_ _) | (with_reducible refine below_holds ?_ ?_ _ _) | (with_reducible refine Below.alloc ?_ ?_ _) | (with_reducible refine Below.drew ?_) | (with_reducible refine below_drewN ?_ _) | (with_reducible refine Below.setCell ?_ ?_ _))
          all_goals first | omega | (simp; done) | (simp [go_sem]; done) | (simp [go_sem]; omega)


      · skip
        have ER : Aside (rdupF xs fr to = (rwithL ⟨to, d2, d3, d4, d5, d6, d7, d8, d9⟩ xs, to, 0)) := by show _ = _; unfold rdupF; rw [ef, if_neg (by simp), if_neg ht, if_neg he, if_neg (fun h => hi h.2)]; simp only []; rw [if_neg (by omega), if_neg (by omega)]
        clear c3
        generalize hys : rwithL ⟨to, d2, d3, d4, d5, d6, d7, d8, d9⟩ xs = ys at ER
        have c4 : ∀ U, Below w.heap.size w U → Calls Try.prog 48 #[.agg #[.int .i64 id, .slice ao n cap], .agg #[.int .i64 to, .int .i64 d2, .int .i64 d3, .int .i64 d4, .string d5, .string d6, .int .i64 d7, .int .i64 d8, .int .i64 d9]] U fun e w' => CopyPost U id ys e w' := fun U hU => by
          rw [← hys]
          exact rwith_calls id ao n cap xs to d2 d3 d4 d5 d6 d7 d8 d9 U (H.out.stays hU) hn
        have HYL : Aside (ys.length = n + 1) := by show _ = _; rw [← hys, rwithL_len, HL.out]
        have hi2 : findI to xs < 0 := by omega
        generalize findI to xs = fi at c2 hi2
        have he64 : (to == 64) = false := by simp; omega
        clear hys ef ht he hi
        go_enter Try.func32, Try.ntmps32
        go_wp2_with fail
        refine (c0').mono ?_
        rintro e w2 ⟨rfl, hb⟩
        obtain ⟨x, rfl⟩ := plus_of_below hb
        clear hb
        clear c0'
        go_wp2_with fail
        refine (c2 _ ?_).mono ?_
        · repeat (first | (with_reducible exact Below.refl _ _) | (with_reducible assumption) | (with_reducible refine below_to_plus ?_ ?_ _) | (with_reducible refine below_holds ?_ ?_ _ _) | (with_reducible refine Below.alloc ?_ ?_ _) | (with_reducible refine Below.drew ?_) | (with_reducible refine below_drewN ?_ _) | (with_reducible refine Below.setCell ?_ ?_ _))
          all_goals first | omega | (simp; done) | (simp [go_sem]; done) | (simp [go_sem]; omega)
        rintro e w2 ⟨rfl, hb⟩
        obtain ⟨y, rfl⟩ := plus_of_below hb
        clear hb
        clear c2
        go_wp2_with fail
        refine (c4 _ ?_).mono ?_
        · repeat (first | (with_reducible exact Below.refl _ _) | (with_reducible assumption) | (with_reducible refine below_to_plus ?_ ?_ _) | (with_reducible refine below_holds ?_ ?_ _ _) | (with_reducible refine Below.alloc ?_ ?_ _) | (with_reducible refine Below.drew ?_) | (with_reducible refine below_drewN ?_ _) | (with_reducible refine Below.setCell ?_ ?_ _))
          all_goals first | omega | (simp; done) | (simp [go_sem]; done) | (simp [go_sem]; omega)
        rintro e w2 ⟨ao2, cap2, rfl, hs0, hb⟩
        have HS2 : Aside (_) := hs0
        obtain ⟨z, rfl⟩ := plus_of_below hb
        clear hb hs0 c4
        rw [HYL.out] at HS2 ⊢
        go_wp2
        refine bodyPost_ret (v := .tuple #[.agg #[.int .i64 id, .slice ao2 (n + 1) cap2], .int .i64 to, .int .i64 0]) (by simp [results, Try.results32, go_sem, ↓IntWalk.iteOmega]) rfl ⟨ao2, cap2, by rw [ER.out, HYL.out], ?_, ?_⟩
        · rw [ER.out]
          refine .inr ?_
          show World.ownsRow _ _ _ _ (.slice ao2 ys.length cap2) ys.length (flatE Fd.enc ys)
          rw [HYL.out]
          exact own_lower (own_past (W' := (plus ((plus ((w.alloc (.cells #[.int .i64 id, .slice ao n cap] 24)).alloc (.cells #[.int .i64 id, .slice ao2 (n + 1) cap2] 24)) x).alloc (.cells #[.int .i64 to, .int .i64 d2, .int .i64 d3, .int .i64 d4, .string d5, .string d6, .int .i64 d7, .int .i64 d8, .int .i64 d9] 30)) y)) HS2.out (by simp [size_plus]) (by simp [size_plus])) (by simp [size_plus]; omega)
        · repeat (first | (with_reducible exact Below.refl _ _) | (with_reducible assumption) | (with_reducible refine below_to_plus ?_ ?_ _) | (with_reducible refine below_holds ?_ ?_ _ _) | (with_reducible refine Below.alloc ?_ ?_ _) | (with_reducible refine Below.drew ?_) | (with_reducible refine below_drewN ?_ _) | (with_reducible refine Below.setCell ?_ ?_ _))
          all_goals first | omega | (simp; done) | (simp [go_sem]; done) | (simp [go_sem]; omega)


    · have hneg : to < 0 := by omega
      by_cases hf : 64 ≤ lowF Fd.num xs
      · skip
        have ER : Aside (rdupF xs fr to = (xs, 0, 22)) := by show _ = _; unfold rdupF; rw [ef, if_neg (by simp), if_neg ht, if_neg he, if_neg (fun h => hg h.1)]; simp only []; rw [if_pos hneg, if_pos (by omega)]
        have h64 : ((min 64 (lowF Fd.num xs) : Nat) : Int) = 64 := by omega
        rw [h64] at c3
        clear ef ht he c2 h64 hf
        go_enter Try.func32, Try.ntmps32
        go_wp2_with fail
        refine (c0').mono ?_
        rintro e w2 ⟨rfl, hb⟩
        obtain ⟨x, rfl⟩ := plus_of_below hb
        clear hb
        clear c0'
        go_wp2_with fail
        refine (c3 _ ?_).mono ?_
        · repeat (first | (with_reducible exact Below.refl _ _) | (with_reducible assumption) | (with_reducible refine below_to_plus ?_ ?_ _) | (with_reducible refine below_holds ?_ ?_ _ _) | (with_reducible refine Below.alloc ?_ ?_ _) | (with_reducible refine Below.drew ?_) | (with_reducible refine below_drewN ?_ _) | (with_reducible refine Below.setCell ?_ ?_ _))
          all_goals first | omega | (simp; done) | (simp [go_sem]; done) | (simp [go_sem]; omega)
        rintro e w2 ⟨rfl, hb⟩
        obtain ⟨y, rfl⟩ := plus_of_below hb
        clear hb
        clear c3
        go_wp2
        refine bodyPost_ret (v := .tuple #[.agg #[.int .i64 id, .slice ao n cap], .int .i64 0, .int .i64 22]) (by simp [results, Try.results32, go_sem, ↓IntWalk.iteOmega]) rfl ⟨ao, cap, ?_, ?_, ?_⟩
        · rw [ER.out, HL.out]
        · rw [ER.out]; exact .inl ⟨rfl, rfl, rfl⟩
        · repeat (first | (with_reducible exact Below.refl _ _) | (with_reducible assumption) | (with_reducible refine below_to_plus ?_ ?_ _) | (with_reducible refine below_holds ?_ ?_ _ _) | (with_reducible refine Below.alloc ?_ ?_ _) | (with_reducible refine Below.drew ?_) | (with_reducible refine below_drewN ?_ _) | (with_reducible refine Below.setCell ?_ ?_ _))
          all_goals first | omega | (simp; done) | (simp [go_sem]; done) | (simp [go_sem]; omega)


      · skip
        have ER : Aside (rdupF xs fr to = (rwithL ⟨(lowF Fd.num xs : Nat), d2, d3, d4, d5, d6, d7, d8, d9⟩ xs, ((lowF Fd.num xs : Nat) : Int), 0)) := by show _ = _; unfold rdupF; rw [ef, if_neg (by simp), if_neg ht, if_neg he, if_neg (fun h => hg h.1)]; simp only []; rw [if_pos hneg, if_neg (by omega), show ((min 64 (lowF Fd.num xs) : Nat) : Int) = ((lowF Fd.num xs : Nat) : Int) by omega]
        have h64 : ((min 64 (lowF Fd.num xs) : Nat) : Int) = ((lowF Fd.num xs : Nat) : Int) := by omega
        rw [h64] at c3
        have hk1 : ((lowF Fd.num xs : Nat) : Int) < 64 := by omega
        generalize ((lowF Fd.num xs : Nat) : Int) = k1 at ER c3 hk1
        generalize hys : rwithL ⟨k1, d2, d3, d4, d5, d6, d7, d8, d9⟩ xs = ys at ER
        have c4 : ∀ U, Below w.heap.size w U → Calls Try.prog 48 #[.agg #[.int .i64 id, .slice ao n cap], .agg #[.int .i64 k1, .int .i64 d2, .int .i64 d3, .int .i64 d4, .string d5, .string d6, .int .i64 d7, .int .i64 d8, .int .i64 d9]] U fun e w' => CopyPost U id ys e w' := fun U hU => by
          rw [← hys]
          exact rwith_calls id ao n cap xs k1 d2 d3 d4 d5 d6 d7 d8 d9 U (H.out.stays hU) hn
        have HYL : Aside (ys.length = n + 1) := by show _ = _; rw [← hys, rwithL_len, HL.out]
        have he64 : (k1 == 64) = false := by simp; omega
        clear hys ef ht he c2 h64 hf
        go_enter Try.func32, Try.ntmps32
        go_wp2_with fail
        refine (c0').mono ?_
        rintro e w2 ⟨rfl, hb⟩
        obtain ⟨x, rfl⟩ := plus_of_below hb
        clear hb
        clear c0'
        go_wp2_with fail
        refine (c3 _ ?_).mono ?_
        · repeat (first | (with_reducible exact Below.refl _ _) | (with_reducible assumption) | (with_reducible refine below_to_plus ?_ ?_ _) | (with_reducible refine below_holds ?_ ?_ _ _) | (with_reducible refine Below.alloc ?_ ?_ _) | (with_reducible refine Below.drew ?_) | (with_reducible refine below_drewN ?_ _) | (with_reducible refine Below.setCell ?_ ?_ _))
          all_goals first | omega | (simp; done) | (simp [go_sem]; done) | (simp [go_sem]; omega)
        rintro e w2 ⟨rfl, hb⟩
        obtain ⟨y, rfl⟩ := plus_of_below hb
        clear hb
        clear c3
        go_wp2_with fail
        refine (c4 _ ?_).mono ?_
        · repeat (first | (with_reducible exact Below.refl _ _) | (with_reducible assumption) | (with_reducible refine below_to_plus ?_ ?_ _) | (with_reducible refine below_holds ?_ ?_ _ _) | (with_reducible refine Below.alloc ?_ ?_ _) | (with_reducible refine Below.drew ?_) | (with_reducible refine below_drewN ?_ _) | (with_reducible refine Below.setCell ?_ ?_ _))
          all_goals first | omega | (simp; done) | (simp [go_sem]; done) | (simp [go_sem]; omega)
        rintro e w2 ⟨ao2, cap2, rfl, hs0, hb⟩
        have HS2 : Aside (_) := hs0
        obtain ⟨z, rfl⟩ := plus_of_below hb
        clear hb hs0 c4
        rw [HYL.out] at HS2 ⊢
        go_wp2
        refine bodyPost_ret (v := .tuple #[.agg #[.int .i64 id, .slice ao2 (n + 1) cap2], .int .i64 k1, .int .i64 0]) (by simp [results, Try.results32, go_sem, ↓IntWalk.iteOmega]) rfl ⟨ao2, cap2, by rw [ER.out, HYL.out], ?_, ?_⟩
        · rw [ER.out]
          refine .inr ?_
          show World.ownsRow _ _ _ _ (.slice ao2 ys.length cap2) ys.length (flatE Fd.enc ys)
          rw [HYL.out]
          exact own_lower (own_past (W' := (plus ((plus ((w.alloc (.cells #[.int .i64 id, .slice ao n cap] 24)).alloc (.cells #[.int .i64 id, .slice ao2 (n + 1) cap2] 24)) x).alloc (.cells #[.int .i64 k1, .int .i64 d2, .int .i64 d3, .int .i64 d4, .string d5, .string d6, .int .i64 d7, .int .i64 d8, .int .i64 d9] 30)) y)) HS2.out (by simp [size_plus]) (by simp [size_plus])) (by simp [size_plus]; omega)
        · repeat (first | (with_reducible exact Below.refl _ _) | (with_reducible assumption) | (with_reducible refine below_to_plus ?_ ?_ _) | (with_reducible refine below_holds ?_ ?_ _ _) | (with_reducible refine Below.alloc ?_ ?_ _) | (with_reducible refine Below.drew ?_) | (with_reducible refine below_drewN ?_ _) | (with_reducible refine Below.setCell ?_ ?_ _))
          all_goals first | omega | (simp; done) | (simp [go_sem]; done) | (simp [go_sem]; omega)



end Go.Proofs.Ytbifanenoejjgaa
