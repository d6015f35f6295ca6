/- This text proves the walk of with of package fds. Conditions: those that each theorem names. -/
import Derived.Test.YtbifanenoejjgaaFdsE
import Derived.Test.YtbifanenoejjgaaRow
namespace Go.Proofs.Ytbifanenoejjgaa
open Go.ChangeShapes Go.WideShapes Go.ChangeAt Go.RowKit
set_option linter.unusedVariables false
set_option linter.unusedSimpArgs false

theorem cmp_with (num : Int) (W : World) (y : Fd) : Calls Try.prog 53 (#[Fd.val y, .int .i64 num] ++ #[]) W fun e w' => e = .returned (.int .i64 (cmpI y.num num)) ∧ Below W.heap.size W w' := by
  obtain ⟨y1, y2, y3, y4, y5, y6, y7, y8, y9⟩ := y
  have co := fun W => compare_calls y1 num W
  show Calls Try.prog 53 #[.agg #[.int .i64 y1, .int .i64 y2, .int .i64 y3, .int .i64 y4, .string y5, .string y6, .int .i64 y7, .int .i64 y8, .int .i64 y9], .int .i64 num] W fun e w' => e = .returned (.int .i64 (cmpI y1 num)) ∧ Below W.heap.size W w'
  generalize cmpI y1 num = r at co ⊢
  go_enter Try.func53, Try.ntmps53
  go_wp2_with (go_at_call 54; (with_reducible refine (co _).mono ?_); (rintro e w1 ⟨rfl, hb⟩; obtain ⟨x, hx⟩ := plus_of_below hb; subst hx); clear hb)
  go_ret
  refine ⟨rfl, ?_⟩
  repeat (first | (with_reducible exact Below.refl _ _) | (with_reducible assumption) | (with_reducible refine below_to_plus ?_ ?_ _) | (with_reducible refine below_holds ?_ ?_ _ _) | (with_reducible refine Below.alloc ?_ ?_ _) | (with_reducible refine Below.drew ?_) | (with_reducible refine below_drewN ?_ _) | (with_reducible refine Below.setCell ?_ ?_ _))
  all_goals first | omega | (simp; done) | (simp [go_sem]; done) | (simp [go_sem]; omega)

/-- The list with a descriptor more, at its place. -/
def withL (d : Fd) (xs : List Fd) : List Fd := xs.take (posE (fun y => cmpI y.num d.num) xs) ++ d :: xs.drop (posE (fun y => cmpI y.num d.num) xs)
set_option maxHeartbeats 4000000 in
theorem with_calls (id : Int) (ao : Option Addr) (n cap : Nat) (xs : List Fd) (d1 : Int) (d2 : Int) (d3 : Int) (d4 : Int) (d5 : ByteArray) (d6 : ByteArray) (d7 : Int) (d8 : Int) (d9 : Int) (w : World) (h : Sl w 9 ao n cap (xs.map Fd.enc)) (hn : n ≤ 1000) (hs : MonoE (fun y : Fd => cmpI y.num d1) xs) :
    Calls Try.prog 38 #[.agg #[.int .i64 id, .slice ao n cap], .agg #[.int .i64 d1, .int .i64 d2, .int .i64 d3, .int .i64 d4, .string d5, .string d6, .int .i64 d7, .int .i64 d8, .int .i64 d9]] w fun e w' => CopyPost w id (withL ⟨d1, d2, d3, d4, d5, d6, d7, d8, d9⟩ xs) e w' := by
  have eg : ∀ args w, (callFunc 53 args).run Try.prog w = .ok (.enter 53 args) w := enters_of Try.func53 (by kernel_rfl) rfl
  have hln := Sl.lenE h
  have HL : Aside (xs.length = n) := hln
  have hb0 : Below w.heap.size w (((w.alloc (.cells #[.int .i64 id, .slice ao n cap] 24)).alloc (.cells #[.int .i64 d1, .int .i64 d2, .int .i64 d3, .int .i64 d4, .string d5, .string d6, .int .i64 d7, .int .i64 d8, .int .i64 d9] 30)).alloc (.cells #[.int .i64 0, .slice none 0 0] 24)) := (((Below.refl _ w).alloc (Nat.le_refl _) _).alloc (by simp) _).alloc (by simp; omega) _
  have HB0 : Aside (Below w.heap.size w (((w.alloc (.cells #[.int .i64 id, .slice ao n cap] 24)).alloc (.cells #[.int .i64 d1, .int .i64 d2, .int .i64 d3, .int .i64 d4, .string d5, .string d6, .int .i64 d7, .int .i64 d8, .int .i64 d9] 30)).alloc (.cells #[.int .i64 0, .slice none 0 0] 24))) := hb0
  have c1 := copy_calls id id ao n cap xs _ (h.stays hb0) (by omega)
  have c2 := fun U ao2 cap2 (hsl : Sl U 9 ao2 n cap2 (xs.map Fd.enc)) => fdBsearch_calls (fun y => cmpI y.num d1) 53 #[] eg ao2 n cap2 xs d1 U hsl (by omega) (fun W y _ => cmp_with d1 W y) hs
  have hpos := posE_le (fun y : Fd => cmpI y.num d1) xs
  have HW : Aside (withL ⟨d1, d2, d3, d4, d5, d6, d7, d8, d9⟩ xs = xs.take (posE (fun y : Fd => cmpI y.num d1) xs) ++ ⟨d1, d2, d3, d4, d5, d6, d7, d8, d9⟩ :: xs.drop (posE (fun y : Fd => cmpI y.num d1) xs)) := rfl
  clear h hb0 hln hs
  generalize posE (fun y : Fd => cmpI y.num d1) xs = ip at c2 hpos HW
  generalize foundE (fun y : Fd => cmpI y.num d1) xs = fb at c2
  generalize hys : withL ⟨d1, d2, d3, d4, d5, d6, d7, d8, d9⟩ xs = ys at HW ⊢
  clear hys
  have HYL : Aside (ys.length = n + 1) := by show _ = _; rw [HW.out]; simp; have := HL.out; omega
  go_enter Try.func38, Try.ntmps38
  go_wp2_with fail
  refine c1.mono ?_
  rintro e w1 ⟨ao2, cap2, rfl, hown, hb⟩
  rw [HL.out] at hown ⊢
  have HO : Aside (w1.ownsRow (((w.alloc (.cells #[.int .i64 id, .slice ao n cap] 24)).alloc (.cells #[.int .i64 d1, .int .i64 d2, .int .i64 d3, .int .i64 d4, .string d5, .string d6, .int .i64 d7, .int .i64 d8, .int .i64 d9] 30)).alloc (.cells #[.int .i64 0, .slice none 0 0] 24)).heap.size 30 9 (.slice ao2 n cap2) n (flatE Fd.enc xs)) := hown
  obtain ⟨x, rfl⟩ := plus_of_below hb
  clear hb c1 hown
  have HSL : Aside (Sl (plus (((w.alloc (.cells #[.int .i64 id, .slice ao n cap] 24)).alloc (.cells #[.int .i64 d1, .int .i64 d2, .int .i64 d3, .int .i64 d4, .string d5, .string d6, .int .i64 d7, .int .i64 d8, .int .i64 d9] 30)).alloc (.cells #[.int .i64 0, .slice none 0 0] 24)) x) 9 ao2 n cap2 (xs.map Fd.enc)) := by
    obtain ⟨a3, c3, hv, hsl⟩ := ownE_sl fd_len (by omega) HO.out
    cases hv
    exact hsl
  have hba : Below (plus (((w.alloc (.cells #[.int .i64 id, .slice ao n cap] 24)).alloc (.cells #[.int .i64 d1, .int .i64 d2, .int .i64 d3, .int .i64 d4, .string d5, .string d6, .int .i64 d7, .int .i64 d8, .int .i64 d9] 30)).alloc (.cells #[.int .i64 0, .slice none 0 0] 24)) x).heap.size (plus (((w.alloc (.cells #[.int .i64 id, .slice ao n cap] 24)).alloc (.cells #[.int .i64 d1, .int .i64 d2, .int .i64 d3, .int .i64 d4, .string d5, .string d6, .int .i64 d7, .int .i64 d8, .int .i64 d9] 30)).alloc (.cells #[.int .i64 0, .slice none 0 0] 24)) x) ((plus (((w.alloc (.cells #[.int .i64 id, .slice ao n cap] 24)).alloc (.cells #[.int .i64 d1, .int .i64 d2, .int .i64 d3, .int .i64 d4, .string d5, .string d6, .int .i64 d7, .int .i64 d8, .int .i64 d9] 30)).alloc (.cells #[.int .i64 0, .slice none 0 0] 24)) x).alloc (.cells #[.int .i64 id, .slice ao2 n cap2] 24)) := (Below.refl _ _).alloc (Nat.le_refl _) _
  have HBA : Aside (Below (plus (((w.alloc (.cells #[.int .i64 id, .slice ao n cap] 24)).alloc (.cells #[.int .i64 d1, .int .i64 d2, .int .i64 d3, .int .i64 d4, .string d5, .string d6, .int .i64 d7, .int .i64 d8, .int .i64 d9] 30)).alloc (.cells #[.int .i64 0, .slice none 0 0] 24)) x).heap.size (plus (((w.alloc (.cells #[.int .i64 id, .slice ao n cap] 24)).alloc (.cells #[.int .i64 d1, .int .i64 d2, .int .i64 d3, .int .i64 d4, .string d5, .string d6, .int .i64 d7, .int .i64 d8, .int .i64 d9] 30)).alloc (.cells #[.int .i64 0, .slice none 0 0] 24)) x) ((plus (((w.alloc (.cells #[.int .i64 id, .slice ao n cap] 24)).alloc (.cells #[.int .i64 d1, .int .i64 d2, .int .i64 d3, .int .i64 d4, .string d5, .string d6, .int .i64 d7, .int .i64 d8, .int .i64 d9] 30)).alloc (.cells #[.int .i64 0, .slice none 0 0] 24)) x).alloc (.cells #[.int .i64 id, .slice ao2 n cap2] 24))) := hba
  clear hba
  go_wp2_with fail
  refine (c2 _ _ _ (HSL.out.stays HBA.out)).mono ?_
  rintro e U ⟨rfl, hbU⟩
  obtain ⟨y, rfl⟩ := plus_of_below hbU
  clear hbU c2
  go_wp2_with fail
  have hb3 : Below w.heap.size w ((plus ((plus (((w.alloc (.cells #[.int .i64 id, .slice ao n cap] 24)).alloc (.cells #[.int .i64 d1, .int .i64 d2, .int .i64 d3, .int .i64 d4, .string d5, .string d6, .int .i64 d7, .int .i64 d8, .int .i64 d9] 30)).alloc (.cells #[.int .i64 0, .slice none 0 0] 24)) x).alloc (.cells #[.int .i64 id, .slice ao2 n cap2] 24)) y).alloc (.cells #[.int .i64 d1, .int .i64 d2, .int .i64 d3, .int .i64 d4, .string d5, .string d6, .int .i64 d7, .int .i64 d8, .int .i64 d9] 30)) := by
    repeat (first | (with_reducible exact Below.refl _ _) | (with_reducible assumption) | (with_reducible refine below_to_plus ?_ ?_ _) | (with_reducible refine below_holds ?_ ?_ _ _) | (with_reducible refine Below.alloc ?_ ?_ _) | (with_reducible refine Below.drew ?_) | (with_reducible refine below_drewN ?_ _) | (with_reducible refine Below.setCell ?_ ?_ _))
    all_goals first | omega | (simp; done) | (simp [go_sem]; done) | (simp [go_sem]; omega)
  have hO2 : (plus ((plus (((w.alloc (.cells #[.int .i64 id, .slice ao n cap] 24)).alloc (.cells #[.int .i64 d1, .int .i64 d2, .int .i64 d3, .int .i64 d4, .string d5, .string d6, .int .i64 d7, .int .i64 d8, .int .i64 d9] 30)).alloc (.cells #[.int .i64 0, .slice none 0 0] 24)) x).alloc (.cells #[.int .i64 id, .slice ao2 n cap2] 24)) y).ownsRow (w.heap.size + 3) 30 9 (.slice ao2 n cap2) n (flatE Fd.enc xs) := by
    have := (HO.out.kept (grownBy_of_below HBA.out none) (by cases hv : (Value.slice ao2 n cap2).ownBlock <;> simp)).kept (grownBy_of_below (below_plus ((plus (((w.alloc (.cells #[.int .i64 id, .slice ao n cap] 24)).alloc (.cells #[.int .i64 d1, .int .i64 d2, .int .i64 d3, .int .i64 d4, .string d5, .string d6, .int .i64 d7, .int .i64 d8, .int .i64 d9] 30)).alloc (.cells #[.int .i64 0, .slice none 0 0] 24)) x).alloc (.cells #[.int .i64 id, .slice ao2 n cap2] 24)) y) none) (by cases hv : (Value.slice ao2 n cap2).ownBlock <;> simp)
    exact own_lower this (by simp)
  have hO3 : ((plus ((plus (((w.alloc (.cells #[.int .i64 id, .slice ao n cap] 24)).alloc (.cells #[.int .i64 d1, .int .i64 d2, .int .i64 d3, .int .i64 d4, .string d5, .string d6, .int .i64 d7, .int .i64 d8, .int .i64 d9] 30)).alloc (.cells #[.int .i64 0, .slice none 0 0] 24)) x).alloc (.cells #[.int .i64 id, .slice ao2 n cap2] 24)) y).alloc (.cells #[.int .i64 d1, .int .i64 d2, .int .i64 d3, .int .i64 d4, .string d5, .string d6, .int .i64 d7, .int .i64 d8, .int .i64 d9] 30)).ownsRow (w.heap.size + 3) 30 9 (.slice ao2 n cap2) n (flatE Fd.enc xs) :=
    hO2.kept (grownBy_of_below ((Below.refl _ _).alloc (Nat.le_refl _) _) none) (by cases hv : (Value.slice ao2 n cap2).ownBlock <;> simp)
  have hob : ((plus ((plus (((w.alloc (.cells #[.int .i64 id, .slice ao n cap] 24)).alloc (.cells #[.int .i64 d1, .int .i64 d2, .int .i64 d3, .int .i64 d4, .string d5, .string d6, .int .i64 d7, .int .i64 d8, .int .i64 d9] 30)).alloc (.cells #[.int .i64 0, .slice none 0 0] 24)) x).alloc (.cells #[.int .i64 id, .slice ao2 n cap2] 24)) y).alloc (.cells #[.int .i64 d1, .int .i64 d2, .int .i64 d3, .int .i64 d4, .string d5, .string d6, .int .i64 d7, .int .i64 d8, .int .i64 d9] 30)).heap[(w.heap.size + 1 + 1 + 1 + x.heap.size)]? = some (.cells #[.int .i64 id, .slice ao2 n cap2] 24 (0, 0)) := hp_old (hp_plus (hp_new (by simp [size_plus])))
  have hrb : ((plus ((plus (((w.alloc (.cells #[.int .i64 id, .slice ao n cap] 24)).alloc (.cells #[.int .i64 d1, .int .i64 d2, .int .i64 d3, .int .i64 d4, .string d5, .string d6, .int .i64 d7, .int .i64 d8, .int .i64 d9] 30)).alloc (.cells #[.int .i64 0, .slice none 0 0] 24)) x).alloc (.cells #[.int .i64 id, .slice ao2 n cap2] 24)) y).alloc (.cells #[.int .i64 d1, .int .i64 d2, .int .i64 d3, .int .i64 d4, .string d5, .string d6, .int .i64 d7, .int .i64 d8, .int .i64 d9] 30)).heap[(w.heap.size + 1 + 1)]? = some (.cells #[.int .i64 0, .slice none 0 0] 24 (0, 0)) := hp_old (hp_plus (hp_old (hp_plus (hp_new (by simp)))))
  have hvb : ((plus ((plus (((w.alloc (.cells #[.int .i64 id, .slice ao n cap] 24)).alloc (.cells #[.int .i64 d1, .int .i64 d2, .int .i64 d3, .int .i64 d4, .string d5, .string d6, .int .i64 d7, .int .i64 d8, .int .i64 d9] 30)).alloc (.cells #[.int .i64 0, .slice none 0 0] 24)) x).alloc (.cells #[.int .i64 id, .slice ao2 n cap2] 24)) y).alloc (.cells #[.int .i64 d1, .int .i64 d2, .int .i64 d3, .int .i64 d4, .string d5, .string d6, .int .i64 d7, .int .i64 d8, .int .i64 d9] 30)).heap[(w.heap.size + 1 + 1 + 1 + x.heap.size + 1 + y.heap.size)]? = some (.cells #[.int .i64 d1, .int .i64 d2, .int .i64 d3, .int .i64 d4, .string d5, .string d6, .int .i64 d7, .int .i64 d8, .int .i64 d9] 30 (0, 0)) := hp_new (by simp [size_plus])
  refine (fdInsert_calls (.slice ao2 n cap2) n ip (w.heap.size + 1 + 1 + 1 + x.heap.size + 1 + y.heap.size) (w.heap.size + 3) (flatE Fd.enc xs) (Fd.enc ⟨d1, d2, d3, d4, d5, d6, d7, d8, d9⟩) 30 _ hO3 (by have := HL.out; omega) (by omega) rfl (flatE_cells fd_one xs) (fd_one _) hvb (fun e => by have := (hO2.lt _ e).2; simp [size_plus] at this) (by simp [size_plus]; omega)).mono ?_
  rintro e w5 ⟨v', rfl, hown, hg⟩
  rw [flatE_insert fd_len] at hown
  have hob5 := (hg.block (w.heap.size + 1 + 1 + 1 + x.heap.size) (by simp [size_plus]; omega) (fun e => own_ne hO3 hob (by decide) e.symm)).trans hob
  have hrb5 := (hg.block (w.heap.size + 1 + 1) (by simp [size_plus]; omega) (fun e => own_ne hO3 hrb (by decide) e.symm)).trans hrb
  have hb5 : Below w.heap.size w w5 := hb3.grown hg hb3.size (fun k hk => by have := (hO3.lt _ hk).1; omega)
  obtain ⟨ao3, cap3, rfl, hsl⟩ := ownE_sl fd_len (by omega) hown
  have hne : ¬ (w.heap.size + 1 + 1) = (w.heap.size + 1 + 1 + 1 + x.heap.size) := by omega
  have hle : w.heap.size ≤ (w.heap.size + 1 + 1 + 1 + x.heap.size) ∧ w.heap.size ≤ (w.heap.size + 1 + 1) := by omega
  have hon := (own_ne hown hob5 (by decide))
  have hrn := (own_ne hown hrb5 (by decide))
  obtain ⟨ob, eob⟩ : ∃ ob, (w.heap.size + 1 + 1 + 1 + x.heap.size) = ob := ⟨_, rfl⟩
  obtain ⟨rb, erb⟩ : ∃ rb, (w.heap.size + 1 + 1) = rb := ⟨_, rfl⟩
  rw [eob] at hob5 hne hle hon ⊢
  rw [erb] at hrb5 hne hle hrn ⊢
  have hne2 : ¬ ob = rb := fun e => hne e.symm
  have hobs : ob < w5.heap.size := (Array.getElem?_eq_some_iff.1 hob5).1
  have hrbs : rb < w5.heap.size := (Array.getElem?_eq_some_iff.1 hrb5).1
  rw [holds_two hob5 hrb5 hne]
  have H5 : Aside (Below w.heap.size w w5 ∧ w5.ownsRow (w.heap.size + 3) 30 9 (.slice ao3 (n + 1) cap3) (n + 1) (flatE Fd.enc (List.take ip xs ++ ⟨d1, d2, d3, d4, d5, d6, d7, d8, d9⟩ :: List.drop ip xs)) ∧ w.heap.size ≤ ob ∧ w.heap.size ≤ rb ∧ (Value.slice ao3 (n + 1) cap3).ownBlock ≠ some ob ∧ (Value.slice ao3 (n + 1) cap3).ownBlock ≠ some rb) := ⟨hb5, hown, hle.1, hle.2, hon, hrn⟩
  clear hb5 hown hle hon hrn hob5 hrb5 hsl hg hob hrb hvb hO3 hO2 hb3 HO HSL HBA HB0
  go_wp2
  obtain ⟨q1, q2, q3, q4, q5, q6⟩ := H5.out
  have q7 := own_holds (c := #[.int .i64 id, .slice ao3 (n + 1) cap3]) (T := 24) (own_holds (c := #[.int .i64 id, .slice ao3 (n + 1) cap3]) (T := 24) q2 q5) q6
  refine bodyPost_ret (v := .agg #[.int .i64 id, .slice ao3 (n + 1) cap3]) (by simp [results, Try.results38, go_sem, hrbs]) rfl ⟨ao3, cap3, by rw [HYL.out], ?_, below_holds (below_holds q1 q3 _ _) q4 _ _⟩
  rw [HYL.out]
  rw [← HW.out] at q7
  exact own_lower q7 (by omega)

end Go.Proofs.Ytbifanenoejjgaa
