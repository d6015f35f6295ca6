/- This text proves the walks of Find and with of package fds. Conditions: those that each theorem names. -/
import Derived.Test.YtbifanenoejjgaaFdsD
namespace Go.Proofs.Ytbifanenoejjgaa
open Go.ChangeShapes Go.WideShapes Go.ChangeAt Go.RowKit
set_option linter.unusedVariables false

theorem idxFrom_spec (eq : Fd → Fd → Bool) (x : Fd) : ∀ (l : List Fd) (i : Nat), (Lib.idxByFrom eq x l i = -1 ∧ ∀ j, j < l.length → eq x l[j]! = false) ∨ ∃ k, k < l.length ∧ Lib.idxByFrom eq x l i = ((i + k : Nat) : Int) ∧ eq x l[k]! = true ∧ ∀ j, j < k → eq x l[j]! = false
  | [], _ => .inl ⟨rfl, fun j hj => absurd hj (Nat.not_lt_zero _)⟩
  | y :: r, i => by
    cases h : eq x y with
    | true => exact .inr ⟨0, by simp, by simp [Lib.idxByFrom, h], by simpa using h, fun j hj => absurd hj (Nat.not_lt_zero _)⟩
    | false =>
      rcases idxFrom_spec eq x r (i + 1) with ⟨e, ha⟩ | ⟨k, hk, e, ht, ha⟩
      · refine .inl ⟨by simp [Lib.idxByFrom, h, e], fun j hj => ?_⟩
        cases j with
        | zero => simpa using h
        | succ j => simpa using ha j (by simpa using hj)
      · refine .inr ⟨k + 1, by simpa using hk, by simp only [Lib.idxByFrom, h]; rw [show (if false = true then (i : Int) else Lib.idxByFrom eq x r (i + 1)) = Lib.idxByFrom eq x r (i + 1) from rfl, e]; congr 1; omega, by simpa using ht, fun j hj => ?_⟩
        cases j with
        | zero => simpa using h
        | succ j => simpa using ha j (by omega)
theorem findI_spec (num : Int) (xs : List Fd) : (findI num xs = -1 ∧ ∀ j, j < xs.length → xs[j]!.num ≠ num) ∨ ∃ k : Nat, k < xs.length ∧ findI num xs = (k : Int) ∧ xs[k]!.num = num ∧ ∀ j, j < k → xs[j]!.num ≠ num := by
  rcases idxFrom_spec (fun _ y => decide (y.num = num)) default xs 0 with ⟨e, h⟩ | ⟨k, hk, e, h1, h2⟩
  · exact .inl ⟨e, fun j hj => of_decide_eq_false (h j hj)⟩
  · refine .inr ⟨k, hk, ?_, of_decide_eq_true h1, fun j hj => of_decide_eq_false (h2 j hj)⟩
    have : findI num xs = ((0 + k : Nat) : Int) := e
    rw [this, Nat.zero_add]

def findF (num : Int) (xs : List Fd) : Fd × Int := if findI num xs < 0 then (default, 44) else (xs[(findI num xs).toNat]!, 0)

set_option maxHeartbeats 2000000 in
theorem Find_calls (id num : Int) (ao : Option Addr) (n cap : Nat) (xs : List Fd) (w : World) (h : Sl w 9 ao n cap (xs.map Fd.enc)) :
    Calls Try.prog 12 #[.agg #[.int .i64 id, .slice ao n cap], .int .i64 num] w fun e w' => e = .returned (.tuple #[Fd.val (findF num xs).1, .int .i64 (findF num xs).2]) ∧ Below w.heap.size w w' := by
  have hb0 : Below w.heap.size w ((w.alloc (.cells #[.int .i64 id, .slice ao n cap] 24)).alloc (.cells #[.int .i64 0, .int .i64 0, .int .i64 0, .int .i64 0, .string ⟨#[]⟩, .string ⟨#[]⟩, .int .i64 0, .int .i64 0, .int .i64 0] 30)) := ((Below.refl _ w).alloc (Nat.le_refl _) _).alloc (by simp) _
  have c := find_calls id num ao n cap xs _ (h.stays hb0)
  have hln := Sl.lenE h
  have hbig : n ≤ 9223372036854775807 := Nat.le_trans h.hcap h.hmax
  have HC : Aside (CellsFd w ao xs) := cellsFd h
  clear h
  rcases findI_spec num xs with ⟨e1, _⟩ | ⟨k, hk, e1, _⟩
  · have HF : Aside (findF num xs = (default, 44)) := by show _ = _; unfold findF; rw [e1]; rfl
    rw [e1] at c
    clear e1 HC
    go_enter Try.func12, Try.ntmps12
    go_wp2_with fail
    refine c.mono ?_
    rintro e w1 ⟨rfl, hb⟩
    obtain ⟨x, rfl⟩ := plus_of_below hb
    clear hb
    go_wp2
    refine bodyPost_ret (v := .tuple #[.agg #[.int .i64 0, .int .i64 0, .int .i64 0, .int .i64 0, .string ⟨#[]⟩, .string ⟨#[]⟩, .int .i64 0, .int .i64 0, .int .i64 0], .int .i64 44]) (by simp [results, Try.results12, go_sem]) rfl ⟨by rw [HF.out]; rfl, ?_⟩
    repeat (first | (with_reducible exact Below.refl _ _) | (with_reducible assumption) | (with_reducible refine below_to_plus ?_ ?_ _) | (with_reducible refine below_holds ?_ ?_ _ _) | (with_reducible refine Below.alloc ?_ ?_ _) | (with_reducible refine Below.drew ?_) | (with_reducible refine below_drewN ?_ _) | (with_reducible refine Below.setCell ?_ ?_ _))
    all_goals first | omega | (simp; done) | (simp [go_sem]; done) | (simp [go_sem]; omega)
  · have HF : Aside (findF num xs = (xs[k]!, 0)) := by show _ = _; unfold findF; rw [e1, if_neg (by omega)]; rfl
    rw [e1] at c
    have hkn : k < n := by omega
    obtain ⟨b, off, rfl, hbw, l0, l1, l2, l3, l4, l5, l6, l7, l8⟩ := HC.out k hk
    clear e1 HC
    generalize xs[k]! = y at HF l0 l1 l2 l3 l4 l5 l6 l7 l8
    obtain ⟨y1, y2, y3, y4, y5, y6, y7, y8, y9⟩ := y
    simp only [] at l0 l1 l2 l3 l4 l5 l6 l7 l8
    go_enter Try.func12, Try.ntmps12
    go_wp2_with fail
    refine c.mono ?_
    rintro e w1 ⟨rfl, hb⟩
    obtain ⟨x, rfl⟩ := plus_of_below hb
    clear hb
    go_wp2
    refine bodyPost_ret (v := .tuple #[.agg #[.int .i64 y1, .int .i64 y2, .int .i64 y3, .int .i64 y4, .string y5, .string y6, .int .i64 y7, .int .i64 y8, .int .i64 y9], .int .i64 0]) (by simp [results, Try.results12, go_sem]) rfl ⟨by rw [HF.out]; rfl, ?_⟩
    repeat (first | (with_reducible exact Below.refl _ _) | (with_reducible assumption) | (with_reducible refine below_to_plus ?_ ?_ _) | (with_reducible refine below_holds ?_ ?_ _ _) | (with_reducible refine Below.alloc ?_ ?_ _) | (with_reducible refine Below.drew ?_) | (with_reducible refine below_drewN ?_ _) | (with_reducible refine Below.setCell ?_ ?_ _))
    all_goals first | omega | (simp; done) | (simp [go_sem]; done) | (simp [go_sem]; omega)

end Go.Proofs.Ytbifanenoejjgaa
