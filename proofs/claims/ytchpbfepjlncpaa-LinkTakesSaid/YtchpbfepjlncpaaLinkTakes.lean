/- This text proves the statement LinkTakes: for every link, direction and two numbers the law returns true and leaves its arguments as they were. It has no conditions. -/
import Derived.Test.YtchpbfepjlncpaaLinkG
import Derived.Test.YtchpbfepjlncpaaLinkI
namespace Go.Proofs.Ytchpbfepjlncpaa
open Go.ChangeShapes Go.WideShapes Go.ChangeAt Go.RowKit
open Go.ChangeMaps (open_string shut_string)
set_option linter.unusedVariables false

theorem twoLeaves : leavesOf Try.prog 5 32 = some [some (some .i64), some (some .i64)] := by kernel_rfl
theorem two_cells (l : List Value) (h1 : leavesOk [some (some .i64), some (some .i64)] l) : ∃ x y, l = [.int .i64 x, .int .i64 y] := by
  obtain ⟨a, r1, e1, ⟨n, rfl, _⟩, h2⟩ := leavesOk_cons h1
  obtain ⟨b, r2, e2, ⟨m, rfl, _⟩, h3⟩ := leavesOk_cons h2
  have e3 := leavesOk_nil h3
  exact ⟨n, m, by rw [e1, e2, e3]⟩
theorem arr2int_open {H : Type} {enc : TypeId × Value → H} {w : World} {base : Nat} {spare : Nat → Bool} {held : Bool} {v : Value} {d : DataW H} {ps : List MemPlace} (hk : ∃ cs, v = .agg cs)
    (h : DataW.Trod enc Try.prog w base spare held 32 v d ps) : ∃ x y, v = .agg #[.int .i64 x, .int .i64 y] := by
  obtain ⟨cs, rfl⟩ := hk
  have h1 := leaves_of_Trod twoLeaves h
  obtain ⟨l⟩ := cs
  simp only [Value.cells] at h1
  obtain ⟨x, y, rfl⟩ := two_cells l h1
  exact ⟨x, y, rfl⟩
theorem okWide_array {P : Program} {w : World} {r : Reach} {base : Nat} {t e : TypeId} {k : Nat} {v : Value} (ht : P.underlying t = some (.array k e)) (h : Value.okWide P w r base t v) : ∃ cs, v = .agg cs ∧ cs.size = P.cellsOf t := by
  simp only [Value.okWide, ht] at h
  obtain ⟨cs, h1, h2, _⟩ := h
  exact ⟨cs, h1, h2⟩

namespace linkTakes
set_option maxRecDepth 100000 in
theorem lifted (os : Os) (started : os.Started) (H : Type) (enc : TypeId × Value → H) :
    ReturnsInHanded {} Try.checked os 5 .any (Rows.linkTakesSpec.pre6 enc Try.prog Try.f5 Rows.linkTakesRow.domain false) (Rows.linkTakesSpec.post enc Try.prog Try.f5 false true false false) := by
  refine returnsInHanded_of_change (C := Try.checked) own started (by kernel_rfl) Try.func5
    (ChangeSpec.witness6 (enc := enc) (C := Try.checked) false ⟨#[], #[.agg #[.bool false, .int .i64 0, .string .empty, .string .empty, .int .i64 0], .bool false, .agg #[.int .i64 0, .int .i64 0]], []⟩ 8 (by kernel_rfl) (by kernel_rfl) (by kernel_rfl) (by kernel_rfl)) ?_
  intro W base args ds gs before hval hW _ _
  have hval' : ∀ (j : Nat) t v, Try.f5.params[j]? = some t → args[j]? = some v → Value.okWide Try.prog W .any base t v := hval
  have hW' := hW
  obtain ⟨p, q, hA0, hV, rfl, hfz, hnd⟩ := hW
  have hA : DataW.TrodAll enc Try.prog W 0 (fun _ => true) true Try.f5.params.toList args.toList ds p := hA0
  rw [Try.params5] at hA hval'
  obtain ⟨v0, vs0, d0, ds0, p0, q0, hargs, rfl, rfl, h0, r0⟩ := trodAll_cons hA
  obtain ⟨v1, vs1, d1, ds1, p1, q1, rfl, rfl, rfl, h1, r1⟩ := trodAll_cons r0
  obtain ⟨v2, vs2, d2, ds2, p2, q2, rfl, rfl, rfl, h2, r2⟩ := trodAll_cons r1
  obtain ⟨rfl, rfl, rfl⟩ := trodAll_nil r2
  obtain rfl : args = #[v0, v1, v2] := by cases args; simp_all
  obtain ⟨rfl, rfl⟩ := trodVars_none hV
  clear hA0
  obtain ⟨up, cap, ts, tc, lost, rfl⟩ := link_open (let ⟨cs, h, _⟩ := okWide_struct Try.underlying23 (hval' 0 23 v0 rfl rfl); ⟨cs, h⟩) h0
  obtain ⟨b, rfl, rfl, rfl⟩ := open_bool Try.underlying4 (hval' 1 4 v1 rfl rfl) h1
  obtain ⟨x, y, rfl⟩ := arr2int_open (let ⟨cs, h, _⟩ := okWide_array Try.underlying32 (hval' 2 32 v2 rfl rfl); ⟨cs, h⟩) h2
  refine (takes_calls up cap ts tc lost b x y W).mono fun e W' ⟨he, hb⟩ => ?_
  subst he
  exact ⟨_, rfl, law_post (P := Try.prog) (f := Try.f5) laidOut (by intro t ht; rw [Try.params5] at ht; simp at ht; rcases ht with rfl | rfl | rfl <;> exact ⟨by kernel_rfl, of_decide_eq_true (by kernel_rfl)⟩) rfl Try.underlying4 rfl hW' rfl hb⟩
end linkTakes

theorem linkTakes_holds : Rows.LinkTakesSaid :=
  OpenClaim.holds_of_wide 5 Try.f5 rfl rfl rfl rfl rfl rfl rfl ⟨rfl, rfl, rfl, rfl, rfl⟩ rfl rfl rfl rfl rfl (by kernel_rfl) Try.func5 (by kernel_rfl)
    (of_decide_eq_true (by kernel_rfl)) (by unfold Func.isWrapper; first | (rw [if_pos (by decide +kernel)]; kernel_rfl) | (rw [if_neg (by decide +kernel)]; exact ⟨rfl, rfl⟩))
    (fun os started H enc _ => linkTakes.lifted os started H enc)

#print axioms linkTakes_holds
end Go.Proofs.Ytchpbfepjlncpaa
