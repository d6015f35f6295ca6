/- This text proves the statement LinkKeeps: for every number and every slice of calls the law returns true and leaves its arguments as they were. It has no conditions. -/
import Derived.Test.YtchpbfepjlncpaaLinkG
import Derived.Test.YtchpbfepjlncpaaLinkM
namespace Go.Proofs.Ytchpbfepjlncpaa
open Go.ChangeShapes Go.WideShapes Go.ChangeAt Go.RowKit
set_option linter.unusedVariables false

theorem opLeaves : leavesOf Try.prog 5 39 = some [some (some .i64), none, some none, some (some .i64)] := by kernel_rfl

namespace linkKeeps
set_option maxRecDepth 100000 in
theorem lifted (os : Os) (started : os.Started) (H : Type) (enc : TypeId × Value → H) :
    ReturnsInHanded {} Try.checked os 7 .any (Rows.linkKeepsSpec.pre6 enc Try.prog Try.f7 Rows.linkKeepsRow.domain false) (Rows.linkKeepsSpec.post enc Try.prog Try.f7 false true false false) := by
  refine returnsInHanded_of_change (C := Try.checked) own started (by kernel_rfl) Try.func7
    (ChangeSpec.witness6 (enc := enc) (C := Try.checked) false ⟨#[], #[.int .i64 0, .slice none 0 0], []⟩ 8 (by kernel_rfl) (by kernel_rfl) (by kernel_rfl) (by kernel_rfl)) ?_
  intro W base args ds gs before hval hW _ _
  have hval' : ∀ (j : Nat) t v, Try.f7.params[j]? = some t → args[j]? = some v → Value.okWide Try.prog W .any base t v := hval
  have hW' := hW
  obtain ⟨p, q, hA0, hV, rfl, hfz, hnd⟩ := hW
  have hA : DataW.TrodAll enc Try.prog W 0 (fun _ => true) true Try.f7.params.toList args.toList ds p := hA0
  rw [Try.params7] at hA hval'
  obtain ⟨v0, vs0, d0, ds0, p0, q0, hargs, rfl, rfl, h0, r0⟩ := trodAll_cons hA
  obtain ⟨v1, vs1, d1, ds1, p1, q1, rfl, rfl, rfl, h1, r1⟩ := trodAll_cons r0
  obtain ⟨rfl, rfl, rfl⟩ := trodAll_nil r1
  obtain rfl : args = #[v0, v1] := by cases args; simp_all
  obtain ⟨rfl, rfl⟩ := trodVars_none hV
  clear hA0
  obtain ⟨most, rfl, rfl, rfl, w0⟩ := open_int Try.underlying3 (hval' 0 3 v0 rfl rfl) h0
  have b0 := i64_range w0
  obtain ⟨ao, ln, cp, xs, rfl, hsl, hlv⟩ := open_rows (k := 4) Try.underlying37 opLeaves (by kernel_rfl) (by omega) h1 (let ⟨_, _, _, e⟩ := okWide_slice Try.underlying37 (hval' 1 37 v1 rfl rfl); by rw [e]; rfl)
  refine (keeps_calls most ao ln cp xs W b0 hsl hlv).mono fun e W' ⟨he, hb⟩ => ?_
  subst he
  exact ⟨_, rfl, law_post (P := Try.prog) (f := Try.f7) laidOut (by intro t ht; rw [Try.params7] at ht; simp at ht; rcases ht with rfl | rfl <;> exact ⟨by kernel_rfl, of_decide_eq_true (by kernel_rfl)⟩) rfl Try.underlying4 rfl hW' rfl hb⟩
end linkKeeps

theorem linkKeeps_holds : Rows.LinkKeepsSaid :=
  OpenClaim.holds_of_wide 7 Try.f7 rfl rfl rfl rfl rfl rfl rfl ⟨rfl, rfl, rfl, rfl, rfl⟩ rfl rfl rfl rfl rfl (by kernel_rfl) Try.func7 (by kernel_rfl)
    (of_decide_eq_true (by kernel_rfl)) (by unfold Func.isWrapper; first | (rw [if_pos (by decide +kernel)]; kernel_rfl) | (rw [if_neg (by decide +kernel)]; exact ⟨rfl, rfl⟩))
    (fun os started H enc _ => linkKeeps.lifted os started H enc)

#print axioms linkKeeps_holds
end Go.Proofs.Ytchpbfepjlncpaa
