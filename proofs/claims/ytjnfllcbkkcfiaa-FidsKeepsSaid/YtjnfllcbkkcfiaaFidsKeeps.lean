/- This text proves the statement FidsKeeps: for every list of calls the law returns true and leaves its arguments as they were. It has no conditions. -/
import Derived.Test.YtjnfllcbkkcfiaaFidsLK
namespace Go.Proofs.Ytjnfllcbkkcfiaa
open Go.ChangeShapes Go.WideShapes Go.ChangeAt Go.RowKit
set_option linter.unusedVariables false

namespace fidsKeeps
set_option maxRecDepth 100000 in
theorem lifted (os : Os) (started : os.Started) (H : Type) (enc : TypeId × Value → H) :
    ReturnsInHanded {} Try.checked os 4 .any (Rows.fidsKeepsSpec.pre6 enc Try.prog Try.f4 Rows.fidsKeepsRow.domain false) (Rows.fidsKeepsSpec.post enc Try.prog Try.f4 false true false false) := by
  refine returnsInHanded_of_change (C := Try.checked) own started (by kernel_rfl) Try.func4
    (ChangeSpec.witness6 (enc := enc) (C := Try.checked) false ⟨#[], #[.slice none 0 0], []⟩ 8 (by kernel_rfl) (by kernel_rfl) (by kernel_rfl) (by kernel_rfl)) ?_
  intro W base args ds gs before hval hW _ _
  have hval' : ∀ (j : Nat) t v, Try.f4.params[j]? = some t → args[j]? = some v → Value.okWide Try.prog W .any base t v := hval
  have hW' := hW
  obtain ⟨p, q, hA0, hV, rfl, hfz, hnd⟩ := hW
  have hA : DataW.TrodAll enc Try.prog W 0 (fun _ => true) true Try.f4.params.toList args.toList ds p := hA0
  rw [Try.params4] at hA hval'
  obtain ⟨v0, vs0, d0, ds0, p0, q0, hargs, rfl, rfl, h0, r0⟩ := trodAll_cons hA
  obtain ⟨rfl, rfl, rfl⟩ := trodAll_nil r0
  obtain rfl : args = #[v0] := by cases args; simp_all
  obtain ⟨rfl, rfl⟩ := trodVars_none hV
  clear hA0
  obtain ⟨ao, ln, cp, xs0, rfl, hsl, hlv⟩ := open_rows (k := 8) Try.underlying33 opfLeaves (by kernel_rfl) (by omega) h0 (let ⟨_, _, _, e⟩ := okWide_slice Try.underlying33 (hval' 0 33 v0 rfl rfl); by rw [e]; rfl)
  obtain ⟨xs, rfl, hft⟩ := opfs_of xs0 hlv
  refine (lawKeeps_calls ao ln cp xs W hsl).mono fun e W' ⟨he, hb⟩ => ?_
  subst he
  exact ⟨_, rfl, law_post (P := Try.prog) (f := Try.f4) laidOut (by intro t ht; rw [Try.params4] at ht; simp at ht; rcases ht with rfl <;> exact ⟨by kernel_rfl, of_decide_eq_true (by kernel_rfl)⟩) rfl Try.underlying4 rfl hW' rfl hb⟩
end fidsKeeps

theorem fidsKeeps_holds : Rows.FidsKeepsSaid :=
  OpenClaim.holds_of_wide 4 Try.f4 rfl rfl rfl rfl rfl rfl rfl ⟨rfl, rfl, rfl, rfl, rfl⟩ rfl rfl rfl rfl rfl (by kernel_rfl) Try.func4 (by kernel_rfl)
    (of_decide_eq_true (by kernel_rfl)) (by unfold Func.isWrapper; first | (rw [if_pos (by decide +kernel)]; kernel_rfl) | (rw [if_neg (by decide +kernel)]; exact ⟨rfl, rfl⟩))
    (fun os started H enc _ => fidsKeeps.lifted os started H enc)

#print axioms fidsKeeps_holds
end Go.Proofs.Ytjnfllcbkkcfiaa
