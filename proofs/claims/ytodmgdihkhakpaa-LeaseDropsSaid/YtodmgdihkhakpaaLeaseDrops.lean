/- This text proves the statement LeaseDrops: for every list of leases and every request the law returns true and leaves its arguments as they were. It has no conditions. -/
import Derived.Test.YtodmgdihkhakpaaLeaseU
namespace Go.Proofs.Ytodmgdihkhakpaa
open Go.ChangeShapes Go.WideShapes Go.ChangeAt Go.RowKit
set_option linter.unusedVariables false

namespace leaseDrops
set_option maxRecDepth 100000 in
theorem lifted (os : Os) (started : os.Started) (H : Type) (enc : TypeId × Value → H) :
    ReturnsInHanded {} Try.checked os 8 .any (Rows.leaseDropsSpec.pre6 enc Try.prog Try.f8 Rows.leaseDropsRow.domain false) (Rows.leaseDropsSpec.post enc Try.prog Try.f8 false true false false) := by
  refine returnsInHanded_of_change (C := Try.checked) own started (by kernel_rfl) Try.func8
    (ChangeSpec.witness6 (enc := enc) (C := Try.checked) false ⟨#[], #[.slice none 0 0, .agg #[.int .i64 0, .int .i64 0, .int .i64 0, .int .i64 0, .int .i64 0]], []⟩ 8 (by kernel_rfl) (by kernel_rfl) (by kernel_rfl) (by kernel_rfl)) ?_
  intro W base args ds gs before hval hW _ _
  have hval' : ∀ (j : Nat) t v, Try.f8.params[j]? = some t → args[j]? = some v → Value.okWide Try.prog W .any base t v := hval
  have hW' := hW
  obtain ⟨p, q, hA0, hV, rfl, hfz, hnd⟩ := hW
  have hA : DataW.TrodAll enc Try.prog W 0 (fun _ => true) true Try.f8.params.toList args.toList ds p := hA0
  rw [Try.params8] at hA hval'
  obtain ⟨v0, vs0, d0, ds0, p0, q0, hargs, rfl, rfl, h0, r0⟩ := trodAll_cons hA
  obtain ⟨v1, vs1, d1, ds1, p1, q1, rfl, rfl, rfl, h1, r1⟩ := trodAll_cons r0
  obtain ⟨rfl, rfl, rfl⟩ := trodAll_nil r1
  obtain rfl : args = #[v0, v1] := by cases args; simp_all
  obtain ⟨rfl, rfl⟩ := trodVars_none hV
  clear hA0
  obtain ⟨ao, ln, cp, xs, rfl, hsl, hlv⟩ := open_rows (k := 4) Try.underlying22 leaseLeaves (by kernel_rfl) (by omega) h0 (let ⟨_, _, _, e⟩ := okWide_slice Try.underlying22 (hval' 0 22 v0 rfl rfl); by rw [e]; rfl)
  obtain ⟨ys, rfl⟩ := leases_of xs hlv
  obtain ⟨cn, fid, kd, tm, now, rfl⟩ := ask_open (let ⟨cs, h, _⟩ := okWide_struct Try.underlying26 (hval' 1 26 v1 rfl rfl); ⟨cs, h⟩) h1
  refine (lawDrops_calls ao ln cp ys cn fid kd tm now W hsl).mono fun e W' ⟨he, hb⟩ => ?_
  subst he
  exact ⟨_, rfl, law_post (P := Try.prog) (f := Try.f8) laidOut (by intro t ht; rw [Try.params8] at ht; simp at ht; rcases ht with rfl | rfl <;> exact ⟨by kernel_rfl, of_decide_eq_true (by kernel_rfl)⟩) rfl Try.underlying4 rfl hW' rfl hb⟩
end leaseDrops

theorem leaseDrops_holds : Rows.LeaseDropsSaid :=
  OpenClaim.holds_of_wide 8 Try.f8 rfl rfl rfl rfl rfl rfl rfl ⟨rfl, rfl, rfl, rfl, rfl⟩ rfl rfl rfl rfl rfl (by kernel_rfl) Try.func8 (by kernel_rfl)
    (of_decide_eq_true (by kernel_rfl)) (by unfold Func.isWrapper; first | (rw [if_pos (by decide +kernel)]; kernel_rfl) | (rw [if_neg (by decide +kernel)]; exact ⟨rfl, rfl⟩))
    (fun os started H enc _ => leaseDrops.lifted os started H enc)

#print axioms leaseDrops_holds
end Go.Proofs.Ytodmgdihkhakpaa
