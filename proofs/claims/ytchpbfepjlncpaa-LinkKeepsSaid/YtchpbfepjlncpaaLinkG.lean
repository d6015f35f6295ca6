/- This text proves the statement LinkReads: for every link and every number the law returns true and leaves its arguments as they were. It has no conditions. -/
import Derived.Test.YtchpbfepjlncpaaLinkF
namespace Go.Proofs.Ytchpbfepjlncpaa
open Go.ChangeShapes Go.WideShapes Go.ChangeAt Go.RowKit
set_option linter.unusedVariables false

theorem own : ownKnob Try.prog.godebug = none := by kernel_rfl
theorem laidOut : laidOutB Try.prog = true := by kernel_rfl
theorem linkLeaves : leavesOf Try.prog 5 23 = some [none, some (some .i64), some none, some none, some (some .i64)] := by kernel_rfl

theorem link_cells (l : List Value) (h1 : leavesOk [none, some (some .i64), some none, some none, some (some .i64)] l) :
    ∃ up cap ts tc lost, l = [.bool up, .int .i64 cap, .string ts, .string tc, .int .i64 lost] := by
  obtain ⟨a, r1, e1, ⟨u, rfl⟩, h2⟩ := leavesOk_cons h1
  obtain ⟨b, r2, e2, ⟨n, rfl, _⟩, h3⟩ := leavesOk_cons h2
  obtain ⟨c, r3, e3, ⟨s, rfl, _⟩, h4⟩ := leavesOk_cons h3
  obtain ⟨d, r4, e4, ⟨t, rfl, _⟩, h5⟩ := leavesOk_cons h4
  obtain ⟨f, r5, e5, ⟨m, rfl, _⟩, h6⟩ := leavesOk_cons h5
  have e6 := leavesOk_nil h6
  exact ⟨u, n, s, t, m, by rw [e1, e2, e3, e4, e5, e6]⟩

/-- A link that came in. -/
theorem link_open {H : Type} {enc : TypeId × Value → H} {w : World} {base : Nat} {spare : Nat → Bool} {held : Bool} {v : Value} {d : DataW H} {ps : List MemPlace} (hk : ∃ cs, v = .agg cs)
    (h : DataW.Trod enc Try.prog w base spare held 23 v d ps) : ∃ up cap ts tc lost, v = .agg #[.bool up, .int .i64 cap, .string ts, .string tc, .int .i64 lost] := by
  obtain ⟨cs, rfl⟩ := hk
  have h1 := leaves_of_Trod linkLeaves h
  obtain ⟨l⟩ := cs
  obtain ⟨up, cap, ts, tc, lost, rfl⟩ := link_cells l h1
  exact ⟨up, cap, ts, tc, lost, rfl⟩

theorem i64_range {n : Int} (h : (Lit.int .i64 n).wf = true) : -9223372036854775808 ≤ n ∧ n ≤ 9223372036854775807 := by
  simpa [Lit.wf, IntKind.min, IntKind.max, IntKind.signed, IntKind.bits] using h

namespace linkReads
set_option maxRecDepth 100000 in
theorem lifted (os : Os) (started : os.Started) (H : Type) (enc : TypeId × Value → H) :
    ReturnsInHanded {} Try.checked os 3 .any (Rows.linkReadsSpec.pre6 enc Try.prog Try.f3 Rows.linkReadsRow.domain false) (Rows.linkReadsSpec.post enc Try.prog Try.f3 false true false false) := by
  refine returnsInHanded_of_change (C := Try.checked) own started (by kernel_rfl) Try.func3
    (ChangeSpec.witness6 (enc := enc) (C := Try.checked) false ⟨#[], #[.agg #[.bool false, .int .i64 0, .string .empty, .string .empty, .int .i64 0], .int .i64 0], []⟩ 8 (by kernel_rfl) (by kernel_rfl) (by kernel_rfl) (by kernel_rfl)) ?_
  intro W base args ds gs before hval hW _ _
  have hval' : ∀ (j : Nat) t v, Try.f3.params[j]? = some t → args[j]? = some v → Value.okWide Try.prog W .any base t v := hval
  have hW' := hW
  obtain ⟨p, q, hA0, hV, rfl, hfz, hnd⟩ := hW
  have hA : DataW.TrodAll enc Try.prog W 0 (fun _ => true) true Try.f3.params.toList args.toList ds p := hA0
  rw [Try.params3] at hA hval'
  obtain ⟨v0, v1, d0, d1, p0, p1, rfl, rfl, rfl, h0, h1⟩ := trodAll_two hA
  obtain ⟨rfl, rfl⟩ := trodVars_none hV
  obtain ⟨up, cap, ts, tc, lost, rfl⟩ := link_open (let ⟨cs, h, _⟩ := okWide_struct Try.underlying23 (hval' 0 23 v0 rfl rfl); ⟨cs, h⟩) h0
  obtain ⟨m, rfl, rfl, rfl, wm⟩ := open_int Try.underlying3 (hval' 1 3 v1 rfl rfl) h1
  have hm := i64_range wm
  refine (reads_calls up cap ts tc lost m W hm.1 hm.2).mono fun e W' ⟨he, hb⟩ => ?_
  subst he
  exact ⟨_, rfl, law_post (P := Try.prog) (f := Try.f3) laidOut (by intro t ht; rw [Try.params3] at ht; simp at ht; rcases ht with rfl | rfl <;> exact ⟨by kernel_rfl, of_decide_eq_true (by kernel_rfl)⟩) rfl Try.underlying4 rfl hW' rfl hb⟩
end linkReads

theorem linkReads_holds : Rows.LinkReadsSaid :=
  OpenClaim.holds_of_wide 3 Try.f3 rfl rfl rfl rfl rfl rfl rfl ⟨rfl, rfl, rfl, rfl, rfl⟩ rfl rfl rfl rfl rfl (by kernel_rfl) Try.func3 (by kernel_rfl)
    (of_decide_eq_true (by kernel_rfl)) (by unfold Func.isWrapper; first | (rw [if_pos (by decide +kernel)]; kernel_rfl) | (rw [if_neg (by decide +kernel)]; exact ⟨rfl, rfl⟩))
    (fun os started H enc _ => linkReads.lifted os started H enc)

#print axioms linkReads_holds
end Go.Proofs.Ytchpbfepjlncpaa
