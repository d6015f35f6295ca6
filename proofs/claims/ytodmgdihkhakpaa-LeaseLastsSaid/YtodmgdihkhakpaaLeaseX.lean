/- This text opens a case (a list of leases, a request and two numbers) that came in. It has no conditions. -/
import Derived.Test.YtodmgdihkhakpaaLeaseW
import Derived.Test.YtodmgdihkhakpaaOpen
namespace Go.Proofs.Ytodmgdihkhakpaa
open Go.ChangeShapes Go.WideShapes Go.ChangeAt Go.RowKit
set_option linter.unusedVariables false

theorem intLeaves : leavesOf Try.prog 5 3 = some [some (some .i64)] := by kernel_rfl
theorem one_int {H : Type} {enc : TypeId × Value → H} {w : World} {base : Nat} {spare : Nat → Bool} {held : Bool} {fuel : Nat} {l : List Value} {x : DataW H × List MemPlace} (h : DataW.trod enc Try.prog w base spare held fuel 3 l = some x) : ∃ n, l = [.int .i64 n] := by
  have h1 := leaves_of_trod 5 _ _ intLeaves _ _ _ h
  obtain ⟨a, r1, e1, ⟨n1, rfl, _⟩, h2⟩ := leavesOk_cons h1
  have e2 := leavesOk_nil h2
  exact ⟨n1, by rw [e1, e2]⟩
theorem list8 (l : List Value) (h : l.length = 8) : l = l.take 1 ++ (l.drop 1).take 5 ++ (l.drop 6).take 1 ++ (l.drop 7).take 1 := by
  match l, h with
  | [a, b, c, d, e, f, g, k], _ => rfl
theorem case_open {H : Type} {enc : TypeId × Value → H} {w : World} {base : Nat} {held : Bool} {v : Value} {d : DataW H} {ps : List MemPlace} (hk : ∃ cs, v = .agg cs)
    (h : DataW.Trod enc Try.prog w base (fun _ => true) held 39 v d ps) : ∃ ao n cap ys cn fid kd tm now other later, v = .agg #[.slice ao n cap, .int .i64 cn, .int .i64 fid, .int .i64 kd, .int .i64 tm, .int .i64 now, .int .i64 other, .int .i64 later] ∧ Sl w 4 ao n cap ((ys : List Le).map Le.enc) := by
  obtain ⟨cs, rfl⟩ := hk
  obtain ⟨fuel, hf⟩ := h
  obtain ⟨l⟩ := cs
  simp only [Value.cells] at hf
  have hc : Try.prog.cellsOf 39 = 8 := by kernel_rfl
  have hc1 : Try.prog.cellsOf 22 = 1 := by kernel_rfl
  have hc2 : Try.prog.cellsOf 26 = 5 := by kernel_rfl
  have hc3 : Try.prog.cellsOf 3 = 1 := by kernel_rfl
  obtain ⟨hl, n0, y0, f0⟩ := trod_field Try.underlying39 hf 0 _ rfl
  obtain ⟨_, n1, y1, f1⟩ := trod_field Try.underlying39 hf 1 _ rfl
  obtain ⟨_, n2, y2, f2⟩ := trod_field Try.underlying39 hf 2 _ rfl
  obtain ⟨_, n3, y3, f3⟩ := trod_field Try.underlying39 hf 3 _ rfl
  have g0 : DataW.trod enc Try.prog w base (fun _ => true) held n0 22 (l.take 1) = some y0 := by rw [← hc1]; exact f0
  have g1 : DataW.trod enc Try.prog w base (fun _ => true) held n1 26 ((l.drop 1).take 5) = some y1 := by rw [← hc2]; exact f1
  have g2 : DataW.trod enc Try.prog w base (fun _ => true) held n2 3 ((l.drop 6).take 1) = some y2 := by rw [← hc3]; exact f2
  have g3 : DataW.trod enc Try.prog w base (fun _ => true) held n3 3 ((l.drop 7).take 1) = some y3 := by rw [← hc3]; exact f3
  rw [hc] at hl
  obtain ⟨ao, n, cap, xs, e0, hsl, hlv⟩ := open_rows_l (k := 4) Try.underlying22 leaseLeaves (by kernel_rfl) (by omega) g0
  obtain ⟨ys, rfl⟩ := leases_of xs hlv
  obtain ⟨a, r1, e1, ⟨m1, rfl, _⟩, h2⟩ := leavesOk_cons (leaves_of_trod 5 _ _ askLeaves _ _ _ g1)
  obtain ⟨b, r2, e2, ⟨m2, rfl, _⟩, h3⟩ := leavesOk_cons h2
  obtain ⟨c, r3, e3, ⟨m3, rfl, _⟩, h4⟩ := leavesOk_cons h3
  obtain ⟨d, r4, e4, ⟨m4, rfl, _⟩, h5⟩ := leavesOk_cons h4
  obtain ⟨f, r5, e5, ⟨m5, rfl, _⟩, h6⟩ := leavesOk_cons h5
  have e6 := leavesOk_nil h6
  obtain ⟨o1, e7⟩ := one_int g2
  obtain ⟨o2, e8⟩ := one_int g3
  refine ⟨ao, n, cap, ys, m1, m2, m3, m4, m5, o1, o2, ?_, hsl⟩
  have := list8 l hl
  rw [e0, e1, e2, e3, e4, e5, e6, e7, e8] at this
  rw [this]
  rfl

end Go.Proofs.Ytodmgdihkhakpaa
