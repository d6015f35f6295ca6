/- This text opens a cache that came in. It has no conditions. -/
import Derived.Test.YtcgajlobbjoefaaCacheZC
import Derived.Test.YtcgajlobbjoefaaOpen
namespace Go.Proofs.Ytcgajlobbjoefaa
open Go.ChangeShapes Go.WideShapes Go.ChangeAt Go.RowKit
set_option linter.unusedVariables false
set_option linter.unusedSimpArgs false

theorem own : ownKnob Try.prog.godebug = none := by kernel_rfl
theorem laidOut : laidOutB Try.prog = true := by kernel_rfl
section
variable {H : Type} {enc : TypeId × Value → H} {w : World} {base : Nat} {spare : Nat → Bool} {held : Bool}
theorem one_int {fuel : Nat} {l : List Value} {x : DataW H × List MemPlace} (h : DataW.trod enc Try.prog w base spare held fuel 3 l = some x) : ∃ a, l = [.int .i64 a] := by
  have hm : leavesOf Try.prog 4 3 = some [some (some .i64)] := by kernel_rfl
  have h0 := leaves_of_trod 4 _ _ hm _ _ _ h
  obtain ⟨a, r, e, ⟨n, rfl, _⟩, h1⟩ := leavesOk_cons h0
  exact ⟨n, by rw [e, leavesOk_nil h1]⟩
end
theorem list3 (l : List Value) (h : l.length = 3) : l = l.take 1 ++ ((l.drop 1).take 1 ++ (l.drop 2).take 1) := by
  match l, h with
  | [a, b, c], _ => rfl
theorem cache_open {H : Type} {enc : TypeId × Value → H} {w : World} {base : Nat} {held : Bool} {v : Value} {d : DataW H} {ps : List MemPlace} (hk : ∃ cs, v = .agg cs)
    (h : DataW.Trod enc Try.prog w base (fun _ => true) held 25 v d ps) : ∃ cp ao n cap ao2 n2 cap2 bl hs, v = .agg #[.int .i64 cp, .slice ao n cap, .slice ao2 n2 cap2] ∧ Sl w 4 ao n cap ((bl : List Pc).map Pc.enc) ∧ Sl w 3 ao2 n2 cap2 ((hs : List Hd).map Hd.enc) := by
  obtain ⟨cs, rfl⟩ := hk
  obtain ⟨fuel, hf⟩ := h
  obtain ⟨l⟩ := cs
  simp only [Value.cells] at hf
  have hc : Try.prog.cellsOf 25 = 3 := by kernel_rfl
  have hc1 : Try.prog.cellsOf 22 = 1 := by kernel_rfl
  have hc2 : Try.prog.cellsOf 23 = 1 := by kernel_rfl
  have hc3 : Try.prog.cellsOf 3 = 1 := by kernel_rfl
  obtain ⟨hl, n0, y0, f0⟩ := trod_field Try.underlying25 hf 0 _ rfl
  obtain ⟨_, n1, y1, f1⟩ := trod_field Try.underlying25 hf 1 _ rfl
  obtain ⟨_, n2, y2, f2⟩ := trod_field Try.underlying25 hf 2 _ rfl
  have g0 : DataW.trod enc Try.prog w base (fun _ => true) held n0 3 (l.take 1) = some y0 := by rw [← hc3]; exact f0
  have g1 : DataW.trod enc Try.prog w base (fun _ => true) held n1 22 ((l.drop 1).take 1) = some y1 := by rw [← hc1]; exact f1
  have g2 : DataW.trod enc Try.prog w base (fun _ => true) held n2 23 ((l.drop 2).take 1) = some y2 := by rw [← hc2]; exact f2
  rw [hc] at hl
  obtain ⟨cp, e0⟩ := one_int g0
  obtain ⟨ao, n, cap, xs, e1, hsl, hlv⟩ := open_rows_l (k := 4) Try.underlying22 pcLeaves (by kernel_rfl) (by omega) g1
  obtain ⟨ao2, n2, cap2, xs2, e2, hsl2, hlv2⟩ := open_rows_l (k := 3) Try.underlying23 hdLeaves (by kernel_rfl) (by omega) g2
  obtain ⟨bl, rfl, _⟩ := pcs_of xs hlv
  obtain ⟨hs, rfl, _⟩ := hds_of xs2 hlv2
  refine ⟨cp, ao, n, cap, ao2, n2, cap2, bl, hs, ?_, hsl, hsl2⟩
  have := list3 l hl
  rw [e0, e1, e2] at this
  rw [this]
  rfl

end Go.Proofs.Ytcgajlobbjoefaa
