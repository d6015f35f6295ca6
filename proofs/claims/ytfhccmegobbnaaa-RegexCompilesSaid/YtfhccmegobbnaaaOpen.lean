/- This text opens structs that came in whose fields are slices and values without pointers. It has no conditions. -/
import Derived.Test.YtfhccmegobbnaaaElem
namespace Go.Proofs.Ytfhccmegobbnaaa
open Go.ChangeShapes Go.WideShapes Go.ChangeAt Go.RowKit
set_option linter.unusedVariables false

section
variable {H : Type} {enc : TypeId × Value → H} {P : Program} {w : World} {base : Nat} {spare : Nat → Bool} {held : Bool}

/-- A slice in a struct that came in, whose elements have no pointers: what the walk may use of it. -/
theorem open_rows_l {t e : TypeId} {m k : Nat} {ls : List Leaf} (ht : P.underlying t = some (.slice e)) (hm : leavesOf P m e = some ls) (hk : P.cellsOf e = k) (hk0 : 0 < k) {us : List Value} {x : DataW H × List MemPlace} {fuel : Nat}
    (hf : DataW.trod enc P w base (fun _ => true) held fuel t us = some x) : ∃ ao n cap xs, us = [.slice ao n cap] ∧ Sl w k ao n cap xs ∧ ∀ x ∈ xs, leavesOk ls x := by
  rcases Deep.open_slice ht hf with ⟨h0, _⟩ | ⟨a, len, cap, mm, nn, D, Pl, h0, hb, hl, hc, hmm, _, hx⟩
  · obtain rfl : us = [.slice none 0 0] := by simpa using h0
    exact ⟨none, 0, 0, [], rfl, ⟨rfl, Nat.le_refl _, by omega, by simp, fun h => absurd h (Nat.lt_irrefl _), fun _ => rfl⟩, by simp⟩
  · obtain rfl : us = [.slice (some a) len cap] := by simpa using h0
    simp only [if_true] at hmm
    subst hmm
    rw [hk] at hx
    obtain ⟨cs, hcs⟩ := Deep.choose_lt (α := List Value) (p := fun i c => w.cells? base (a.add (i * k)) k = some c ∧ DataW.trod enc P w base (fun _ => true) held nn e c = some (D i, Pl i)) hx
    refine ⟨some a, len, mm, (List.range len).map cs, rfl, ⟨by simp, hl, by unfold maxLen at hc; omega, ?_, ?_, fun h => by cases h⟩, ?_⟩
    · intro x hx'
      simp only [List.mem_map, List.mem_range] at hx'
      obtain ⟨i, hi, rfl⟩ := hx'
      exact (World.cells?_some (hcs i (by omega)).1).2.1
    · intro hn
      have h00 := World.cells?_some (hcs 0 (by omega)).1
      obtain ⟨b, off, spot⟩ := a
      have hspot : spot = none := by
        have := h00.2.2 0 hk0
        rw [List.getElem?_eq_getElem (by omega)] at this
        simpa [Addr.add] using World.cell?_spot this
      subst hspot
      refine ⟨b, off, rfl, ?_, ?_⟩
      · have := h00.2.2 0 hk0
        rw [List.getElem?_eq_getElem (by omega)] at this
        have h3 := World.block_lt_of_cell? w _ this
        simpa [Addr.add] using h3
      · intro j x hj i u hu
        have hjl : j < len := by
          have := (List.getElem?_eq_some_iff.1 hj).1
          simpa using this
        have hjx : cs j = x := by
          rw [List.getElem?_map, List.getElem?_range hjl] at hj
          simpa using hj
        subst hjx
        have h1 := World.cells?_some (hcs j (by omega)).1
        have hi : i < k := by
          have := (List.getElem?_eq_some_iff.1 hu).1
          omega
        rw [← hu, ← h1.2.2 i hi, Go.WideShapes.add_plain, Go.WideShapes.add_plain]
    · intro x hx'
      simp only [List.mem_map, List.mem_range] at hx'
      obtain ⟨i, hi, rfl⟩ := hx'
      exact leaves_of_trod m e ls hm _ _ _ (hcs i (by omega)).2


/-- A field of a struct that came in. -/
theorem trod_field {t : TypeId} {fs : Array Field} {fuel : Nat} {cs : List Value} {x : DataW H × List MemPlace} (ht : P.underlying t = some (.struct fs)) (h : DataW.trod enc P w base spare held fuel t cs = some x) (i : Nat) (f : Field) (hf : fs[i]? = some f) :
    cs.length = P.cellsOf t ∧ ∃ n y, DataW.trod enc P w base spare held n f.type ((cs.drop f.offset).take (P.cellsOf f.type)) = some y := by
  obtain ⟨xs, n', rfl, rfl, hlen, hxs, hff⟩ := DataW.trod_struct ht h
  have h1 := hff i f hf
  obtain ⟨hlt, _⟩ := Array.getElem?_eq_some_iff.1 hf
  rw [List.getElem?_eq_getElem (by omega)] at h1
  exact ⟨hlen, _, _, h1⟩

end
end Go.Proofs.Ytfhccmegobbnaaa
