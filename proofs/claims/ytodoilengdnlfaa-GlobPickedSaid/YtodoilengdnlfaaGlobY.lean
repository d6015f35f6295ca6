/- This text opens the arguments of the statements on glob: a list of names, with the reach of each. Conditions: those that each theorem names. -/
import Derived.Test.YtodoilengdnlfaaGlobJ
import Derived.SizedLaws
import Derived.SliceStrings
namespace Go.Proofs.Ytodoilengdnlfaa
open Go.ChangeShapes Go.WideShapes Go.ChangeAt Go.RowKit
set_option linter.unusedVariables false
set_option linter.unusedSimpArgs false

theorem own : ownKnob Try.prog.godebug = none := by kernel_rfl
theorem laidOut : laidOutB Try.prog = true := by kernel_rfl
theorem strLeaves : leavesOf Try.prog 8 9 = some [some none] := by kernel_rfl
theorem strs_of : ∀ (xs : List (List Value)), (∀ x ∈ xs, leavesOk [some none] x) → ∃ ys : List ByteArray, xs = ys.map sEnc ∧ ∀ y ∈ ys, y.size ≤ maxLen
  | [], _ => ⟨[], rfl, fun y h => absurd h List.not_mem_nil⟩
  | x :: xs, h => by
    obtain ⟨v, r, rfl, hv, hr⟩ := leavesOk_cons (h x List.mem_cons_self)
    have := leavesOk_nil hr
    subst this
    obtain ⟨s, rfl, hs⟩ := hv
    obtain ⟨ys, rfl, hys⟩ := strs_of xs (fun z hz => h z (List.mem_cons_of_mem _ hz))
    refine ⟨s :: ys, rfl, fun y hy => ?_⟩
    rcases List.mem_cons.1 hy with rfl | hy
    · exact hs
    · exact hys y hy
theorem weights_all_mem {H : Type} {P : Program} {e : TypeId} {x : DataW H} {n : Nat} (hn : n ∈ x.weights P e) : ∀ {l : List (DataW H)}, x ∈ l → n ∈ DataW.weightsAll P e l
  | [], h => absurd h List.not_mem_nil
  | z :: l, h => by
    rw [DataW.weightsAll, List.mem_append]
    rcases List.mem_cons.1 h with rfl | h
    · exact .inl hn
    · exact .inr (weights_all_mem hn h)
/-- What a reading's weights say of the cells of a list of names. -/
theorem reach_names {H : Type} {enc : TypeId × Value → H} {w : World} {base : Nat} {v : Value} {d : DataW H} {ps : List MemPlace} {ao : Option Addr} {n cap : Nat} {xs : List ByteArray} {ts : List TypeId} {ds : List (DataW H)} {j : Nat}
    (h : DataW.Trod enc Try.prog w base (fun _ => true) true 25 v d ps) (hv : v = .slice ao n cap) (hsl : Sl w 1 ao n cap (xs.map sEnc)) (hz : (DataW.weightsEach Try.prog ts ds).all (· ≤ reachBytes) = true) (ht : ts[j]? = some 25) (hd : ds[j]? = some d) :
    ∀ y ∈ xs, y.size ≤ 140737488351232 := by
  subst hv
  have HA := cellsS hsl
  have HL := Sl.lenE hsl
  obtain ⟨fuel, hf⟩ := h
  intro y hy
  obtain ⟨i, hi⟩ := List.mem_iff_getElem?.1 hy
  have hil := (List.getElem?_eq_some_iff.1 hi).1
  obtain ⟨b, off, e, _, hc⟩ := HA i hil
  subst e
  rw [nth_get hil] at hi
  rw [Option.some.inj hi] at hc
  rcases open_strings Try.underlying25 Try.underlying9 (by kernel_rfl) hf with ⟨h0, _⟩ | ⟨a, len, cap', ss, h0, _, hl, _, hss, hx, hcell, _⟩
  · simp [Value.cells] at h0
  · simp only [Value.cells] at h0
    have h0 : Value.slice (some ⟨b, off, none⟩) n cap = .slice (some a) len cap' := by simpa using h0
    injection h0 with e1 e2 e3
    have e1 := Option.some.inj e1
    subst e1 e2 e3
    simp only [if_true] at hss
    have his : i < ss.length := by have := hsl.hcap; omega
    have h1 := hcell i his
    have h2 : w.cell? ((⟨b, off, none⟩ : Addr).add i) = some (.string y) := by rw [Addr.add_lit]; exact hc
    rw [h2] at h1
    have h3 : y = ss.getD i ByteArray.empty := by injection h1 with h1; injection h1
    have h4 : ss[i]? = some y := by rw [h3, List.getD_eq_getElem?_getD, List.getElem?_eq_getElem his]; rfl
    have h5 : d = .slice (strs (ss.take n)) (strs (ss.drop n)) := congrArg Prod.fst hx
    subst h5
    have hm : (y.data.toList.length) ∈ (DataW.slice (strs (ss.take n)) (strs (ss.drop n)) : DataW H).weights Try.prog 25 := by
      rw [DataW.weights, Try.underlying25]
      refine List.mem_cons_of_mem _ (List.mem_append_left _ (weights_all_mem (x := .lit (.string y.data.toList)) ?_ ?_))
      · rw [DataW.weights]; exact List.mem_singleton.2 rfl
      · refine List.mem_map.2 ⟨y, List.mem_of_getElem? (i := i) ?_, rfl⟩
        rw [List.getElem?_take_of_lt (by omega), h4]
    have := List.all_eq_true.1 hz _ (DataW.weights_mem_each ht hd _ hm)
    have h6 : y.data.toList.length ≤ reachBytes := by simpa using this
    rw [Array.length_toList] at h6
    exact h6

end Go.Proofs.Ytodoilengdnlfaa
