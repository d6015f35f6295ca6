/- This text proves the walk of the statements' compiled, and evaluates the fixed examples. Conditions: those that each theorem names. -/
import Derived.Test.YtfhccmegobbnaaaRegexZG
namespace Go.Proofs.Ytfhccmegobbnaaa
open Go.ChangeShapes Go.WideShapes Go.ChangeAt Go.RowKit
set_option linter.unusedVariables false
set_option linter.unusedSimpArgs false

theorem own_prg {w : World} {Bs : Nat} {v : Value} {L : List In} (h : w.ownsRow Bs 34 6 v L.length (flatE In.enc L)) (hf : ∀ x ∈ L, x.set.size ≤ maxLen) : ∃ ao cap, v = .slice ao L.length cap ∧ Prg L ao w := by
  obtain ⟨_, ⟨h0, h1⟩ | ⟨b, cap, cur, hv, _, hh, _, _, _, ht⟩⟩ := h
  · exact ⟨none, 0, by rw [h0, h1], ⟨fun j hj => by omega, hf⟩⟩
  · refine ⟨_, cap, hv, ⟨fun j hj => ?_, hf⟩⟩
    have q : ∀ f, f < 6 → w.cell? ⟨b, 0 + j * 6 + f, none⟩ = L[j]!.enc[f]? := fun f hf6 => by
      have h1 := cur_get ht hj f hf6
      have h2 : ∃ u, L[j]!.enc[f]? = some u := by
        rw [List.getElem?_eq_getElem (by rw [in_len]; exact hf6)]; exact ⟨_, rfl⟩
      obtain ⟨u, hu⟩ := h2
      rw [hu] at h1 ⊢
      rw [Nat.zero_add]
      exact cell_heap hh _ _ h1
    exact ⟨b, 0, rfl, (Array.getElem?_eq_some_iff.1 hh).1, q 0 (by omega), q 1 (by omega), q 2 (by omega), q 3 (by omega), q 4 (by omega), q 5 (by omega)⟩
theorem comp_fit {s : ByteArray} {L : List In} {G : Nat} (h : compF s = .ok (L, G)) : ∀ x ∈ L, x.set.size ≤ maxLen := by
  intro x hx
  obtain ⟨k, hk, rfl⟩ := List.getElem_of_mem hx
  have := sound_set ((right_parts (comp_right h)).2.2.2.2.2 k hk)
  rw [getElem!_pos L k hk] at this
  unfold maxLen
  omega
/-- Compile of an expression that is well formed. -/
theorem compile_ok (s : ByteArray) (hs : s.size ≤ 9223372036854775807) (L : List In) (G : Nat) (h : compF s = .ok (L, G)) (w : World) :
    Calls Try.prog 9 #[.string s] w fun e w' => ∃ ao cap, e = .returned (.tuple #[.agg #[.slice ao L.length cap, .int .i64 (G : Int)], .int .i64 0, .int .i64 0]) ∧ Prg L ao w' ∧ Below w.heap.size w w' := by
  refine (compile_calls s hs w).mono ?_
  intro e w' hp
  rw [h] at hp
  obtain ⟨v, he, hown, hb⟩ := hp
  obtain ⟨ao, cap, rfl, hprg⟩ := own_prg hown (comp_fit h)
  exact ⟨ao, cap, he, hprg, hb⟩
theorem compile_no (s : ByteArray) (hs : s.size ≤ 9223372036854775807) (k c : Nat) (h : compF s = .error (k, c)) (w : World) :
    Calls Try.prog 9 #[.string s] w fun e w' => e = .returned (.tuple #[.agg #[.slice none 0 0, .int .i64 0], .int .i64 (k : Int), .int .i64 (c : Int)]) ∧ Below w.heap.size w w' := by
  refine (compile_calls s hs w).mono ?_
  intro e w' hp
  rw [h] at hp
  exact hp
set_option maxRecDepth 20000 in
set_option maxHeartbeats 64000000 in
theorem compiled_calls (s : ByteArray) (hs : s.size ≤ 9223372036854775807) (L : List In) (G : Nat) (h : compF s = .ok (L, G)) (w : World) :
    Calls Try.prog 25 #[.string s] w fun e w' => ∃ ao cap, e = .returned (.agg #[.slice ao L.length cap, .int .i64 (G : Int)]) ∧ Prg L ao w' ∧ Below w.heap.size w w' := by
  have cc := fun W => compile_calls s hs W
  rw [h] at cc
  have HF : Aside (∀ x ∈ L, x.set.size ≤ maxLen) := comp_fit h
  clear h
  go_enter Try.func25, Try.ntmps25
  go_wp2_with fail
  refine (cc _).mono ?_
  rintro e w1 ⟨v, rfl, hown, hb⟩
  obtain ⟨ao, cap, rfl, -⟩ := own_prg hown HF.out
  have HB : Aside (Below w.heap.size w w1) := (Below.alloc (Below.refl _ _) (Nat.le_refl _) _).trans (hb.mono (by simp))
  have hbx : w1.heap[w.heap.size]? = some (.cells #[.slice none 0 0, .int .i64 0] 24 (0, 0)) := (hb.block _ (by simp)).trans (hp_new rfl)
  have lt1 : w.heap.size < w1.heap.size := (Array.getElem?_eq_some_iff.1 hbx).1
  have nw1 : ¬ w.heap.size = w1.heap.size := by omega
  have nw2 : ¬ w1.heap.size = w.heap.size := by omega
  have hal : ∀ c o, (holds w1 w.heap.size c 24).alloc o = holds (w1.alloc o) w.heap.size c 24 := fun c o => alloc_holds lt1 o
  have PF : Aside (Prg L ao (holds (w1.alloc (.cells #[.slice ao L.length cap, .int .i64 (G : Int)] 24)) w.heap.size #[.slice ao L.length cap, .int .i64 (G : Int)] 24)) := by
    obtain ⟨ao', cap', e, h⟩ := own_prg (own_holds (c := #[.slice ao L.length cap, .int .i64 (G : Int)]) (T := 24) (own_alloc (o := .cells #[.slice ao L.length cap, .int .i64 (G : Int)] 24) hown) (own_ne hown hbx (by decide))) HF.out
    simp only [Value.slice.injEq] at e
    obtain ⟨rfl, -, -⟩ := e
    exact h
  have BF : Aside (Below w.heap.size w (holds (w1.alloc (.cells #[.slice ao L.length cap, .int .i64 (G : Int)] 24)) w.heap.size #[.slice ao L.length cap, .int .i64 (G : Int)] 24)) := below_holds (Below.alloc HB.out HB.out.size _) (Nat.le_refl _) _ _
  rw [holds_self hbx]
  clear cc hb hbx hown
  go_wp2_with fail
  refine bodyPost_ret (v := .agg #[.slice ao L.length cap, .int .i64 (G : Int)]) (by simp [results, Try.results25, go_sem, ↓IntWalk.iteOmega, *]) rfl ⟨ao, cap, rfl, PF.out, BF.out⟩

end Go.Proofs.Ytfhccmegobbnaaa
