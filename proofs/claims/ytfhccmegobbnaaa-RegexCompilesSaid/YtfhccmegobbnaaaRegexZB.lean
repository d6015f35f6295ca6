/- This text proves the walk of part. Conditions: those that each theorem names. -/
import Derived.Test.YtfhccmegobbnaaaRegexZA
namespace Go.Proofs.Ytfhccmegobbnaaa
open Go.ChangeShapes Go.WideShapes Go.ChangeAt Go.RowKit
set_option linter.unusedVariables false
set_option linter.unusedSimpArgs false

/-- The text between the offsets of a group. -/
def partF (s : ByteArray) (cs : List Int) (k : Nat) : ByteArray :=
  if cs.length ≤ 2 * k + 1 then ⟨#[]⟩ else if cs.getD (2 * k) 0 < 0 then ⟨#[]⟩ else if cs.getD (2 * k + 1) 0 < cs.getD (2 * k) 0 then ⟨#[]⟩
  else s.extract (cs.getD (2 * k) 0).toNat (cs.getD (2 * k + 1) 0).toNat
/-- Offsets of a match in a text, in memory: nil, or a row. -/
def Offs (v : Value) (cs : List Int) (W : World) : Prop := (v = .slice none 0 0 ∧ cs = []) ∨ Row 0 v cs W
theorem Offs.later {v : Value} {cs : List Int} {W W' : World} (h : Offs v cs W) (hb : Below W.heap.size W W') : Offs v cs W' := h.imp id (·.later hb)
theorem Offs.form {v : Value} {cs : List Int} {W : World} (h : Offs v cs W) : ∃ a cc, v = .slice a cs.length cc ∧ ∀ j, j < cs.length → ∃ cb, a = some ⟨cb, 0, none⟩ ∧ cb < W.heap.size ∧ ∀ i, i < cs.length → W.cell? ⟨cb, i, none⟩ = some (.int .i64 (cs.getD i 0)) := by
  rcases h with ⟨rfl, rfl⟩ | h
  · exact ⟨none, 0, rfl, fun j hj => by simp at hj⟩
  · obtain ⟨cb, cc, hv, hcb, hc⟩ := h.form
    exact ⟨_, cc, hv, fun _ _ => ⟨cb, rfl, hcb, hc⟩⟩
set_option maxRecDepth 20000 in
set_option maxHeartbeats 64000000 in
theorem part_calls (s : ByteArray) (hs : s.size ≤ 1000000) (cv : Value) (cs : List Int) (k : Nat) (W : World) (h : Offs cv cs W) (hl : cs.length ≤ 1000) (hk : k ≤ 9) (hn : ∀ x ∈ cs, -1 ≤ x ∧ x ≤ (s.size : Int)) :
    Calls Try.prog 47 #[.string s, cv, .int .i64 (k : Int)] W fun e W' => e = .returned (.string (partF s cs k)) ∧ Below W.heap.size W W' := by
  obtain ⟨ca, cc, rfl, hc⟩ := h.form
  obtain ⟨i, hi⟩ : ∃ i, 2 * k = i := ⟨_, rfl⟩
  have w1 : IntKind.i64.wrap (2 * (k : Int)) = (i : Int) := by rw [IntKind.wrap_i64]; omega
  have w2 : IntKind.i64.wrap ((i : Int) + 1) = ((i : Int) + 1) := by rw [IntKind.wrap_i64]; omega
  have EQ : Aside (partF s cs k = if cs.length ≤ i + 1 then ⟨#[]⟩ else if cs.getD i 0 < 0 then ⟨#[]⟩ else if cs.getD (i + 1) 0 < cs.getD i 0 then ⟨#[]⟩
      else s.extract (cs.getD i 0).toNat (cs.getD (i + 1) 0).toNat) := by show _ = _; rw [← hi]; rfl
  obtain ⟨m, hm⟩ : ∃ m, cs.length = m := ⟨_, rfl⟩
  have HN : Aside (∀ x ∈ cs, -1 ≤ x ∧ x ≤ (s.size : Int)) := hn
  have HC : Aside (∀ j, j < cs.length → ∃ cb, ca = some ⟨cb, 0, none⟩ ∧ cb < W.heap.size ∧ ∀ i, i < cs.length → W.cell? ⟨cb, i, none⟩ = some (.int .i64 (cs.getD i 0))) := hc
  have HM : Aside (cs.length = m) := hm
  rw [hm] at EQ hl ⊢
  clear h hc hn hm hi
  by_cases h1 : m ≤ i + 1
  · have d1 : decide ((m : Int) ≤ ((i : Int) + 1)) = true := decide_eq_true (by omega)
    have z1 : (m : Int) ≤ ((i : Int) + 1) := by omega
    rw [if_pos h1] at EQ
    rw [EQ.out]
    go_enter Try.func47, Try.ntmps47
    go_wp2_with fail
    go_quiet (fail)
    go_wp2_with fail
    all_goals refine bodyPost_ret (v := .string ⟨#[]⟩) (by simp [results, Try.results47, go_sem, ↓IntWalk.iteOmega, *]) rfl ⟨rfl, ?_⟩
    all_goals
      repeat (first | (with_reducible exact Below.refl _ _) | (with_reducible assumption) | (with_reducible refine below_to_plus ?_ ?_ _) | (with_reducible refine below_holds ?_ ?_ _ _) | (with_reducible refine Below.alloc ?_ ?_ _) | (with_reducible refine Below.drew ?_) | (with_reducible refine below_drewN ?_ _) | (with_reducible refine Below.setCell ?_ ?_ _))
      all_goals first | omega | (simp; done) | (simp [go_sem]; done) | (simp [go_sem]; omega)
  have d1 : decide ((m : Int) ≤ ((i : Int) + 1)) = false := decide_eq_false (by omega)
  have z1 : ¬ (m : Int) ≤ ((i : Int) + 1) := by omega
  have tn : ((i : Int) + 1).toNat = i + 1 := by omega
  have z4 : (0 : Int) ≤ (i : Int) + 1 := by omega
  have z2 : (i : Int) < (m : Int) := by omega
  have z3 : ((i : Int) + 1) < (m : Int) := by omega
  rw [if_neg h1] at EQ
  obtain ⟨cb, rfl, hcb, hc⟩ := HC.out 0 (by rw [HM.out]; omega)
  have q0 := hc i (by rw [HM.out]; omega)
  have q1 := hc (i + 1) (by rw [HM.out]; omega)
  have b0 : -1 ≤ cs.getD i 0 ∧ cs.getD i 0 ≤ (s.size : Int) := by
    have hil : i < cs.length := by rw [HM.out]; omega
    rw [List.getD_eq_getElem?_getD, List.getElem?_eq_getElem hil]
    exact HN.out _ (List.getElem_mem hil)
  have b1 : -1 ≤ cs.getD (i + 1) 0 ∧ cs.getD (i + 1) 0 ≤ (s.size : Int) := by
    have hil : i + 1 < cs.length := by rw [HM.out]; omega
    rw [List.getD_eq_getElem?_getD, List.getElem?_eq_getElem hil]
    exact HN.out _ (List.getElem_mem hil)
  generalize cs.getD i 0 = x at q0 EQ b0
  generalize cs.getD (i + 1) 0 = y at q1 EQ b1
  clear hc
  by_cases h2 : x < 0
  · have d2 : decide (x < 0) = true := decide_eq_true h2
    rw [if_pos h2] at EQ
    rw [EQ.out]
    go_enter Try.func47, Try.ntmps47
    go_wp2_with fail
    go_quiet (fail)
    go_wp2_with fail
    all_goals refine bodyPost_ret (v := .string ⟨#[]⟩) (by simp [results, Try.results47, go_sem, ↓IntWalk.iteOmega, *]) rfl ⟨rfl, ?_⟩
    all_goals
      repeat (first | (with_reducible exact Below.refl _ _) | (with_reducible assumption) | (with_reducible refine below_to_plus ?_ ?_ _) | (with_reducible refine below_holds ?_ ?_ _ _) | (with_reducible refine Below.alloc ?_ ?_ _) | (with_reducible refine Below.drew ?_) | (with_reducible refine below_drewN ?_ _) | (with_reducible refine Below.setCell ?_ ?_ _))
      all_goals first | omega | (simp; done) | (simp [go_sem]; done) | (simp [go_sem]; omega)
  have d2 : decide (x < 0) = false := decide_eq_false h2
  rw [if_neg h2] at EQ
  obtain ⟨x, rfl⟩ : ∃ n : Nat, x = (n : Int) := ⟨x.toNat, by omega⟩
  by_cases h3 : y < (x : Int)
  · have d3 : decide (y < (x : Int)) = true := decide_eq_true h3
    rw [if_pos h3] at EQ
    rw [EQ.out]
    go_enter Try.func47, Try.ntmps47
    go_wp2_with fail
    go_quiet (fail)
    go_wp2_with fail
    all_goals refine bodyPost_ret (v := .string ⟨#[]⟩) (by simp [results, Try.results47, go_sem, ↓IntWalk.iteOmega, *]) rfl ⟨rfl, ?_⟩
    all_goals
      repeat (first | (with_reducible exact Below.refl _ _) | (with_reducible assumption) | (with_reducible refine below_to_plus ?_ ?_ _) | (with_reducible refine below_holds ?_ ?_ _ _) | (with_reducible refine Below.alloc ?_ ?_ _) | (with_reducible refine Below.drew ?_) | (with_reducible refine below_drewN ?_ _) | (with_reducible refine Below.setCell ?_ ?_ _))
      all_goals first | omega | (simp; done) | (simp [go_sem]; done) | (simp [go_sem]; omega)
  have d3 : decide (y < (x : Int)) = false := decide_eq_false h3
  rw [if_neg h3] at EQ
  obtain ⟨y, rfl⟩ : ∃ n : Nat, y = (n : Int) := ⟨y.toNat, by omega⟩
  rw [Int.toNat_natCast, Int.toNat_natCast] at EQ
  rw [EQ.out]
  have x1 : x ≤ y := by omega
  have y1 : y ≤ s.size := by omega
  have x2 : (0 : Int) ≤ (x : Int) := by omega
  go_enter Try.func47, Try.ntmps47
  go_wp2_with fail
  go_quiet (fail)
  go_wp2_with fail
  go_quiet (fail)
  go_wp2_with fail
  all_goals refine bodyPost_ret (v := .string (s.extract x y)) (by simp [results, Try.results47, go_sem, ↓IntWalk.iteOmega, *]) rfl ⟨rfl, ?_⟩
  all_goals
    repeat (first | (with_reducible exact Below.refl _ _) | (with_reducible assumption) | (with_reducible refine below_to_plus ?_ ?_ _) | (with_reducible refine below_holds ?_ ?_ _ _) | (with_reducible refine Below.alloc ?_ ?_ _) | (with_reducible refine Below.drew ?_) | (with_reducible refine below_drewN ?_ _) | (with_reducible refine Below.setCell ?_ ?_ _))
    all_goals first | omega | (simp; done) | (simp [go_sem]; done) | (simp [go_sem]; omega)

end Go.Proofs.Ytfhccmegobbnaaa
