/- This text proves the walk of slices.Repeat at a slice of one number. Conditions: those that each theorem names. -/
import Derived.Test.YtfhccmegobbnaaaRegexV
import Derived.Laws.CopyOwn
namespace Go.Proofs.Ytfhccmegobbnaaa
open Go.ChangeShapes Go.WideShapes Go.ChangeAt Go.RowKit
set_option linter.unusedVariables false
set_option linter.unusedSimpArgs false

/-- The first j of c numbers are -1, the others 0. -/
def repL (c j : Nat) : List Value := List.replicate j (.int .i64 (-1)) ++ List.replicate (c - j) (.int .i64 0)
theorem repL_len {c j : Nat} (h : j ≤ c) : (repL c j).length = c := by unfold repL; simp; omega
theorem repL_splice {c j m : Nat} (h : j + m ≤ c) : splice (repL c j) j (List.replicate m (.int .i64 (-1))) = repL c (j + m) := by
  unfold splice repL
  have e1 : (List.replicate j (Value.int .i64 (-1)) ++ List.replicate (c - j) (Value.int .i64 0)).take j = List.replicate j (Value.int .i64 (-1)) := by simp
  have e2 : (List.replicate j (Value.int .i64 (-1)) ++ List.replicate (c - j) (Value.int .i64 0)).drop (j + m) = List.replicate (c - (j + m)) (Value.int .i64 0) := by
    rw [List.drop_append]; simp; omega
  simp only [List.length_replicate]
  rw [e1, e2, ← List.append_assoc, List.replicate_append_replicate]
theorem made_rep (c : Nat) : madeCells #[Value.int .i64 0] c = (repL c 0).toArray := by
  apply Array.ext_getElem?
  intro j
  unfold repL
  by_cases hj : j < c
  · simp [madeCells, hj, Nat.mod_one]
  · rw [Array.getElem?_eq_none (by rw [size_madeCells]; omega)]
    simp; omega
theorem make_rep (c : Nat) (hc : c ≤ 1024) (U : World) : (Instr.makeSlice 30 (.int .i64 (c : Int)) (.int .i64 (c : Int))).run Try.prog U = .ok (.slice (some ⟨U.heap.size, 0, none⟩) c c) (U.alloc (.cells (repL c 0).toArray 3)) := by
  obtain ⟨i0, hi0, hz0, hs0, hb0⟩ := intInfo
  rw [run_make (P := Try.prog) U 30 3 i0 (.int .i64 0) Try.underlying30 hi0 hz0 .i64 .i64 (c : Int) (c : Int) (by omega) (Int.le_refl _) (by rw [hb0]; omega) (by omega), hs0, Nat.mul_one, show ((c : Int)).toNat = c by omega]
  have e : (Value.int .i64 0).cells = #[Value.int .i64 0] := rfl
  rw [e, made_rep]

set_option maxRecDepth 20000 in
set_option maxHeartbeats 32000000 in
theorem repeat_calls (xb xc c : Nat) (W : World) (hx : W.cell? ⟨xb, 0, none⟩ = some (.int .i64 (-1))) (hxb : xb < W.heap.size) (h1 : 1 ≤ c) (hc : c ≤ 1024) :
    Calls Try.prog 42 #[.slice (some ⟨xb, 0, none⟩) 1 xc, .int .i64 (c : Int)] W fun e W' => ∃ v, e = .returned v ∧ W'.ownsRow W.heap.size 3 1 v c (List.replicate c (.int .i64 (-1))) ∧ Below W.heap.size W W' := by
  have cm : ∀ U, Calls Try.prog 60 #[.int .u64 1, .int .u64 (c : Int)] U fun e w' => e = .returned (.tuple #[.int .u64 0, .int .u64 (c : Int)]) ∧ w' = U := fun U => by
    have h := sh_bits_Mul 1 c (by omega) (by omega) U
    have e1 : 1 * c / 18446744073709551616 = 0 := by omega
    have e2 : 1 * c % 18446744073709551616 = c := by omega
    rw [e1, e2] at h
    exact h
  have mk := fun U => make_rep c hc U
  have hsz : (Try.prog.info? 3).map (·.size) = some 1 := by
    obtain ⟨i0, hi0, _, hs0, _⟩ := intInfo
    rw [hi0]; simp [hs0]
  have wc : IntKind.u64.wrap (c : Int) = (c : Int) := by rw [IntKind.wrap_u64]; omega
  have wc2 : IntKind.i64.wrap (c : Int) = (c : Int) := by rw [IntKind.wrap_i64]; omega
  have hxn : ¬ xb = W.heap.size := by omega
  go_enter Try.func42, Try.ntmps42
  go_wp2_with fail
  refine (cm _).mono ?_
  rintro e w1 ⟨rfl, hw1⟩
  subst hw1
  have hx2 : (w1.alloc (.cells (repL c 0).toArray 3)).cell? ⟨xb, 0, none⟩ = some (.int .i64 (-1)) := (Below.cell (Below.alloc (Below.refl _ _) (Nat.le_refl _) _) (p := ⟨xb, 0, none⟩) hxb).trans hx
  have ps1 : ∀ j u, [Value.int .i64 (-1)][j]? = some u → (w1.alloc (.cells (repL c 0).toArray 3)).cell? (Addr.add ⟨xb, 0, none⟩ j) = some u := fun j u hu => by
    have : j = 0 := by have := (List.getElem?_eq_some_iff.1 hu).1; simp at this; omega
    subst this
    simp only [List.getElem?_cons_zero, Option.some.injEq] at hu
    rw [← hu]
    exact hx2
  go_wp2_with (refine wpList_copy_splice rfl _ _ 30 30 rfl 3 Try.underlying30 hsz _ _ _ _ _ _ rfl rfl w1.heap.size 0 (repL c 0) 3 (hp_new rfl) [.int .i64 (-1)] (by show 1 = min 1 c; omega) (fun _ => ⟨rfl, _, rfl, ps1⟩) (by rw [repL_len (by omega)]; simp; omega) (by intro u hu; simp only [List.mem_singleton] at hu; rw [hu]; rfl) w1.heap.size w1 (Below.alloc (Below.refl _ _) (Nat.le_refl _) _) (Nat.le_refl _) ?_; intro w2 hh2 hb2; have HH2 : Aside _ := hh2; have HB2 : Aside _ := hb2; clear hh2 hb2)
  go_loopg [8] c (fun gk s8 wr => ∃ j : Nat, s8 = .int .i64 (j : Int) ∧ 1 ≤ j ∧ j + gk = c + 1 ∧ j ≤ c ∧ Aside (wr.heap[w1.heap.size]? = some (.cells (repL c j).toArray 3 (0, 0)) ∧ Below w1.heap.size w1 wr))
  case atStart => exact ⟨1, by simp [goInt], by omega, by omega, by omega, by have h := HH2.out; rw [show [Value.int .i64 (-1)] = List.replicate 1 (.int .i64 (-1)) from rfl, repL_splice (by omega)] at h; exact h, HB2.out⟩
  case round =>
    obtain ⟨j, rfl, hj1, hg, hjc, HW⟩ := hrel
    clear HH2 HB2 hx2
    by_cases hj : j < c
    rotate_left
    · have ej : j = c := by omega
      subst ej
      go_wp2
      all_goals refine bodyPost_ret (v := .slice (some ⟨w1.heap.size, 0, none⟩) j j) (by simp [results, Try.results42, go_sem, ↓IntWalk.iteOmega, *]) rfl ⟨_, rfl, ⟨by simp, .inr ⟨w1.heap.size, j, _, rfl, Nat.le_refl _, HW.out.1, Nat.le_refl _, by unfold maxLen; omega, by rw [List.size_toArray, repL_len (Nat.le_refl _)]; omega, by unfold repL; simp⟩⟩, HW.out.2⟩
    obtain ⟨m, hm⟩ : ∃ m, Nat.min j (c - j) = m := ⟨_, rfl⟩
    have hm2 : min j (c - j) = m := hm
    have hm1 : m ≤ j ∧ m ≤ c - j ∧ 1 ≤ m := by omega
    have HMN : Aside (Nat.min j (c - j) = m) := hm
    have wj : IntKind.i64.wrap ((j : Int) + (m : Int)) = ((j + m : Nat) : Int) := by rw [IntKind.wrap_i64]; omega
    have hd : decide ((j : Int) < (c : Int)) = true := decide_eq_true (by omega)
    have HSRC : Aside (∀ i u, (List.replicate m (Value.int .i64 (-1)))[i]? = some u → wr.cell? ⟨w1.heap.size, 0 + i, none⟩ = some u) := fun i u hu => by
      have hi : i < m := by have := (List.getElem?_eq_some_iff.1 hu).1; simpa using this
      rw [List.getElem?_replicate, if_pos hi] at hu
      refine cell_heap HW.out.1 _ _ ?_
      unfold repL
      rw [Nat.zero_add, List.getElem?_toArray, List.getElem?_append_left (by simp; omega), List.getElem?_replicate, if_pos (by omega)]
      exact hu
    clear hm hm2
    have ncj : ¬ c = j := by omega
    go_wp2
    go_region_law (refine step_copy_splice rfl _ _ 30 30 rfl 3 Try.underlying30 hsz (some ⟨w1.heap.size, j, none⟩) (some ⟨w1.heap.size, 0, none⟩) (c - j) (c - j) j c (by simp [Act.eval, Act.put, ncj]) (by simp [Act.eval, Act.put]) w1.heap.size j (repL c j) 3 HW.out.1 (List.replicate m (.int .i64 (-1))) (by rw [List.length_replicate]; exact HMN.out.symm) (fun _ => ⟨rfl, _, rfl, fun i u hu => by rw [Addr.add_lit]; exact HSRC.out i u hu⟩) (by rw [repL_len (by omega)]; simp; omega) (by intro u hu; rw [(List.mem_replicate.1 hu).2]; rfl) w1.heap.size w1 (Below.drew HW.out.2) (Nat.le_refl _) ?_; intro w2 hh2 hb2; have HH2 : Aside _ := hh2; have HB2 : Aside _ := hb2; clear hh2 hb2)
    all_goals go_wp2
    all_goals go_roundg (c - (j + m) + 1)
    all_goals first
      | omega
      | exact ⟨j + m, by simp, by omega, by omega, by omega, by have h := HH2.out; rw [repL_splice (by omega)] at h; exact h, HB2.out⟩

end Go.Proofs.Ytfhccmegobbnaaa
