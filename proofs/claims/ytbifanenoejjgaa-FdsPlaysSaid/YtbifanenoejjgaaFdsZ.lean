/- This text proves plain facts: the calls of the reference return what those of the program return, for a valid group, and keep it valid. It has no conditions. -/
import Derived.Test.YtbifanenoejjgaaFdsY
namespace Go.Proofs.Ytbifanenoejjgaa
set_option linter.unusedVariables false
set_option linter.unusedSimpArgs false

theorem findI_neg {num : Int} {xs : List Fd} (h : findI num xs < 0) : ∀ x ∈ xs, x.num ≠ num := by
  rcases findI_spec num xs with ⟨_, h1⟩ | ⟨m, _, e, _⟩
  · intro x hx
    obtain ⟨i, hi, rfl⟩ := get_of_mem hx
    exact h1 i hi
  · omega
theorem findF_hit {num : Int} {xs : List Fd} (h : ¬ findI num xs < 0) : ∃ k, k < xs.length ∧ findI num xs = (k : Int) ∧ xs[k]!.num = num ∧ findF num xs = (xs[k]!, 0) := by
  rcases findI_spec num xs with ⟨e, _⟩ | ⟨m, h1, e, h2, _⟩
  · omega
  · exact ⟨m, h1, e, h2, by unfold findF; rw [if_neg h, e]; rfl⟩
theorem findF_miss {num : Int} {xs : List Fd} (h : findI num xs < 0) : findF num xs = (default, 44) := by unfold findF; rw [if_pos h]
theorem low_copy {id : Int} {xs : List Fd} (h : RightP id xs) (hl : xs.length < 64) : min 64 (lowF Fd.copy xs) = lowF Fd.copy xs := by
  have := (lowF_spec Fd.copy xs).2.2
  omega

theorem radd_eq {id : Int} {xs : List Fd} (h : RightP id xs) (dev ch fid : Int) (p nm : ByteArray) (mode : Int) : raddF xs dev ch fid p nm mode = addF xs dev ch fid p nm mode := by
  unfold raddF addF
  by_cases h1 : validB dev ch fid p nm = false
  · rw [if_pos h1, if_pos h1]
  · rw [if_neg h1, if_neg h1]
    by_cases h2 : mode < 0 ∨ 127 < mode
    · rw [if_pos h2, if_pos h2]
    · rw [if_neg h2, if_neg h2]
      by_cases h3 : 64 ≤ xs.length
      · rw [if_pos ((low_full h).2 h3), if_pos h3]
      · rw [if_neg (fun e => h3 ((low_full h).1 e)), if_neg h3, low_copy h (by omega), rwithL_eq _ _ (keyAt_false (lowF_spec Fd.num xs).2.1), withL_eq]
theorem rdup_eq {id : Int} {xs : List Fd} (h : RightP id xs) (fr to : Int) : rdupF xs fr to = dupF xs fr to := by
  unfold rdupF dupF
  by_cases h1 : (findF fr xs).2 ≠ 0
  · rw [if_pos h1, if_pos h1]
  rw [if_neg h1, if_neg h1]
  by_cases h2 : to < -1 ∨ 63 < to
  · rw [if_pos h2, if_pos h2]
  rw [if_neg h2, if_neg h2]
  by_cases h3 : to = fr
  · rw [if_pos h3, if_pos h3]
  rw [if_neg h3, if_neg h3]
  by_cases h4 : 0 ≤ findI to xs
  · have h5 : 0 ≤ to := by
      obtain ⟨k, hk, _, e, _⟩ := findF_hit (num := to) (xs := xs) (by omega)
      have := (okB_iff _).1 (h.ok _ (mem_of_get hk))
      omega
    rw [if_pos ⟨h5, h4⟩, if_pos h4]
  rw [if_neg (fun e => h4 e.2), if_neg h4]
  by_cases h6 : to < 0
  · have e1 : to = -1 := by omega
    subst e1
    simp only [show ((-1 : Int) < 0) = True from by simp, if_true, true_and]
    by_cases h7 : 64 ≤ xs.length
    · have := (low_full h).2 h7
      rw [if_pos (by omega), if_pos h7]
    · have h8 : ¬ 64 ≤ lowF Fd.num xs := fun e => h7 ((low_full h).1 e)
      have e2 : ((min 64 (lowF Fd.num xs) : Nat) : Int) = ((lowF Fd.num xs : Nat) : Int) := by omega
      rw [if_neg (by omega), if_neg h7, e2, rwithL_eq _ _ (keyAt_false (lowF_spec Fd.num xs).2.1), withL_eq]
  · rw [if_neg h6, if_neg (by omega), if_neg (fun e => h6 (by omega)), if_neg (by omega), rwithL_eq _ _ (findI_neg (num := to) (by omega)), withL_eq]
theorem rclose_eq {id : Int} {xs : List Fd} (h : RightP id xs) (num : Int) : rcloseF num xs = closeF num xs := by
  unfold rcloseF closeF
  by_cases h1 : findI num xs < 0
  · rw [if_pos h1, if_pos h1]
  · obtain ⟨k, hk, e, e2, _⟩ := findF_hit h1
    rw [if_neg h1, if_neg h1, e]
    simp only [Int.toNat_natCast]
    rw [filter_dropAt h.asc hk e2]
theorem sum_mvd (xs : List Fd) (c base m : Int) (hb : 0 ≤ base) : mvdF xs c base m = if (sumF m base).2 = false then (xs, 0, 20) else (xs.map (mvF c (sumF m base).1), (sumF m base).1, 0) := by
  unfold mvdF sumF
  by_cases h1 : 0 < m ∧ (9007199254740991 < m ∨ 9007199254740991 - m < base)
  · rw [if_pos h1, if_pos (by omega), if_pos rfl]
  · rw [if_neg h1]
    by_cases h2 : 0 ≤ m + base ∧ m + base ≤ 9007199254740991
    · rw [decide_eq_true h2, if_neg (by omega), if_neg (by simp), Int.add_comm base m]
    · rw [decide_eq_false h2, if_pos (by omega), if_pos rfl]
theorem baseF_low {id : Int} {xs : List Fd} (h : RightP id xs) {num : Int} (hf : ¬ findI num xs < 0) (whence length : Int) (hl : 0 ≤ length) : 0 ≤ baseF (findF num xs).1 whence length := by
  obtain ⟨k, hk, _, _, e⟩ := findF_hit hf
  have := (okB_iff _).1 (h.ok _ (mem_of_get hk))
  unfold baseF
  rw [e]
  dsimp only
  split
  · omega
  · split <;> omega
theorem findF_err {num : Int} {xs : List Fd} (h : ¬ (findF num xs).2 ≠ 0) : ¬ findI num xs < 0 := fun e => by
  rw [findF_miss e] at h
  exact h (by simp)
theorem rseek_eq {id : Int} {xs : List Fd} (h : RightP id xs) (num offset whence length : Int) : rseekF xs num offset whence length = seekF xs num offset whence length := by
  unfold rseekF seekF
  by_cases h1 : (findF num xs).2 ≠ 0
  · rw [if_pos h1, if_pos h1]
  rw [if_neg h1, if_neg h1]
  by_cases h2 : whence < 0 ∨ 2 < whence ∨ length < 0
  · rw [if_pos h2, if_pos h2]
  rw [if_neg h2, if_neg h2, sum_mvd _ _ _ _ (baseF_low h (findF_err h1) whence length (by omega))]
theorem rmoved_eq {id : Int} {xs : List Fd} (h : RightP id xs) (num m : Int) : rmovedF xs num m = movedF xs num m := by
  unfold rmovedF movedF
  by_cases h1 : (findF num xs).2 ≠ 0
  · rw [if_pos h1, if_pos h1]
  rw [if_neg h1, if_neg h1]
  by_cases h2 : m < 0
  · rw [if_pos h2, if_pos h2]
  obtain ⟨k, hk, _, _, e⟩ := findF_hit (findF_err h1)
  have := (okB_iff _).1 (h.ok _ (mem_of_get hk))
  rw [if_neg h2, if_neg h2, sum_mvd _ _ _ _ (by rw [e]; show 0 ≤ xs[k]!.offset; omega)]
  split <;> rfl
theorem want_eq {id : Int} {xs : List Fd} (h : RightP id xs) (kind dev ch fid : Int) (p nm : ByteArray) (mode num to off wh lg : Int) : wantF xs kind dev ch fid p nm mode num to off wh lg = didF xs kind dev ch fid p nm mode num to off wh lg := by
  unfold wantF didF
  rw [radd_eq h, rdup_eq h, rclose_eq h, rseek_eq h, rmoved_eq h]

/-! ### The calls keep a group valid -/
theorem add_right {id : Int} {xs : List Fd} (h : RightP id xs) (dev ch fid : Int) (p nm : ByteArray) (mode : Int) : RightP id (addF xs dev ch fid p nm mode).1 := by
  unfold addF
  split
  · exact h
  rename_i h1
  split
  · exact h
  rename_i h2
  split
  · exact h
  rename_i h3
  have h4 := lowF_spec Fd.num xs
  have h5 := lowF_spec Fd.copy xs
  refine right_ins h ((okB_iff _).2 ⟨?_, ?_, ?_, ?_, ?_, ?_, ?_, ?_, ?_⟩) (keyAt_false h4.2.1) (fun x hx e => absurd e (keyAt_false h5.2.1 x hx))
  all_goals simp only
  all_goals first | omega | simpa using h1
theorem dup_right {id : Int} {xs : List Fd} (h : RightP id xs) (fr to : Int) : RightP id (dupF xs fr to).1 := by
  have key : ∀ t : Int, ¬ (findF fr xs).2 ≠ 0 → 0 ≤ t → t < 64 → (∀ x ∈ xs, x.num ≠ t) → RightP id (withL { (findF fr xs).1 with num := t } xs) := by
    intro t h1 h2 h3 h4
    obtain ⟨k, hk, _, _, e⟩ := findF_hit (findF_err h1)
    rw [e]
    have ho := (okB_iff _).1 (h.ok _ (mem_of_get hk))
    obtain ⟨_, _, c, d, e, f, g, i, j⟩ := ho
    refine right_ins h ((okB_iff _).2 ⟨h2, h3, c, d, e, f, g, i, j⟩) h4 (fun x hx ex => ?_)
    have := h.cop x hx _ (mem_of_get hk) ex
    rw [agreeB_iff] at this ⊢
    exact this
  unfold dupF
  split
  · exact h
  rename_i h1
  split
  · exact h
  rename_i h2
  split
  · exact h
  rename_i h3
  split
  · exact h
  rename_i h4
  split
  · exact h
  rename_i h5
  split
  · rename_i h6
    have h7 : ¬ 64 ≤ xs.length := fun e => h5 ⟨h6, e⟩
    have h8 : ¬ 64 ≤ lowF Fd.num xs := fun e => h7 ((low_full h).1 e)
    exact key _ h1 (by omega) (by omega) (keyAt_false (lowF_spec Fd.num xs).2.1)
  · exact key _ h1 (by omega) (by omega) (findI_neg (by omega))
theorem close_right {id : Int} {xs : List Fd} (h : RightP id xs) (num : Int) : RightP id (closeF num xs).1 := by
  unfold closeF
  split
  · exact h
  · exact right_sub h (dropAt_sub _ _)
theorem sum_low {a b : Int} (h : (sumF a b).2 ≠ false) : 0 ≤ (sumF a b).1 ∧ (sumF a b).1 ≤ 9007199254740991 := by
  unfold sumF at h ⊢
  split at h
  · exact absurd rfl h
  · rename_i h1
    rw [if_neg h1]
    simpa using h
theorem seek_right {id : Int} {xs : List Fd} (h : RightP id xs) (num offset whence length : Int) : RightP id (seekF xs num offset whence length).1 := by
  unfold seekF
  split
  · exact h
  split
  · exact h
  split
  · exact h
  · rename_i h3
    exact right_move h _ _ (sum_low h3)
theorem moved_right {id : Int} {xs : List Fd} (h : RightP id xs) (num m : Int) : RightP id (movedF xs num m).1 := by
  unfold movedF
  split
  · exact h
  split
  · exact h
  split
  · exact h
  · rename_i h3
    exact right_move h _ _ (sum_low h3)
theorem did_right {id : Int} {xs : List Fd} (h : RightP id xs) (kind dev ch fid : Int) (p nm : ByteArray) (mode num to off wh lg : Int) : RightP id (didF xs kind dev ch fid p nm mode num to off wh lg).1 := by
  unfold didF
  split
  · exact add_right h _ _ _ _ _ _
  split
  · exact dup_right h _ _
  split
  · exact close_right h _
  split
  · exact seek_right h _ _ _ _
  split
  · exact moved_right h _ _
  · exact h

/-! ### The strings of a group fit -/
theorem right_fit {id : Int} {xs : List Fd} (h : RightP id xs) : ∀ y ∈ xs, y.path.size ≤ 1024 ∧ y.name.size ≤ 1024 := fun y hy => by
  have := ((okB_iff y).1 (h.ok y hy)).2.2.2.2.2.2.2.2
  simp only [validB, decide_eq_true_eq] at this
  omega

end Go.Proofs.Ytbifanenoejjgaa
