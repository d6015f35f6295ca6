/- This text speaks of rows of leases that a call owns, and proves the walk of slices.Clone at leases. Conditions: those that each theorem names. -/
import Derived.Test.YtodmgdihkhakpaaLeaseC
import Derived.Laws.AppendOwn
namespace Go.Proofs.Ytodmgdihkhakpaa
open Go.ChangeShapes Go.WideShapes Go.ChangeAt Go.RowKit
set_option linter.unusedVariables false

def flat (xs : List Le) : List Value := xs.flatMap Le.enc
theorem flat_append (xs ys : List Le) : flat (xs ++ ys) = flat xs ++ flat ys := List.flatMap_append
theorem flat_length (xs : List Le) : (flat xs).length = xs.length * 4 := by
  induction xs with
  | nil => rfl
  | cons x xs ih => simp only [flat, List.flatMap_cons, List.length_append, List.length_cons] at *; rw [ih]; simp [Le.enc]; omega
theorem flat_one (xs : List Le) : ∀ u ∈ flat xs, u.oneCell' = true := by
  intro u hu
  simp only [flat, List.mem_flatMap] at hu
  obtain ⟨x, _, hx⟩ := hu
  simp only [Le.enc, List.mem_cons, List.not_mem_nil, or_false] at hx
  rcases hx with rfl | rfl | rfl | rfl <;> rfl
theorem flat_get : ∀ (xs : List Le) (j i : Nat), i < 4 → (flat xs)[j * 4 + i]? = (xs[j]?).bind fun x => x.enc[i]?
  | [], j, i, _ => by simp [flat]
  | x :: xs, 0, i, hi => by
    simp only [flat, List.flatMap_cons, Nat.zero_mul, Nat.zero_add, List.getElem?_cons_zero, Option.bind_some]
    rw [List.getElem?_append_left (by simp [Le.enc]; omega)]
  | x :: xs, j + 1, i, hi => by
    have := flat_get xs j i hi
    simp only [flat] at this
    simp only [flat, List.flatMap_cons, List.getElem?_cons_succ]
    rw [List.getElem?_append_right (by simp [Le.enc]; omega), ← this]
    congr 1
    simp [Le.enc]; omega
/-- The cells of a slice that is read. -/
theorem Sl.flat {w : World} {b off n cap : Nat} {xs : List Le} (h : Sl w 4 (some ⟨b, off, none⟩) n cap (xs.map Le.enc)) : ∀ j u, (flat xs)[j]? = some u → w.cell? ⟨b, off + j, none⟩ = some u := by
  intro j u hu
  have hj : j < xs.length * 4 := by rw [← flat_length]; exact (List.getElem?_eq_some_iff.1 hu).1
  have hl := Sl.len h
  obtain ⟨b', off', e, hb, hc⟩ := h.here (by omega)
  cases e
  have e1 : j = j / 4 * 4 + j % 4 := by omega
  rw [e1, flat_get _ _ _ (by omega)] at hu
  have hx : xs[j / 4]? = some xs[j / 4]! := by rw [List.getElem?_eq_getElem (by omega), getElem!_pos xs _ (by omega)]
  rw [hx] at hu
  have := hc (j / 4) xs[j / 4]!.enc (by rw [List.getElem?_map, hx]; rfl) (j % 4) u hu
  rw [e1]
  rw [Nat.add_assoc] at this
  exact this

/-- A row of the call's own reads as its leases. -/
theorem own_sl {w : World} {base : Nat} {v : Value} {n : Nat} {xs : List Le} (h : w.ownsRow base 36 4 v n (flat xs)) : ∃ ao cap, v = .slice ao n cap ∧ Sl w 4 ao n cap (xs.map Le.enc) := by
  obtain ⟨hl, h | ⟨g, cap, cur, rfl, hg, hh, hnc, hcm, hcs, ht⟩⟩ := h
  · obtain ⟨rfl, rfl⟩ := h
    rw [flat_length] at hl
    have hxs : xs = [] := List.eq_nil_of_length_eq_zero (by omega)
    subst hxs
    exact ⟨none, 0, rfl, ⟨rfl, Nat.le_refl _, by omega, by simp, fun h => absurd h (Nat.lt_irrefl _), fun _ => rfl⟩⟩
  · rw [flat_length] at hl
    have hn : xs.length = n := by omega
    refine ⟨_, cap, rfl, ⟨by simpa using hn, hnc, by unfold maxLen at hcm; omega, ?_, fun h0 => ⟨g, 0, rfl, (Array.getElem?_eq_some_iff.1 hh).1, ?_⟩, fun h => by cases h⟩⟩
    · intro x hx
      simp only [List.mem_map] at hx
      obtain ⟨y, _, rfl⟩ := hx
      rfl
    · intro j x hx i u hu
      rw [List.getElem?_map] at hx
      obtain ⟨y, hy, rfl⟩ := Option.map_eq_some_iff.1 hx
      have hi : i < 4 := (List.getElem?_eq_some_iff.1 hu).1
      have hj : j < xs.length := (List.getElem?_eq_some_iff.1 hy).1
      have h1 : (flat xs)[j * 4 + i]? = some u := by rw [flat_get _ _ _ hi, hy]; exact hu
      rw [← ht, List.getElem?_take, if_pos (by omega)] at h1
      have h2 : cur[j * 4 + i]? = some u := by rw [← Array.getElem?_toList]; exact h1
      have e : (0 + j * 4 + i) = j * 4 + i := by omega
      rw [e]
      simp [World.cell?, hh, h2]

theorem leaseInfo : ∃ i0 : TypeInfo, Try.prog.info? 36 = some i0 ∧ i0.zero = some (.agg #[.int .i64 0, .int .i64 0, .int .i64 0, .int .i64 0]) ∧ i0.size = 4 ∧ i0.bytes = 32 := by
  have h : (Try.prog.info? 36).map (fun i => (i.zero, i.size, i.bytes)) = some (some (.agg #[.int .i64 0, .int .i64 0, .int .i64 0, .int .i64 0]), 4, 32) := by kernel_rfl
  cases hi : Try.prog.info? 36 with
  | none => rw [hi] at h; cases h
  | some i0 =>
    rw [hi] at h
    simp only [Option.map_some, Option.some.injEq, Prod.mk.injEq] at h
    exact ⟨i0, rfl, h.1, h.2.1, h.2.2⟩

set_option maxHeartbeats 1000000 in
theorem clone_calls (ao : Option Addr) (n cap : Nat) (xs : List Le) (w : World) (h : Sl w 4 ao n cap (xs.map Le.enc)) (hn : n ≤ 1000000) :
    Calls Try.prog 33 #[.slice ao n cap] w fun e w' => ∃ v', e = .returned v' ∧ w'.ownsRow w.heap.size 36 4 v' n (flat xs) ∧ Below w.heap.size w w' := by
  have q22 : ∀ (w : World) (a : Option Addr) (n c n' c' : Nat), (binOp .eql 22 (.slice a n c) (.slice none n' c')).run Try.prog w = .ok (.bool a.isNone) w := fun w a n c n' c' => Lib.run_eql_slice_nil w _ _ a n c n' c' Try.underlying22
  have hln := Sl.len h
  cases ao with
  | none =>
    have hc0 := h.hnil rfl
    have h0 : n = 0 := by have := h.hcap; omega
    subst hc0
    subst h0
    have hxs : xs = [] := List.eq_nil_of_length_eq_zero hln
    subst hxs
    clear h
    go_enter Try.func33, Try.ntmps33
    go_wp2
    go_ret
    exact ⟨_, rfl, World.ownsRow_nil _ _ _ _, Below.refl _ _⟩
  | some a =>
    obtain ⟨i0, hi, hz, hs4, hby⟩ := leaseInfo
    have A : Aside (∀ j u, (flat xs)[j]? = some u → w.cell? (a.add j) = some u) := by
      intro j u hu
      by_cases h0 : n = 0
      · have hxs : xs = [] := List.eq_nil_of_length_eq_zero (by omega)
        subst hxs
        cases hu
      · obtain ⟨b, off, e, _, _⟩ := h.here (by omega)
        cases e
        rw [Addr.add_lit]
        exact Sl.flat h j u hu
    have HL : Aside ((flat xs).length = n * 4) := by show _ = _; rw [flat_length, hln]
    clear h
    go_enter Try.func33, Try.ntmps33
    go_wp2_with (at_builtin; refine wpList_append_own _ rfl _ _ 22 rfl w.heap.size 36 i0 _ 4 32 Try.underlying22 hi hz hs4 hby rfl (by omega) _ _ _ rfl (World.ownsRow_made w #[] 0 (Nat.le_refl _) (Nat.zero_le _) (by simp)) a n cap (flat xs) rfl ?qc1 ?qc2 ?qc3 ?qc4 ?qc5 ?qc6 ?_)
    case qc1 => exact HL.out
    case qc2 =>
      intro j u hj
      exact Lib.cell?_alloc_some _ (A.out j u hj)
    case qc3 => exact flat_one xs
    case qc4 => unfold maxLen; omega
    case qc5 => omega
    case qc6 => simp
    intro v' w1 hown hgrow hnil
    go_wp2
    go_ret
    refine ⟨v', rfl, by simpa using hown, ?_⟩
    exact ((Below.refl _ w).alloc (Nat.le_refl _) _).grown hgrow (by simp) (by intro k hk; simp [Value.ownBlock] at hk; omega)

end Go.Proofs.Ytodmgdihkhakpaa
