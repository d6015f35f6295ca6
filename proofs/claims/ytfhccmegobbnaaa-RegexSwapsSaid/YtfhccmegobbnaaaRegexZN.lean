/- This text proves that the text of a match is matched as a whole, where no instruction looks at the surroundings. It has no program in sight. Conditions: those that each theorem names. -/
import Derived.Test.YtfhccmegobbnaaaRegexZM
namespace Go.Proofs.Ytfhccmegobbnaaa
open Go.ChangeShapes Go.WideShapes Go.ChangeAt Go.RowKit
set_option linter.unusedVariables false
set_option linter.unusedSimpArgs false

/-- No instruction looks at the surroundings. -/
def Free (L : List In) : Prop := ∀ k : Nat, L[k]!.op ≠ 4 ∧ L[k]!.op ≠ 5
/-- Two states of the machine are at the same instructions. -/
def Sim (a b : List Bool × List Th) : Prop := a.1 = b.1 ∧ a.2.map (·.1) = b.2.map (·.1)
theorem addF_sim {L : List In} (hF : Free L) {n n' pos pos' : Nat} : ∀ (f k : Nat) (cs cs' : List Int) (st st' : List Bool × List Th), Sim st st' → Sim (addF f L n pos k cs st) (addF f L n' pos' k cs' st')
  | 0, _, _, _, _, _, h => h
  | f + 1, k, cs, cs', (v, l), (v', l'), h => by
    obtain ⟨h1, h2⟩ := h
    simp only [] at h1 h2
    subst h1
    have hk := hF k
    rw [addF_step, addF_step]
    by_cases hv : v[k]! = true
    · rw [if_pos hv, if_pos hv]; exact ⟨rfl, h2⟩
    rw [if_neg hv, if_neg hv]
    by_cases h7 : L[k]!.op = 7
    · rw [if_pos h7, if_pos h7]; exact addF_sim hF f _ _ _ _ _ ⟨rfl, h2⟩
    rw [if_neg h7, if_neg h7]
    by_cases h6 : L[k]!.op = 6
    · rw [if_pos h6, if_pos h6]; exact addF_sim hF f _ _ _ _ _ (addF_sim hF f _ _ _ _ _ ⟨rfl, h2⟩)
    rw [if_neg h6, if_neg h6]
    by_cases h8 : L[k]!.op = 8
    · rw [if_pos h8, if_pos h8]; exact addF_sim hF f _ _ _ _ _ ⟨rfl, h2⟩
    rw [if_neg h8, if_neg h8, if_neg hk.1, if_neg hk.1, if_neg hk.2, if_neg hk.2]
    exact ⟨rfl, by simp [h2]⟩
theorem stepF_sim {L : List In} (hF : Free L) {n n' pos pos' : Nat} {c : Int} : ∀ (l l' : List Th) (st st' : List Bool × List Th), l.map (·.1) = l'.map (·.1) → Sim st st' → Sim (stepF L n pos c l st) (stepF L n' pos' c l' st')
  | [], [], _, _, _, h => h
  | [], _ :: _, _, _, e, _ => by simp at e
  | _ :: _, [], _, _, e, _ => by simp at e
  | t :: l, t' :: l', st, st', e, h => by
    simp only [List.map_cons, List.cons.injEq] at e
    unfold stepF
    refine stepF_sim hF l l' _ _ e.2 ?_
    rw [e.1]
    split
    · exact addF_sim hF _ _ _ _ _ _ h
    · exact h
theorem found_sim {L : List In} : ∀ (l l' : List Th), l.map (·.1) = l'.map (·.1) → ((foundF L l).isSome = (foundF L l').isSome)
  | [], [], _ => rfl
  | [], _ :: _, e => by simp at e
  | _ :: _, [], e => by simp at e
  | t :: l, t' :: l', e => by
    simp only [List.map_cons, List.cons.injEq] at e
    unfold foundF
    rw [e.1]
    split
    · rfl
    · exact found_sim l l' e.2
theorem ext_get (s : ByteArray) {a z i : Nat} (hz : z ≤ s.size) (hi : a + i < z) : (s.extract a z)[i]! = s[a + i]! := by
  have h1 : i < (s.extract a z).size := by rw [ByteArray.size_extract]; omega
  rw [getElem!_pos _ i h1, getElem!_pos s (a + i) (by omega)]
  exact ByteArray.getElem_extract h1
theorem run_self {L : List In} (hF : Free L) {s : ByteArray} {a z : Nat} (hz : z ≤ s.size) {cs : List Int} : ∀ (f pos : Nat) (l : List Th) (best : Option (List Int × Nat)), runF f L s false pos l best = some (cs, z) → pos ≤ s.size →
    best = some (cs, z) ∨ (pos ≤ z ∧ ∀ (pos' : Nat) (l' : List Th) (f' : Nat), pos = a + pos' → l.map (·.1) = l'.map (·.1) → z - a < pos' + f' → (runF f' L (s.extract a z) true pos' l' none).isSome = true)
  | 0, _, _, _, h, _ => .inl h
  | f + 1, pos, l, best, h, hp => by
    have hsz : (s.extract a z).size = z - a := by rw [ByteArray.size_extract]; omega
    -- found here
    have here : ∀ c, foundF L l = some c → pos = z → pos ≤ z ∧ ∀ (pos' : Nat) (l' : List Th) (f' : Nat), pos = a + pos' → l.map (·.1) = l'.map (·.1) → z - a < pos' + f' → (runF f' L (s.extract a z) true pos' l' none).isSome = true := by
      intro c hc hpz
      refine ⟨by omega, fun pos' l' f' he hl hf' => ?_⟩
      obtain ⟨f', rfl⟩ : ∃ g, f' = g + 1 := ⟨f' - 1, by omega⟩
      rw [runF_end (.inl (by rw [hsz]; omega))]
      have h1 := found_sim (L := L) l l' hl
      rw [hc] at h1
      unfold bestF
      cases hq : foundF L l' with
      | none => rw [hq] at h1; cases h1
      | some c' =>
        simp only []
        rw [if_pos (.inr (by rw [hsz]; omega))]
        rfl
    unfold runF at h
    split at h
    · rename_i hend
      unfold bestF at h
      split at h
      · exact .inl h
      · rename_i c hc
        rw [if_pos (.inl rfl)] at h
        injection h with h
        injection h with _ h
        exact .inr (here c hc h)
    · rename_i hend
      have h2 := run_self hF (a := a) hz f (pos + 1) _ _ h (by omega)
      rcases h2 with h2 | ⟨hpz, h2⟩
      · unfold bestF at h2
        split at h2
        · exact .inl h2
        · rename_i c hc
          rw [if_pos (.inl rfl)] at h2
          injection h2 with h2
          injection h2 with _ h2
          exact .inr (here c hc h2)
      · refine .inr ⟨by omega, fun pos' l' f' he hl hf' => ?_⟩
        obtain ⟨f', rfl⟩ : ∃ g, f' = g + 1 := ⟨f' - 1, by omega⟩
        have hl0 : l' ≠ [] := fun e => by
          rw [e] at hl
          simp at hl
          exact hend (.inr hl)
        rw [runF_go (fun h => by
          rcases h with h | h
          · rw [hsz] at h; omega
          · exact hl0 h)]
        have e0 : bestF L (s.extract a z).size (pos') true l' none = none := by
          unfold bestF
          split
          · rfl
          · rw [if_neg (fun h => by rcases h with h | h; cases h; rw [hsz] at h; omega)]
        rw [e0]
        refine h2 (pos' + 1) _ f' (by omega) ?_ (by omega)
        rw [ext_get s hz (by omega), ← he]
        exact (stepF_sim hF l l' _ _ hl ⟨rfl, rfl⟩).2
theorem whole_self {L : List In} (hF : Free L) {g : Nat} {s : ByteArray} {p a z : Nat} {cs : List Int} (h : firstTop L g s p = some (cs, a, z)) : ∃ c, wholeTop L g (s.extract a z) = some c := by
  have hb := firstF_in _ _ h
  have ha : runTop L g s a false = some (cs, z) := by
    have q : ∀ (f p : Nat) {cs : List Int} {a z : Nat}, firstF f L g s p = some (cs, a, z) → runTop L g s a false = some (cs, z) := by
      intro f
      induction f with
      | zero => intro p cs a z h; cases h
      | succ f ih =>
        intro p cs a z h
        unfold firstF at h
        split at h
        · cases h
        split at h
        · rename_i c e hq
          injection h with h
          injection h with h h2
          injection h2 with h2 h3
          rw [← h, ← h2, ← h3]
          exact hq
        · exact ih _ h
    exact q _ _ h
  have h1 := run_self hF (a := a) hb.2.2.2 _ _ _ none ha (by omega)
  rcases h1 with h1 | ⟨_, h1⟩
  · cases h1
  · have hsz : (s.extract a z).size = z - a := by rw [ByteArray.size_extract]; omega
    have h2 := h1 0 (beginF L g (s.extract a z).size 0) ((s.extract a z).size - 0 + 1) (by omega) (addF_sim hF _ _ _ _ _ _ ⟨rfl, rfl⟩).2 (by rw [hsz]; omega)
    obtain ⟨t, ht⟩ := Option.isSome_iff_exists.1 h2
    exact ⟨t.1, by unfold wholeTop runTop; rw [ht]; rfl⟩

end Go.Proofs.Ytfhccmegobbnaaa
