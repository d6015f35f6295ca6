/- This text tells where the offsets of a match lie, and gives the plain reading of Replace. Conditions: those that each theorem names. -/
import Derived.Test.YtfhccmegobbnaaaRegexZC
namespace Go.Proofs.Ytfhccmegobbnaaa
open Go.ChangeShapes Go.WideShapes Go.ChangeAt Go.RowKit
set_option linter.unusedVariables false
set_option linter.unusedSimpArgs false

/-- Offsets lie in a text of n bytes, or are -1. -/
def InB (n : Nat) (cs : List Int) : Prop := ∀ x ∈ cs, -1 ≤ x ∧ x ≤ (n : Int)
theorem InB.set {n : Nat} {cs : List Int} (h : InB n cs) {x pos : Nat} (hp : pos ≤ n) : InB n (cs.set x (pos : Int)) := by
  intro y hy
  rcases List.mem_or_eq_of_mem_set hy with hy | rfl
  · exact h y hy
  · omega
theorem addF_in {L : List In} : ∀ (f n pos k : Nat) (cs : List Int) (st : List Bool × List Th), pos ≤ n → InB n cs → (∀ t ∈ st.2, InB n t.2) → ∀ t ∈ (addF f L n pos k cs st).2, InB n t.2
  | 0, _, _, _, _, _, _, _, h3 => h3
  | f + 1, n, pos, k, cs, (v, l), hp, hc, h3 => by
    rw [addF_step]
    repeat' split
    all_goals first
      | exact h3
      | exact addF_in f n pos _ _ _ hp hc h3
      | exact addF_in f n pos _ _ _ hp hc (addF_in f n pos _ _ _ hp hc h3)
      | exact addF_in f n pos _ _ _ hp (hc.set hp) h3
      | (intro t ht
         rcases List.mem_append.1 ht with ht | ht
         · exact h3 t ht
         · rw [List.mem_singleton] at ht
           subst ht
           exact hc)
theorem stepF_in {L : List In} (n pos : Nat) (hp : pos ≤ n) (c : Int) : ∀ (l : List Th) (st : List Bool × List Th), (∀ t ∈ l, InB n t.2) → (∀ t ∈ st.2, InB n t.2) → ∀ t ∈ (stepF L n pos c l st).2, InB n t.2
  | [], _, _, h2 => h2
  | t :: l, st, h1, h2 => by
    unfold stepF
    refine stepF_in n pos hp c l _ (fun u hu => h1 u (List.mem_cons_of_mem _ hu)) ?_
    split
    · exact addF_in _ n pos _ _ _ hp (h1 t (List.mem_cons_self ..)) h2
    · exact h2
theorem bestF_in {L : List In} {n pos b : Nat} {whole : Bool} {l : List Th} {best : Option (List Int × Nat)} (hb : b ≤ pos) (hp : pos ≤ n) (hl : ∀ t ∈ l, InB n t.2) (h0 : ∀ cs e, best = some (cs, e) → InB n cs ∧ b ≤ e ∧ e ≤ n) : ∀ cs e, bestF L n pos whole l best = some (cs, e) → InB n cs ∧ b ≤ e ∧ e ≤ n := by
  intro cs e h
  unfold bestF at h
  split at h
  · exact h0 cs e h
  · rename_i c hf
    split at h
    · obtain ⟨t, ht, h1, _⟩ := foundF_mem hf
      injection h with h
      injection h with h h2
      rw [← h, ← h1]
      exact ⟨hl t ht, by omega, by omega⟩
    · exact h0 cs e h
theorem runF_in {L : List In} {s : ByteArray} {whole : Bool} {b : Nat} : ∀ (f pos : Nat) (l : List Th) (best : Option (List Int × Nat)), b ≤ pos → pos ≤ s.size → (∀ t ∈ l, InB s.size t.2) → (∀ cs e, best = some (cs, e) → InB s.size cs ∧ b ≤ e ∧ e ≤ s.size) → ∀ cs e, runF f L s whole pos l best = some (cs, e) → InB s.size cs ∧ b ≤ e ∧ e ≤ s.size
  | 0, _, _, _, _, _, _, h0 => h0
  | f + 1, pos, l, best, hb, hp, hl, h0 => by
    intro cs e h
    unfold runF at h
    split at h
    · exact bestF_in hb hp hl h0 cs e h
    · rename_i hn
      exact runF_in f _ _ _ (by omega) (by omega) (stepF_in _ _ (by omega) _ _ _ hl (fun t ht => by cases ht)) (bestF_in hb hp hl h0) cs e h
theorem runTop_in {L : List In} {g : Nat} {s : ByteArray} {whole : Bool} {p : Nat} (hp : p ≤ s.size) {cs : List Int} {e : Nat} (h : runTop L g s p whole = some (cs, e)) : InB s.size cs ∧ p ≤ e ∧ e ≤ s.size :=
  runF_in _ p _ none (Nat.le_refl _) hp (addF_in _ _ _ _ _ _ hp (fun x hx => by rw [(List.mem_replicate.1 hx).2]; omega) (fun t ht => by cases ht)) (fun _ _ h => by cases h) cs e h
theorem firstF_in {L : List In} {g : Nat} {s : ByteArray} : ∀ (f p : Nat) {cs : List Int} {a z : Nat}, firstF f L g s p = some (cs, a, z) → InB s.size cs ∧ p ≤ a ∧ a ≤ z ∧ z ≤ s.size
  | 0, _, _, _, _, h => by cases h
  | f + 1, p, cs, a, z, h => by
    unfold firstF at h
    split at h
    · cases h
    split at h
    · rename_i hp c e hq
      injection h with h
      injection h with h h2
      injection h2 with h2 h3
      have := runTop_in (by omega) hq
      rw [← h, ← h2, ← h3]
      exact ⟨this.1, Nat.le_refl _, this.2.1, this.2.2⟩
    · have := firstF_in f _ h
      exact ⟨this.1, by omega, this.2.2.1, this.2.2.2⟩
theorem fillF_len {r s : ByteArray} {cs : List Int} {a z : Nat} (hs : s.size ≤ 60) : ∀ (f i : Nat) (l : List UInt8) {l' : List UInt8}, fillF r s cs a z f i l = some l' → l'.length ≤ l.length + 60 * f
  | 0, _, l, l', h => by
    injection h with h
    rw [h]
    omega
  | f + 1, i, l, l', h => by
    have e1 : (s.extract a z).data.toList.length ≤ 60 := by
      show (s.extract a z).size ≤ 60
      rw [ByteArray.size_extract]
      omega
    have e2 : ∀ k, (partF s cs k).data.toList.length ≤ 60 := fun k => Nat.le_trans (part_size s cs k) hs
    unfold fillF at h
    split at h
    · injection h with h
      rw [h]
      omega
    split at h
    · have := fillF_len hs f _ _ h
      rw [List.length_append] at this
      omega
    split at h
    · have := fillF_len hs f _ _ h
      rw [List.length_append] at this
      simp at this
      omega
    split at h
    · cases h
    split at h
    · have := fillF_len hs f _ _ h
      rw [List.length_append] at this
      have := e2 (r[i + 1]!.toNat - 48)
      omega
    · have := fillF_len hs f _ _ h
      rw [List.length_append] at this
      simp at this
      omega
theorem fillTop_len {r s : ByteArray} {cs : List Int} {a z : Nat} (hs : s.size ≤ 60) (hr : r.size ≤ 2000) : ((fillTop r s cs a z).getD ⟨#[]⟩).size ≤ 200000 := by
  unfold fillTop
  cases h : fillF r s cs a z (r.size + 1) 0 [] with
  | none => exact Nat.zero_le _
  | some l =>
    have := fillF_len hs _ _ _ h
    show l.toArray.size ≤ 200000
    simp at this ⊢
    omega

/-- The end of Replace. -/
def finF (s out : ByteArray) (p : Nat) : ByteArray × Int :=
  if 65536 < (out ++ s.extract (min p s.size) s.size).size then (⟨#[]⟩, 4) else (out ++ s.extract (min p s.size) s.size, 0)
/-- The loop of Replace, with fuel. -/
def replF (L : List In) (g : Nat) (s r : ByteArray) : Nat → ByteArray → Nat → Int → ByteArray × Int
  | 0, _, _, _ => (⟨#[]⟩, 4)
  | f + 1, out, p, last =>
    if s.size < p then finF s out p else
    match firstTop L g s p with
    | none => finF s out p
    | some (cs, a, z) =>
      if a < z then
        if 65536 < (out ++ s.extract p a ++ (fillTop r s cs a z).getD ⟨#[]⟩).size then (⟨#[]⟩, 4) else replF L g s r f (out ++ s.extract p a ++ (fillTop r s cs a z).getD ⟨#[]⟩) z (z : Int)
      else if (a : Int) ≠ last then
        if 65536 < (out ++ s.extract p a ++ (fillTop r s cs a z).getD ⟨#[]⟩ ++ s.extract a (min (a + 1) s.size)).size then (⟨#[]⟩, 4) else replF L g s r f (out ++ s.extract p a ++ (fillTop r s cs a z).getD ⟨#[]⟩ ++ s.extract a (min (a + 1) s.size)) (a + 1) (z : Int)
      else
        if 65536 < (out ++ s.extract p a ++ s.extract a (min (a + 1) s.size)).size then (⟨#[]⟩, 4) else replF L g s r f (out ++ s.extract p a ++ s.extract a (min (a + 1) s.size)) (a + 1) (z : Int)
/-- Replace. -/
def replTop (L : List In) (g : Nat) (s r : ByteArray) : ByteArray × Int :=
  match fillTop r ⟨#[]⟩ [] 0 0 with
  | none => (⟨#[]⟩, 49)
  | some _ => replF L g s r (s.size + 2) ⟨#[]⟩ 0 (-1)

end Go.Proofs.Ytfhccmegobbnaaa
