/- This text gives the plain reading of a run of the machine, and the state of its walk. Conditions: those that each theorem names. -/
import Derived.Test.YtfhccmegobbnaaaRegexW
namespace Go.Proofs.Ytfhccmegobbnaaa
open Go.ChangeShapes Go.WideShapes Go.ChangeAt Go.RowKit
set_option linter.unusedVariables false
set_option linter.unusedSimpArgs false

/-- The list of the next position. -/
def stepF (L : List In) (n pos : Nat) (c : Int) : List Th → List Bool × List Th → List Bool × List Th
  | [], st => st
  | t :: l, st => stepF L n pos c l (if accF L[t.1]! c then addF (L.length + 1) L n pos (t.1 + 1) t.2 st else st)
/-- The best match with the one of this position. -/
def bestF (L : List In) (n pos : Nat) (whole : Bool) (l : List Th) (best : Option (List Int × Nat)) : Option (List Int × Nat) :=
  match foundF L l with
  | none => best
  | some cs => if whole = false ∨ pos = n then some (cs, pos) else best
/-- The loop of run, with fuel. -/
def runF : Nat → List In → ByteArray → Bool → Nat → List Th → Option (List Int × Nat) → Option (List Int × Nat)
  | 0, _, _, _, _, _, best => best
  | f + 1, L, s, whole, pos, l, best =>
    if s.size ≤ pos ∨ l = [] then bestF L s.size pos whole l best
    else runF f L s whole (pos + 1) (stepF L s.size (pos + 1) (s[pos]!.toNat : Int) l (List.replicate L.length false, [])).2 (bestF L s.size pos whole l best)
/-- The list at the beginning. -/
def beginF (L : List In) (g : Nat) (n pos : Nat) : List Th := (addF (L.length + 1) L n pos 0 (List.replicate (2 * g) (-1)) (List.replicate L.length false, [])).2
/-- run. -/
def runTop (L : List In) (g : Nat) (s : ByteArray) (pos : Nat) (whole : Bool) : Option (List Int × Nat) :=
  runF (s.size - pos + 1) L s whole pos (beginF L g s.size pos) none

/-- A thread of a valid program. -/
structure TOk (L : List In) (g : Int) (t : Th) : Prop where
  k : t.1 < L.length
  n : (t.2.length : Int) = 2 * g
  o : L[t.1]!.op ≠ 7
theorem addF_ok {L : List In} {g : Int} (h : rightF L g = true) : ∀ (f n pos k : Nat) (cs : List Int) (st : List Bool × List Th), k < L.length → (cs.length : Int) = 2 * g → (∀ t ∈ st.2, TOk L g t) → ∀ t ∈ (addF f L n pos k cs st).2, TOk L g t
  | 0, _, _, _, _, _, _, _, h3 => h3
  | f + 1, n, pos, k, cs, (v, l), hk, hc, h3 => by
    have hs := (right_parts h).2.2.2.2.2 k hk
    rw [addF_step]
    split
    · exact h3
    split
    · rename_i _ h7
      obtain ⟨x, hx, hxn⟩ := sound_jump hs h7
      rw [hx]
      exact addF_ok h f n pos _ cs _ (by simpa using hxn) hc h3
    split
    · rename_i _ _ h6
      obtain ⟨⟨x, hx, hxn⟩, y, hy, hyn⟩ := sound_split hs h6
      rw [hx, hy]
      exact addF_ok h f n pos _ cs _ (by simpa using hyn) hc (addF_ok h f n pos _ cs _ (by simpa using hxn) hc h3)
    split
    · rename_i _ h7 _ h8
      exact addF_ok h f n pos _ _ _ (right_next h hk (by omega) h7) (by rw [List.length_set]; exact hc) h3
    split
    · rename_i _ h7 _ _ h4
      split
      · exact addF_ok h f n pos _ cs _ (right_next h hk (by omega) h7) hc h3
      · exact h3
    split
    · rename_i _ h7 _ _ _ h5
      split
      · exact addF_ok h f n pos _ cs _ (right_next h hk (by omega) h7) hc h3
      · exact h3
    · rename_i _ h7 _ _ _ _
      intro t ht
      rcases List.mem_append.1 ht with ht | ht
      · exact h3 t ht
      · rw [List.mem_singleton] at ht
        subst ht
        exact ⟨hk, hc, h7⟩
theorem acc_op {i : In} {c : Int} (h : accF i c = true) : i.op = 1 ∨ i.op = 2 ∨ i.op = 3 := by
  unfold accF at h
  split at h
  · exact .inl ‹_›
  split at h
  · exact .inr (.inl ‹_›)
  split at h
  · exact .inr (.inr ‹_›)
  · cases h
theorem TOk.next {L : List In} {g : Int} {t : Th} (h : TOk L g t) (hr : rightF L g = true) {c : Int} (ha : accF L[t.1]! c = true) : t.1 + 1 < L.length :=
  right_next hr h.k (by have := acc_op ha; omega) h.o
theorem stepF_ok {L : List In} {g : Int} (h : rightF L g = true) (n pos : Nat) (c : Int) : ∀ (l : List Th) (st : List Bool × List Th), (∀ t ∈ l, TOk L g t) → (∀ t ∈ st.2, TOk L g t) → ∀ t ∈ (stepF L n pos c l st).2, TOk L g t
  | [], _, _, h2 => h2
  | t :: l, st, h1, h2 => by
    unfold stepF
    refine stepF_ok h n pos c l _ (fun u hu => h1 u (List.mem_cons_of_mem _ hu)) ?_
    have ht := h1 t (List.mem_cons_self ..)
    split
    · exact addF_ok h _ n pos _ _ _ (ht.next h ‹_›) ht.n h2
    · exact h2

/-- The best match in memory. -/
def BestV (B vb : Nat) (best : Option (List Int × Nat)) (bv : Value) (be : Int) (W : World) : Prop :=
  match best with
  | none => bv = .slice none 0 0 ∧ be = -1
  | some (cs, e) => Cap B vb bv cs W ∧ be = (e : Int)
/-- The state of run at the head of its loop. -/
structure RS (w : World) (L : List In) (ao : Option Addr) (cap : Nat) (g : Int) (s : ByteArray) (rb mb pos vb : Nat) (v : List Bool) (lv : Value) (l : List Th) (best : Option (List Int × Nat)) (bv : Value) (be : Int) (W : World) : Prop where
  ms : MS w L ao cap g s mb pos vb v lv l W
  rbox : W.heap[rb]? = some (.cells #[.slice ao L.length cap, .int .i64 g] 24 (0, 0))
  hr : w.heap.size ≤ rb
  bst : BestV w.heap.size vb best bv be W
  th : ∀ t ∈ l, TOk L g t
theorem RS.later {w : World} {L : List In} {ao : Option Addr} {cap : Nat} {g : Int} {s : ByteArray} {rb mb pos vb : Nat} {v : List Bool} {lv : Value} {l : List Th} {best : Option (List Int × Nat)} {bv : Value} {be : Int} {W W' : World} (h : RS w L ao cap g s rb mb pos vb v lv l best bv be W) (hb : Below W.heap.size W W') : RS w L ao cap g s rb mb pos vb v lv l best bv be W' :=
  ⟨h.ms.later hb, heap_later h.rbox hb, h.hr, by
    have h1 := h.bst
    unfold BestV at h1 ⊢
    split at h1
    · exact h1
    · exact ⟨h1.1.later hb, h1.2⟩, h.th⟩
theorem Cap.fresh {B vb vb' mb : Nat} {v : Value} {cs : List Int} {W W' : World} {c : Array Value} (h : Cap B vb v cs W) (hm : W.heap[mb]? = some (.cells c 73 (0, 0))) (hg : W.grownBy W' (some mb)) (hv : W.heap.size ≤ vb') : Cap B vb' v cs W' :=
  ⟨own_kept (mb := mb) (vb := vb') (lv := .slice none 0 0) (lv' := .slice none 0 0) h.row ⟨hg.os, hg.tape, hg.output, hg.size, fun b hb h1 _ _ => hg.block b hb (fun e => h1 (Option.some.inj e)), fun _ _ e => e⟩ (own_ne h.row hm (by decide)) (fun e => by have := (own_block h.row e).2.1; omega) (fun b _ e => by cases e),
   fun e => by have := (own_block h.row e).2.1; omega, h.pos⟩
theorem BestV.fresh {B vb vb' mb : Nat} {best : Option (List Int × Nat)} {bv : Value} {be : Int} {W W' : World} {c : Array Value} (h : BestV B vb best bv be W) (hm : W.heap[mb]? = some (.cells c 73 (0, 0))) (hg : W.grownBy W' (some mb)) (hv : W.heap.size ≤ vb') : BestV B vb' best bv be W' := by
  unfold BestV at h ⊢
  split at h
  · exact h
  · exact ⟨h.1.fresh hm hg hv, h.2⟩
theorem BestV.kept {B B' n mb vb : Nat} {best : Option (List Int × Nat)} {bv lv lv' : Value} {be : Int} {W W' : World} {c : Array Value} {xs : List Value} (h : BestV B vb best bv be W) (hm : W.heap[mb]? = some (.cells c 73 (0, 0))) (hr : W.ownsRow B' 79 2 lv n xs) (hk : Kept mb vb lv lv' W W') : BestV B vb best bv be W' := by
  unfold BestV at h ⊢
  split at h
  · exact h
  · exact ⟨h.1.kept hm hr hk, h.2⟩
theorem BestV.form {B vb : Nat} {best : Option (List Int × Nat)} {bv : Value} {be : Int} {W : World} (h : BestV B vb best bv be W) : ∃ ba bn bc, bv = .slice ba bn bc := by
  unfold BestV at h
  split at h
  · exact ⟨_, _, _, h.1⟩
  · obtain ⟨_, ⟨h9, _⟩ | ⟨cb, ccap, _, h9, _⟩⟩ := h.1.row
    · exact ⟨_, _, _, h9⟩
    · exact ⟨_, _, _, h9⟩
theorem BestV.later {B vb : Nat} {best : Option (List Int × Nat)} {bv : Value} {be : Int} {W W' : World} (h : BestV B vb best bv be W) (hb : Below W.heap.size W W') : BestV B vb best bv be W' := by
  unfold BestV at h ⊢
  split at h
  · exact h
  · exact ⟨h.1.later hb, h.2⟩
theorem runF_end {f : Nat} {L : List In} {s : ByteArray} {whole : Bool} {pos : Nat} {l : List Th} {best : Option (List Int × Nat)} (h : s.size ≤ pos ∨ l = []) : runF (f + 1) L s whole pos l best = bestF L s.size pos whole l best := by
  unfold runF; rw [if_pos h]
theorem runF_go {f : Nat} {L : List In} {s : ByteArray} {whole : Bool} {pos : Nat} {l : List Th} {best : Option (List Int × Nat)} (h : ¬ (s.size ≤ pos ∨ l = [])) : runF (f + 1) L s whole pos l best = runF f L s whole (pos + 1) (stepF L s.size (pos + 1) (s[pos]!.toNat : Int) l (List.replicate L.length false, [])).2 (bestF L s.size pos whole l best) := by
  conv => lhs; unfold runF
  rw [if_neg h]
theorem sound_set {n : Nat} {g : Int} {i : In} (h : soundF n g i = true) : i.set.size ≤ 1000000 := by
  have h1 := sound_in h
  have ho := sound_op h
  by_cases h3 : i.op = 3
  · simp [h3, setOk] at h1
    omega
  · have hs : inSame i (onlyF i) = true := by
      cases hs : inSame i (onlyF i) with
      | true => rfl
      | false =>
        unfold soundF at h
        rw [if_neg (by omega), if_neg (by omega), if_pos hs] at h
        cases h
    have := (inSame_iff i (onlyF i)).1 hs
    have h4 : (onlyF i).set = ⟨#[]⟩ := by
      unfold onlyF
      rw [if_neg h3]
      repeat' split
      all_goals rfl
    rw [this, h4]
    exact Nat.zero_le _

end Go.Proofs.Ytfhccmegobbnaaa
