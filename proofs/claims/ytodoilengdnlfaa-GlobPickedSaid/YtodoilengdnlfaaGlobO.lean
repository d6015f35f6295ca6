/- This text says in plain Lean which names match patterns of exact elements, a star between two marked texts, and the escape of a text. Conditions: those that each theorem names. -/
import Derived.Test.YtodoilengdnlfaaGlobM
namespace Go.Proofs.Ytodoilengdnlfaa
open Go.ChangeShapes Go.WideShapes Go.ChangeAt Go.RowKit
set_option linter.unusedVariables false
set_option linter.unusedSimpArgs false

/-- The n bytes of a text from i. -/
def seqL (s : ByteArray) (i n : Nat) : List UInt8 := (List.range n).map fun t => ub s (i + t)
theorem seqL_len (s : ByteArray) (i n : Nat) : (seqL s i n).length = n := by simp [seqL]
theorem seqL_get {s : ByteArray} {i n t : Nat} (h : t < n) : (seqL s i n)[t]? = some (ub s (i + t)) := by simp [seqL, h]
theorem seqL_succ (s : ByteArray) (i n : Nat) : seqL s i (n + 1) = ub s i :: seqL s (i + 1) n := by
  apply List.ext_getElem?
  intro t
  cases t with
  | zero => rw [seqL_get (by omega)]; rfl
  | succ t =>
    rw [List.getElem?_cons_succ]
    by_cases h : t < n
    · rw [seqL_get (by omega), seqL_get h, show i + (t + 1) = i + 1 + t by omega]
    · rw [List.getElem?_eq_none (by rw [seqL_len]; omega), List.getElem?_eq_none (by rw [seqL_len]; omega)]
theorem seqL_all (s : ByteArray) : seqL s 0 s.size = s.data.toList := by
  apply List.ext_getElem?
  intro t
  by_cases h : t < s.size
  · rw [seqL_get h, Nat.zero_add, ← ub_eq h]
    have h2 : t < s.data.toList.length := by simpa using h
    rw [List.getElem?_eq_getElem h2]
    simp
    rfl
  · rw [List.getElem?_eq_none (by rw [seqL_len]; omega), List.getElem?_eq_none (by simpa using h)]
theorem seqL_eq {s t : ByteArray} : (s.size = t.size ∧ ∀ i, i < s.size → ub s i = ub t i) ↔ s = t := by
  constructor
  · rintro ⟨h1, h2⟩
    apply bytes_inj
    rw [← seqL_all, ← seqL_all, ← h1]
    apply List.ext_getElem?
    intro i
    by_cases h : i < s.size
    · rw [seqL_get h, seqL_get h, Nat.zero_add, h2 i h]
    · rw [List.getElem?_eq_none (by rw [seqL_len]; omega), List.getElem?_eq_none (by rw [seqL_len]; omega)]
  · rintro rfl; exact ⟨rfl, fun _ _ => rfl⟩

/-! ### Elements that take one byte each -/
def runF (nm : ByteArray) (es : List Em) (r : Nat → Bool) : Nat → Bool := es.foldl (fun r e => stepN e nm r) r
theorem runF_app (nm : ByteArray) (es fs : List Em) (r : Nat → Bool) : runF nm (es ++ fs) r = runF nm fs (runF nm es r) := by unfold runF; rw [List.foldl_append]
def Ex (e : Em) (b : UInt8) : Prop := e.kind ≠ 2 ∧ ∀ nm i, accB e (gb nm i) = decide (b = ub nm i)
theorem run_exact (nm : ByteArray) (f : UInt8 → Em) (hf : ∀ b, Ex (f b) b) : ∀ (l : List UInt8) (r : Nat → Bool) (j : Nat), (runF nm (l.map f) r j = true ↔ l.length ≤ j ∧ r (j - l.length) = true ∧ ∀ t, t < l.length → l[t]? = some (ub nm (j - l.length + t)))
  | [], r, j => by
    show r j = true ↔ _
    simp
  | b :: l, r, j => by
    have ih := run_exact nm f hf l (stepN (f b) nm r) j
    rw [show runF nm ((b :: l).map f) r j = runF nm (l.map f) (stepN (f b) nm r) j from rfl, ih, List.length_cons]
    constructor
    · rintro ⟨h1, h2, h3⟩
      obtain ⟨i, hi⟩ : ∃ i, i = j - l.length := ⟨_, rfl⟩
      rw [← hi] at h2 h3
      cases i with
      | zero => rw [stepN, if_neg (hf b).1] at h2; cases h2
      | succ i =>
        rw [stepN, if_neg (hf b).1, Bool.and_eq_true, (hf b).2, decide_eq_true_eq] at h2
        have e : j - (l.length + 1) = i := by omega
        refine ⟨by omega, by rw [e]; exact h2.1, fun t ht => ?_⟩
        rw [e]
        cases t with
        | zero => rw [List.getElem?_cons_zero, h2.2]; rfl
        | succ t => rw [List.getElem?_cons_succ, h3 t (by omega), show i + 1 + t = i + (t + 1) by omega]
    · rintro ⟨h1, h2, h3⟩
      obtain ⟨i, hi⟩ : ∃ i, i + 1 = j - l.length := ⟨j - (l.length + 1), by omega⟩
      have e : j - (l.length + 1) = i := by omega
      rw [e] at h2 h3
      rw [← hi]
      refine ⟨by omega, ?_, fun t ht => ?_⟩
      · rw [stepN, if_neg (hf b).1, h2, Bool.true_and, (hf b).2, decide_eq_true_eq]
        have := h3 0 (by omega)
        rw [List.getElem?_cons_zero] at this
        exact Option.some.inj this
      · have := h3 (t + 1) (by omega)
        rw [List.getElem?_cons_succ] at this
        rw [this, show i + 1 + t = i + (t + 1) by omega]
/-- A pattern of exact elements is matched by one name. -/
theorem match_exact {s q nm t : ByteArray} {f : UInt8 → Em} (hf : ∀ b, Ex (f b) b) (he : elems s q = (seqL t 0 t.size).map f) : matchB s q nm = decide (t = nm) := by
  rw [Bool.eq_iff_iff, decide_eq_true_eq]
  unfold matchB
  rw [he]
  have h := run_exact nm f hf (seqL t 0 t.size) (fun j => decide (j = 0)) nm.size
  rw [seqL_len] at h
  refine Iff.trans h ?_
  rw [← seqL_eq]
  constructor
  · rintro ⟨h1, h2, h3⟩
    have h4 : nm.size - t.size = 0 := by simpa using h2
    refine ⟨by omega, fun i hi => ?_⟩
    have := h3 i hi
    rw [seqL_get hi, h4, Nat.zero_add] at this
    exact Option.some.inj this
  · rintro ⟨h1, h2⟩
    have h4 : nm.size - t.size = 0 := by omega
    refine ⟨by omega, by rw [h4]; rfl, fun i hi => ?_⟩
    rw [seqL_get hi, h4, Nat.zero_add, h2 i hi]

def ordE (b : UInt8) : Em := ⟨0, (b.toNat : Int), false, ⟨#[]⟩⟩
theorem ord_ex (b : UInt8) : Ex (ordE b) b := by
  refine ⟨Nat.zero_ne_add_one 1, fun nm i => ?_⟩
  show decide (((ub nm i).toNat : Int) = (b.toNat : Int)) = _
  rw [Bool.eq_iff_iff, decide_eq_true_eq, decide_eq_true_eq]
  constructor
  · intro h
    have : (ub nm i).toNat = b.toNat := by exact_mod_cast h
    exact (UInt8.toNat_inj.1 this).symm
  · rintro rfl; rfl
theorem elemAt_ord {s q : ByteArray} {i : Nat} (h : (elemAt s q i).1.kind = 0) : elemAt s q i = (ordE (ub s i), i + 1) := by
  unfold elemAt at h ⊢
  split
  · rename_i hh; rw [if_pos hh] at h; cases h
  · rename_i hh
    rw [if_neg hh] at h
    split
    · rename_i h2; rw [if_pos h2] at h; cases h
    · rename_i h2
      rw [if_neg h2] at h
      split
      · rename_i h3; rw [if_pos h3] at h; cases h
      · rfl
theorem elemAt_marked {s q : ByteArray} {i : Nat} (h : markB q i = true) : elemAt s q i = (ordE (ub s i), i + 1) := by
  have hb : ∀ c, bareB s q i c = false := fun c => by unfold bareB; rw [h]; simp
  unfold elemAt
  rw [hb, hb, hb]
  rfl
/-- n ordinary elements from i. -/
theorem elK_seg {s q : ByteArray} : ∀ (n i : Nat), i + n ≤ s.size → (∀ k, i ≤ k → k < i + n → elemAt s q k = (ordE (ub s k), k + 1)) → elK s q i = (seqL s i n).map ordE ++ elK s q (i + n)
  | 0, i, _, _ => by rw [Nat.add_zero]; rfl
  | n + 1, i, h1, h2 => by
    rw [elK_step (by omega), h2 i (Nat.le_refl _) (by omega), seqL_succ, elK_seg n (i + 1) (by omega) (fun k h3 h4 => h2 k (by omega) (by omega)), show i + 1 + n = i + (n + 1) by omega]
    rfl
theorem elems_ord {s q : ByteArray} (h : ∀ k, k < s.size → elemAt s q k = (ordE (ub s k), k + 1)) : elems s q = (seqL s 0 s.size).map ordE := by
  unfold elems
  rw [elK_seg s.size 0 (by omega) (fun k _ h2 => h k (by omega)), elK_end (by omega), List.append_nil]
theorem has_ord {s q : ByteArray} (h : elems s q = (seqL s 0 s.size).map ordE) : hasB s q = false := by
  unfold hasB
  rw [h, List.any_map, List.any_eq_false]
  intro b _
  show ¬ decide ((ordE b).kind ≠ 0) = true
  simp [ordE]
/-- A pattern that is marked throughout. -/
theorem elems_marked {s q : ByteArray} (h : ∀ k, k < s.size → markB q k = true) : elems s q = (seqL s 0 s.size).map ordE := elems_ord fun k hk => elemAt_marked (h k hk)
theorem elK_kinds {s q : ByteArray} : ∀ (n i : Nat), s.size - i ≤ n → (∀ e ∈ elK s q i, e.kind = 0) → elK s q i = (seqL s i (s.size - i)).map ordE
  | 0, i, h1, _ => by rw [elK_end (by omega), show s.size - i = 0 by omega]; rfl
  | n + 1, i, h1, h2 => by
    by_cases hi : i < s.size
    · have hs := elK_step (q := q) hi
      have h3 : (elemAt s q i).1.kind = 0 := h2 _ (by rw [hs]; exact List.mem_cons_self)
      rw [elemAt_ord h3] at hs
      rw [hs, show s.size - i = (s.size - (i + 1)) + 1 by omega, seqL_succ, elK_kinds n (i + 1) (by omega) (fun e he => h2 e (by rw [hs]; exact List.mem_cons_of_mem _ he))]
      rfl
    · rw [elK_end (by omega), show s.size - i = 0 by omega]; rfl
theorem elems_plain {s q : ByteArray} (h : hasB s q = false) : elems s q = (seqL s 0 s.size).map ordE := by
  have := elK_kinds (s := s) (q := q) s.size 0 (by omega) (fun e he => by
    unfold hasB at h
    rw [List.any_eq_false] at h
    have := h e he
    simpa using this)
  exact this
theorem mark_ones {n k : Nat} (h : k < n) : markB (onesB n) k = true := by
  unfold markB
  have hs := onesB_size n
  rw [decide_eq_true (by omega), Bool.true_and, decide_eq_true_eq, gb_eq (by omega)]
  have : (onesB n)[k]'(by omega) = 49 := by
    show (List.replicate n (49 : UInt8)).toArray[k]'(by simpa using h) = 49
    simp
  rw [this]; rfl
theorem literal_marked (s nm : ByteArray) : hasB s (onesB s.size) = false ∧ matchB s (onesB s.size) nm = decide (s = nm) := by
  have h := elems_marked (s := s) (q := onesB s.size) fun k hk => mark_ones hk
  exact ⟨has_ord h, match_exact ord_ex h⟩
theorem literal_plain {s q : ByteArray} (nm : ByteArray) (h : hasB s q = false) : matchB s q nm = decide (s = nm) := match_exact ord_ex (elems_plain h)

/-! ### The escape of a text -/
def escE (b : UInt8) : Em := if ((b.toNat : Int) = 42 ∨ (b.toNat : Int) = 63) ∨ (b.toNat : Int) = 91 then ⟨3, 0, false, ⟨#[b, b]⟩⟩ else ordE b
theorem esc_ex (b : UInt8) : Ex (escE b) b := by
  unfold escE
  split
  · rename_i hb
    refine ⟨fun h => absurd h (by simp), fun nm i => ?_⟩
    have hn : accB ⟨3, 0, false, ⟨#[b, b]⟩⟩ (gb nm i) = (decide (gb nm i ≠ 47) && (((decide (((b.toNat : Nat) : Int) ≤ gb nm i)) && (decide (gb nm i ≤ ((b.toNat : Nat) : Int)))))) := by
      unfold accB
      rw [if_neg (by simp), if_neg (by simp), show (ByteArray.mk #[b, b]).size / 2 = 1 from by simp [ByteArray.size]]
      have e0 : gb ⟨#[b, b]⟩ (2 * 0) = (b.toNat : Int) := rfl
      have e1 : gb ⟨#[b, b]⟩ (2 * 0 + 1) = (b.toNat : Int) := rfl
      simp only [inF, e0, e1, Bool.false_or, Bool.bne_false]
    rw [hn, Bool.eq_iff_iff, Bool.and_eq_true, Bool.and_eq_true, decide_eq_true_eq, decide_eq_true_eq, decide_eq_true_eq, decide_eq_true_eq]
    unfold gb
    constructor
    · rintro ⟨_, h2, h3⟩
      have : (b.toNat : Int) = ((ub nm i).toNat : Int) := by omega
      exact UInt8.toNat_inj.1 (by exact_mod_cast this)
    · rintro rfl
      exact ⟨by omega, by omega, by omega⟩
  · exact ord_ex b
theorem ub_list (l : List UInt8) (i : Nat) : ub ⟨l.toArray⟩ i = l[i]?.getD 0 := by
  unfold ub
  split
  · rename_i h
    have h2 : i < l.length := by simpa [ByteArray.size] using h
    rw [List.getElem?_eq_getElem h2]
    rfl
  · rename_i h
    have h2 : l.length ≤ i := by simpa [ByteArray.size] using h
    rw [List.getElem?_eq_none h2]; rfl
theorem escB_cut (s : ByteArray) (i : Nat) (hi : i < s.size) : ∃ rest, escL s s.size = escL s i ++ (escOf (ub s i) ++ rest) := by
  have : ∀ d, ∃ rest, escL s (i + 1 + d) = escL s i ++ (escOf (ub s i) ++ rest) := by
    intro d
    induction d with
    | zero => exact ⟨[], by rw [Nat.add_zero, escL_succ, List.append_nil]⟩
    | succ d ih =>
      obtain ⟨rest, h⟩ := ih
      exact ⟨rest ++ escOf (ub s (i + 1 + d)), by rw [show i + 1 + (d + 1) = (i + 1 + d) + 1 by omega, escL_succ, h]; simp⟩
  obtain ⟨rest, h⟩ := this (s.size - (i + 1))
  rw [show i + 1 + (s.size - (i + 1)) = s.size by omega] at h
  exact ⟨rest, h⟩
theorem bare_none (s : ByteArray) (i : Nat) (c : Int) (h : i < s.size) : bareB s ⟨#[]⟩ i c = decide (gb s i = c) := by
  have : markB ⟨#[]⟩ i = false := by unfold markB; rw [decide_eq_false (by simp [ByteArray.size])]; rfl
  unfold bareB
  rw [this, decide_eq_true h]; simp
theorem esc_elem (s : ByteArray) (i : Nat) (hi : i < s.size) : (escL s i).length < (escB s).size ∧ elemAt (escB s) ⟨#[]⟩ (escL s i).length = (escE (ub s i), (escL s (i + 1)).length) := by
  obtain ⟨rest, hr⟩ := escB_cut s i hi
  have hB : escB s = ⟨(escL s i ++ (escOf (ub s i) ++ rest)).toArray⟩ := by unfold escB; rw [hr]
  have hS : (escL s (i + 1)).length = (escL s i).length + (escOf (ub s i)).length := by rw [escL_succ, List.length_append]
  generalize hp : (escL s i).length = p at hS ⊢
  have hz : (escB s).size = p + ((escOf (ub s i)).length + rest.length) := by rw [hB]; show (List.toArray _).size = _; simp [hp]
  have hg : ∀ t v, (escOf (ub s i))[t]? = some v → ub (escB s) (p + t) = v := fun t v h => by
    rw [hB, ub_list, List.getElem?_append_right (by omega), hp, show p + t - p = t by omega, List.getElem?_append_left (List.getElem?_eq_some_iff.1 h).1, h]; rfl
  generalize ub s i = b at hg hz hS hB ⊢
  generalize escB s = P at hz hg hB ⊢
  clear hB hr
  rw [hS]
  by_cases hb : ((b.toNat : Int) = 42 ∨ (b.toNat : Int) = 63) ∨ (b.toNat : Int) = 91
  · rw [esc_special hb] at hz hg ⊢
    simp only [List.length_cons, List.length_nil] at hz ⊢
    have g0 : ub P p = 91 := hg 0 91 rfl
    have g1 : ub P (p + 1) = b := hg 1 b rfl
    have g2 : ub P (p + 2) = 93 := hg 2 93 rfl
    have c0 : bareB P ⟨#[]⟩ p 91 = true := by rw [bare_none _ _ _ (by omega)]; unfold gb; rw [g0]; decide
    have c1 : ∀ c, bareB P ⟨#[]⟩ (p + 1) c = decide ((b.toNat : Int) = c) := fun c => by rw [bare_none _ _ _ (by omega)]; unfold gb; rw [g1]
    have c2 : bareB P ⟨#[]⟩ (p + 2) 93 = true := by rw [bare_none _ _ _ (by omega)]; unfold gb; rw [g2]; decide
    have hc : closeN P ⟨#[]⟩ p = p + 2 := by
      unfold closeN
      refine scan_hit _ _ _ _ (by omega) (by omega) c2 (fun k h1 h2 => ?_)
      have : k = p + 1 := by omega
      subst this
      show bareB P ⟨#[]⟩ (p + 1) 93 = false
      rw [c1]
      exact decide_eq_false (by omega)
    refine ⟨by omega, ?_⟩
    unfold elemAt
    rw [c0, hc, decide_eq_true (by omega), if_pos (by rfl)]
    have hng : negB P ⟨#[]⟩ p (p + 2) = false := by
      unfold negB
      rw [c1, decide_eq_false (by omega : ¬ (b.toNat : Int) = 94), Bool.and_false]
    have hset : setK P ⟨#[]⟩ (p + 2) (p + 1) = [b, b] := by
      rw [setK_one (by omega) (by rw [decide_eq_false (by omega)]; rfl), setK_end (by omega), g1]; rfl
    unfold classE
    rw [hng, if_neg (by simp), hset]
    unfold escE
    rw [if_pos hb]
  · have h1 : ¬ (b.toNat : Int) = 42 := fun h => hb (.inl (.inl h))
    have h2 : ¬ (b.toNat : Int) = 63 := fun h => hb (.inl (.inr h))
    have h3 : ¬ (b.toNat : Int) = 91 := fun h => hb (.inr h)
    rw [esc_plain h1 h2 h3] at hz hg ⊢
    simp only [List.length_cons, List.length_nil] at hz ⊢
    have g0 : ub P p = b := hg 0 b rfl
    have c0 : ∀ c, bareB P ⟨#[]⟩ p c = decide ((b.toNat : Int) = c) := fun c => by rw [bare_none _ _ _ (by omega)]; unfold gb; rw [g0]
    refine ⟨by omega, ?_⟩
    have hk : elemAt P ⟨#[]⟩ p = (ordE (ub P p), p + 1) := by
      unfold elemAt
      rw [c0, c0, c0, decide_eq_false h1, decide_eq_false h2, decide_eq_false h3]
      rfl
    rw [hk, g0]
    unfold escE
    rw [if_neg hb]
theorem esc_elK (s : ByteArray) : ∀ (n i : Nat), i + n = s.size → elK (escB s) ⟨#[]⟩ (escL s i).length = (seqL s i n).map escE
  | 0, i, h => by
    rw [Nat.add_zero] at h
    subst h
    rw [elK_end]
    · rfl
    · show (escL s s.size).toArray.size ≤ _
      simp
  | n + 1, i, h => by
    obtain ⟨h1, h2⟩ := esc_elem s i (by omega)
    rw [elK_step h1, h2, seqL_succ, esc_elK s n (i + 1) (by omega)]
    rfl
theorem esc_match (s nm : ByteArray) : matchB (escB s) ⟨#[]⟩ nm = decide (s = nm) :=
  match_exact esc_ex (esc_elK s s.size 0 (by omega))
theorem escL_le (s : ByteArray) : ∀ i, (escL s i).length ≤ 3 * i
  | 0 => Nat.le_refl _
  | i + 1 => by
    have := escL_le s i
    rw [escL_succ, List.length_append]
    have h2 : (escOf (ub s i)).length ≤ 3 := by unfold escOf; split <;> simp
    omega
theorem escB_size (s : ByteArray) : (escB s).size ≤ 3 * s.size := by
  have := escL_le s s.size
  show (escL s s.size).toArray.size ≤ _
  simpa using this

/-! ### A star between two marked texts -/
def starE : Em := ⟨2, 0, false, ⟨#[]⟩⟩
def starP (a b : ByteArray) : ByteArray := a ++ ⟨#[42]⟩ ++ b
def starQ (a b : ByteArray) : ByteArray := onesB a.size ++ ⟨#[48]⟩ ++ onesB b.size
theorem ub_data (s : ByteArray) (i : Nat) : ub s i = s.data.toList[i]?.getD 0 := by
  have := ub_list s.data.toList i
  rwa [show (⟨s.data.toList.toArray⟩ : ByteArray) = s from by simp] at this
theorem star_data (a x b : ByteArray) : (a ++ x ++ b).data.toList = a.data.toList ++ (x.data.toList ++ b.data.toList) := by simp
theorem star_sz (a b : ByteArray) : (starP a b).size = a.size + (1 + b.size) := by
  show (starP a b).data.size = _
  rw [← Array.length_toList, show (starP a b).data.toList = _ from star_data a ⟨#[42]⟩ b]
  simp [Nat.add_comm]
theorem starQ_sz (a b : ByteArray) : (starQ a b).size = a.size + (1 + b.size) := by
  show (starQ a b).data.size = _
  rw [← Array.length_toList, show (starQ a b).data.toList = _ from star_data (onesB a.size) ⟨#[48]⟩ (onesB b.size)]
  simp only [List.length_append, Array.length_toList]
  have h1 := onesB_size a.size
  have h2 := onesB_size b.size
  change (onesB a.size).data.size = _ at h1
  change (onesB b.size).data.size = _ at h2
  rw [h1, h2]; rfl
theorem star_ub1 {a x b : ByteArray} {k : Nat} (h : k < a.size) : ub (a ++ x ++ b) k = ub a k := by
  rw [ub_data, star_data, List.getElem?_append_left (by simpa using h), ← ub_data]
theorem star_ub2 {a x b : ByteArray} (h : x.size = 1) : ub (a ++ x ++ b) a.size = ub x 0 := by
  rw [ub_data, star_data, List.getElem?_append_right (by simp)]
  have hx : (0 : Nat) < x.data.toList.length := by simp; change 0 < x.size; omega
  rw [show a.size - a.data.toList.length = 0 by simp, List.getElem?_append_left hx, ← ub_data]
theorem star_ub3 {a x b : ByteArray} (h : x.size = 1) (t : Nat) : ub (a ++ x ++ b) (a.size + 1 + t) = ub b t := by
  have hx : x.data.toList.length = 1 := by simpa using h
  have ha : a.data.toList.length = a.size := by simp
  rw [ub_data, star_data, List.getElem?_append_right (by rw [ha]; omega), ha, List.getElem?_append_right (by rw [hx]; omega), hx, show a.size + 1 + t - a.size - 1 = t by omega, ← ub_data]
theorem mark_ub {q : ByteArray} {i : Nat} (h : i < q.size) : markB q i = decide (ub q i = 49) := by
  unfold markB gb
  rw [decide_eq_true h, Bool.true_and, Bool.eq_iff_iff, decide_eq_true_eq, decide_eq_true_eq]
  constructor
  · intro e
    have : (ub q i).toNat = (49 : UInt8).toNat := by have : ((ub q i).toNat : Int) = ((49 : UInt8).toNat : Int) := e; exact_mod_cast this
    exact UInt8.toNat_inj.1 this
  · intro e; rw [e]; rfl
theorem ones_ub {n k : Nat} (h : k < n) : ub (onesB n) k = 49 := by
  have := mark_ones h
  rw [mark_ub (by rw [onesB_size]; exact h), decide_eq_true_eq] at this
  exact this
theorem star_elems (a b : ByteArray) : elems (starP a b) (starQ a b) = (seqL a 0 a.size).map ordE ++ (starE :: (seqL b 0 b.size).map ordE) := by
  have hs := star_sz a b
  have hq := starQ_sz a b
  have m1 : ∀ k, k < a.size → elemAt (starP a b) (starQ a b) k = (ordE (ub (starP a b) k), k + 1) := fun k hk => elemAt_marked (by
    rw [mark_ub (by omega), decide_eq_true_eq]
    have : ub (starQ a b) k = ub (onesB a.size) k := star_ub1 (by rw [onesB_size]; exact hk)
    rw [this, ones_ub hk])
  have o1 := onesB_size a.size
  have m3 : ∀ k, a.size + 1 ≤ k → k < a.size + 1 + b.size → elemAt (starP a b) (starQ a b) k = (ordE (ub (starP a b) k), k + 1) := fun k h1 h2 => elemAt_marked (by
    rw [mark_ub (by omega), decide_eq_true_eq]
    have : ub (starQ a b) ((onesB a.size).size + 1 + (k - (a.size + 1))) = ub (onesB b.size) (k - (a.size + 1)) := star_ub3 rfl _
    rw [o1, show a.size + 1 + (k - (a.size + 1)) = k by omega] at this
    rw [this, ones_ub (by omega)])
  have m2 : elemAt (starP a b) (starQ a b) a.size = (starE, a.size + 1) := by
    have u : ub (starP a b) a.size = 42 := star_ub2 (x := ⟨#[42]⟩) rfl
    have v : ub (starQ a b) a.size = 48 := by
      have : ub (starQ a b) (onesB a.size).size = 48 := star_ub2 (x := ⟨#[48]⟩) rfl
      rwa [o1] at this
    have hm : markB (starQ a b) a.size = false := by rw [mark_ub (by omega), v]; decide
    have hb : ∀ c, bareB (starP a b) (starQ a b) a.size c = decide ((42 : Int) = c) := fun c => by
      rw [bare_of (by omega), hm]
      unfold gb
      rw [u]
      simp
    unfold elemAt
    rw [hb, hb, hb]
    rfl
  unfold elems
  rw [elK_seg a.size 0 (by omega) (fun k _ h2 => m1 k (by omega)), Nat.zero_add, elK_step (by omega), m2, elK_seg b.size (a.size + 1) (by omega) m3, elK_end (by omega), List.append_nil]
  have e1 : seqL (starP a b) 0 a.size = seqL a 0 a.size := List.map_congr_left fun t ht => by
    rw [Nat.zero_add]; exact star_ub1 (List.mem_range.1 ht)
  have e2 : seqL (starP a b) (a.size + 1) b.size = seqL b 0 b.size := List.map_congr_left fun t ht => by
    rw [Nat.zero_add]; exact star_ub3 rfl t
  rw [e1, e2]
theorem run_star (nm : ByteArray) (r : Nat → Bool) : ∀ j, (stepN starE nm r j = true ↔ ∃ i, i ≤ j ∧ r i = true ∧ ∀ t, i ≤ t → t < j → gb nm t ≠ 47)
  | 0 => by
    rw [stepN, if_pos (show starE.kind = 2 from rfl)]
    constructor
    · intro h; exact ⟨0, Nat.le_refl _, h, fun t _ h2 => absurd h2 (Nat.not_lt_zero _)⟩
    · rintro ⟨i, h1, h2, _⟩
      have : i = 0 := by omega
      subst this; exact h2
  | j + 1 => by
    rw [stepN, if_pos (show starE.kind = 2 from rfl), Bool.or_eq_true, Bool.and_eq_true, run_star nm r j, decide_eq_true_eq]
    constructor
    · rintro (h | ⟨⟨i, h1, h2, h3⟩, h4⟩)
      · exact ⟨j + 1, Nat.le_refl _, h, fun t _ h2 => by omega⟩
      · refine ⟨i, by omega, h2, fun t h5 h6 => ?_⟩
        rcases (by omega : t < j ∨ t = j) with h | h
        · exact h3 t h5 h
        · rw [h]; exact h4
    · rintro ⟨i, h1, h2, h3⟩
      by_cases e : i = j + 1
      · subst e; exact .inl h2
      · exact .inr ⟨⟨i, by omega, h2, fun t h5 h6 => h3 t h5 (by omega)⟩, h3 j (by omega) (by omega)⟩
/-- The names that a star between two marked texts matches. -/
theorem star_match (a b nm : ByteArray) : matchB (starP a b) (starQ a b) nm = true ↔ a.size + b.size ≤ nm.size ∧ (∀ t, t < a.size → ub a t = ub nm t) ∧ (∀ t, t < b.size → ub b t = ub nm (nm.size - b.size + t)) ∧ ∀ t, a.size ≤ t → t < nm.size - b.size → gb nm t ≠ 47 := by
  unfold matchB
  rw [star_elems]
  have h0 : reachF nm ((seqL a 0 a.size).map ordE ++ (starE :: (seqL b 0 b.size).map ordE)) = runF nm ((seqL b 0 b.size).map ordE) (stepN starE nm (runF nm ((seqL a 0 a.size).map ordE) (fun j => decide (j = 0)))) := by
    show runF nm _ _ = _
    rw [runF_app]
    rfl
  rw [h0]
  have h1 := run_exact nm ordE ord_ex (seqL b 0 b.size) (stepN starE nm (runF nm ((seqL a 0 a.size).map ordE) (fun j => decide (j = 0)))) nm.size
  rw [seqL_len] at h1
  refine Iff.trans h1 ?_
  rw [run_star]
  have h2 : ∀ i, (runF nm ((seqL a 0 a.size).map ordE) (fun j => decide (j = 0)) i = true ↔ i = a.size ∧ ∀ t, t < a.size → ub a t = ub nm t) := fun i => by
    have := run_exact nm ordE ord_ex (seqL a 0 a.size) (fun j => decide (j = 0)) i
    rw [seqL_len] at this
    refine Iff.trans this ?_
    constructor
    · rintro ⟨g1, g2, g3⟩
      have g4 : i - a.size = 0 := by simpa using g2
      refine ⟨by omega, fun t ht => ?_⟩
      have := g3 t ht
      rw [seqL_get ht, g4, Nat.zero_add] at this
      exact Option.some.inj this
    · rintro ⟨rfl, g3⟩
      refine ⟨Nat.le_refl _, by simp, fun t ht => ?_⟩
      rw [seqL_get ht, Nat.sub_self, Nat.zero_add, g3 t ht]
  constructor
  · rintro ⟨g1, ⟨i, g2, g3, g4⟩, g5⟩
    obtain ⟨rfl, g6⟩ := (h2 i).1 g3
    refine ⟨by omega, g6, fun t ht => ?_, g4⟩
    have := g5 t ht
    rw [seqL_get ht, Nat.zero_add] at this
    exact Option.some.inj this
  · rintro ⟨g1, g2, g3, g4⟩
    refine ⟨by omega, ⟨a.size, by omega, (h2 _).2 ⟨rfl, g2⟩, g4⟩, fun t ht => ?_⟩
    rw [seqL_get ht, Nat.zero_add, g3 t ht]

end Go.Proofs.Ytodoilengdnlfaa
