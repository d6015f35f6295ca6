/- This text proves which instructions a run of the machine reaches, and that its match is the leftmost longest one of them. It has no program in sight. Conditions: those that each theorem names. -/
import Derived.Test.YtfhccmegobbnaaaRegexZO
namespace Go.Proofs.Ytfhccmegobbnaaa
open Go.ChangeShapes Go.WideShapes Go.ChangeAt Go.RowKit
set_option linter.unusedVariables false
set_option linter.unusedSimpArgs false

/-- Where a thread may go on at a position without a byte. -/
def epsF (L : List In) (n pos k : Nat) : List Nat :=
  if L[k]!.op = 7 then [L[k]!.x.toNat] else if L[k]!.op = 6 then [L[k]!.x.toNat, L[k]!.y.toNat] else if L[k]!.op = 8 then [k + 1]
  else if L[k]!.op = 4 then (if pos = 0 then [k + 1] else []) else if L[k]!.op = 5 then (if pos = n then [k + 1] else []) else []
/-- A thread stays at the instruction. -/
def Stays (L : List In) (k : Nat) : Prop := L[k]!.op ≠ 7 ∧ L[k]!.op ≠ 6 ∧ L[k]!.op ≠ 8 ∧ L[k]!.op ≠ 4 ∧ L[k]!.op ≠ 5
inductive EpsR (L : List In) (n pos : Nat) : Nat → Nat → Prop
  | refl (k : Nat) : EpsR L n pos k k
  | step {k k' m : Nat} : k' ∈ epsF L n pos k → EpsR L n pos k' m → EpsR L n pos k m
theorem EpsR.snoc {L : List In} {n pos k m m' : Nat} (h : EpsR L n pos k m) (h2 : m' ∈ epsF L n pos m) : EpsR L n pos k m' := by
  induction h with
  | refl k => exact .step h2 (.refl _)
  | step h1 _ ih => exact .step h1 (ih h2)
/-- What a call of add does to what was visited, and to the list. -/
structure Clo (L : List In) (n pos : Nat) (ks : List Nat) (st st' : List Bool × List Th) : Prop where
  len : st'.1.length = st.1.length
  keep : ∀ x : Nat, st.1[x]! = true → st'.1[x]! = true
  all : ∀ k ∈ ks, st'.1[k]! = true
  src : ∀ x : Nat, st'.1[x]! = true → st.1[x]! = true ∨ ∃ k ∈ ks, EpsR L n pos k x
  clo : ∀ x : Nat, st'.1[x]! = true → ¬ st.1[x]! = true → ∀ y ∈ epsF L n pos x, st'.1[y]! = true
  lst : ∀ x : Nat, (∃ t ∈ st'.2, t.1 = x) ↔ ((∃ t ∈ st.2, t.1 = x) ∨ (st'.1[x]! = true ∧ ¬ st.1[x]! = true ∧ Stays L x))
theorem Clo.nil {L : List In} {n pos : Nat} (st : List Bool × List Th) : Clo L n pos [] st st :=
  ⟨rfl, fun _ h => h, fun _ h => (by cases h), fun _ h => .inl h, fun _ h h2 => absurd h h2, fun x => ⟨.inl, fun h => h.elim id (fun h => absurd h.1 h.2.1)⟩⟩
theorem Clo.seen {L : List In} {n pos k : Nat} {st : List Bool × List Th} (h : st.1[k]! = true) : Clo L n pos [k] st st :=
  ⟨rfl, fun _ h => h, fun _ h2 => by rw [List.mem_singleton] at h2; subst h2; exact h, fun _ h => .inl h, fun _ h h2 => absurd h h2, fun x => ⟨.inl, fun h => h.elim id (fun h => absurd h.1 h.2.1)⟩⟩
theorem Clo.trans {L : List In} {n pos : Nat} {ks ks' : List Nat} {a b c : List Bool × List Th} (h : Clo L n pos ks a b) (h' : Clo L n pos ks' b c) : Clo L n pos (ks ++ ks') a c := by
  refine ⟨h'.len.trans h.len, fun x hx => h'.keep x (h.keep x hx), fun k hk => ?_, fun x hx => ?_, fun x hx hn y hy => ?_, fun x => ?_⟩
  · rcases List.mem_append.1 hk with hk | hk
    · exact h'.keep _ (h.all k hk)
    · exact h'.all k hk
  · rcases h'.src x hx with h1 | ⟨k, hk, h1⟩
    · rcases h.src x h1 with h2 | ⟨k, hk, h2⟩
      · exact .inl h2
      · exact .inr ⟨k, List.mem_append.2 (.inl hk), h2⟩
    · exact .inr ⟨k, List.mem_append.2 (.inr hk), h1⟩
  · by_cases hb : b.1[x]! = true
    · exact h'.keep y (h.clo x hb hn y hy)
    · exact h'.clo x hx hb y hy
  · rw [h'.lst, h.lst]
    by_cases hb : b.1[x]! = true
    · have hc := h'.keep x hb
      constructor
      · rintro ((h1 | h1) | h1)
        · exact .inl h1
        · exact .inr ⟨hc, h1.2⟩
        · exact absurd hb h1.2.1
      · rintro (h1 | h1)
        · exact .inl (.inl h1)
        · exact .inl (.inr ⟨hb, h1.2⟩)
    · have ha : ¬ a.1[x]! = true := fun h1 => hb (h.keep x h1)
      constructor
      · rintro ((h1 | h1) | h1)
        · exact .inl h1
        · exact absurd h1.1 hb
        · exact .inr ⟨h1.1, ha, h1.2.2⟩
      · rintro (h1 | h1)
        · exact .inl (.inl h1)
        · exact .inr ⟨h1.1, hb, h1.2.2⟩
theorem set_get {v : List Bool} {k : Nat} (hk : k < v.length) (x : Nat) : (v.set k true)[x]! = true ↔ x = k ∨ v[x]! = true := by
  by_cases hx : x < v.length
  · rw [getElem!_pos (v.set k true) x (by rw [List.length_set]; exact hx), getElem!_pos v x hx, List.getElem_set]
    by_cases e : k = x
    · rw [if_pos e]; simp [e]
    · rw [if_neg e]
      constructor
      · exact .inr
      · rintro (h | h)
        · exact absurd h.symm e
        · exact h
  · rw [getElem!_neg (v.set k true) x (by rw [List.length_set]; exact hx), getElem!_neg v x hx]
    constructor
    · exact .inr
    · rintro (h | h)
      · omega
      · exact h
theorem Clo.node {L : List In} {n pos k : Nat} {v : List Bool} {l : List Th} {st' : List Bool × List Th} (hv : v[k]! = false) (hk : k < v.length) (hs : ¬ Stays L k) (h : Clo L n pos (epsF L n pos k) (v.set k true, l) st') : Clo L n pos [k] (v, l) st' := by
  have hk' : st'.1[k]! = true := h.keep k ((set_get hk k).2 (.inl rfl))
  refine ⟨by rw [h.len]; simp, fun x hx => h.keep x ((set_get hk x).2 (.inr hx)), fun x hx => by rw [List.mem_singleton] at hx; subst hx; exact hk', fun x hx => ?_, fun x hx hn y hy => ?_, fun x => ?_⟩
  · rcases h.src x hx with h1 | ⟨m, hm, h1⟩
    · rcases (set_get hk x).1 h1 with h2 | h2
      · exact .inr ⟨k, List.mem_singleton.2 rfl, by rw [h2]; exact .refl _⟩
      · exact .inl h2
    · exact .inr ⟨k, List.mem_singleton.2 rfl, .step hm h1⟩
  · by_cases e : x = k
    · subst e
      exact h.all y hy
    · exact h.clo x hx (fun h1 => by rcases (set_get hk x).1 h1 with h2 | h2; exact e h2; exact hn h2) y hy
  · rw [h.lst]
    constructor
    · rintro (h1 | h1)
      · exact .inl h1
      · exact .inr ⟨h1.1, fun h2 => h1.2.1 ((set_get hk x).2 (.inr h2)), h1.2.2⟩
    · rintro (h1 | h1)
      · exact .inl h1
      · refine .inr ⟨h1.1, fun h2 => ?_, h1.2.2⟩
        rcases (set_get hk x).1 h2 with h3 | h3
        · subst h3; exact hs h1.2.2
        · exact h1.2.1 h3
theorem eps_stays {L : List In} {n pos k : Nat} (h : Stays L k) : epsF L n pos k = [] := by
  obtain ⟨h1, h2, h3, h4, h5⟩ := h
  unfold epsF
  rw [if_neg h1, if_neg h2, if_neg h3, if_neg h4, if_neg h5]
theorem Clo.stop {L : List In} {n pos k : Nat} {v : List Bool} {l : List Th} {cs : List Int} (hv : v[k]! = false) (hk : k < v.length) (hs : Stays L k) : Clo L n pos [k] (v, l) (v.set k true, l ++ [(k, cs)]) := by
  refine ⟨by simp, fun x hx => (set_get hk x).2 (.inr hx), fun x hx => by rw [List.mem_singleton] at hx; subst hx; exact (set_get hk x).2 (.inl rfl), fun x hx => ?_, fun x hx hn y hy => ?_, fun x => ?_⟩
  · rcases (set_get hk x).1 hx with h2 | h2
    · exact .inr ⟨k, List.mem_singleton.2 rfl, by rw [h2]; exact .refl _⟩
    · exact .inl h2
  · rcases (set_get hk x).1 hx with h2 | h2
    · subst h2
      rw [eps_stays hs] at hy
      cases hy
    · exact absurd h2 hn
  · simp only [List.mem_append, List.mem_singleton]
    constructor
    · rintro ⟨t, ht | ht, h1⟩
      · exact .inl ⟨t, ht, h1⟩
      · subst ht
        simp only [] at h1
        subst h1
        exact .inr ⟨(set_get hk k).2 (.inl rfl), by rw [hv]; simp, hs⟩
    · rintro (⟨t, ht, h1⟩ | h1)
      · exact ⟨t, .inl ht, h1⟩
      · rcases (set_get hk x).1 h1.1 with h2 | h2
        · exact ⟨(k, cs), .inr rfl, h2.symm⟩
        · exact absurd h2 h1.2.1
theorem addF_clo {L : List In} {g : Int} (h : rightF L g = true) {n pos : Nat} : ∀ (f k : Nat) (cs : List Int) (st : List Bool × List Th), k < L.length → st.1.length = L.length → st.1.count false < f → Clo L n pos [k] st (addF f L n pos k cs st)
  | 0, _, _, _, _, _, hf => absurd hf (Nat.not_lt_zero _)
  | f + 1, k, cs, (v, l), hk, hl, hf => by
    simp only [] at hl hf
    cases hv : v[k]! with
    | true => rw [addF_seen hv]; exact Clo.seen hv
    | false =>
    have hkv : k < v.length := by omega
    have hct := count_set v k hkv hv
    have hl2 : (v.set k true).length = L.length := by rw [List.length_set]; exact hl
    have hs := (right_parts h).2.2.2.2.2 k hk
    rw [addF_step, if_neg (by rw [hv]; simp)]
    by_cases h7 : L[k]!.op = 7
    · rw [if_pos h7]
      obtain ⟨x, hx, hxn⟩ := sound_jump hs h7
      refine Clo.node hv hkv (fun h1 => h1.1 h7) ?_
      unfold epsF
      rw [if_pos h7]
      exact addF_clo h f _ cs _ (by rw [hx]; simpa using hxn) hl2 (by show (v.set k true).count false < f; omega)
    by_cases h6 : L[k]!.op = 6
    · rw [if_neg h7, if_pos h6]
      obtain ⟨⟨x, hx, hxn⟩, y, hy, hyn⟩ := sound_split hs h6
      refine Clo.node hv hkv (fun h1 => h1.2.1 h6) ?_
      unfold epsF
      rw [if_neg h7, if_pos h6]
      have c1 := addF_clo h (n := n) (pos := pos) f L[k]!.x.toNat cs (v.set k true, l) (by rw [hx]; simpa using hxn) hl2 (by show (v.set k true).count false < f; omega)
      have h3 := addF_count f L n pos L[k]!.x.toNat cs (v.set k true, l)
      exact c1.trans (addF_clo h f _ cs _ (by rw [hy]; simpa using hyn) (by rw [addF_len]; exact hl2) (by simp only [] at h3; omega))
    by_cases h8 : L[k]!.op = 8
    · rw [if_neg h7, if_neg h6, if_pos h8]
      refine Clo.node hv hkv (fun h1 => h1.2.2.1 h8) ?_
      unfold epsF
      rw [if_neg h7, if_neg h6, if_pos h8]
      exact addF_clo h f _ _ _ (right_next h hk (by omega) h7) hl2 (by show (v.set k true).count false < f; omega)
    by_cases h4 : L[k]!.op = 4
    · rw [if_neg h7, if_neg h6, if_neg h8, if_pos h4]
      refine Clo.node hv hkv (fun h1 => h1.2.2.2.1 h4) ?_
      unfold epsF
      rw [if_neg h7, if_neg h6, if_neg h8, if_pos h4]
      by_cases hp : pos = 0
      · rw [if_pos hp, if_pos hp]
        exact addF_clo h f _ _ _ (right_next h hk (by omega) h7) hl2 (by show (v.set k true).count false < f; omega)
      · rw [if_neg hp, if_neg hp]
        exact Clo.nil _
    by_cases h5 : L[k]!.op = 5
    · rw [if_neg h7, if_neg h6, if_neg h8, if_neg h4, if_pos h5]
      refine Clo.node hv hkv (fun h1 => h1.2.2.2.2 h5) ?_
      unfold epsF
      rw [if_neg h7, if_neg h6, if_neg h8, if_neg h4, if_pos h5]
      by_cases hp : pos = n
      · rw [if_pos hp, if_pos hp]
        exact addF_clo h f _ _ _ (right_next h hk (by omega) h7) hl2 (by show (v.set k true).count false < f; omega)
      · rw [if_neg hp, if_neg hp]
        exact Clo.nil _
    rw [if_neg h7, if_neg h6, if_neg h8, if_neg h4, if_neg h5]
    exact Clo.stop hv hkv ⟨h7, h6, h8, h4, h5⟩
/-- The instructions behind those that accept a byte. -/
def nexts (L : List In) (c : Int) : List Th → List Nat
  | [] => []
  | t :: l => if accF L[t.1]! c = true then (t.1 + 1) :: nexts L c l else nexts L c l
theorem mem_nexts {L : List In} {c : Int} {k : Nat} : ∀ {l : List Th}, k ∈ nexts L c l ↔ ∃ t ∈ l, accF L[t.1]! c = true ∧ k = t.1 + 1
  | [] => by simp [nexts]
  | t :: l => by
    unfold nexts
    have ih := mem_nexts (L := L) (c := c) (k := k) (l := l)
    by_cases h : accF L[t.1]! c = true
    · rw [if_pos h, List.mem_cons, ih]
      constructor
      · rintro (h1 | ⟨u, hu, h1⟩)
        · exact ⟨t, List.mem_cons_self .., h, h1⟩
        · exact ⟨u, List.mem_cons_of_mem _ hu, h1⟩
      · rintro ⟨u, hu, h1, h2⟩
        rcases List.mem_cons.1 hu with rfl | hu
        · exact .inl h2
        · exact .inr ⟨u, hu, h1, h2⟩
    · rw [if_neg h, ih]
      constructor
      · rintro ⟨u, hu, h1⟩
        exact ⟨u, List.mem_cons_of_mem _ hu, h1⟩
      · rintro ⟨u, hu, h1, h2⟩
        rcases List.mem_cons.1 hu with rfl | hu
        · exact absurd h1 h
        · exact ⟨u, hu, h1, h2⟩
theorem stepF_clo {L : List In} {g : Int} (h : rightF L g = true) {n pos : Nat} {c : Int} : ∀ (l : List Th) (st : List Bool × List Th), (∀ t ∈ l, TOk L g t) → st.1.length = L.length → Clo L n pos (nexts L c l) st (stepF L n pos c l st)
  | [], st, _, _ => Clo.nil st
  | t :: l, st, hl, hs => by
    unfold stepF nexts
    have ht := hl t (List.mem_cons_self ..)
    have hl2 : ∀ u ∈ l, TOk L g u := fun u hu => hl u (List.mem_cons_of_mem _ hu)
    by_cases ha : accF L[t.1]! c = true
    · rw [if_pos ha, if_pos ha]
      have h1 := List.count_le_length (a := false) (l := st.1)
      exact (addF_clo h (n := n) (pos := pos) (L.length + 1) (t.1 + 1) t.2 st (ht.next h ha) hs (by omega)).trans (stepF_clo h l _ hl2 (by rw [addF_len]; exact hs))
    · rw [if_neg ha, if_neg ha]
      exact stepF_clo h l _ hl2 hs
theorem clo_empty {L : List In} {n pos : Nat} {ks : List Nat} {st : List Bool × List Th} {N : Nat} (h : Clo L n pos ks (List.replicate N false, []) st) (x : Nat) : (∃ t ∈ st.2, t.1 = x) ↔ ((∃ k ∈ ks, EpsR L n pos k x) ∧ Stays L x) := by
  have h0 : ∀ y : Nat, ¬ (List.replicate N false)[y]! = true := fun y h1 => by
    by_cases hy : y < N
    · rw [getElem!_pos _ y (by simpa using hy)] at h1
      simp at h1
    · rw [getElem!_neg _ y (by simpa using hy)] at h1
      cases h1
  have hv : ∀ y : Nat, st.1[y]! = true ↔ ∃ k ∈ ks, EpsR L n pos k y := fun y => by
    constructor
    · intro hy
      rcases h.src y hy with h1 | h1
      · exact absurd h1 (h0 y)
      · exact h1
    · rintro ⟨k, hk, hr⟩
      have hk1 := h.all k hk
      clear hk
      induction hr with
      | refl k => exact hk1
      | step h1 _ ih => exact ih (h.clo _ hk1 (h0 _) _ h1)
  rw [h.lst, hv]
  constructor
  · rintro (⟨t, ht, _⟩ | h1)
    · cases ht
    · exact ⟨h1.1, h1.2.2⟩
  · intro h1
    exact .inr ⟨h1.1, h0 x, h1.2⟩

/-! ### What a run reaches -/
inductive Rch (L : List In) (s : ByteArray) (b : Nat) : Nat → Nat → Prop
  | nil : Rch L s b b 0
  | eps {i k k' : Nat} : Rch L s b i k → k' ∈ epsF L s.size i k → Rch L s b i k'
  | chr {i k : Nat} : Rch L s b i k → i < s.size → accF L[k]! (s[i]!.toNat : Int) = true → Rch L s b (i + 1) (k + 1)
theorem Rch.le {L : List In} {s : ByteArray} {b i k : Nat} (h : Rch L s b i k) : b ≤ i := by
  induction h with
  | nil => exact Nat.le_refl _
  | eps _ _ ih => exact ih
  | chr _ _ _ ih => omega
theorem Rch.run {L : List In} {s : ByteArray} {b i k m : Nat} (h : Rch L s b i k) (h2 : EpsR L s.size i k m) : Rch L s b i m := by
  induction h2 with
  | refl _ => exact h
  | step h1 _ ih => exact ih (h.eps h1)
theorem rch_first {L : List In} {s : ByteArray} {b x : Nat} : Rch L s b b x ↔ EpsR L s.size b 0 x := by
  constructor
  · intro h
    have key : ∀ i k, Rch L s b i k → i = b → EpsR L s.size b 0 k := by
      intro i k h
      induction h with
      | nil => intro _; exact .refl _
      | eps h1 h2 ih => intro e; subst e; exact (ih rfl).snoc h2
      | chr h1 _ _ _ => intro e; have := h1.le; omega
    exact key b x h rfl
  · intro h
    exact Rch.nil.run h
theorem rch_next {L : List In} {s : ByteArray} {b i x : Nat} (hi : b ≤ i) : Rch L s b (i + 1) x ↔ ∃ k, Rch L s b i k ∧ i < s.size ∧ accF L[k]! (s[i]!.toNat : Int) = true ∧ EpsR L s.size (i + 1) (k + 1) x := by
  constructor
  · intro h
    have key : ∀ j x, Rch L s b j x → j = i + 1 → ∃ k, Rch L s b i k ∧ i < s.size ∧ accF L[k]! (s[i]!.toNat : Int) = true ∧ EpsR L s.size (i + 1) (k + 1) x := by
      intro j x h
      induction h with
      | nil => intro e; omega
      | eps h1 h2 ih =>
        intro e
        obtain ⟨k, a1, a2, a3, a4⟩ := ih e
        subst e
        exact ⟨k, a1, a2, a3, a4.snoc h2⟩
      | chr h1 h2 h3 _ =>
        intro e
        have e : _ = i := Nat.succ.inj e
        subst e
        exact ⟨_, h1, h2, h3, .refl _⟩
    exact key _ _ h rfl
  · rintro ⟨k, a1, a2, a3, a4⟩
    exact (a1.chr a2 a3).run a4
/-- The list of a position holds what the run reaches there. -/
def LInv (L : List In) (s : ByteArray) (b i : Nat) (l : List Th) : Prop := ∀ x : Nat, (∃ t ∈ l, t.1 = x) ↔ (Rch L s b i x ∧ Stays L x)
theorem acc_stays {L : List In} {k : Nat} {c : Int} (h : accF L[k]! c = true) : Stays L k := by
  have := acc_op h
  exact ⟨by omega, by omega, by omega, by omega, by omega⟩
theorem begin_inv {L : List In} {g : Nat} (h : rightF L (g : Int) = true) {s : ByteArray} {b : Nat} : LInv L s b b (beginF L g s.size b) := by
  intro x
  have hp := (right_parts h).2.2.1
  have c := addF_clo h (n := s.size) (pos := b) (L.length + 1) 0 (List.replicate (2 * g) (-1)) (List.replicate L.length false, []) (by omega) (by simp) (by simp)
  have h1 := clo_empty c x
  unfold beginF
  rw [h1, rch_first]
  simp
theorem step_inv {L : List In} {g : Int} (h : rightF L g = true) {s : ByteArray} {b i : Nat} {l : List Th} (hl : LInv L s b i l) (ht : ∀ t ∈ l, TOk L g t) (hb : b ≤ i) (hi : i < s.size) : LInv L s b (i + 1) (stepF L s.size (i + 1) (s[i]!.toNat : Int) l (List.replicate L.length false, [])).2 := by
  intro x
  have c := stepF_clo h (n := s.size) (pos := i + 1) (c := (s[i]!.toNat : Int)) l (List.replicate L.length false, []) ht (by simp)
  rw [clo_empty c x, rch_next hb]
  constructor
  · rintro ⟨⟨k, hk, h1⟩, h2⟩
    obtain ⟨t, ht1, ht2, rfl⟩ := mem_nexts.1 hk
    exact ⟨⟨t.1, ((hl t.1).1 ⟨t, ht1, rfl⟩).1, hi, ht2, h1⟩, h2⟩
  · rintro ⟨⟨k, h1, _, h3, h4⟩, h2⟩
    obtain ⟨t, ht1, ht2⟩ := (hl k).2 ⟨h1, acc_stays h3⟩
    subst ht2
    exact ⟨⟨_, mem_nexts.2 ⟨t, ht1, h3, rfl⟩, h4⟩, h2⟩
/-- There is a match from b to e. -/
def Acc (L : List In) (s : ByteArray) (b e : Nat) : Prop := ∃ x, Rch L s b e x ∧ L[x]!.op = 9
theorem Acc.le {L : List In} {s : ByteArray} {b e : Nat} (h : Acc L s b e) : b ≤ e := h.elim (fun _ h => h.1.le)
theorem found_iff {L : List In} : ∀ (l : List Th), (∃ cs, foundF L l = some cs) ↔ ∃ t ∈ l, L[t.1]!.op = 9
  | [] => by simp [foundF]
  | t :: l => by
    unfold foundF
    by_cases h : L[t.1]!.op = 9
    · rw [if_pos h]
      exact ⟨fun _ => ⟨t, List.mem_cons_self .., h⟩, fun _ => ⟨_, rfl⟩⟩
    · rw [if_neg h, found_iff l]
      constructor
      · rintro ⟨u, hu, h1⟩
        exact ⟨u, List.mem_cons_of_mem _ hu, h1⟩
      · rintro ⟨u, hu, h1⟩
        rcases List.mem_cons.1 hu with rfl | hu
        · exact absurd h1 h
        · exact ⟨u, hu, h1⟩
theorem found_acc {L : List In} {s : ByteArray} {b i : Nat} {l : List Th} (hl : LInv L s b i l) : (∃ cs, foundF L l = some cs) ↔ Acc L s b i := by
  rw [found_iff]
  constructor
  · rintro ⟨t, ht, h1⟩
    exact ⟨t.1, ((hl t.1).1 ⟨t, ht, rfl⟩).1, h1⟩
  · rintro ⟨x, h1, h2⟩
    obtain ⟨t, ht, rfl⟩ := (hl x).2 ⟨h1, by unfold Stays; rw [h2]; decide⟩
    exact ⟨t, ht, h2⟩
theorem acc_stop {L : List In} {s : ByteArray} {b i : Nat} (hb : b ≤ i) (h : s.size ≤ i ∨ ∀ x, ¬ (Rch L s b i x ∧ Stays L x)) : ∀ e x, i < e → ¬ Rch L s b e x := by
  have h1 : ∀ x, ¬ Rch L s b (i + 1) x := fun x hx => by
    obtain ⟨k, a1, a2, a3, _⟩ := (rch_next hb).1 hx
    rcases h with h | h
    · omega
    · exact h k ⟨a1, acc_stays a3⟩
  have h2 : ∀ d x, ¬ Rch L s b (i + 1 + d) x := by
    intro d
    induction d with
    | zero => exact h1
    | succ d ih =>
      intro x hx
      obtain ⟨k, a1, _⟩ := (rch_next (i := i + 1 + d) (by omega)).1 hx
      exact ih k a1
  intro e x he
  have := h2 (e - (i + 1)) x
  rwa [show i + 1 + (e - (i + 1)) = e by omega] at this
/-- The result of a run from position i on, with the best match so far. -/
def RunIs (L : List In) (s : ByteArray) (b i : Nat) (best r : Option (List Int × Nat)) : Prop :=
  match r with
  | some (cs, e) => (i ≤ e ∧ Acc L s b e ∧ ∀ e', Acc L s b e' → e' ≤ e) ∨ (best = some (cs, e) ∧ ∀ e', i ≤ e' → ¬ Acc L s b e')
  | none => best = none ∧ ∀ e', i ≤ e' → ¬ Acc L s b e'
theorem best_cases {L : List In} {s : ByteArray} {b i : Nat} {l : List Th} (hl : LInv L s b i l) (best : Option (List Int × Nat)) : (Acc L s b i ∧ ∃ cs, bestF L s.size i false l best = some (cs, i)) ∨ (¬ Acc L s b i ∧ bestF L s.size i false l best = best) := by
  unfold bestF
  cases hf : foundF L l with
  | none =>
    refine .inr ⟨fun h => ?_, rfl⟩
    obtain ⟨cs, h1⟩ := (found_acc hl).2 h
    rw [hf] at h1
    cases h1
  | some cs => exact .inl ⟨(found_acc hl).1 ⟨cs, hf⟩, cs, by simp⟩
theorem runF_is {L : List In} {g : Int} (h : rightF L g = true) {s : ByteArray} {b : Nat} : ∀ (f i : Nat) (l : List Th) (best : Option (List Int × Nat)), LInv L s b i l → (∀ t ∈ l, TOk L g t) → b ≤ i → s.size - i < f → RunIs L s b i best (runF f L s false i l best)
  | 0, _, _, _, _, _, _, hf => absurd hf (Nat.not_lt_zero _)
  | f + 1, i, l, best, hl, ht, hb, hf => by
    by_cases hend : s.size ≤ i ∨ l = []
    · rw [runF_end hend]
      have hno : ∀ e x, i < e → ¬ Rch L s b e x := acc_stop hb (by
        rcases hend with h1 | h1
        · exact .inl h1
        · refine .inr fun x hx => ?_
          obtain ⟨t, ht, _⟩ := (hl x).2 hx
          rw [h1] at ht
          cases ht)
      have hno2 : ∀ e, i < e → ¬ Acc L s b e := fun e he ⟨x, hx, _⟩ => hno e x he hx
      rcases best_cases hl best with ⟨h1, cs, h2⟩ | ⟨h1, h2⟩
      · rw [h2]
        refine .inl ⟨Nat.le_refl _, h1, fun e' he' => ?_⟩
        rcases Nat.lt_or_ge i e' with h3 | h3
        · exact absurd he' (hno2 e' h3)
        · exact h3
      · rw [h2]
        have hno3 : ∀ e', i ≤ e' → ¬ Acc L s b e' := fun e' he' => by
          rcases Nat.lt_or_ge i e' with h3 | h3
          · exact hno2 e' h3
          · have : e' = i := by omega
            rw [this]; exact h1
        unfold RunIs
        split
        · exact .inr ⟨rfl, hno3⟩
        · exact ⟨rfl, hno3⟩
    · rw [runF_go hend]
      have hi : i < s.size := by omega
      have ih := runF_is h f (i + 1) _ (bestF L s.size i false l best) (step_inv h hl ht hb hi) (stepF_ok h _ _ _ _ _ ht (fun t ht => by cases ht)) (by omega) (by omega)
      generalize runF f L s false (i + 1) _ _ = r at ih ⊢
      rcases best_cases hl best with ⟨h1, cs0, h2⟩ | ⟨h1, h2⟩
      · rw [h2] at ih
        unfold RunIs at ih ⊢
        split at ih
        · rename_i cs e
          rcases ih with ih | ⟨ih, h3⟩
          · exact .inl ⟨by omega, ih.2⟩
          · injection ih with ih
            injection ih with ih1 ih2
            subst ih2
            refine .inl ⟨Nat.le_refl _, h1, fun e' he' => ?_⟩
            rcases Nat.lt_or_ge i e' with h4 | h4
            · exact absurd he' (h3 e' h4)
            · exact h4
        · exact absurd ih.1 (by simp)
      · rw [h2] at ih
        have lift : (∀ e', i + 1 ≤ e' → ¬ Acc L s b e') → ∀ e', i ≤ e' → ¬ Acc L s b e' := fun h3 e' he' => by
          rcases Nat.lt_or_ge i e' with h4 | h4
          · exact h3 e' h4
          · have : e' = i := by omega
            rw [this]; exact h1
        unfold RunIs at ih ⊢
        split at ih
        · rcases ih with ih | ih
          · exact .inl ⟨by omega, ih.2⟩
          · exact .inr ⟨ih.1, lift ih.2⟩
        · exact ⟨ih.1, lift ih.2⟩
theorem runTop_is {L : List In} {g : Nat} (h : rightF L (g : Int) = true) {s : ByteArray} {b : Nat} :
    (∀ cs e, runTop L g s b false = some (cs, e) → Acc L s b e ∧ ∀ e', Acc L s b e' → e' ≤ e) ∧ (runTop L g s b false = none → ∀ e', ¬ Acc L s b e') := by
  have hp := (right_parts h).2.2.1
  have r := runF_is h (s := s) (b := b) (s.size - b + 1) b (beginF L g s.size b) none (begin_inv h) (addF_ok h _ _ _ _ _ _ (by omega) (by simp) (fun t ht => by cases ht)) (Nat.le_refl _) (by omega)
  constructor
  · intro cs e he
    unfold runTop at he
    rw [he] at r
    rcases r with r | r
    · exact r.2
    · exact absurd r.1 (by simp)
  · intro he e' ha
    unfold runTop at he
    rw [he] at r
    exact r.2 e' ha.le ha
theorem firstF_is {L : List In} {g : Nat} (h : rightF L (g : Int) = true) {s : ByteArray} : ∀ (f p : Nat), s.size + 1 ≤ f + p →
    (∀ cs a e, firstF f L g s p = some (cs, a, e) → p ≤ a ∧ a ≤ s.size ∧ Acc L s a e ∧ (∀ e', Acc L s a e' → e' ≤ e) ∧ ∀ a' e', p ≤ a' → a' < a → ¬ Acc L s a' e') ∧ (firstF f L g s p = none → ∀ a e, p ≤ a → a ≤ s.size → ¬ Acc L s a e)
  | 0, p, hf => ⟨fun _ _ _ h => (by cases h), fun _ a e h1 h2 => by omega⟩
  | f + 1, p, hf => by
    unfold firstF
    by_cases hp : s.size < p
    · rw [if_pos hp]
      exact ⟨fun _ _ _ h => (by cases h), fun _ a e h1 h2 => by omega⟩
    rw [if_neg hp]
    obtain ⟨r1, r2⟩ := runTop_is h (s := s) (b := p)
    cases hr : runTop L g s p false with
    | some t =>
      obtain ⟨cs, e⟩ := t
      refine ⟨fun cs' a' e' he => ?_, fun he => by cases he⟩
      simp only [Option.some.injEq, Prod.mk.injEq] at he
      obtain ⟨-, rfl, rfl⟩ := he
      exact ⟨Nat.le_refl _, by omega, (r1 _ _ hr).1, (r1 _ _ hr).2, fun a' e' h1 h2 => by omega⟩
    | none =>
      obtain ⟨i1, i2⟩ := firstF_is h (s := s) f (p + 1) (by omega)
      have r3 := r2 hr
      refine ⟨fun cs a e he => ?_, fun he a e h1 h2 => ?_⟩
      · obtain ⟨j1, j2, j3, j4, j5⟩ := i1 cs a e he
        refine ⟨by omega, j2, j3, j4, fun a' e' h1 h2 => ?_⟩
        by_cases h3 : a' = p
        · subst h3; exact r3 e'
        · exact j5 a' e' (by omega) h2
      · by_cases h3 : a = p
        · subst h3; exact r3 e
        · exact i2 he a e (by omega) h2
/-- Two programs that match the same texts find the same first match. -/
theorem first_same {L L' : List In} {g g' : Nat} (h : rightF L (g : Int) = true) (h' : rightF L' (g' : Int) = true) {s : ByteArray} (hs : ∀ b e, b ≤ s.size → (Acc L s b e ↔ Acc L' s b e)) : (firstTop L g s 0).map (·.2) = (firstTop L' g' s 0).map (·.2) := by
  obtain ⟨a1, a2⟩ := firstF_is h (s := s) (s.size + 1 - 0) 0 (by omega)
  obtain ⟨b1, b2⟩ := firstF_is h' (s := s) (s.size + 1 - 0) 0 (by omega)
  unfold firstTop
  cases hx : firstF (s.size + 1 - 0) L g s 0 with
  | none =>
    cases hy : firstF (s.size + 1 - 0) L' g' s 0 with
    | none => rfl
    | some t =>
      obtain ⟨cs, a, e⟩ := t
      obtain ⟨_, j2, j3, _⟩ := b1 _ _ _ hy
      exact absurd ((hs a e j2).2 j3) (a2 hx a e (Nat.zero_le _) j2)
  | some t =>
    obtain ⟨cs, a, e⟩ := t
    obtain ⟨_, i2, i3, i4, i5⟩ := a1 _ _ _ hx
    cases hy : firstF (s.size + 1 - 0) L' g' s 0 with
    | none => exact absurd ((hs a e i2).1 i3) (b2 hy a e (Nat.zero_le _) i2)
    | some t =>
      obtain ⟨cs', a', e'⟩ := t
      obtain ⟨_, j2, j3, j4, j5⟩ := b1 _ _ _ hy
      have ha : a = a' := by
        rcases Nat.lt_trichotomy a a' with h3 | h3 | h3
        · exact absurd ((hs a e i2).1 i3) (j5 a e (Nat.zero_le _) h3)
        · exact h3
        · exact absurd ((hs a' e' j2).2 j3) (i5 a' e' (Nat.zero_le _) h3)
      subst ha
      have he : e = e' := Nat.le_antisymm (j4 e ((hs a e i2).1 i3)) (i4 e' ((hs a e' i2).2 j3))
      subst he
      rfl

end Go.Proofs.Ytfhccmegobbnaaa
