/- This text proves how an expression is read inside another one, and what two alternatives in parentheses compile to. It has no program in sight. Conditions: those that each theorem names. -/
import Derived.Test.YtfhccmegobbnaaaRegexSB
namespace Go.Proofs.Ytfhccmegobbnaaa
open Go.ChangeShapes Go.WideShapes Go.ChangeAt Go.RowKit
set_option linter.unusedVariables false
set_option linter.unusedSimpArgs false

/-- The text p lies in S at offset o, with a closing parenthesis behind it. -/
structure Sub (S p : ByteArray) (o : Nat) : Prop where
  get : ∀ i : Nat, i < p.size → S[o + i]! = p[i]!
  lt : o + p.size < S.size
  clo : S[o + p.size]! = 41
theorem Sub.at {S p : ByteArray} {o : Nat} (h : Sub S p o) {i : Nat} (hi : i ≤ p.size) {c : UInt8} (hc : c ≠ 41) : isAt S (o + i) c = isAt p i c := by
  have := h.lt
  unfold isAt
  rcases Nat.lt_or_ge i p.size with h1 | h1
  · rw [h.get i h1, decide_eq_true (show o + i < S.size by omega), decide_eq_true h1]
  · have e : i = p.size := by omega
    subst e
    rw [h.clo, decide_eq_false (show ¬ p.size < p.size by omega), decide_eq_false (show ¬ (41 : UInt8) = c from fun e => hc e.symm)]
    simp
theorem Sub.at41 {S p : ByteArray} {o : Nat} (h : Sub S p o) {i : Nat} (hi : isAt p i 41 = true) : isAt S (o + i) 41 = true := by
  have := h.lt
  obtain ⟨h1, h2⟩ := isAt_lt hi
  unfold isAt
  rw [h.get i h1, h2, decide_eq_true (show o + i < S.size by omega)]
  rfl
theorem esc_sub {S p : ByteArray} {o i j : Nat} {c : UInt8} (h : Sub S p o) (e : escF p i = .ok (c, j)) : escF S (o + i) = .ok (c, o + j) := by
  have := h.lt
  unfold escF at e ⊢
  split at e
  · rename_i hi
    cases e
    rw [if_pos (by omega), show o + i + 1 = o + (i + 1) from rfl, h.get (i + 1) hi]
    rfl
  · cases e
theorem char_sub {S p : ByteArray} {o i j : Nat} {c : UInt8} (h : Sub S p o) (e : charF p i = .ok (c, j)) : charF S (o + i) = .ok (c, o + j) ∧ i < p.size := by
  have := h.lt
  unfold charF at e ⊢
  split at e
  · rename_i hi
    rw [h.get i hi.1, if_pos ⟨by omega, hi.2⟩]
    refine ⟨?_, hi.1⟩
    split at e
    · rename_i h9
      rw [if_pos h9]
      exact esc_sub h e
    · rename_i h9
      rw [if_neg h9]
      cases e
      rfl
  · cases e
theorem items_sub {S p : ByteArray} {o : Nat} (h : Sub S p o) : ∀ (f f' : Nat), f ≤ f' → ∀ (i : Nat) (first : Bool) (set r : ByteArray) (j : Nat), itemsF f p i first set = .ok (r, j) → itemsF f' S (o + i) first set = .ok (r, o + j)
  | 0, _, _, i, first, set, r, j, e => by unfold itemsF at e; cases e
  | f + 1, f', hf, i, first, set, r, j, e => by
    obtain ⟨f', rfl⟩ : ∃ g, f' = g + 1 := ⟨f' - 1, by omega⟩
    have hlt := h.lt
    unfold itemsF at e ⊢
    split at e
    · rename_i hc
      rw [if_pos ⟨hc.1, by omega, by rw [h.get i hc.2.1]; exact hc.2.2⟩]
      cases e
      rfl
    · rename_i hc
      split at e
      · cases e
      · rename_i a k ha
        obtain ⟨h1, h2⟩ := char_sub h ha
        have h3 := charF_pos ha
        rw [if_neg (fun hx => hc ⟨hx.1, h2, by rw [← h.get i h2]; exact hx.2.2⟩), h1]
        simp only []
        have hk : (o + k < S.size ∧ S[o + k]! = 45) ↔ (k < p.size ∧ p[k]! = 45) := by
          rcases Nat.lt_or_ge k p.size with h4 | h4
          · rw [h.get k h4]
            exact ⟨fun h => ⟨h4, h.2⟩, fun h => ⟨by omega, h.2⟩⟩
          · have e : k = p.size := by omega
            subst e
            rw [h.clo]
            exact ⟨fun h => absurd h.2 (by decide), fun h => by omega⟩
        split at e
        · rename_i hd
          rw [if_pos (hk.2 hd)]
          split at e
          · cases e
          · rename_i b m hb
            rw [show o + k + 1 = o + (k + 1) from rfl, (char_sub h hb).1]
            simp only []
            split at e
            · cases e
            · rename_i hl
              rw [if_neg hl]
              exact items_sub h f f' (by omega) _ _ _ _ _ e
        · rename_i hd
          rw [if_neg (fun hx => hd (hk.1 hx))]
          exact items_sub h f f' (by omega) _ _ _ _ _ e
theorem class_sub {S p : ByteArray} {o i j : Nat} {x : In} (h : Sub S p o) (e : classF p i = .ok (x, j)) : classF S (o + i) = .ok (x, o + j) := by
  have hlt := h.lt
  unfold classF at e ⊢
  split at e
  · rename_i hc
    split at e
    · cases e
    · rename_i set m hi
      rw [if_pos ⟨by omega, by rw [h.get i hc.1]; exact hc.2⟩, show o + i + 1 = o + (i + 1) from rfl, items_sub h (p.size + 1) (S.size + 1) (by omega) _ _ _ _ _ hi]
      cases e
      rfl
  · rename_i hc
    split at e
    · cases e
    · rename_i set m hi
      have hip := items_pos _ _ _ _ _ _ _ hi
      rw [if_neg (fun hx => hc ⟨by omega, by rw [← h.get i (by omega)]; exact hx.2⟩), items_sub h (p.size + 1) (S.size + 1) (by omega) _ _ _ _ _ hi]
      cases e
      rfl
/-- A reading ends within the text, and counts groups upwards. -/
def Mn (s : ByteArray) (g : Nat) (r : PRes) : Prop := ∀ a j h, r = .ok (a, j, h) → g ≤ h ∧ j ≤ s.size
theorem mono_all (s : ByteArray) : ∀ (f : Nat), (∀ i g, i ≤ s.size → Mn s g (regexF f s i g)) ∧ (∀ i g acc, i ≤ s.size → Mn s g (branchF f s i g acc)) ∧ (∀ i g, i < s.size → Mn s g (pieceF f s i g)) ∧ (∀ i g, i < s.size → Mn s g (atomF f s i g))
  | 0 => ⟨fun i g _ a j h e => (by unfold regexF at e; cases e), fun i g acc _ a j h e => (by unfold branchF at e; cases e), fun i g _ a j h e => (by unfold pieceF at e; cases e), fun i g _ a j h e => (by unfold atomF at e; cases e)⟩
  | f + 1 => by
    obtain ⟨hr, hb, hp, ha⟩ := mono_all s f
    refine ⟨fun i g hi a j h e => ?_, fun i g acc hi a j h e => ?_, fun i g hi a j h e => ?_, fun i g hi a j h e => ?_⟩
    · unfold regexF at e
      split at e
      · cases e
      · rename_i a1 j1 h1 heq
        have l1 := hb _ _ .emp hi _ _ _ heq
        split at e
        · rename_i hat
          have := isAt_lt hat
          split at e
          · cases e
          · rename_i b m h2 heq2
            have l2 := hr (j1 + 1) h1 (by omega) _ _ _ heq2
            cases e
            exact ⟨by omega, l2.2⟩
        · cases e
          exact l1
    · unfold branchF at e
      split at e
      · rename_i hc
        split at e
        · cases e
        · rename_i p j1 h1 heq
          have l1 := hp i g hc.1 _ _ _ heq
          have l2 := hb j1 h1 _ l1.2 _ _ _ e
          exact ⟨by omega, l2.2⟩
      · cases e
        exact ⟨Nat.le_refl _, hi⟩
    · unfold pieceF at e
      split at e
      · cases e
      · rename_i a1 j1 h1 heq
        have l1 := ha i g hi _ _ _ heq
        split at e
        · rename_i hat; have := isAt_lt hat; cases e; exact ⟨l1.1, by omega⟩
        split at e
        · rename_i hat; have := isAt_lt hat; cases e; exact ⟨l1.1, by omega⟩
        split at e
        · rename_i hat; have := isAt_lt hat; cases e; exact ⟨l1.1, by omega⟩
        · cases e; exact l1
    · unfold atomF at e
      split at e
      · split at e
        · cases e
        · split at e
          · cases e
          · rename_i a1 j1 h1 heq
            have l1 := hr (i + 1) (g + 1) (by omega) _ _ _ heq
            split at e
            · rename_i hat
              have := isAt_lt hat
              cases e
              exact ⟨by omega, by omega⟩
            · cases e
      split at e
      · cases e
      split at e
      · cases e; exact ⟨Nat.le_refl _, by omega⟩
      split at e
      · cases e; exact ⟨Nat.le_refl _, by omega⟩
      split at e
      · cases e; exact ⟨Nat.le_refl _, by omega⟩
      split at e
      · split at e
        · cases e
        · rename_i x j1 heq
          have := classF_pos heq
          cases e
          exact ⟨Nat.le_refl _, by omega⟩
      split at e
      · split at e
        · cases e
        · rename_i x j1 heq
          have := escF_pos heq
          cases e
          exact ⟨Nat.le_refl _, by omega⟩
      · cases e; exact ⟨Nat.le_refl _, by omega⟩
/-- The reading inside the other text, c groups later: the same tree, or an error where the groups are too many. -/
def Sb (o c : Nat) (r r' : PRes) : Prop := ∀ a j h, r = .ok (a, j, h) → (h + c ≤ 9 → r' = .ok (a, o + j, h + c)) ∧ (9 < h + c → ∃ k, r' = .error k)
theorem par_sub {S p : ByteArray} {o : Nat} (H : Sub S p o) (c : Nat) : ∀ (f f' : Nat), f ≤ f' → (∀ i g, i ≤ p.size → g + c ≤ 9 → Sb o c (regexF f p i g) (regexF f' S (o + i) (g + c))) ∧ (∀ i g acc, i ≤ p.size → g + c ≤ 9 → Sb o c (branchF f p i g acc) (branchF f' S (o + i) (g + c) acc)) ∧
    (∀ i g, i < p.size → g + c ≤ 9 → Sb o c (pieceF f p i g) (pieceF f' S (o + i) (g + c))) ∧ (∀ i g, i < p.size → g + c ≤ 9 → Sb o c (atomF f p i g) (atomF f' S (o + i) (g + c)))
  | 0, _, _ => ⟨fun i g _ _ a j h e => (by unfold regexF at e; cases e), fun i g acc _ _ a j h e => (by unfold branchF at e; cases e), fun i g _ _ a j h e => (by unfold pieceF at e; cases e), fun i g _ _ a j h e => (by unfold atomF at e; cases e)⟩
  | f + 1, f', hf => by
    obtain ⟨f', rfl⟩ : ∃ g, f' = g + 1 := ⟨f' - 1, by omega⟩
    obtain ⟨hr, hb, hp, ha⟩ := par_sub H c f f' (by omega)
    obtain ⟨mr, mb, mp, ma⟩ := mono_all p f
    have hlt := H.lt
    refine ⟨fun i g hi hg a j h e => ?_, fun i g acc hi hg a j h e => ?_, fun i g hi hg a j h e => ?_, fun i g hi hg a j h e => ?_⟩
    · unfold regexF at e ⊢
      split at e
      · cases e
      · rename_i a1 j1 h1 heq
        obtain ⟨m1, m2⟩ := mb _ _ .emp hi _ _ _ heq
        obtain ⟨r1, r2⟩ := hb _ _ .emp hi hg _ _ _ heq
        rcases Nat.lt_or_ge 9 (h1 + c) with h9 | h9
        · obtain ⟨k, hk⟩ := r2 h9
          rw [hk]
          refine ⟨fun hx => ?_, fun _ => ⟨k, rfl⟩⟩
          exfalso
          split at e
          · rename_i hat
            have := isAt_lt hat
            split at e
            · cases e
            · rename_i b m h2 heq2
              have := mr _ _ (by omega) _ _ _ heq2
              cases e
              omega
          · cases e
            omega
        · rw [r1 h9]
          simp only []
          rw [H.at m2 (by decide)]
          split at e
          · rename_i hat
            have hat2 := isAt_lt hat
            rw [if_pos hat]
            split at e
            · cases e
            · rename_i b m h2 heq2
              obtain ⟨s1, s2⟩ := hr (j1 + 1) h1 (by omega) h9 _ _ _ heq2
              cases e
              rw [show o + j1 + 1 = o + (j1 + 1) from rfl]
              refine ⟨fun hx => ?_, fun hx => ?_⟩
              · rw [s1 hx]
              · obtain ⟨k, hk⟩ := s2 hx
                rw [hk]
                exact ⟨k, rfl⟩
          · rename_i hat
            rw [if_neg hat]
            cases e
            exact ⟨fun _ => rfl, fun hx => by omega⟩
    · unfold branchF at e ⊢
      split at e
      · rename_i hc
        rw [if_pos ⟨by omega, by rw [H.get i hc.1]; exact hc.2⟩]
        split at e
        · cases e
        · rename_i q j1 h1 heq
          obtain ⟨m1, m2⟩ := mp i g hc.1 _ _ _ heq
          obtain ⟨r1, r2⟩ := hp i g hc.1 hg _ _ _ heq
          obtain ⟨m3, m4⟩ := mb j1 h1 _ m2 _ _ _ e
          rcases Nat.lt_or_ge 9 (h1 + c) with h9 | h9
          · obtain ⟨k, hk⟩ := r2 h9
            rw [hk]
            exact ⟨fun hx => by omega, fun _ => ⟨k, rfl⟩⟩
          · rw [r1 h9]
            exact hb j1 h1 _ m2 h9 _ _ _ e
      · rename_i hc
        have hn : ¬ (o + i < S.size ∧ S[o + i]! ≠ 124 ∧ S[o + i]! ≠ 41) := by
          rcases Nat.lt_or_ge i p.size with h4 | h4
          · rw [H.get i h4]
            exact fun hx => hc ⟨h4, hx.2⟩
          · have e : i = p.size := by omega
            subst e
            rw [H.clo]
            exact fun hx => hx.2.2 rfl
        rw [if_neg hn]
        cases e
        exact ⟨fun _ => rfl, fun hx => by omega⟩
    · unfold pieceF at e ⊢
      split at e
      · cases e
      · rename_i a1 j1 h1 heq
        obtain ⟨m1, m2⟩ := ma i g hi _ _ _ heq
        obtain ⟨r1, r2⟩ := ha i g hi hg _ _ _ heq
        have hh : h = h1 := by
          split at e
          · cases e; rfl
          split at e
          · cases e; rfl
          split at e
          · cases e; rfl
          · cases e; rfl
        subst hh
        refine ⟨fun hx => ?_, fun hx => ?_⟩
        · rw [r1 hx]
          simp only []
          rw [H.at m2 (by decide), H.at m2 (by decide), H.at m2 (by decide)]
          split at e
          · rename_i hat; rw [if_pos hat]; cases e; rfl
          rename_i hat; rw [if_neg hat]
          split at e
          · rename_i hat; rw [if_pos hat]; cases e; rfl
          rename_i hat; rw [if_neg hat]
          split at e
          · rename_i hat; rw [if_pos hat]; cases e; rfl
          · rename_i hat; rw [if_neg hat]; cases e; rfl
        · obtain ⟨k, hk⟩ := r2 hx
          rw [hk]
          exact ⟨k, rfl⟩
    · unfold atomF at e ⊢
      rw [H.get i hi]
      have fin : ∀ (x : Re) (jj : Nat), (Except.ok (x, jj, g) : PRes) = .ok (a, j, h) → ∀ r' : PRes, r' = .ok (x, o + jj, g + c) → (h + c ≤ 9 → r' = .ok (a, o + j, h + c)) ∧ (9 < h + c → ∃ k, r' = .error k) := by
        intro x jj e r' hr'
        cases e
        exact ⟨fun _ => hr', fun hx => by omega⟩
      split at e
      · rename_i hc
        rw [if_pos hc]
        split at e
        · cases e
        · rename_i hg9
          split at e
          · cases e
          · rename_i a1 j1 h1 heq
            obtain ⟨m1, m2⟩ := mr (i + 1) (g + 1) (by omega) _ _ _ heq
            split at e
            · rename_i hat
              cases e
              by_cases h9 : 9 ≤ g + c
              · rw [if_pos h9]
                exact ⟨fun hx => by omega, fun _ => ⟨_, rfl⟩⟩
              · rw [if_neg h9]
                obtain ⟨r1, r2⟩ := hr (i + 1) (g + 1) (by omega) (by omega) _ _ _ heq
                rw [show o + i + 1 = o + (i + 1) from rfl, show g + c + 1 = g + 1 + c by omega]
                refine ⟨fun hx => ?_, fun hx => ?_⟩
                · rw [r1 hx]
                  simp only []
                  rw [if_pos (H.at41 hat)]
                  rfl
                · obtain ⟨k, hk⟩ := r2 hx
                  rw [hk]
                  exact ⟨k, rfl⟩
            · cases e
      rename_i hc; rw [if_neg hc]
      split at e
      · cases e
      rename_i hc; rw [if_neg hc]
      split at e
      · rename_i hc; rw [if_pos hc]; exact fin _ _ e _ rfl
      rename_i hc; rw [if_neg hc]
      split at e
      · rename_i hc; rw [if_pos hc]; exact fin _ _ e _ rfl
      rename_i hc; rw [if_neg hc]
      split at e
      · rename_i hc; rw [if_pos hc]; exact fin _ _ e _ rfl
      rename_i hc; rw [if_neg hc]
      split at e
      · rename_i hc; rw [if_pos hc]
        split at e
        · cases e
        · rename_i x j1 heq
          rw [show o + i + 1 = o + (i + 1) from rfl, class_sub H heq]
          exact fin _ _ e _ rfl
      rename_i hc; rw [if_neg hc]
      split at e
      · rename_i hc; rw [if_pos hc]
        split at e
        · cases e
        · rename_i x j1 heq
          rw [esc_sub H heq]
          exact fin _ _ e _ rfl
      · rename_i hc; rw [if_neg hc]; exact fin _ _ e _ rfl
theorem not_at {S : ByteArray} {i : Nat} {c : UInt8} (h : ¬ (i < S.size ∧ S[i]! = c)) : ¬ isAt S i c = true := fun h1 => h (isAt_lt h1)
/-- An expression in parentheses, as a piece. -/
theorem one_grp {S p : ByteArray} {o : Nat} (H : Sub S p (o + 1)) (h0 : S[o]! = 40) {P : Re} {hp f f' g : Nat} (hP : regexF f p 0 0 = .ok (P, p.size, hp)) (hf : f ≤ f') (hg : g ≤ 9)
    (hn : ¬ (o + 1 + p.size + 1 < S.size ∧ (S[o + 1 + p.size + 1]! = 42 ∨ S[o + 1 + p.size + 1]! = 43 ∨ S[o + 1 + p.size + 1]! = 63))) (acc : Re) :
    (hp + (g + 1) ≤ 9 → branchF (f' + 3) S o g acc = branchF (f' + 2) S (o + 1 + p.size + 1) (hp + (g + 1)) (.cat acc (.grp P))) ∧ (9 < hp + (g + 1) → ∃ k, branchF (f' + 3) S o g acc = .error k) := by
  have hlt := H.lt
  have hpc : pieceF (f' + 2) S o g = if 9 ≤ g then .error o else match regexF f' S (o + 1) (g + 1) with
      | .error k => .error k
      | .ok (a, j, h) => if isAt S j 41 then (if isAt S (j + 1) 42 then .ok (.star (.grp a), j + 1 + 1, h) else if isAt S (j + 1) 43 then .ok (.plus (.grp a), j + 1 + 1, h) else if isAt S (j + 1) 63 then .ok (.opt (.grp a), j + 1 + 1, h) else .ok (.grp a, j + 1, h)) else .error j := by
    conv => lhs; unfold pieceF; unfold atomF
    rw [if_pos h0]
    by_cases h9 : 9 ≤ g
    · rw [if_pos h9, if_pos h9]
    · rw [if_neg h9, if_neg h9]
      cases regexF f' S (o + 1) (g + 1) with
      | error k => rfl
      | ok r =>
        obtain ⟨a, j, h⟩ := r
        simp only []
        by_cases h8 : isAt S j 41 = true
        · rw [if_pos h8, if_pos h8]
        · rw [if_neg h8, if_neg h8]
  have hbr : branchF (f' + 3) S o g acc = match pieceF (f' + 2) S o g with
      | .error k => .error k
      | .ok (p, j, h) => branchF (f' + 2) S j h (.cat acc p) := by
    conv => lhs; unfold branchF
    rw [if_pos ⟨by omega, by rw [h0]; decide, by rw [h0]; decide⟩]
    rfl
  rw [hbr, hpc]
  by_cases h9 : 9 ≤ g
  · rw [if_pos h9]
    exact ⟨fun hx => by omega, fun _ => ⟨_, rfl⟩⟩
  · rw [if_neg h9]
    obtain ⟨r1, r2⟩ := (par_sub H (g + 1) f f' hf).1 0 0 (Nat.zero_le _) (by omega) _ _ _ hP
    rw [show o + 1 + 0 = o + 1 from rfl, show 0 + (g + 1) = g + 1 by omega] at r1 r2
    refine ⟨fun hx => ?_, fun hx => ?_⟩
    · rw [r1 hx]
      simp only []
      have h41 : isAt S (o + 1 + p.size) 41 = true := by
        unfold isAt
        rw [H.clo, decide_eq_true hlt]
        rfl
      rw [if_pos h41, if_neg (not_at (fun h => hn ⟨h.1, .inl h.2⟩)), if_neg (not_at (fun h => hn ⟨h.1, .inr (.inl h.2)⟩)), if_neg (not_at (fun h => hn ⟨h.1, .inr (.inr h.2)⟩))]
    · obtain ⟨k, hk⟩ := r2 hx
      rw [hk]
      exact ⟨k, rfl⟩
/-- Two expressions in parentheses, as alternatives. -/
structure Pair (S p q : ByteArray) : Prop where
  z : S.size = p.size + q.size + 5
  b0 : S[0]! = 40
  sp : Sub S p 1
  b1 : S[p.size + 2]! = 124
  b2 : S[p.size + 3]! = 40
  sq : Sub S q (p.size + 4)
/-- The tree of two alternatives. -/
def alts (P Q : Re) : Re := .alt (.cat .emp (.grp P)) (.cat .emp (.grp Q))
theorem regex_pair {S p q : ByteArray} (H : Pair S p q) {P Q : Re} {np nq : Nat} (hP : regexF (4 * p.size + 4) p 0 0 = .ok (P, p.size, np)) (hQ : regexF (4 * q.size + 4) q 0 0 = .ok (Q, q.size, nq)) :
    (np + nq + 2 ≤ 9 → regexF (4 * S.size + 4) S 0 0 = .ok (alts P Q, S.size, np + nq + 2)) ∧ (9 < np + nq + 2 → ∃ k, regexF (4 * S.size + 4) S 0 0 = .error k) := by
  have hz := H.z
  obtain ⟨F, hF⟩ : ∃ F, 4 * S.size + 4 = F + 10 := ⟨4 * S.size - 6, by omega⟩
  have hFp : 4 * p.size + 4 ≤ F + 6 := by omega
  have hFq : 4 * q.size + 4 ≤ F + 5 := by omega
  rw [hF]
  obtain ⟨a1, a2⟩ := one_grp (f' := F + 6) (g := 0) (o := 0) H.sp H.b0 hP hFp (by omega) (by
    rw [show 0 + 1 + p.size + 1 = p.size + 2 by omega, H.b1]
    rintro ⟨_, h | h | h⟩ <;> exact absurd h (by decide)) .emp
  rw [show 0 + 1 + p.size + 1 = p.size + 2 by omega, show np + (0 + 1) = np + 1 from rfl] at a1
  rw [show np + (0 + 1) = np + 1 from rfl] at a2
  have top : regexF (F + 10) S 0 0 = match branchF (F + 9) S 0 0 .emp with
      | .error k => .error k
      | .ok (a, j, h) => if isAt S j 124 then (match regexF (F + 9) S (j + 1) h with
        | .error k => .error k
        | .ok (b, m, h2) => .ok (.alt a b, m, h2)) else .ok (a, j, h) := by
    conv => lhs; unfold regexF
    rfl
  have top2 : ∀ i g, regexF (F + 9) S i g = match branchF (F + 8) S i g .emp with
      | .error k => .error k
      | .ok (a, j, h) => if isAt S j 124 then (match regexF (F + 8) S (j + 1) h with
        | .error k => .error k
        | .ok (b, m, h2) => .ok (.alt a b, m, h2)) else .ok (a, j, h) := fun i g => by
    conv => lhs; unfold regexF
    rfl
  have stop : ∀ f i g acc, (S.size ≤ i ∨ S[i]! = 124) → branchF (f + 1) S i g acc = .ok (acc, i, g) := fun f i g acc h => by
    conv => lhs; unfold branchF
    rw [if_neg (fun hx => by rcases h with h | h; omega; exact hx.2.1 h)]
  rw [top]
  rcases Nat.lt_or_ge 9 (np + 1) with h1 | h1
  · obtain ⟨k, hk⟩ := a2 h1
    rw [hk]
    exact ⟨fun hx => by omega, fun _ => ⟨k, rfl⟩⟩
  · rw [a1 h1, stop _ _ _ _ (.inr H.b1)]
    simp only []
    have h124 : isAt S (p.size + 2) 124 = true := by
      unfold isAt
      rw [H.b1, decide_eq_true (by omega)]
      rfl
    rw [if_pos h124, top2]
    have sq := H.sq
    obtain ⟨b1, b2⟩ := one_grp (f' := F + 5) (g := np + 1) (o := p.size + 3) sq H.b2 hQ hFq h1 (by
      rw [show p.size + 3 + 1 + q.size + 1 = S.size by omega]
      rintro ⟨h, _⟩
      omega) .emp
    rw [show p.size + 3 + 1 + q.size + 1 = S.size by omega, show nq + (np + 1 + 1) = np + nq + 2 by omega] at b1
    rw [show nq + (np + 1 + 1) = np + nq + 2 by omega] at b2
    rw [show p.size + 2 + 1 = p.size + 3 from rfl]
    refine ⟨fun hx => ?_, fun hx => ?_⟩
    · rw [b1 hx, stop _ _ _ _ (.inl (Nat.le_refl _))]
      simp only []
      rw [if_neg (not_at (fun h => by omega))]
      rfl
    · obtain ⟨k, hk⟩ := b2 hx
      rw [hk]
      exact ⟨k, rfl⟩
/-- The program of a tree. -/
def progF (a : Re) : List In := [iSave 0] ++ a.gen 1 0 ++ [iSave 1] ++ [iOp 9]
theorem comp_pair {S p q : ByteArray} (H : Pair S p q) (hl : p.size + q.size ≤ 100) {P Q : Re} {np nq : Nat} (hP : regexF (4 * p.size + 4) p 0 0 = .ok (P, p.size, np)) (hQ : regexF (4 * q.size + 4) q 0 0 = .ok (Q, q.size, nq)) :
    (np + nq + 2 ≤ 9 → compF S = .ok (progF (alts P Q), np + nq + 3)) ∧ (9 < np + nq + 2 → ∃ k, compF S = .error (k, 49)) := by
  obtain ⟨a1, a2⟩ := regex_pair H hP hQ
  have hz := H.z
  unfold compF
  rw [if_neg (by omega)]
  refine ⟨fun hx => ?_, fun hx => ?_⟩
  · rw [a1 hx]
    unfold topE
    simp only []
    rw [if_neg (fun h => by have := (isAt_lt h.2).1; omega)]
    rfl
  · obtain ⟨k, hk⟩ := a2 hx
    rw [hk]
    exact ⟨k, rfl⟩
theorem den_alts {s : ByteArray} {P Q : Re} {i j : Nat} : Den s (alts P Q) i j ↔ (Den s P i j ∨ Den s Q i j) := by
  constructor
  · intro h
    cases h with
    | altl h => cases h with | cat h1 h2 => cases h1; cases h2 with | grp h => exact .inl h
    | altr h => cases h with | cat h1 h2 => cases h1; cases h2 with | grp h => exact .inr h
  · rintro (h | h)
    · exact .altl (.cat (.emp i) (.grp h))
    · exact .altr (.cat (.emp i) (.grp h))
theorem alts_ok {P Q : Re} (h1 : P.Ok) (h2 : Q.Ok) : (alts P Q).Ok := ⟨⟨trivial, h1⟩, trivial, h2⟩

theorem buf_get (l : List UInt8) (i : Nat) : (⟨l.toArray⟩ : ByteArray)[i]! = l[i]! := by
  by_cases h : i < l.length
  · rw [getElem!_pos (⟨l.toArray⟩ : ByteArray) i (by simpa [ByteArray.size] using h), getElem!_pos l i h]
    rfl
  · rw [getElem!_neg (⟨l.toArray⟩ : ByteArray) i (by simpa [ByteArray.size] using h), getElem!_neg l i h]
theorem list_mid (a b c : List UInt8) {i : Nat} (h : i < b.length) : (a ++ (b ++ c))[a.length + i]! = b[i]! := by
  rw [getElem!_pos _ _ (by simp; omega), getElem!_pos b i h, List.getElem_append_right (by omega), List.getElem_append_left (by omega)]
  congr 1
  omega
theorem list_at (a c : List UInt8) (x : UInt8) : (a ++ x :: c)[a.length]! = x := by
  rw [getElem!_pos _ _ (by simp), List.getElem_append_right (Nat.le_refl _)]
  simp
/-- The text of two alternatives. -/
def pairS (p q : ByteArray) : ByteArray := ⟨(40 :: p.data.toList ++ (41 :: 124 :: 40 :: (q.data.toList ++ [41]))).toArray⟩
theorem pair_is (p q : ByteArray) : Pair (pairS p q) p q := by
  have lp : p.data.toList.length = p.size := rfl
  have lq : q.data.toList.length = q.size := rfl
  have gp : ∀ (b : ByteArray) (i : Nat), b[i]! = b.data.toList[i]! := fun b i => by
    have h := buf_get b.data.toList i
    rwa [Array.toArray_toList] at h
  have hz : (pairS p q).size = p.size + q.size + 5 := by
    show (40 :: p.data.toList ++ (41 :: 124 :: 40 :: (q.data.toList ++ [41]))).toArray.size = _
    rw [List.size_toArray]
    simp only [List.length_append, List.length_cons, List.length_nil, lp, lq]
    omega
  refine ⟨hz, ?_, ⟨fun i hi => ?_, by omega, ?_⟩, ?_, ?_, fun i hi => ?_, by omega, ?_⟩
  · unfold pairS; rw [buf_get]; rfl
  · unfold pairS; rw [buf_get, gp]
    exact list_mid [40] p.data.toList _ hi
  · unfold pairS; rw [buf_get]
    have := list_at (40 :: p.data.toList) (124 :: 40 :: (q.data.toList ++ [41])) 41
    rwa [List.length_cons, lp, Nat.add_comm p.size 1] at this
  · unfold pairS; rw [buf_get]
    have := list_at (40 :: p.data.toList ++ [41]) (40 :: (q.data.toList ++ [41])) 124
    rw [List.length_append, List.length_cons, lp] at this
    first | (simp; done) | simpa using this
  · unfold pairS; rw [buf_get]
    have := list_at (40 :: p.data.toList ++ [41, 124]) (q.data.toList ++ [41]) 40
    rw [List.length_append, List.length_cons, lp] at this
    first | (simp; done) | simpa using this
  · unfold pairS; rw [buf_get, gp]
    have := list_mid (40 :: p.data.toList ++ [41, 124, 40]) q.data.toList [41] hi
    rw [List.length_append, List.length_cons, lp] at this
    first | (simp; done) | simpa using this
  · unfold pairS; rw [buf_get]
    have := list_at (40 :: p.data.toList ++ [41, 124, 40] ++ q.data.toList) [] 41
    rw [List.length_append, List.length_append, List.length_cons, lp, lq] at this
    first | (simp; done) | simpa using this
/-- What the statement says: both texts compile or both do not; where they do, the first matches are the same. -/
theorem swap_law {p q : ByteArray} {Lp Lq : List In} {Gp Gq : Nat} (hp : compF p = .ok (Lp, Gp)) (hq : compF q = .ok (Lq, Gq)) (hl : p.size + q.size ≤ 100) :
    ((∃ k, compF (pairS p q) = .error (k, 49)) ∧ ∃ k, compF (pairS q p) = .error (k, 49)) ∨
    ∃ L L' G, compF (pairS p q) = .ok (L, G) ∧ compF (pairS q p) = .ok (L', G) ∧ L.length = L'.length ∧ ∀ s : ByteArray, (firstTop L G s 0).map (·.2) = (firstTop L' G s 0).map (·.2) := by
  obtain ⟨P, okP, _, _, _, _, _, _, rP⟩ := comp_tree hp
  obtain ⟨Q, okQ, _, _, _, _, _, _, rQ⟩ := comp_tree hq
  obtain ⟨a1, a2⟩ := comp_pair (pair_is p q) hl rP rQ
  obtain ⟨b1, b2⟩ := comp_pair (pair_is q p) (by omega) rQ rP
  rcases Nat.lt_or_ge 9 (P.ngrp + Q.ngrp + 2) with h | h
  · exact .inl ⟨a2 h, b2 (by omega)⟩
  · have e1 := a1 h
    have e2 := b1 (by omega)
    rw [show Q.ngrp + P.ngrp + 3 = P.ngrp + Q.ngrp + 3 by omega] at e2
    refine .inr ⟨_, _, _, e1, e2, ?_, fun s => ?_⟩
    · show (progF _).length = (progF _).length
      unfold progF
      rw [prog_len, prog_len]
      simp only [alts, Re.clen]
      omega
    · refine first_same (comp_right e1) (comp_right e2) (fun b e _ => ?_)
      unfold progF
      rw [acc_den (alts_ok okP okQ), acc_den (alts_ok okQ okP), den_alts, den_alts]
      exact Or.comm

end Go.Proofs.Ytfhccmegobbnaaa
