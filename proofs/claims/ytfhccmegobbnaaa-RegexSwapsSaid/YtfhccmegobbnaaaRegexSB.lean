/- This text proves which texts the program of a tree matches: those that the tree denotes. It has no program in sight. Conditions: those that each theorem names. -/
import Derived.Test.YtfhccmegobbnaaaRegexSA
namespace Go.Proofs.Ytfhccmegobbnaaa
open Go.ChangeShapes Go.WideShapes Go.ChangeAt Go.RowKit
set_option linter.unusedVariables false
set_option linter.unusedSimpArgs false

/-- The tree matches from a position to another. -/
inductive Den (s : ByteArray) : Re → Nat → Nat → Prop
  | emp (i : Nat) : Den s .emp i i
  | chr {x : In} {i : Nat} : i < s.size → accF x (s[i]!.toNat : Int) = true → Den s (.leaf x) i (i + 1)
  | start {x : In} : x.op = 4 → Den s (.leaf x) 0 0
  | fin {x : In} : x.op = 5 → Den s (.leaf x) s.size s.size
  | cat {a b : Re} {i j k : Nat} : Den s a i j → Den s b j k → Den s (.cat a b) i k
  | altl {a b : Re} {i j : Nat} : Den s a i j → Den s (.alt a b) i j
  | altr {a b : Re} {i j : Nat} : Den s b i j → Den s (.alt a b) i j
  | star0 {a : Re} (i : Nat) : Den s (.star a) i i
  | star1 {a : Re} {i j k : Nat} : Den s a i j → Den s (.star a) j k → Den s (.star a) i k
  | plus1 {a : Re} {i j : Nat} : Den s a i j → Den s (.plus a) i j
  | plus2 {a : Re} {i j k : Nat} : Den s a i j → Den s (.plus a) j k → Den s (.plus a) i k
  | opt0 {a : Re} (i : Nat) : Den s (.opt a) i i
  | opt1 {a : Re} {i j : Nat} : Den s a i j → Den s (.opt a) i j
  | grp {a : Re} {i j : Nat} : Den s a i j → Den s (.grp a) i j
theorem eps_split {L : List In} {n pos k x y : Nat} (h : L[k]! = iSplit x y) : epsF L n pos k = [x, y] := by
  unfold epsF; rw [h]; simp [iSplit]
theorem eps_jump {L : List In} {n pos k x : Nat} (h : L[k]! = iJump x) : epsF L n pos k = [x] := by
  unfold epsF; rw [h]; simp [iJump]
theorem eps_save {L : List In} {n pos k x : Nat} (h : L[k]! = iSave x) : epsF L n pos k = [k + 1] := by
  unfold epsF; rw [h]; simp [iSave]
theorem eps_start {L : List In} {n k : Nat} (h : L[k]!.op = 4) : epsF L n 0 k = [k + 1] := by
  unfold epsF; rw [h]; simp
theorem eps_fin {L : List In} {n k : Nat} (h : L[k]!.op = 5) : epsF L n n k = [k + 1] := by
  unfold epsF; rw [h]; simp
theorem den_rch {L : List In} {s : ByteArray} {b : Nat} {a : Re} {i j : Nat} (h : Den s a i j) : ∀ n g, At L a n g → Rch L s b i n → Rch L s b j (n + a.clen) := by
  induction h with
  | emp i => intro n g _ hr; exact hr
  | chr h1 h2 =>
    intro n g ha hr
    have ha : L[n]! = _ := ha
    exact hr.chr h1 (by rw [ha]; exact h2)
  | start h1 =>
    intro n g ha hr
    have ha : L[n]! = _ := ha
    exact hr.eps (by rw [eps_start (by rw [ha]; exact h1)]; exact List.mem_singleton.2 rfl)
  | fin h1 =>
    intro n g ha hr
    have ha : L[n]! = _ := ha
    exact hr.eps (by rw [eps_fin (by rw [ha]; exact h1)]; exact List.mem_singleton.2 rfl)
  | cat _ _ ih1 ih2 =>
    intro n g ha hr
    have := ih2 _ _ ha.2 (ih1 _ _ ha.1 hr)
    rwa [show ∀ x y z : Nat, x + y + z = x + (y + z) from Nat.add_assoc] at this
  | @altl a b i j _ ih =>
    intro n g ha hr
    obtain ⟨q0, qa, qj, qb⟩ := ha
    have h1 := ih _ _ qa (hr.eps (by rw [eps_split q0]; simp))
    have h2 := h1.eps (k' := n + a.clen + 2 + b.clen) (by rw [eps_jump qj]; simp)
    rw [show n + (Re.alt a b).clen = n + a.clen + 2 + b.clen by simp only [Re.clen]; omega]
    exact h2
  | @altr a b i j _ ih =>
    intro n g ha hr
    obtain ⟨q0, qa, qj, qb⟩ := ha
    have h1 := ih _ _ qb (hr.eps (by rw [eps_split q0]; simp))
    rw [show n + (Re.alt a b).clen = n + a.clen + 2 + b.clen by simp only [Re.clen]; omega]
    exact h1
  | @star0 a i =>
    intro n g ha hr
    obtain ⟨q0, qa, qj⟩ := ha
    exact hr.eps (by rw [eps_split q0]; simp [Re.clen]; omega)
  | @star1 a i j k _ _ ih1 ih2 =>
    intro n g ha hr
    have ha0 := ha
    obtain ⟨q0, qa, qj⟩ := ha
    have h1 := ih1 _ _ qa (hr.eps (by rw [eps_split q0]; simp))
    exact ih2 _ _ ha0 (h1.eps (by rw [eps_jump qj]; simp))
  | @plus1 a i j _ ih =>
    intro n g ha hr
    obtain ⟨qa, qj⟩ := ha
    have h1 := ih _ _ qa hr
    exact h1.eps (by rw [eps_split qj]; simp [Re.clen]; omega)
  | @plus2 a i j k _ _ ih1 ih2 =>
    intro n g ha hr
    have ha0 := ha
    obtain ⟨qa, qj⟩ := ha
    have h1 := ih1 _ _ qa hr
    exact ih2 _ _ ha0 (h1.eps (by rw [eps_split qj]; simp))
  | @opt0 a i =>
    intro n g ha hr
    obtain ⟨q0, qa⟩ := ha
    exact hr.eps (by rw [eps_split q0]; simp [Re.clen]; omega)
  | @opt1 a i j _ ih =>
    intro n g ha hr
    obtain ⟨q0, qa⟩ := ha
    have h1 := ih _ _ qa (hr.eps (by rw [eps_split q0]; simp))
    rw [show n + (Re.opt a).clen = n + 1 + a.clen by simp only [Re.clen]; omega]
    exact h1
  | @grp a i j _ ih =>
    intro n g ha hr
    obtain ⟨q0, qa, qj⟩ := ha
    have h1 := ih _ _ qa (hr.eps (by rw [eps_save q0]; simp))
    have h2 := h1.eps (k' := n + 1 + a.clen + 1) (by rw [eps_save qj]; simp)
    rw [show n + (Re.grp a).clen = n + 1 + a.clen + 1 by simp only [Re.clen]; omega]
    exact h2
/-- A way of n steps to instruction m at position j. -/
inductive Pth (L : List In) (s : ByteArray) (j m : Nat) : Nat → Nat → Nat → Prop
  | nil : Pth L s j m 0 j m
  | eps {n i k k' : Nat} : k' ∈ epsF L s.size i k → Pth L s j m n i k' → Pth L s j m (n + 1) i k
  | chr {n i k : Nat} : i < s.size → accF L[k]! (s[i]!.toNat : Int) = true → Pth L s j m n (i + 1) (k + 1) → Pth L s j m (n + 1) i k
theorem rch_pth {L : List In} {s : ByteArray} {b i k : Nat} (h : Rch L s b i k) : ∀ {j m n : Nat}, Pth L s j m n i k → ∃ n', Pth L s j m n' b 0 := by
  induction h with
  | nil => intro j m n h; exact ⟨n, h⟩
  | eps _ h1 ih => intro j m n h; exact ih (.eps h1 h)
  | chr _ h1 h2 ih => intro j m n h; exact ih (.chr h1 h2 h)
theorem Pth.inv {L : List In} {s : ByteArray} {j m n i k : Nat} (h : Pth L s j m n i k) : (n = 0 ∧ i = j ∧ k = m) ∨ (∃ n' k', n = n' + 1 ∧ k' ∈ epsF L s.size i k ∧ Pth L s j m n' i k') ∨ ∃ n', n = n' + 1 ∧ i < s.size ∧ accF L[k]! (s[i]!.toNat : Int) = true ∧ Pth L s j m n' (i + 1) (k + 1) := by
  cases h with
  | nil => exact .inl ⟨rfl, rfl, rfl⟩
  | eps h1 h2 => exact .inr (.inl ⟨_, _, rfl, h1, h2⟩)
  | chr h1 h2 h3 => exact .inr (.inr ⟨_, rfl, h1, h2, h3⟩)
theorem Pth.go {L : List In} {s : ByteArray} {j m n i k : Nat} {E : List Nat} (h : Pth L s j m n i k) (hm : k ≠ m) (ho : 4 ≤ L[k]!.op) (hE : epsF L s.size i k = E) : ∃ n' k', n = n' + 1 ∧ k' ∈ E ∧ Pth L s j m n' i k' := by
  rcases h.inv with h1 | h1 | ⟨n', _, _, h1, _⟩
  · exact absurd h1.2.2 hm
  · rw [hE] at h1; exact h1
  · have := acc_op h1
    omega
theorem pth_den {L : List In} {s : ByteArray} {j m : Nat} : ∀ (a : Re) (n0 g : Nat), At L a n0 g → a.Ok → (m < n0 ∨ n0 + a.clen ≤ m) → ∀ (N n i : Nat), n ≤ N → Pth L s j m n i n0 → ∃ n' i', n' ≤ n ∧ Den s a i i' ∧ Pth L s j m n' i' (n0 + a.clen)
  | .emp, n0, g, _, _, _, N, n, i, _, hp => ⟨n, i, Nat.le_refl _, .emp i, hp⟩
  | .leaf x, n0, g, ha, ok, hm, N, n, i, _, hp => by
    have ha : L[n0]! = x := ha
    have hm : m < n0 ∨ n0 + 1 ≤ m := hm
    have ok := ok.1
    rcases hp.inv with h1 | ⟨n', k', rfl, h2, h3⟩ | ⟨n', rfl, h2, h3, h4⟩
    · omega
    · unfold epsF at h2
      rw [ha, if_neg (by omega), if_neg (by omega), if_neg (by omega)] at h2
      by_cases h4 : x.op = 4
      · rw [if_pos h4] at h2
        by_cases hi : i = 0
        · rw [if_pos hi, List.mem_singleton] at h2
          subst hi h2
          exact ⟨n', 0, by omega, .start h4, h3⟩
        · rw [if_neg hi] at h2; cases h2
      · rw [if_neg h4] at h2
        by_cases h5 : x.op = 5
        · rw [if_pos h5] at h2
          by_cases hi : i = s.size
          · rw [if_pos hi, List.mem_singleton] at h2
            subst hi h2
            exact ⟨n', s.size, by omega, .fin h5, h3⟩
          · rw [if_neg hi] at h2; cases h2
        · rw [if_neg h5] at h2; cases h2
    · rw [ha] at h3
      exact ⟨n', i + 1, by omega, .chr h2 h3, h4⟩
  | .cat a b, n0, g, ha, ok, hm, N, n, i, hN, hp => by
    simp only [Re.clen] at hm ⊢
    obtain ⟨n1, i1, l1, d1, p1⟩ := pth_den a n0 g ha.1 ok.1 (by omega) N n i hN hp
    obtain ⟨n2, i2, l2, d2, p2⟩ := pth_den b _ _ ha.2 ok.2 (by omega) N n1 i1 (by omega) p1
    exact ⟨n2, i2, by omega, .cat d1 d2, by rw [← Nat.add_assoc]; exact p2⟩
  | .alt a b, n0, g, ha, ok, hm, N, n, i, hN, hp => by
    simp only [Re.clen] at hm ⊢
    obtain ⟨q0, qa, qj, qb⟩ := ha
    obtain ⟨n1, k1, rfl, hk, p1⟩ := hp.go (by omega) (by rw [q0]; simp [iSplit]) (eps_split q0)
    simp only [List.mem_cons, List.not_mem_nil, or_false] at hk
    rcases hk with rfl | rfl
    · obtain ⟨n2, i2, l2, d2, p2⟩ := pth_den a _ _ qa ok.1 (by omega) N n1 i (by omega) p1
      obtain ⟨n3, k3, rfl, hk, p3⟩ := p2.go (by omega) (by rw [qj]; simp [iJump]) (eps_jump qj)
      rw [List.mem_singleton] at hk
      subst hk
      exact ⟨n3, i2, by omega, .altl d2, by rw [show n0 + (a.clen + b.clen + 2) = n0 + a.clen + 2 + b.clen by omega]; exact p3⟩
    · obtain ⟨n2, i2, l2, d2, p2⟩ := pth_den b _ _ qb ok.2 (by omega) N n1 i (by omega) p1
      exact ⟨n2, i2, by omega, .altr d2, by rw [show n0 + (a.clen + b.clen + 2) = n0 + a.clen + 2 + b.clen by omega]; exact p2⟩
  | .star a, n0, g, ha, ok, hm, N, n, i, hN, hp => by
    simp only [Re.clen] at hm ⊢
    have ha0 := ha
    obtain ⟨q0, qa, qj⟩ := ha
    induction N generalizing n i with
    | zero =>
      obtain ⟨n1, k1, h1, hk, p1⟩ := hp.go (by omega) (by rw [q0]; simp [iSplit]) (eps_split q0)
      omega
    | succ N ih =>
      obtain ⟨n1, k1, rfl, hk, p1⟩ := hp.go (by omega) (by rw [q0]; simp [iSplit]) (eps_split q0)
      simp only [List.mem_cons, List.not_mem_nil, or_false] at hk
      rcases hk with rfl | rfl
      · obtain ⟨n2, i2, l2, d2, p2⟩ := pth_den a _ _ qa ok (by omega) N n1 i (by omega) p1
        obtain ⟨n3, k3, rfl, hk, p3⟩ := p2.go (by omega) (by rw [qj]; simp [iJump]) (eps_jump qj)
        rw [List.mem_singleton] at hk
        subst hk
        obtain ⟨n4, i4, l4, d4, p4⟩ := ih n3 i2 (by omega) p3
        exact ⟨n4, i4, by omega, .star1 d2 d4, p4⟩
      · exact ⟨n1, i, by omega, .star0 i, p1⟩
  | .plus a, n0, g, ha, ok, hm, N, n, i, hN, hp => by
    simp only [Re.clen] at hm ⊢
    obtain ⟨qa, qj⟩ := ha
    induction N generalizing n i with
    | zero =>
      obtain ⟨n2, i2, l2, d2, p2⟩ := pth_den a _ _ qa ok (by omega) 0 n i (by omega) hp
      obtain ⟨n3, k3, h1, hk, p3⟩ := p2.go (by omega) (by rw [qj]; simp [iSplit]) (eps_split qj)
      omega
    | succ N ih =>
      obtain ⟨n2, i2, l2, d2, p2⟩ := pth_den a _ _ qa ok (by omega) (N + 1) n i (by omega) hp
      obtain ⟨n3, k3, rfl, hk, p3⟩ := p2.go (by omega) (by rw [qj]; simp [iSplit]) (eps_split qj)
      simp only [List.mem_cons, List.not_mem_nil, or_false] at hk
      rcases hk with rfl | rfl
      · obtain ⟨n4, i4, l4, d4, p4⟩ := ih n3 i2 (by omega) p3
        exact ⟨n4, i4, by omega, .plus2 d2 d4, p4⟩
      · exact ⟨n3, i2, by omega, .plus1 d2, p3⟩
  | .opt a, n0, g, ha, ok, hm, N, n, i, hN, hp => by
    simp only [Re.clen] at hm ⊢
    obtain ⟨q0, qa⟩ := ha
    obtain ⟨n1, k1, rfl, hk, p1⟩ := hp.go (by omega) (by rw [q0]; simp [iSplit]) (eps_split q0)
    simp only [List.mem_cons, List.not_mem_nil, or_false] at hk
    rcases hk with rfl | rfl
    · obtain ⟨n2, i2, l2, d2, p2⟩ := pth_den a _ _ qa ok (by omega) N n1 i (by omega) p1
      exact ⟨n2, i2, by omega, .opt1 d2, by rw [show n0 + (a.clen + 1) = n0 + 1 + a.clen by omega]; exact p2⟩
    · exact ⟨n1, i, by omega, .opt0 i, p1⟩
  | .grp a, n0, g, ha, ok, hm, N, n, i, hN, hp => by
    simp only [Re.clen] at hm ⊢
    obtain ⟨q0, qa, qj⟩ := ha
    obtain ⟨n1, k1, rfl, hk, p1⟩ := hp.go (by omega) (by rw [q0]; simp [iSave]) (eps_save q0)
    rw [List.mem_singleton] at hk
    subst hk
    obtain ⟨n2, i2, l2, d2, p2⟩ := pth_den a _ _ qa ok (by omega) N n1 i (by omega) p1
    obtain ⟨n3, k3, rfl, hk, p3⟩ := p2.go (by omega) (by rw [qj]; simp [iSave]) (eps_save qj)
    rw [List.mem_singleton] at hk
    subst hk
    exact ⟨n3, i2, by omega, .grp d2, by rw [show n0 + (a.clen + 2) = n0 + 1 + a.clen + 1 by omega]; exact p3⟩
/-- The program of a tree matches what the tree denotes. -/
theorem acc_den {a : Re} (ok : a.Ok) {s : ByteArray} {b e : Nat} : Acc ([iSave 0] ++ a.gen 1 0 ++ [iSave 1] ++ [iOp 9]) s b e ↔ Den s a b e := by
  have hS := prog_shape a ok
  have hA : At ([iSave 0] ++ a.gen 1 0 ++ [iSave 1] ++ [iOp 9]) a 1 0 := at_gen _ a 1 0 [iSave 0] ([iSave 1] ++ [iOp 9]) (by simp) rfl
  generalize [iSave 0] ++ a.gen 1 0 ++ [iSave 1] ++ [iOp 9] = L at hS hA ⊢
  constructor
  · rintro ⟨x, hr, ho⟩
    have hx : x = a.clen + 2 := by
      by_cases h1 : x < L.length
      · rw [hS.len] at h1
        by_cases h2 : x = 0
        · rw [h2, hS.h0] at ho; simp [iSave] at ho
        by_cases h3 : x = a.clen + 1
        · rw [h3, hS.h1] at ho; simp [iSave] at ho
        by_cases h4 : x = a.clen + 2
        · exact h4
        · exact absurd ho (hS.mid x (by omega) (by omega)).o
      · rw [getElem!_neg L x h1] at ho
        exact absurd ho (by decide)
    subst hx
    obtain ⟨n, hp⟩ := rch_pth hr .nil
    obtain ⟨n1, k1, rfl, hk, p1⟩ := hp.go (by omega) (by rw [hS.h0]; simp [iSave]) (eps_save hS.h0)
    rw [List.mem_singleton] at hk
    subst hk
    obtain ⟨n2, i2, l2, d2, p2⟩ := pth_den a 1 0 hA ok (by omega) _ n1 b (Nat.le_refl _) p1
    rw [show 1 + a.clen = a.clen + 1 by omega] at p2
    obtain ⟨n3, k3, rfl, hk, p3⟩ := p2.go (by omega) (by rw [hS.h1]; simp [iSave]) (eps_save hS.h1)
    rw [List.mem_singleton] at hk
    subst hk
    rcases p3.inv with h1 | ⟨n', k', _, h2, _⟩ | ⟨n', _, _, h2, _⟩
    · rw [← h1.2.1]; exact d2
    · rw [eps_stays (by unfold Stays; rw [hS.h2]; decide)] at h2
      cases h2
    · rw [hS.h2] at h2
      have := acc_op h2
      simp [iOp] at this
  · intro h
    have h1 : Rch L s b b 1 := Rch.nil.eps (by rw [eps_save hS.h0]; simp)
    have h2 := den_rch h 1 0 hA h1
    rw [show 1 + a.clen = a.clen + 1 by omega] at h2
    exact ⟨a.clen + 2, h2.eps (by rw [eps_save hS.h1]; simp), by rw [hS.h2]; rfl⟩

end Go.Proofs.Ytfhccmegobbnaaa
