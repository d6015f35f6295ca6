/- This text gives the plain reading of a regular expression: its tree, its code, and the parser. It has no program in sight. Conditions: those that each theorem names. -/
import Derived.Test.YtfhccmegobbnaaaRegexE
namespace Go.Proofs.Ytfhccmegobbnaaa
open Go.ChangeShapes Go.WideShapes Go.ChangeAt Go.RowKit
set_option linter.unusedVariables false
set_option linter.unusedSimpArgs false

/-- A regular expression: nothing, one instruction, one behind the other, alternatives, repetitions, a group. -/
inductive Re where
  | emp : Re
  | leaf : In → Re
  | cat : Re → Re → Re
  | alt : Re → Re → Re
  | star : Re → Re
  | plus : Re → Re
  | opt : Re → Re
  | grp : Re → Re
def iSplit (x y : Nat) : In := ⟨6, 0, ⟨#[]⟩, false, (x : Int), (y : Int)⟩
def iJump (x : Nat) : In := ⟨7, 0, ⟨#[]⟩, false, (x : Int), 0⟩
def iSave (x : Nat) : In := ⟨8, 0, ⟨#[]⟩, false, (x : Int), 0⟩
def iOp (op : Int) : In := ⟨op, 0, ⟨#[]⟩, false, 0, 0⟩
def iChar (c : UInt8) : In := ⟨1, (c.toNat : Int), ⟨#[]⟩, false, 0, 0⟩
namespace Re
def clen : Re → Nat
  | emp => 0
  | leaf _ => 1
  | cat a b => a.clen + b.clen
  | alt a b => a.clen + b.clen + 2
  | star a => a.clen + 2
  | plus a => a.clen + 1
  | opt a => a.clen + 1
  | grp a => a.clen + 2
def ngrp : Re → Nat
  | emp => 0
  | leaf _ => 0
  | cat a b => a.ngrp + b.ngrp
  | alt a b => a.ngrp + b.ngrp
  | star a => a.ngrp
  | plus a => a.ngrp
  | opt a => a.ngrp
  | grp a => a.ngrp + 1
/-- The code, laid at an index, behind g groups. -/
def gen : Re → Nat → Nat → List In
  | emp, _, _ => []
  | leaf i, _, _ => [i]
  | cat a b, n, g => a.gen n g ++ b.gen (n + a.clen) (g + a.ngrp)
  | alt a b, n, g => iSplit (n + 1) (n + a.clen + 2) :: (a.gen (n + 1) g ++ iJump (n + a.clen + 2 + b.clen) :: b.gen (n + a.clen + 2) (g + a.ngrp))
  | star a, n, g => iSplit (n + 1) (n + a.clen + 2) :: (a.gen (n + 1) g ++ [iJump n])
  | plus a, n, g => a.gen n g ++ [iSplit n (n + a.clen + 1)]
  | opt a, n, g => iSplit (n + 1) (n + a.clen + 1) :: a.gen (n + 1) g
  | grp a, n, g => iSave (2 * (g + 1)) :: (a.gen (n + 1) (g + 1) ++ [iSave (2 * (g + 1) + 1)])
/-- The leaves are instructions without targets. -/
def Ok : Re → Prop
  | emp => True
  | leaf i => (1 ≤ i.op ∧ i.op ≤ 5) ∧ i.x = 0 ∧ i.y = 0
  | cat a b => a.Ok ∧ b.Ok
  | alt a b => a.Ok ∧ b.Ok
  | star a => a.Ok
  | plus a => a.Ok
  | opt a => a.Ok
  | grp a => a.Ok
theorem gen_len : ∀ (a : Re) (n g : Nat), (a.gen n g).length = a.clen
  | emp, _, _ => rfl
  | leaf _, _, _ => rfl
  | cat a b, n, g => by simp [gen, clen, gen_len a, gen_len b]
  | alt a b, n, g => by simp [gen, clen, gen_len a, gen_len b]; omega
  | star a, n, g => by simp [gen, clen, gen_len a]
  | plus a, n, g => by simp [gen, clen, gen_len a]
  | opt a, n, g => by simp [gen, clen, gen_len a]
  | grp a, n, g => by simp [gen, clen, gen_len a]
theorem bump_split' (x y : Nat) : bump (iSplit x y) = iSplit (x + 1) (y + 1) := by
  unfold bump iSplit
  simp
theorem bump_jump' (x : Nat) : bump (iJump x) = iJump (x + 1) := by
  unfold bump iJump
  simp
theorem bump_save' (x : Nat) : bump (iSave x) = iSave x := by
  unfold bump iSave
  simp
/-- Code in front of which an instruction is put is the code laid one further. -/
theorem gen_bump : ∀ (a : Re) (n g : Nat), a.Ok → (a.gen n g).map bump = a.gen (n + 1) g
  | emp, _, _, _ => rfl
  | leaf i, _, _, h => by
    have : bump i = i := by
      unfold bump
      have := h.1
      rw [if_neg (by omega), if_neg (by omega)]
    simp [gen, this]
  | cat a b, n, g, h => by
    simp only [gen, List.map_append, gen_bump a _ _ h.1, gen_bump b _ _ h.2]
    rw [show n + a.clen + 1 = n + 1 + a.clen by omega]
  | alt a b, n, g, h => by
    simp only [gen, List.map_append, List.map_cons, gen_bump a _ _ h.1, gen_bump b _ _ h.2, bump_split', bump_jump']
    rw [show n + a.clen + 2 + 1 = n + 1 + a.clen + 2 by omega, show n + a.clen + 2 + b.clen + 1 = n + 1 + a.clen + 2 + b.clen by omega]
  | star a, n, g, h => by
    simp only [gen, List.map_append, List.map_cons, List.map_nil, gen_bump a _ _ h, bump_split', bump_jump']
    rw [show n + a.clen + 2 + 1 = n + 1 + a.clen + 2 by omega]
  | plus a, n, g, h => by
    simp only [gen, List.map_append, List.map_cons, List.map_nil, gen_bump a _ _ h, bump_split']
    rw [show n + a.clen + 1 + 1 = n + 1 + a.clen + 1 by omega]
  | opt a, n, g, h => by
    simp only [gen, List.map_cons, gen_bump a _ _ h, bump_split']
    rw [show n + a.clen + 1 + 1 = n + 1 + a.clen + 1 by omega]
  | grp a, n, g, h => by
    simp only [gen, List.map_append, List.map_cons, List.map_nil, gen_bump a _ _ h, bump_save']
/-- Its targets are small. -/
theorem gen_sml : ∀ (a : Re) (n g : Nat), a.Ok → n + a.clen ≤ 400000 → g + a.ngrp ≤ 400000 → Sml (a.gen n g)
  | emp, _, _, _, _, _ => fun y hy => by cases hy
  | leaf i, _, _, h, _, _ => fun y hy => by
    rw [gen, List.mem_singleton] at hy
    subst hy
    have := h.2
    omega
  | cat a b, n, g, h, h1, h2 => fun y hy => by
    simp only [clen, ngrp] at h1 h2
    rcases List.mem_append.1 hy with hy | hy
    · exact gen_sml a _ _ h.1 (by omega) (by omega) y hy
    · exact gen_sml b _ _ h.2 (by omega) (by omega) y hy
  | alt a b, n, g, h, h1, h2 => fun y hy => by
    simp only [clen, ngrp] at h1 h2
    rcases List.mem_cons.1 hy with rfl | hy
    · simp only [iSplit]; omega
    rcases List.mem_append.1 hy with hy | hy
    · exact gen_sml a _ _ h.1 (by omega) (by omega) y hy
    rcases List.mem_cons.1 hy with rfl | hy
    · simp only [iJump]; omega
    · exact gen_sml b _ _ h.2 (by omega) (by omega) y hy
  | star a, n, g, h, h1, h2 => fun y hy => by
    simp only [clen, ngrp] at h1 h2
    rcases List.mem_cons.1 hy with rfl | hy
    · simp only [iSplit]; omega
    rcases List.mem_append.1 hy with hy | hy
    · exact gen_sml a _ _ h (by omega) (by omega) y hy
    · rw [List.mem_singleton] at hy; subst hy; simp only [iJump]; omega
  | plus a, n, g, h, h1, h2 => fun y hy => by
    simp only [clen, ngrp] at h1 h2
    rcases List.mem_append.1 hy with hy | hy
    · exact gen_sml a _ _ h (by omega) (by omega) y hy
    · rw [List.mem_singleton] at hy; subst hy; simp only [iSplit]; omega
  | opt a, n, g, h, h1, h2 => fun y hy => by
    simp only [clen, ngrp] at h1 h2
    rcases List.mem_cons.1 hy with rfl | hy
    · simp only [iSplit]; omega
    · exact gen_sml a _ _ h (by omega) (by omega) y hy
  | grp a, n, g, h, h1, h2 => fun y hy => by
    simp only [clen, ngrp] at h1 h2
    rcases List.mem_cons.1 hy with rfl | hy
    · simp only [iSave]; omega
    rcases List.mem_append.1 hy with hy | hy
    · exact gen_sml a _ _ h (by omega) (by omega) y hy
    · rw [List.mem_singleton] at hy; subst hy; simp only [iSave]; omega
end Re

/-- Is this byte at the position? -/
def isAt (s : ByteArray) (i : Nat) (c : UInt8) : Bool := decide (i < s.size) && decide (s[i]! = c)
/-- What the parser reads: a tree, the position behind it, the groups so far; or the offset of an error. -/
abbrev PRes := Except Nat (Re × Nat × Nat)
mutual
def regexF : Nat → ByteArray → Nat → Nat → PRes
  | 0, _, i, _ => .error i
  | f + 1, s, i, g =>
    match branchF f s i g .emp with
    | .error k => .error k
    | .ok (a, j, h) =>
      if isAt s j 124 then
        match regexF f s (j + 1) h with
        | .error k => .error k
        | .ok (b, m, h2) => .ok (.alt a b, m, h2)
      else .ok (a, j, h)
def branchF : Nat → ByteArray → Nat → Nat → Re → PRes
  | 0, _, i, _, _ => .error i
  | f + 1, s, i, g, acc =>
    if i < s.size ∧ s[i]! ≠ 124 ∧ s[i]! ≠ 41 then
      match pieceF f s i g with
      | .error k => .error k
      | .ok (p, j, h) => branchF f s j h (.cat acc p)
    else .ok (acc, i, g)
def pieceF : Nat → ByteArray → Nat → Nat → PRes
  | 0, _, i, _ => .error i
  | f + 1, s, i, g =>
    match atomF f s i g with
    | .error k => .error k
    | .ok (a, j, h) =>
      if isAt s j 42 then .ok (.star a, j + 1, h)
      else if isAt s j 43 then .ok (.plus a, j + 1, h)
      else if isAt s j 63 then .ok (.opt a, j + 1, h)
      else .ok (a, j, h)
def atomF : Nat → ByteArray → Nat → Nat → PRes
  | 0, _, i, _ => .error i
  | f + 1, s, i, g =>
    if s[i]! = 40 then
      if 9 ≤ g then .error i
      else match regexF f s (i + 1) (g + 1) with
        | .error k => .error k
        | .ok (a, j, h) => if isAt s j 41 then .ok (.grp a, j + 1, h) else .error j
    else if s[i]! = 41 ∨ s[i]! = 42 ∨ s[i]! = 43 ∨ s[i]! = 63 then .error i
    else if s[i]! = 46 then .ok (.leaf (iOp 2), i + 1, g)
    else if s[i]! = 94 then .ok (.leaf (iOp 4), i + 1, g)
    else if s[i]! = 36 then .ok (.leaf (iOp 5), i + 1, g)
    else if s[i]! = 91 then
      match classF s (i + 1) with
      | .error k => .error k
      | .ok (x, j) => .ok (.leaf x, j, g)
    else if s[i]! = 92 then
      match escF s i with
      | .error k => .error k
      | .ok (c, j) => .ok (.leaf (iChar c), j, g)
    else .ok (.leaf (iChar s[i]!), i + 1, g)
end
/-- What holds of a reading. -/
def Good (s : ByteArray) (i g : Nat) (lo : Nat) (r : PRes) : Prop :=
  match r with
  | .error _ => True
  | .ok (a, j, h) => a.Ok ∧ i + lo ≤ j ∧ j ≤ s.size ∧ h = g + a.ngrp ∧ a.clen ≤ 2 * (j - i) ∧ h ≤ max g 9
theorem items_pos : ∀ (f : Nat) (s : ByteArray) (i : Nat) (first : Bool) (set : ByteArray) (r : ByteArray) (j : Nat), itemsF f s i first set = .ok (r, j) → i < j ∧ j ≤ s.size
  | 0, s, i, first, set, r, j, h => by unfold itemsF at h; cases h
  | f + 1, s, i, first, set, r, j, h => by
    unfold itemsF at h
    split at h
    · rename_i hc
      cases h
      omega
    · split at h
      · cases h
      · rename_i a p hc
        have h1 := charF_pos hc
        split at h
        · split at h
          · cases h
          · rename_i b m hc2
            have h2 := charF_pos hc2
            split at h
            · cases h
            · have := items_pos f _ _ _ _ _ _ h
              omega
        · have := items_pos f _ _ _ _ _ _ h
          omega
theorem classF_pos {s : ByteArray} {i j : Nat} {x : In} (h : classF s i = .ok (x, j)) : i < j ∧ j ≤ s.size ∧ x.op = 3 ∧ x.x = 0 ∧ x.y = 0 := by
  unfold classF at h
  split at h
  · split at h
    · cases h
    · rename_i set m hc
      have := items_pos _ _ _ _ _ _ _ hc
      cases h
      exact ⟨by omega, by omega, rfl, rfl, rfl⟩
  · split at h
    · cases h
    · rename_i set m hc
      have := items_pos _ _ _ _ _ _ _ hc
      cases h
      exact ⟨by omega, by omega, rfl, rfl, rfl⟩
theorem isAt_lt {s : ByteArray} {i : Nat} {c : UInt8} (h : isAt s i c = true) : i < s.size ∧ s[i]! = c := by
  unfold isAt at h
  rw [Bool.and_eq_true, decide_eq_true_eq, decide_eq_true_eq] at h
  exact h

theorem good_all : ∀ (f : Nat), (∀ s i g, i ≤ s.size → Good s i g 0 (regexF f s i g)) ∧ (∀ s i g acc i0 g0, i0 ≤ i → i ≤ s.size → acc.Ok → g = g0 + acc.ngrp → acc.clen ≤ 2 * (i - i0) → g ≤ max g0 9 → Good s i0 g0 (i - i0) (branchF f s i g acc)) ∧ (∀ s i g, i < s.size → Good s i g 1 (pieceF f s i g)) ∧ ∀ s i g, i < s.size → Good s i g 1 (atomF f s i g)
  | 0 => ⟨fun s i g _ => by unfold regexF; trivial, fun s i g acc i0 g0 _ _ _ _ _ _ => by unfold branchF; trivial, fun s i g _ => by unfold pieceF; trivial, fun s i g _ => by unfold atomF; trivial⟩
  | f + 1 => by
    obtain ⟨hr, hb, hp, ha⟩ := good_all f
    refine ⟨fun s i g hi => ?_, fun s i g acc i0 g0 h1 h2 h3 h4 h5 h6 => ?_, fun s i g hi => ?_, fun s i g hi => ?_⟩
    · unfold regexF
      have h1 := hb s i g .emp i g (Nat.le_refl _) hi trivial rfl (by simp [Re.clen]) (Nat.le_max_left _ _)
      split
      · trivial
      · rename_i a j h heq
        rw [heq] at h1
        obtain ⟨o1, p1, p2, p3, p4, p5⟩ := h1
        split
        · rename_i hat
          have hat := isAt_lt hat
          have h2 := hr s (j + 1) h (by omega)
          split
          · trivial
          · rename_i b m h2' heq2
            rw [heq2] at h2
            obtain ⟨o2, q1, q2, q3, q4, q5⟩ := h2
            exact ⟨⟨o1, o2⟩, by omega, q2, by simp only [Re.ngrp]; omega, by simp only [Re.clen]; omega, by omega⟩
        · exact ⟨o1, by omega, p2, p3, p4, p5⟩
    · unfold branchF
      split
      · rename_i hc
        have h7 := hp s i g hc.1
        split
        · trivial
        · rename_i p j h heq
          rw [heq] at h7
          obtain ⟨o1, p1, p2, p3, p4, p5⟩ := h7
          have := hb s j h (.cat acc p) i0 g0 (by omega) p2 ⟨h3, o1⟩ (by simp only [Re.ngrp]; omega) (by simp only [Re.clen]; omega) (by omega)
          generalize branchF f s j h (.cat acc p) = r at this ⊢
          cases r with
          | error k => trivial
          | ok r =>
            obtain ⟨a, m, h'⟩ := r
            obtain ⟨o2, q1, q2, q3, q4, q5⟩ := this
            exact ⟨o2, by omega, q2, q3, q4, q5⟩
      · exact ⟨h3, by omega, h2, h4, h5, h6⟩
    · unfold pieceF
      have h1 := ha s i g hi
      split
      · trivial
      · rename_i a j h heq
        rw [heq] at h1
        obtain ⟨o1, p1, p2, p3, p4, p5⟩ := h1
        repeat' split
        · rename_i hat; have := isAt_lt hat; exact ⟨o1, by omega, by omega, p3, by simp only [Re.clen]; omega, p5⟩
        · rename_i hat; have := isAt_lt hat; exact ⟨o1, by omega, by omega, p3, by simp only [Re.clen]; omega, p5⟩
        · rename_i hat; have := isAt_lt hat; exact ⟨o1, by omega, by omega, p3, by simp only [Re.clen]; omega, p5⟩
        · exact ⟨o1, p1, p2, p3, p4, p5⟩
    · have lf : ∀ x : In, ∀ j, (1 ≤ x.op ∧ x.op ≤ 5) ∧ x.x = 0 ∧ x.y = 0 → i + 1 ≤ j → j ≤ s.size → Good s i g 1 (.ok (.leaf x, j, g)) := fun x j h1 h2 h3 => ⟨h1, h2, h3, rfl, by simp only [Re.clen]; omega, Nat.le_max_left _ _⟩
      unfold atomF
      split
      · split
        · trivial
        · rename_i hg
          have h1 := hr s (i + 1) (g + 1) (by omega)
          split
          · trivial
          · rename_i a j h heq
            rw [heq] at h1
            obtain ⟨o1, p1, p2, p3, p4, p5⟩ := h1
            split
            · rename_i hat
              have := isAt_lt hat
              exact ⟨o1, by omega, by omega, by simp only [Re.ngrp]; omega, by simp only [Re.clen]; omega, by omega⟩
            · trivial
      · split
        · trivial
        · split
          · exact lf _ _ ⟨⟨by decide, by decide⟩, rfl, rfl⟩ (by omega) (by omega)
          · split
            · exact lf _ _ ⟨⟨by decide, by decide⟩, rfl, rfl⟩ (by omega) (by omega)
            · split
              · exact lf _ _ ⟨⟨by decide, by decide⟩, rfl, rfl⟩ (by omega) (by omega)
              · split
                · split
                  · trivial
                  · rename_i x j heq
                    obtain ⟨h1, h2, h3, h4, h5⟩ := classF_pos heq
                    exact lf _ _ ⟨⟨by omega, by omega⟩, h4, h5⟩ (by omega) h2
                · split
                  · split
                    · trivial
                    · rename_i c j heq
                      obtain ⟨h1, h2⟩ := escF_pos heq
                      exact lf _ _ ⟨⟨by show (1 : Int) ≤ 1; decide, by show (1 : Int) ≤ 5; decide⟩, rfl, rfl⟩ (by omega) h2
                  · exact lf _ _ ⟨⟨by show (1 : Int) ≤ 1; decide, by show (1 : Int) ≤ 5; decide⟩, rfl, rfl⟩ (by omega) (by omega)
/-- The top of an expression: a bracket that closes none is an error there. -/
def topE (deep : Nat) (s : ByteArray) (r : PRes) : PRes :=
  match r with
  | .error k => .error k
  | .ok (a, j, h) => if deep = 0 ∧ isAt s j 41 = true then .error j else .ok (a, j, h)

end Go.Proofs.Ytfhccmegobbnaaa
