/- This text gives the plain Grant of package lease, and what a binary search finds. It has no conditions. -/
import Derived.Test.YtodmgdihkhakpaaLeaseK
namespace Go.Proofs.Ytodmgdihkhakpaa
open Go.ChangeShapes Go.WideShapes Go.ChangeAt Go.RowKit
set_option linter.unusedVariables false

theorem cmpI_lt (a b : Int) : cmpI a b < 0 ↔ a < b := by unfold cmpI; split <;> (try split) <;> omega
theorem cmpI_zero (a b : Int) : cmpI a b = 0 ↔ a = b := by unfold cmpI; split <;> (try split) <;> omega
theorem order_lt (a b : Le) : orderI a b < 0 ↔ beforeB a b = true := by
  unfold orderI beforeB
  rw [decide_eq_true_iff]
  have h1 := cmpI_lt a.id b.id
  have h2 := cmpI_zero a.id b.id
  have h3 := cmpI_lt a.conn b.conn
  split
  · rename_i h; rw [h1]; rw [ne_eq, h2] at h; omega
  · rename_i h; rw [h3]; rw [ne_eq, h2, Classical.not_not] at h; omega
theorem order_zero (a b : Le) : orderI a b = 0 ↔ a.id = b.id ∧ a.conn = b.conn := by
  unfold orderI
  have h2 := cmpI_zero a.id b.id
  have h3 := cmpI_zero a.conn b.conn
  split
  · rename_i h; rw [ne_eq, h2] at h; rw [h2]; omega
  · rename_i h; rw [ne_eq, h2, Classical.not_not] at h; rw [h3]; omega

def liveL (xs : List Le) (now : Int) : List Le := xs.filter fun x => !(decide (x.til ≤ now))
def posI (x : Le) (ys : List Le) : Nat := (ys.takeWhile fun y => decide (orderI y x < 0)).length
def foundB (x : Le) (ys : List Le) : Bool := decide (posI x ys < ys.length) && decide (orderI ys[posI x ys]! x = 0)

theorem pos_of : ∀ (ys : List Le) (x : Le) (i : Nat), i ≤ ys.length → (∀ a, a < i → orderI ys[a]! x < 0) → (∀ a, i ≤ a → a < ys.length → ¬ orderI ys[a]! x < 0) → posI x ys = i
  | [], x, i, hi, _, _ => by simp [posI]; simp at hi; omega
  | y :: ys, x, 0, hi, _, h2 => by
    have := h2 0 (Nat.le_refl _) (by simp)
    simp only [List.getElem!_cons_zero] at this
    simp [posI, this]
  | y :: ys, x, i + 1, hi, h1, h2 => by
    have h0 := h1 0 (by omega)
    simp only [List.getElem!_cons_zero] at h0
    have := pos_of ys x i (by simpa using hi) (fun a ha => by simpa using h1 (a + 1) (by omega)) (fun a ha hb => by simpa using h2 (a + 1) (by omega) (by simpa using hb))
    simp only [posI] at this
    simp [posI, h0, this]

def reqB (cn fid kd tm now : Int) : Bool := inB cn 1 1099511627776 && inB fid 1 1099511627776 && kindB kd && inB tm 1 1048576 && inB now 0 1099511627776
def putL (x : Le) (ys : List Le) : List Le := if foundB x ys then ys.set (posI x ys) x else ys.take (posI x ys) ++ x :: ys.drop (posI x ys)
def grantF (xs : List Le) (cn fid kd tm now : Int) : List Le × Int × Int :=
  if reqB cn fid kd tm now then
    if (liveL xs now).any (fun y => conflictB ⟨cn, fid, kd, now + tm⟩ y) then (xs, 0, 32)
    else if foundB ⟨cn, fid, kd, now + tm⟩ (liveL xs now) then (putL ⟨cn, fid, kd, now + tm⟩ (liveL xs now), now + tm, 0)
    else if 64 ≤ (liveL xs now).length then (xs, 0, 22)
    else (putL ⟨cn, fid, kd, now + tm⟩ (liveL xs now), now + tm, 0)
  else (xs, 0, 1)

theorem set_split (ys : List Le) (i : Nat) (x : Le) (h : i < ys.length) : ys.set i x = ys.take i ++ x :: ys.drop (i + 1) := by
  rw [List.set_eq_take_append_cons_drop, if_pos h]

theorem flat_cons (x : Le) (ys : List Le) : flat (x :: ys) = x.enc ++ flat ys := rfl
theorem flat_drop (xs : List Le) (k : Nat) : flat (xs.drop k) = (flat xs).drop (k * 4) := by
  have h : flat xs = flat (xs.take k) ++ flat (xs.drop k) := by rw [← flat_append, List.take_append_drop]
  by_cases hk : k ≤ xs.length
  · have hl : (flat (xs.take k)).length = k * 4 := by rw [flat_length, List.length_take]; omega
    rw [h, ← hl, List.drop_left]
  · rw [List.drop_of_length_le (by omega), List.drop_of_length_le (by rw [flat_length]; omega)]; rfl
theorem flat_insert (x : Le) (ys : List Le) (i : Nat) : (flat ys).take (i * 4) ++ x.enc ++ (flat ys).drop (i * 4) = flat (ys.take i ++ x :: ys.drop i) := by
  rw [flat_append, flat_cons, flat_take, flat_drop, List.append_assoc]

/-- Sorted: each before all behind it. -/
def SortedL (ys : List Le) : Prop := ys.Pairwise fun a b => beforeB a b = true
theorem SortedL.mono {ys : List Le} (h : SortedL ys) (x : Le) : ∀ a b, a ≤ b → b < ys.length → orderI ys[b]! x < 0 → orderI ys[a]! x < 0 := by
  intro a b hab hb hlt
  by_cases e : a = b
  · subst e; exact hlt
  · have := List.pairwise_iff_getElem.1 h a b (by omega) hb (by omega)
    rw [getElem!_pos ys b hb] at hlt
    rw [getElem!_pos ys a (by omega)]
    rw [order_lt] at *
    unfold beforeB at *
    rw [decide_eq_true_iff] at *
    omega
theorem SortedL.live {xs : List Le} (h : SortedL xs) (now : Int) : SortedL (liveL xs now) := List.Pairwise.filter _ h
theorem live_length (xs : List Le) (now : Int) : (liveL xs now).length ≤ xs.length := List.length_filter_le _ _

end Go.Proofs.Ytodmgdihkhakpaa
