/- This text proves the walk of Right of package cache. Conditions: those that each theorem names. -/
import Derived.Test.YtcgajlobbjoefaaCacheN
namespace Go.Proofs.Ytcgajlobbjoefaa
open Go.ChangeShapes Go.WideShapes Go.ChangeAt Go.RowKit
set_option linter.unusedVariables false
set_option linter.unusedSimpArgs false

/-- A piece may be in a cache with these holds. -/
def permB (hs : List Hd) (p : Pc) : Bool := (decide (0 ≤ holdI p.pid hs) && decide (hs[(holdI p.pid hs).toNat]!.vers = p.vers)) && decide (0 ≤ p.pos ∧ p.pos ≤ 9007199254740991 ∧ p.data.size ≤ 65536)
/-- The piece at i clashes with none of the first k. -/
def noneB (bl : List Pc) (i k : Nat) : Bool := (List.range k).all fun j => !clashB bl[i]! bl[j]!
def stepB (hs : List Hd) (bl : List Pc) (i : Nat) : Bool := permB hs bl[i]! && noneB bl i i
def upB (hs : List Hd) (bl : List Pc) (k : Nat) : Bool := (List.range k).all fun i => stepB hs bl i
theorem noneB_succ (bl : List Pc) (i k : Nat) : noneB bl i (k + 1) = (noneB bl i k && !clashB bl[i]! bl[k]!) := by
  unfold noneB
  rw [List.range_succ, List.all_append]; simp
theorem noneB_bad {bl : List Pc} {i k n : Nat} (h : clashB bl[i]! bl[k]! = true) (hk : k < n) : noneB bl i n = false := by
  cases e : noneB bl i n with
  | false => rfl
  | true =>
    unfold noneB at e
    rw [List.all_eq_true] at e
    have := e k (List.mem_range.2 hk)
    rw [h] at this
    cases this
theorem upB_succ (hs : List Hd) (bl : List Pc) (k : Nat) : upB hs bl (k + 1) = (upB hs bl k && stepB hs bl k) := by
  unfold upB
  rw [List.range_succ, List.all_append]; simp
theorem upB_bad {hs : List Hd} {bl : List Pc} {k n : Nat} (h : stepB hs bl k = false) (hk : k < n) : upB hs bl n = false := by
  cases e : upB hs bl n with
  | false => rfl
  | true =>
    unfold upB at e
    rw [List.all_eq_true] at e
    rw [e k (List.mem_range.2 hk)] at h
    cases h
theorem upB_perm {hs : List Hd} {bl : List Pc} {k j : Nat} (h : upB hs bl k = true) (hj : j < k) : OkP bl[j]! := by
  unfold upB at h
  rw [List.all_eq_true] at h
  have h1 := h j (List.mem_range.2 hj)
  unfold stepB permB at h1
  rw [Bool.and_eq_true, Bool.and_eq_true, decide_eq_true_eq] at h1
  obtain ⟨⟨_, h2, h3, h4⟩, _⟩ := h1
  exact ⟨⟨h2, h3⟩, by omega⟩
theorem holds_asc {hs : List Hd} (h : holdsB hs = true) : AscH hs := by
  unfold holdsB at h
  rw [Bool.and_eq_true] at h
  have h1 := h.1
  unfold upH at h1
  rw [List.all_eq_true] at h1
  have adj : ∀ j, 0 < j → j < hs.length → hs[j - 1]!.hid < hs[j]!.hid := fun j h0 hj => by
    have := h1 j (List.mem_range.2 hj)
    unfold stepH at this
    rw [Bool.and_eq_true, Bool.or_eq_true, decide_eq_true_eq, decide_eq_true_eq] at this
    rcases this.2 with h | h
    · omega
    · exact h
  have key : ∀ d i, i + d + 1 < hs.length → hs[i]!.hid < hs[i + d + 1]!.hid := by
    intro d
    induction d with
    | zero => intro i hi; exact adj (i + 1) (by omega) (by omega)
    | succ d ih =>
      intro i hi
      have a1 := ih i (by omega)
      have a2 := adj (i + d + 2) (by omega) (by omega)
      rw [show i + d + 2 - 1 = i + d + 1 by omega] at a2
      rw [show i + (d + 1) + 1 = i + d + 2 by omega]
      omega
  unfold AscH
  rw [List.pairwise_iff_getElem]
  intro i j hi hj hij
  have := key (j - i - 1) i (by omega)
  rw [show i + (j - i - 1) + 1 = j by omega, getElem!_pos hs i hi, getElem!_pos hs j hj] at this
  exact this
/-- A cache is valid. -/
def rightB (cp : Int) (bl : List Pc) (hs : List Hd) : Bool := decide (0 ≤ cp ∧ cp ≤ 256) && (decide ((bl.length : Int) ≤ cp) && (holdsB hs && upB hs bl bl.length))

end Go.Proofs.Ytcgajlobbjoefaa
