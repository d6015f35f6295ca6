/- This text says in plain terms what the functions of package link compute, and proves facts about these functions. It has no conditions. -/
import Derived.Test.YtchpbfepjlncpaaKit
namespace Go.Proofs.Ytchpbfepjlncpaa
open Go.RowKit
set_option linter.unusedVariables false

structure Lk where
  up : Bool
  cap : Int
  ts : ByteArray
  tc : ByteArray
  lost : Int

def rightB (x : Lk) : Bool :=
  decide (1 ≤ x.cap ∧ x.cap ≤ 65536 ∧ 0 ≤ x.lost ∧ x.lost ≤ 9007199254740991 ∧ (x.ts.size : Int) ≤ x.cap ∧ (x.tc.size : Int) ≤ x.cap ∧ (x.up = true ∨ (x.ts.size = 0 ∧ x.tc.size = 0)))

def idleB (x : Lk) : Bool := decide (x.ts.size = 0 ∧ x.tc.size = 0)

def newL (most : Int) : Lk := ⟨true, min (max most 1) 65536, ⟨#[]⟩, ⟨#[]⟩, 0⟩

def sendL (x : Lk) (server : Bool) (s : ByteArray) : Lk × Int :=
  if x.up = false then (x, 30)
  else if server = true then (if x.cap < (x.ts.size + s.size : Int) then (x, 22) else ({ x with ts := x.ts ++ s }, 0))
  else (if x.cap < (x.tc.size + s.size : Int) then (x, 22) else ({ x with tc := x.tc ++ s }, 0))

def takeN (n : Int) (len : Nat) : Nat := if n < 0 then 0 else if (len : Int) < n then len else n.toNat

def takeL (x : Lk) (server : Bool) (n : Int) : Lk × ByteArray :=
  if server = true then ({ x with ts := x.ts.extract (takeN n x.ts.size) x.ts.size }, x.ts.extract 0 (takeN n x.ts.size))
  else ({ x with tc := x.tc.extract (takeN n x.tc.size) x.tc.size }, x.tc.extract 0 (takeN n x.tc.size))

def dropL (x : Lk) : Lk :=
  if x.up = false then x else ⟨false, x.cap, ⟨#[]⟩, ⟨#[]⟩, min 9007199254740991 (x.lost + x.ts.size + x.tc.size)⟩

def restoreL (x : Lk) : Lk := { x with up := true }

theorem toList_nil (s : ByteArray) : s.toList = [] ↔ s.size = 0 := by
  rw [ByteArray.toList_eq]
  obtain ⟨⟨l⟩⟩ := s
  simp [ByteArray.size]

theorem toList_isEmpty (s : ByteArray) : s.toList.isEmpty = decide (s.size = 0) := by
  rw [ByteArray.toList_eq]
  obtain ⟨⟨l⟩⟩ := s
  cases l <;> simp [ByteArray.size]

theorem empty_eq (s : ByteArray) (h : s.size = 0) : s = ⟨#[]⟩ := by
  obtain ⟨⟨l⟩⟩ := s
  have : l = [] := by simpa [ByteArray.size] using h
  rw [this]

theorem ret_bool {a b : Bool} (h : a = b) : Ending.returned (.bool a) = .returned (.bool b) := by rw [h]
theorem ret_int {k : IntKind} {a b : Int} (h : a = b) : Ending.returned (.int k a) = .returned (.int k b) := by rw [h]

theorem right_iff (up : Bool) (cap : Int) (ts tc : ByteArray) (lost : Int) : rightB ⟨up, cap, ts, tc, lost⟩ = true ↔ (1 ≤ cap ∧ cap ≤ 65536 ∧ 0 ≤ lost ∧ lost ≤ 9007199254740991 ∧ (ts.size : Int) ≤ cap ∧ (tc.size : Int) ≤ cap ∧ (up = true ∨ (ts.size = 0 ∧ tc.size = 0))) := by
  simp [rightB]

theorem sendL_down (cap : Int) (ts tc : ByteArray) (lost : Int) (server : Bool) (s : ByteArray) : sendL ⟨false, cap, ts, tc, lost⟩ server s = (⟨false, cap, ts, tc, lost⟩, 30) := by simp [sendL]
theorem sendL_full (cap : Int) (ts tc : ByteArray) (lost : Int) (s : ByteArray) (h : cap < (ts.size + s.size : Int)) : sendL ⟨true, cap, ts, tc, lost⟩ true s = (⟨true, cap, ts, tc, lost⟩, 22) := by simp [sendL, h]
theorem sendL_fit (cap : Int) (ts tc : ByteArray) (lost : Int) (s : ByteArray) (h : (ts.size + s.size : Int) ≤ cap) : sendL ⟨true, cap, ts, tc, lost⟩ true s = (⟨true, cap, ts ++ s, tc, lost⟩, 0) := by
  have h' : ¬ cap < (ts.size + s.size : Int) := by omega
  simp [sendL, h']
theorem sendL_full' (cap : Int) (ts tc : ByteArray) (lost : Int) (s : ByteArray) (h : cap < (tc.size + s.size : Int)) : sendL ⟨true, cap, ts, tc, lost⟩ false s = (⟨true, cap, ts, tc, lost⟩, 22) := by simp [sendL, h]
theorem sendL_fit' (cap : Int) (ts tc : ByteArray) (lost : Int) (s : ByteArray) (h : (tc.size + s.size : Int) ≤ cap) : sendL ⟨true, cap, ts, tc, lost⟩ false s = (⟨true, cap, ts, tc ++ s, lost⟩, 0) := by
  have h' : ¬ cap < (tc.size + s.size : Int) := by omega
  simp [sendL, h']

theorem takeN_lo (n : Int) (len : Nat) (h : n < 0) : takeN n len = 0 := by simp [takeN, h]
theorem takeN_mid (n : Int) (len : Nat) (h : 0 ≤ n) (h' : n ≤ len) : takeN n len = n.toNat := by
  have a : ¬ n < 0 := by omega
  have b : ¬ (len : Int) < n := by omega
  simp [takeN, a, b]
theorem takeN_hi (n : Int) (len : Nat) (h : 0 ≤ n) (h' : (len : Int) < n) : takeN n len = len := by
  have a : ¬ n < 0 := by omega
  simp [takeN, a, h']

end Go.Proofs.Ytchpbfepjlncpaa
