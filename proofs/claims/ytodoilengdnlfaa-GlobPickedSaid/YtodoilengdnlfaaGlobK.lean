/- This text says in plain Lean what the escape of a text is, and proves the walk of Escape of the reference. Conditions: those that each theorem names. -/
import Derived.Test.YtodoilengdnlfaaGlobJ
namespace Go.Proofs.Ytodoilengdnlfaa
open Go.ChangeShapes Go.WideShapes Go.ChangeAt Go.RowKit
set_option linter.unusedVariables false
set_option linter.unusedSimpArgs false

/-- The bytes that stand for a byte in an escape. -/
def escOf (b : UInt8) : List UInt8 := if ((b.toNat : Int) = 42 ∨ (b.toNat : Int) = 63) ∨ (b.toNat : Int) = 91 then [91, b, 93] else [b]
def escL (s : ByteArray) (i : Nat) : List UInt8 := (List.range i).flatMap fun j => escOf (ub s j)
def escB (s : ByteArray) : ByteArray := ⟨(escL s s.size).toArray⟩
theorem escL_succ (s : ByteArray) (i : Nat) : escL s (i + 1) = escL s i ++ escOf (ub s i) := by unfold escL; rw [List.range_succ, List.flatMap_append]; simp
theorem esc_special {b : UInt8} (h : ((b.toNat : Int) = 42 ∨ (b.toNat : Int) = 63) ∨ (b.toNat : Int) = 91) : escOf b = [91, b, 93] := if_pos h
theorem esc_plain {b : UInt8} (h1 : ¬ (b.toNat : Int) = 42) (h2 : ¬ (b.toNat : Int) = 63) (h3 : ¬ (b.toNat : Int) = 91) : escOf b = [b] := if_neg (fun h => h.elim (fun h => h.elim h1 h2) h3)
theorem cat1 (l : List UInt8) (a : UInt8) : (⟨l.toArray⟩ : ByteArray) ++ ⟨#[a]⟩ = ⟨(l ++ [a]).toArray⟩ := by
  apply bytes_inj
  simp
theorem cat3 (l : List UInt8) (a : UInt8) : (⟨l.toArray⟩ : ByteArray) ++ ⟨#[91]⟩ ++ ⟨#[a]⟩ ++ ⟨#[93]⟩ = ⟨(l ++ [91, a, 93]).toArray⟩ := by
  apply bytes_inj
  simp

set_option maxHeartbeats 4000000 in
theorem resc_calls (s : ByteArray) (hs : s.size ≤ 20000) (w : World) :
    Calls Try.prog 18 #[.string s] w fun e w' => e = .returned (.string (escB s)) ∧ w' = w := by
  go_enter Try.func18, Try.ntmps18
  go_wp2
  go_loopg [3, 4] s.size (fun k s3 s4 wr => ∃ (i : Nat) (l : List UInt8), s4 = .int .i64 (i : Int) ∧ s3 = .string ⟨l.toArray⟩ ∧ wr = w ∧ k + i = s.size ∧ l.length ≤ 3 * i ∧ Aside (escL s i = l))
  case atStart => exact ⟨0, [], rfl, rfl, rfl, by omega, by simp, rfl⟩
  case round =>
    obtain ⟨i, l, rfl, rfl, rfl, hk, hll, A⟩ := hrel
    by_cases hi : i < s.size
    · have hiz : (i : Int) < (s.size : Int) := by omega
      have u0 := ub_eq hi
      have hw1 : IntKind.i64.wrap ((i : Int) + 1) = (i : Int) + 1 := by rw [IntKind.wrap_i64]; omega
      have ht1 : ((i : Int) + 1).toNat = i + 1 := by omega
      have hg1 : (0 : Int) ≤ (i : Int) + 1 := by omega
      have hle1 : (i : Int) + 1 ≤ (s.size : Int) := by omega
      have hle1n : i + 1 ≤ s.size := by omega
      have hn1 : ¬ 9223372036854775807 < l.length + 1 := by omega
      have hn2 : ¬ 9223372036854775807 < l.length + 1 + 1 := by omega
      have hn3 : ¬ 9223372036854775807 < l.length + 1 + 1 + 1 := by omega
      have x1 := fun U => sl_one hi (i : Int) ((i : Int) + 1) rfl rfl U
      by_cases n42 : ((ub s i).toNat : Int) = 42
      · have f42 : (((ub s i).toNat : Int) == 42) = true := by simpa using n42
        have E2 := esc_special (.inl (.inl n42))
        have A2 : Aside (escL s (i + 1) = l ++ [91, ub s i, 93]) := by show _ = _; rw [escL_succ, A.out, E2]
        have hb2 : (l ++ [91, ub s i, 93]).length ≤ 3 * (i + 1) := by simp; omega
        clear A E2
        clear n42
        go_wp2
        go_roundg (s.size - (i + 1))
        case measure => omega
        case rel => exact ⟨i + 1, l ++ [91, ub s i, 93], by simp, by rw [← cat3], rfl, by omega, hb2, A2⟩
      · have f42 : (((ub s i).toNat : Int) == 42) = false := by simpa using n42
        by_cases n63 : ((ub s i).toNat : Int) = 63
        · have f63 : (((ub s i).toNat : Int) == 63) = true := by simpa using n63
          have E2 := esc_special (.inl (.inr n63))
          have A2 : Aside (escL s (i + 1) = l ++ [91, ub s i, 93]) := by show _ = _; rw [escL_succ, A.out, E2]
          have hb2 : (l ++ [91, ub s i, 93]).length ≤ 3 * (i + 1) := by simp; omega
          clear A E2
          clear n42 n63
          go_wp2
          go_roundg (s.size - (i + 1))
          case measure => omega
          case rel => exact ⟨i + 1, l ++ [91, ub s i, 93], by simp, by rw [← cat3], rfl, by omega, hb2, A2⟩
        · have f63 : (((ub s i).toNat : Int) == 63) = false := by simpa using n63
          by_cases n91 : ((ub s i).toNat : Int) = 91
          · have f91 : (((ub s i).toNat : Int) == 91) = true := by simpa using n91
            have E2 := esc_special (.inr n91)
            have A2 : Aside (escL s (i + 1) = l ++ [91, ub s i, 93]) := by show _ = _; rw [escL_succ, A.out, E2]
            have hb2 : (l ++ [91, ub s i, 93]).length ≤ 3 * (i + 1) := by simp; omega
            clear A E2
            clear n42 n63 n91
            go_wp2
            go_roundg (s.size - (i + 1))
            case measure => omega
            case rel => exact ⟨i + 1, l ++ [91, ub s i, 93], by simp, by rw [← cat3], rfl, by omega, hb2, A2⟩
          · have f91 : (((ub s i).toNat : Int) == 91) = false := by simpa using n91
            have E2 := esc_plain n42 n63 n91
            have A2 : Aside (escL s (i + 1) = l ++ [ub s i]) := by show _ = _; rw [escL_succ, A.out, E2]
            have hb2 : (l ++ [ub s i]).length ≤ 3 * (i + 1) := by simp; omega
            clear A E2
            clear n42 n63 n91
            go_wp2
            go_roundg (s.size - (i + 1))
            case measure => omega
            case rel => exact ⟨i + 1, l ++ [ub s i], by simp, by rw [← cat1], rfl, by omega, hb2, A2⟩
    · have hiz : ¬ (i : Int) < (s.size : Int) := by omega
      have ei : i = s.size := by omega
      have er : Aside (escB s = ⟨l.toArray⟩) := by show _ = _; unfold escB; rw [← A.out, ei]
      clear A ei
      go_wp2
      go_ret
      exact ⟨by rw [er.out]; rfl, rfl⟩

end Go.Proofs.Ytodoilengdnlfaa
