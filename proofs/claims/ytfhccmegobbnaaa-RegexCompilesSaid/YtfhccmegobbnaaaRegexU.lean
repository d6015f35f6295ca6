/- This text proves the walks of the machine's fresh and found, and of accepts. Conditions: those that each theorem names. -/
import Derived.Test.YtfhccmegobbnaaaRegexT
namespace Go.Proofs.Ytfhccmegobbnaaa
open Go.ChangeShapes Go.WideShapes Go.ChangeAt Go.RowKit
set_option linter.unusedVariables false
set_option linter.unusedSimpArgs false

theorem intInfo : ∃ i0 : TypeInfo, Try.prog.info? 3 = some i0 ∧ i0.zero = some (.int .i64 0) ∧ i0.size = 1 ∧ i0.bytes = 8 := by
  have h : (Try.prog.info? 3).map (fun i => (i.zero, i.size, i.bytes)) = some (some (.int .i64 0), 1, 8) := by kernel_rfl
  cases hi : Try.prog.info? 3 with
  | none => rw [hi] at h; cases h
  | some i0 =>
    rw [hi] at h
    simp only [Option.map_some, Option.some.injEq, Prod.mk.injEq] at h
    exact ⟨i0, rfl, h.1, h.2.1, h.2.2⟩
theorem made_encV (n : Nat) : madeCells #[Value.int .i64 0] n = encV (List.replicate n false) := by
  apply Array.ext_getElem?
  intro j
  by_cases hj : j < n
  · rw [encV_get (by simpa using hj), getElem!_pos (List.replicate n false) j (by simpa using hj)]
    simp [madeCells, hj, Nat.mod_one, bI]
  · rw [Array.getElem?_eq_none (by rw [size_madeCells]; omega), Array.getElem?_eq_none (by simp [encV]; omega)]
theorem make_ints (n : Nat) (hn : n ≤ 1024) (U : World) : (Instr.makeSlice 30 (.int .i64 (n : Int)) (.int .i64 (n : Int))).run Try.prog U = .ok (.slice (some ⟨U.heap.size, 0, none⟩) n n) (U.alloc (.cells (encV (List.replicate n false)) 3)) := by
  obtain ⟨i0, hi0, hz0, hs0, hb0⟩ := intInfo
  rw [run_make (P := Try.prog) U 30 3 i0 (.int .i64 0) Try.underlying30 hi0 hz0 .i64 .i64 (n : Int) (n : Int) (by omega) (Int.le_refl _) (by rw [hb0]; omega) (by omega), hs0, Nat.mul_one, show ((n : Int)).toNat = n by omega]
  have e : (Value.int .i64 0).cells = #[Value.int .i64 0] := rfl
  rw [e, made_encV]

set_option maxRecDepth 20000 in
set_option maxHeartbeats 32000000 in
theorem fresh_calls (w0 : World) (L : List In) (ao : Option Addr) (cap : Nat) (g : Int) (s : ByteArray) (mb : Nat) (p q : Nat) (a1 : Option Addr) (n1 c1 : Nat) (a2 : Option Addr) (n2 c2 : Nat) (W : World) (hB : Below w0.heap.size w0 W) (hm : w0.heap.size ≤ mb) (hn : L.length ≤ 1024) (hn0 : 1 ≤ L.length)
    (hbox : W.heap[mb]? = some (.cells (mBox L ao cap g s (p : Int) (.slice a1 n1 c1) (.slice a2 n2 c2)) 73 (0, 0))) :
    Calls Try.prog 40 #[.pointer (some ⟨mb, 0, none⟩), .int .i64 (q : Int)] W fun e W' => e = .returned (.tuple #[]) ∧ ∃ vb, MS w0 L ao cap g s mb q vb (List.replicate L.length false) (.slice none 0 0) [] W' ∧ W.heap.size ≤ vb ∧ W.grownBy W' (some mb) := by
  obtain ⟨n, hln⟩ : ∃ n, L.length = n := ⟨_, rfl⟩
  have HN : Aside (L.length = n) := hln
  unfold mBox at hbox
  rw [hln] at hbox hn hn0
  have lmb : mb < W.heap.size := (Array.getElem?_eq_some_iff.1 hbox).1
  have HBX : Aside (W.heap[mb]? = _) := hbox
  have HBB : Aside (Below w0.heap.size w0 W ∧ w0.heap.size ≤ mb) := ⟨hB, hm⟩
  obtain ⟨Q, hQ⟩ : ∃ Q : Ending → World → Prop, (fun e W' => e = .returned (.tuple #[]) ∧ ∃ vb, MS w0 L ao cap g s mb q vb (List.replicate L.length false) (.slice none 0 0) [] W' ∧ W.heap.size ≤ vb ∧ W.grownBy W' (some mb)) = Q := ⟨_, rfl⟩
  rw [hQ]
  have HQ : Aside (∀ W', (∃ vb, MS w0 L ao cap g s mb q vb (List.replicate L.length false) (.slice none 0 0) [] W' ∧ W.heap.size ≤ vb ∧ W.grownBy W' (some mb)) → Q (.returned (.tuple #[])) W') := fun W' h1 => by rw [← hQ]; exact ⟨rfl, h1⟩
  have mk := fun U => make_ints n hn U
  have hal : ∀ c o, (holds W mb c 73).alloc o = holds (W.alloc o) mb c 73 := fun c o => alloc_holds lmb o
  rw [holds_self hbox]
  clear hQ hB hm hbox hln
  go_enter Try.func40, Try.ntmps40
  go_wp2
  go_end0
  exact HQ.out _ ⟨W.heap.size, ⟨below_holds (Below.alloc HBB.out.1 HBB.out.1.size _) HBB.out.2 _ _, HBB.out.2, HBB.out.1.size, by unfold mBox; rw [HN.out]; exact hh_eq (by simp; omega), by rw [HN.out]; exact hh_ne (by omega) (hp_new rfl), by simp, ⟨[], ⟨rfl, .inl ⟨rfl, rfl⟩⟩, .nil⟩, by simp⟩, Nat.le_refl _, gtrans (grownBy_of_below (Below.alloc (Below.refl _ _) (Nat.le_refl _) _) _) (gholds _ _ _ _)⟩

/-- A byte lies in one of the first n pairs of a set. -/
def inSetF (s : ByteArray) (c : Int) : Nat → Bool
  | 0 => false
  | n + 1 => inSetF s c n || (decide ((s[2 * n]!.toNat : Int) ≤ c) && decide (c ≤ (s[2 * n + 1]!.toNat : Int)))
/-- An instruction accepts a byte. -/
def accF (i : In) (c : Int) : Bool :=
  if i.op = 1 then i.c == c else if i.op = 2 then c != 10 else if i.op = 3 then inSetF i.set c (i.set.size / 2) != i.nt else false

set_option maxRecDepth 20000 in
set_option maxHeartbeats 32000000 in
theorem accepts_calls (y1 y2 : Int) (y3 : ByteArray) (y4 : Bool) (y5 y6 c : Int) (h3 : y3.size ≤ 1000000) (w : World) :
    Calls Try.prog 44 #[.agg #[.int .i64 y1, .int .u8 y2, .string y3, .bool y4, .int .i64 y5, .int .i64 y6], .int .u8 c] w fun e w' => e = .returned (.bool (accF ⟨y1, y2, y3, y4, y5, y6⟩ c)) ∧ Below w.heap.size w w' := by
  by_cases o1 : y1 = 1
  · subst o1
    have ER : accF ⟨1, y2, y3, y4, y5, y6⟩ c = (y2 == c) := by unfold accF; simp
    rw [ER]
    clear ER
    go_enter Try.func44, Try.ntmps44
    go_wp2
    all_goals refine bodyPost_ret (v := .bool (y2 == c)) (by simp [results, Try.results44, go_sem, ↓IntWalk.iteOmega, *]) rfl ⟨rfl, ?_⟩
    all_goals
      repeat (first | (with_reducible exact Below.refl _ _) | (with_reducible assumption) | (with_reducible refine below_to_plus ?_ ?_ _) | (with_reducible refine below_holds ?_ ?_ _ _) | (with_reducible refine Below.alloc ?_ ?_ _) | (with_reducible refine Below.drew ?_) | (with_reducible refine below_drewN ?_ _) | (with_reducible refine Below.setCell ?_ ?_ _))
      all_goals first | omega | (simp; done) | (simp [go_sem]; done) | (simp [go_sem]; omega)
  by_cases o2 : y1 = 2
  · subst o2
    have ER : accF ⟨2, y2, y3, y4, y5, y6⟩ c = (c != 10) := by unfold accF; simp
    rw [ER]
    clear ER o1
    go_enter Try.func44, Try.ntmps44
    go_wp2
    all_goals refine bodyPost_ret (v := .bool (c != 10)) (by simp [results, Try.results44, go_sem, ↓IntWalk.iteOmega, *]) rfl ⟨rfl, ?_⟩
    all_goals
      repeat (first | (with_reducible exact Below.refl _ _) | (with_reducible assumption) | (with_reducible refine below_to_plus ?_ ?_ _) | (with_reducible refine below_holds ?_ ?_ _ _) | (with_reducible refine Below.alloc ?_ ?_ _) | (with_reducible refine Below.drew ?_) | (with_reducible refine below_drewN ?_ _) | (with_reducible refine Below.setCell ?_ ?_ _))
      all_goals first | omega | (simp; done) | (simp [go_sem]; done) | (simp [go_sem]; omega)
  by_cases o3 : y1 = 3
  · subst o3
    have ER : accF ⟨3, y2, y3, y4, y5, y6⟩ c = (inSetF y3 c (y3.size / 2) != y4) := by unfold accF; simp
    rw [ER]
    clear ER o1 o2
    have EQ0 : Aside (inSetF y3 c 0 = false) := rfl
    have EN : Aside (2 * (y3.size / 2) ≤ y3.size ∧ y3.size < 2 * (y3.size / 2) + 2) := ⟨by omega, by omega⟩
    obtain ⟨m, hm⟩ : ∃ m, y3.size / 2 = m := ⟨_, rfl⟩
    rw [hm] at EN ⊢
    clear hm
    go_enter Try.func44, Try.ntmps44
    go_wp2
    go_loopg [5, 6] (m + 1) (fun gk s5 s6 wr => ∃ j k : Nat, s5 = .bool (inSetF y3 c j) ∧ s6 = .int .i64 (k : Int) ∧ Aside (k = 2 * j) ∧ j ≤ m ∧ gk + j = m + 1 ∧ wr = (w.alloc (.cells #[.int .i64 3, .int .u8 y2, .string y3, .bool y4, .int .i64 y5, .int .i64 y6] 34)))
    case atStart => exact ⟨0, 0, rfl, rfl, rfl, by omega, by omega, rfl⟩
    case round =>
      obtain ⟨j, k, rfl, rfl, HK, hj, hg, rfl⟩ := hrel
      have en := EN.out
      have hk := HK.out
      have w1 : IntKind.i64.wrap ((k : Int) + 1) = ((k + 1 : Nat) : Int) := by rw [IntKind.wrap_i64]; omega
      have w2 : IntKind.i64.wrap ((k : Int) + 2) = ((k + 2 : Nat) : Int) := by rw [IntKind.wrap_i64]; omega
      by_cases hkn : k + 1 < y3.size
      rotate_left
      · have hkz : decide (((k + 1 : Nat) : Int) < (y3.size : Int)) = false := decide_eq_false (by omega)
        have hkz2 : ¬ (((k + 1 : Nat) : Int) < (y3.size : Int)) := by omega
        have ej : j = m := by omega
        subst ej
        clear hk en
        go_wp2
        all_goals refine bodyPost_ret (v := .bool (inSetF y3 c j != y4)) (by simp [results, Try.results44, go_sem, ↓IntWalk.iteOmega, *]; cases inSetF y3 c j <;> cases y4 <;> rfl) rfl ⟨rfl, ?_⟩
        all_goals
          repeat (first | (with_reducible exact Below.refl _ _) | (with_reducible assumption) | (with_reducible refine below_to_plus ?_ ?_ _) | (with_reducible refine below_holds ?_ ?_ _ _) | (with_reducible refine Below.alloc ?_ ?_ _) | (with_reducible refine Below.drew ?_) | (with_reducible refine below_drewN ?_ _) | (with_reducible refine Below.setCell ?_ ?_ _))
          all_goals first | omega | (simp; done) | (simp [go_sem]; done) | (simp [go_sem]; omega)
      have hkz : decide (((k + 1 : Nat) : Int) < (y3.size : Int)) = true := decide_eq_true (by omega)
      have hkz2 : (((k + 1 : Nat) : Int) < (y3.size : Int)) := by omega
      have hkz3 : ((k : Int) < (y3.size : Int)) := by omega
      have hkn0 : k < y3.size := by omega
      have ST : Aside (inSetF y3 c (j + 1) = (inSetF y3 c j || (decide ((y3[k].toNat : Int) ≤ c) && decide (c ≤ (y3[k + 1].toNat : Int))))) := by
        show _ = _
        rw [← getElem!_pos y3 k hkn0, ← getElem!_pos y3 (k + 1) hkn, hk]
        rfl
      clear hk en
      cases hb : inSetF y3 c j with
      | true =>
        rw [hb] at ST
        have ST : Aside (inSetF y3 c (j + 1) = true) := ST.out
        go_wp2
        go_roundg (m - j)
        case measure => (have := HK.out; have := EN.out; omega)
        case rel => exact ⟨j + 1, k + 2, by rw [ST.out], rfl, by have := HK.out; show _ = _; omega, by have := HK.out; have := EN.out; omega, by omega, rfl⟩
      | false =>
        rw [hb] at ST
        have ST : Aside (inSetF y3 c (j + 1) = (decide ((y3[k].toNat : Int) ≤ c) && decide (c ≤ (y3[k + 1].toNat : Int)))) := ST.out
        by_cases hlo : (y3[k].toNat : Int) ≤ c
        · have dlo : decide ((y3[k].toNat : Int) ≤ c) = true := decide_eq_true hlo
          rw [dlo] at ST
          have ST : Aside (inSetF y3 c (j + 1) = decide (c ≤ (y3[k + 1].toNat : Int))) := ST.out
          go_wp2
          go_roundg (m - j)
          case measure => (have := HK.out; have := EN.out; omega)
          case rel => exact ⟨j + 1, k + 2, by rw [ST.out], rfl, by have := HK.out; show _ = _; omega, by have := HK.out; have := EN.out; omega, by omega, rfl⟩
        · have dlo : decide ((y3[k].toNat : Int) ≤ c) = false := decide_eq_false hlo
          rw [dlo] at ST
          have ST : Aside (inSetF y3 c (j + 1) = false) := ST.out
          go_wp2
          go_roundg (m - j)
          case measure => (have := HK.out; have := EN.out; omega)
          case rel => exact ⟨j + 1, k + 2, by rw [ST.out], rfl, by have := HK.out; show _ = _; omega, by have := HK.out; have := EN.out; omega, by omega, rfl⟩
  have e1 : (y1 == 1) = false := by simpa using o1
  have f1 : decide (y1 = 1) = false := decide_eq_false o1
  have e2 : (y1 == 2) = false := by simpa using o2
  have f2 : decide (y1 = 2) = false := decide_eq_false o2
  have e3 : (y1 == 3) = false := by simpa using o3
  have f3 : decide (y1 = 3) = false := decide_eq_false o3
  have ER : accF ⟨y1, y2, y3, y4, y5, y6⟩ c = false := by unfold accF; rw [if_neg o1, if_neg o2, if_neg o3]
  rw [ER]
  clear ER o1 o2 o3
  go_enter Try.func44, Try.ntmps44
  go_wp2
  all_goals refine bodyPost_ret (v := .bool (false)) (by simp [results, Try.results44, go_sem, ↓IntWalk.iteOmega, *]) rfl ⟨rfl, ?_⟩
  all_goals
    repeat (first | (with_reducible exact Below.refl _ _) | (with_reducible assumption) | (with_reducible refine below_to_plus ?_ ?_ _) | (with_reducible refine below_holds ?_ ?_ _ _) | (with_reducible refine Below.alloc ?_ ?_ _) | (with_reducible refine Below.drew ?_) | (with_reducible refine below_drewN ?_ _) | (with_reducible refine Below.setCell ?_ ?_ _))
    all_goals first | omega | (simp; done) | (simp [go_sem]; done) | (simp [go_sem]; omega)

end Go.Proofs.Ytfhccmegobbnaaa
