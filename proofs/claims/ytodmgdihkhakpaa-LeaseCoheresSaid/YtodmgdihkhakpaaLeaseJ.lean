/- This text proves the walk of slices.BinarySearchFunc at leases, with order. Conditions: those that each theorem names. -/
import Derived.Test.YtodmgdihkhakpaaLeaseI
namespace Go.Proofs.Ytodmgdihkhakpaa
open Go.ChangeShapes Go.WideShapes Go.ChangeAt Go.RowKit
set_option linter.unusedVariables false

def BsPost (w : World) (xs : List Le) (n : Nat) (t : Le) (e : Ending) (w' : World) : Prop :=
  ∃ i : Nat, i ≤ n ∧ (∀ a, a < i → orderI xs[a]! t < 0) ∧ (∀ a, i ≤ a → a < n → ¬ orderI xs[a]! t < 0) ∧
        e = .returned (.tuple #[.int .i64 (i : Int), .bool (decide (i < n) && decide (orderI xs[i]! t = 0))]) ∧ Below w.heap.size w w'

def Keep2 (w : World) (xs : List Le) (n : Nat) (t1 t2 t3 t4 : Int) (k : Nat) (s9 s10 : Value) (wr : World) : Prop :=
  ∃ (i j : Nat) (x : World), s9 = .int .i64 (i : Int) ∧ s10 = .int .i64 (j : Int) ∧ wr = plus (w.alloc (.cells #[.int .i64 t1, .int .i64 t2, .int .i64 t3, .int .i64 t4] 36)) x ∧ i ≤ j ∧ j ≤ n ∧ j - i ≤ k ∧
    Aside ((∀ a, a < i → orderI xs[a]! ⟨t1, t2, t3, t4⟩ < 0) ∧ ∀ a, j ≤ a → a < n → ¬ orderI xs[a]! ⟨t1, t2, t3, t4⟩ < 0)

set_option maxHeartbeats 4000000 in
theorem bsearch_calls (ao : Option Addr) (n cap : Nat) (xs : List Le) (t1 t2 t3 t4 : Int) (w : World) (h : Sl w 4 ao n cap (xs.map Le.enc)) (hn : n ≤ 1000000)
    (hs : ∀ a b, a ≤ b → b < n → orderI xs[b]! ⟨t1, t2, t3, t4⟩ < 0 → orderI xs[a]! ⟨t1, t2, t3, t4⟩ < 0) (hn0 : 0 < n) :
    Calls Try.prog 37 #[.slice ao n cap, .agg #[.int .i64 t1, .int .i64 t2, .int .i64 t3, .int .i64 t4], .func (.func 29) #[] #[]] w fun e w' =>
      BsPost w xs n ⟨t1, t2, t3, t4⟩ e w' := by
  have hbig : n ≤ 9223372036854775807 := Nat.le_trans h.hcap h.hmax
  have hln := Sl.len h
  have eg : ∀ args w, (callFunc 29 args).run Try.prog w = .ok (.enter 29 args) w := enters_of Try.func29 (by kernel_rfl) rfl
  obtain ⟨b, off, rfl, hb, hc⟩ := Sl.open4 h hn0
  have HC : Aside (∀ j, j < n → w.cell? ⟨b, off + j * 4, none⟩ = some (.int .i64 xs[j]!.conn) ∧ w.cell? ⟨b, off + j * 4 + 1, none⟩ = some (.int .i64 xs[j]!.id) ∧ w.cell? ⟨b, off + j * 4 + 2, none⟩ = some (.int .i64 xs[j]!.kind) ∧ w.cell? ⟨b, off + j * 4 + 3, none⟩ = some (.int .i64 xs[j]!.til)) := hc
  have HM : Aside (∀ a b, a ≤ b → b < n → orderI xs[b]! ⟨t1, t2, t3, t4⟩ < 0 → orderI xs[a]! ⟨t1, t2, t3, t4⟩ < 0) := hs
  clear hc h hs
  go_enter Try.func37, Try.ntmps37
  go_wp2
  go_loopg [9, 10] n (fun k s9 s10 wr => Keep2 w xs n t1 t2 t3 t4 k s9 s10 wr)
  case atStart => exact ⟨0, n, _, rfl, rfl, plus_self _, by omega, by omega, by omega, fun a h => by omega, fun a h => by omega⟩
  case round =>
    obtain ⟨i, j, x, rfl, rfl, rfl, hij, hjn, hk, FA⟩ := hrel
    by_cases hlt : i < j
    · obtain ⟨m, hm, hm1, hm2⟩ : ∃ m : Nat, ((i : Int) + j) / 2 = m ∧ i ≤ m ∧ m < j := ⟨(i + j) / 2, by omega, by omega, by omega⟩
      obtain ⟨l0, l1, l2, l3⟩ := HC.out m (by omega)
      have LT : Aside (∀ r, orderI xs[m]! ⟨t1, t2, t3, t4⟩ = r → (r < 0 → ∀ a, a < m + 1 → orderI xs[a]! ⟨t1, t2, t3, t4⟩ < 0) ∧ (¬ r < 0 → ∀ a, m ≤ a → a < n → ¬ orderI xs[a]! ⟨t1, t2, t3, t4⟩ < 0)) := fun r hr =>
        ⟨fun h a ha => HM.out a m (by omega) (by omega) (by rw [hr]; exact h), fun h a ha1 ha2 h2 => h (by rw [← hr]; exact HM.out m a ha1 ha2 h2)⟩
      have FB : Aside (_ ∧ _) := FA
      clear HC HM FA
      generalize xs[m]! = y at l0 l1 l2 l3 LT
      obtain ⟨y1, y2, y3, y4⟩ := y
      simp only [] at l0 l1 l2 l3
      have co := fun w => order_calls y1 y2 y3 y4 t1 t2 t3 t4 w
      have LT2 := LT.out _ rfl
      clear LT
      generalize orderI ⟨y1, y2, y3, y4⟩ ⟨t1, t2, t3, t4⟩ = r at co LT2
      have LT3 : Aside (_ ∧ _) := LT2
      clear LT2
      have key : ∀ (i' j' : Nat) wr', Below (w.alloc (.cells #[.int .i64 t1, .int .i64 t2, .int .i64 t3, .int .i64 t4] 36)).heap.size (w.alloc (.cells #[.int .i64 t1, .int .i64 t2, .int .i64 t3, .int .i64 t4] 36)) wr' → i' ≤ j' → j' ≤ n → j' - i' ≤ gk - 1 →
          ((∀ a, a < i' → orderI xs[a]! ⟨t1, t2, t3, t4⟩ < 0) ∧ ∀ a, j' ≤ a → a < n → ¬ orderI xs[a]! ⟨t1, t2, t3, t4⟩ < 0) → Keep2 w xs n t1 t2 t3 t4 (gk - 1) (.int .i64 (i' : Int)) (.int .i64 (j' : Int)) wr' := fun i' j' wr' hb h1 h2 h3 h4 =>
        let ⟨z, hz⟩ := plus_of_below hb
        ⟨i', j', z, rfl, rfl, hz, h1, h2, h3, h4⟩
      by_cases hr : r < 0
      · have K1 := LT3.out.1 hr
        have K2 : Aside (∀ a, a < m + 1 → orderI xs[a]! ⟨t1, t2, t3, t4⟩ < 0) := K1
        clear K1 LT3
        go_wp2
        refine wp_region_plus (by kernel_rfl) (by kernel_rfl) ?_
        repeat (go_big_quiet_step (first | (go_at_fn 29; exact calls_plus (co _))))
        refine wpQuiet_nil ?_
        rintro _ ⟨x, rfl⟩
        go_wp2
        go_roundg (gk - 1)
        case measure => omega
        case rel =>
          refine key (m + 1) j _ ?_ (by omega) (by omega) (by omega) ⟨K2.out, FB.out.2⟩
          repeat (first | (with_reducible exact Below.refl _ _) | (with_reducible assumption) | (with_reducible refine below_to_plus ?_ ?_ _) | (with_reducible refine below_holds ?_ ?_ _ _) | (with_reducible refine Below.alloc ?_ ?_ _) | (with_reducible refine Below.drew ?_) | (with_reducible refine below_drewN ?_ _) | (with_reducible refine Below.setCell ?_ ?_ _))
          all_goals first | omega | (simp; done) | (simp [go_sem]; done) | (simp [go_sem]; omega)
      · have K1 := LT3.out.2 hr
        have K2 : Aside (∀ a, m ≤ a → a < n → ¬ orderI xs[a]! ⟨t1, t2, t3, t4⟩ < 0) := K1
        clear K1 LT3
        go_wp2
        refine wp_region_plus (by kernel_rfl) (by kernel_rfl) ?_
        repeat (go_big_quiet_step (first | (go_at_fn 29; exact calls_plus (co _))))
        refine wpQuiet_nil ?_
        rintro _ ⟨x, rfl⟩
        go_wp2
        go_roundg (gk - 1)
        case measure => omega
        case rel =>
          refine key i m _ ?_ (by omega) (by omega) (by omega) ⟨FB.out.1, K2.out⟩
          repeat (first | (with_reducible exact Below.refl _ _) | (with_reducible assumption) | (with_reducible refine below_to_plus ?_ ?_ _) | (with_reducible refine below_holds ?_ ?_ _ _) | (with_reducible refine Below.alloc ?_ ?_ _) | (with_reducible refine Below.drew ?_) | (with_reducible refine below_drewN ?_ _) | (with_reducible refine Below.setCell ?_ ?_ _))
          all_goals first | omega | (simp; done) | (simp [go_sem]; done) | (simp [go_sem]; omega)
    · have hij2 : i = j := by omega
      subst hij2
      have hlt' : ¬ (i : Int) < (i : Int) := by omega
      have FB : Aside (_ ∧ _) := FA
      by_cases hin : i < n
      · obtain ⟨l0, l1, l2, l3⟩ := HC.out i hin
        have DE : Aside (decide (i < n) = true) := decide_eq_true hin
        clear HC HM FA
        have FB2 : ∀ a, i ≤ a → a < n → ¬ orderI xs[a]! ⟨t1, t2, t3, t4⟩ < 0 := fun a h1 h2 => by have := FB.out.2 a h1 h2; omega
        have PO : Aside (∀ W' r, Below w.heap.size w W' → orderI xs[i]! ⟨t1, t2, t3, t4⟩ = r → BsPost w xs n ⟨t1, t2, t3, t4⟩ (.returned (.tuple #[.int .i64 (i : Int), .bool (decide (r = 0))])) W') := fun W' r hb hr =>
          ⟨i, by omega, FB.out.1, FB2, by rw [DE.out, hr]; rfl, hb⟩
        clear FB2 FB
        clear DE
        generalize xs[i]! = y at l0 l1 l2 l3 PO
        obtain ⟨y1, y2, y3, y4⟩ := y
        simp only [] at l0 l1 l2 l3
        have co := fun w => order_calls y1 y2 y3 y4 t1 t2 t3 t4 w
        have PO2 : Aside (∀ W', _ → _) := fun W' hb => PO.out W' _ hb rfl
        clear PO
        generalize orderI ⟨y1, y2, y3, y4⟩ ⟨t1, t2, t3, t4⟩ = r at co PO2
        go_wp2
        refine wp_region_plus (by kernel_rfl) (by kernel_rfl) ?_
        repeat (go_big_quiet_step (first | (go_at_fn 29; exact calls_plus (co _))))
        refine wpQuiet_nil ?_
        rintro _ ⟨x, rfl⟩
        go_wp2
        refine bodyPost_ret (v := .tuple #[.int .i64 (i : Int), .bool (decide (r = 0))]) (by simp [results, Try.results37, go_sem]; try rfl) rfl (PO2.out _ ?_)
        repeat (first | (with_reducible exact Below.refl _ _) | (with_reducible assumption) | (with_reducible refine below_to_plus ?_ ?_ _) | (with_reducible refine below_holds ?_ ?_ _ _) | (with_reducible refine Below.alloc ?_ ?_ _) | (with_reducible refine Below.drew ?_) | (with_reducible refine below_drewN ?_ _) | (with_reducible refine Below.setCell ?_ ?_ _))
        all_goals first | omega | (simp; done) | (simp [go_sem]; done) | (simp [go_sem]; omega)
      · have DE : Aside (decide (i < n) = false) := decide_eq_false hin
        have FB2 : ∀ a, i ≤ a → a < n → ¬ orderI xs[a]! ⟨t1, t2, t3, t4⟩ < 0 := fun a h1 h2 => by have := FB.out.2 a h1 h2; omega
        have PO : Aside (∀ W', Below w.heap.size w W' → BsPost w xs n ⟨t1, t2, t3, t4⟩ (.returned (.tuple #[.int .i64 (i : Int), .bool false])) W') := fun W' hb =>
          ⟨i, by omega, FB.out.1, FB2, by rw [DE.out]; rfl, hb⟩
        clear HC HM FA FB FB2
        go_wp2
        refine wp_region_plus (by kernel_rfl) (by kernel_rfl) ?_
        repeat (go_big_quiet_step (fail))
        refine wpQuiet_nil ?_
        rintro _ ⟨x, rfl⟩
        go_wp2
        refine bodyPost_ret (v := .tuple #[.int .i64 (i : Int), .bool false]) (by simp [results, Try.results37, go_sem]; try rfl) rfl (PO.out _ ?_)
        repeat (first | (with_reducible exact Below.refl _ _) | (with_reducible assumption) | (with_reducible refine below_to_plus ?_ ?_ _) | (with_reducible refine below_holds ?_ ?_ _ _) | (with_reducible refine Below.alloc ?_ ?_ _) | (with_reducible refine Below.drew ?_) | (with_reducible refine below_drewN ?_ _) | (with_reducible refine Below.setCell ?_ ?_ _))
        all_goals first | omega | (simp; done) | (simp [go_sem]; done) | (simp [go_sem]; omega)

end Go.Proofs.Ytodmgdihkhakpaa
