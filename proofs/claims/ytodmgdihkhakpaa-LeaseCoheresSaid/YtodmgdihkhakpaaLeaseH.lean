/- This text proves the walks of Drop and Next of package lease. Conditions: those that each theorem names. -/
import Derived.Test.YtodmgdihkhakpaaLeaseG
namespace Go.Proofs.Ytodmgdihkhakpaa
open Go.ChangeShapes Go.WideShapes Go.ChangeAt Go.RowKit
set_option linter.unusedVariables false

set_option maxHeartbeats 1000000 in
theorem drop_calls (ao : Option Addr) (n cap : Nat) (xs : List Le) (cn fid : Int) (w : World) (h : Sl w 4 ao n cap (xs.map Le.enc)) (hn : n ≤ 1000000) :
    Calls Try.prog 21 #[.slice ao n cap, .int .i64 cn, .int .i64 fid] w fun e w' => ∃ v', e = .returned (.tuple #[v', .int .i64 (if (xs.filter fun x => !(decide (x.conn = cn ∧ x.id = fid))).length = xs.length then 32 else 0)]) ∧
      w'.ownsRow w.heap.size 36 4 v' (xs.filter fun x => !(decide (x.conn = cn ∧ x.id = fid))).length (flat (xs.filter fun x => !(decide (x.conn = cn ∧ x.id = fid)))) ∧ Below w.heap.size w w' := by
  have eg : ∀ args w, (callFunc 42 args).run Try.prog w = .ok (.enter 42 args) w := enters_of Try.func42 (by kernel_rfl) rfl
  have hb0 : Below w.heap.size w (((w.alloc (.cells #[.int .i64 cn] 3)).alloc (.cells #[.int .i64 fid] 3))) := (((Below.refl _ w).alloc (Nat.le_refl _) _).alloc (by simp) _)
  have c := without_calls (fun x => decide (x.conn = cn ∧ x.id = fid)) 42 #[.pointer (some ⟨w.heap.size, 0, none⟩), .pointer (some ⟨w.heap.size + 1, 0, none⟩)] eg ao n cap xs (((w.alloc (.cells #[.int .i64 cn] 3)).alloc (.cells #[.int .i64 fid] 3))) (h.stays hb0)
    (pred_drop cn fid w.heap.size (w.heap.size + 1) _ (by first | (simp; done) | (simp; omega)) (by first | (simp; done) | (simp; omega)) (by simp [go_sem]) (by simp [go_sem])) hn
  have hln := Sl.len h
  rw [hln]
  have hm : n ≤ 9223372036854775807 := Nat.le_trans h.hcap h.hmax
  have hle : (xs.filter fun x => !(decide (x.conn = cn ∧ x.id = fid))).length ≤ n := by rw [← hln]; exact List.length_filter_le _ _
  clear h hln
  generalize (xs.filter fun x => !(decide (x.conn = cn ∧ x.id = fid))) = ys at c hle ⊢
  have c' : Calls Try.prog 41 #[.slice ao n cap, .func (.func 42) #[] #[.pointer (some ⟨w.heap.size, 0, none⟩), .pointer (some ⟨w.heap.size + 1, 0, none⟩)]] (((w.alloc (.cells #[.int .i64 cn] 3)).alloc (.cells #[.int .i64 fid] 3))) fun e w' => ∃ ao2 cap2, e = .returned (.slice ao2 ys.length cap2) ∧ w'.ownsRow w.heap.size 36 4 (.slice ao2 ys.length cap2) ys.length (flat ys) ∧ Below w.heap.size w w' := by
    refine c.mono ?_
    rintro e w1 ⟨v', rfl, hown, hb⟩
    obtain ⟨ao2, cap2, rfl, _⟩ := own_sl hown
    exact ⟨ao2, cap2, rfl, own_lower hown (by first | (simp; done) | (simp; omega)), hb0.trans (hb.mono (by first | (simp; done) | (simp; omega)))⟩
  clear c hb0
  generalize hm2 : ys.length = m at c' hle ⊢
  clear hm2
  by_cases hmn : m = n
  · subst hmn
    go_enter Try.func21, Try.ntmps21
    go_wp2_with (go_at_call 41; refine c'.mono ?_; rintro e w1 ⟨ao2, cap2, rfl, hown, hb⟩)
    refine bodyPost_ret (v := .tuple #[.slice ao2 m cap2, .int .i64 32]) (by simp [results, Try.results21, go_sem]) rfl ⟨_, by simp, hown, hb⟩
  · have hmi : ¬ (m : Int) = (n : Int) := by omega
    go_enter Try.func21, Try.ntmps21
    go_wp2_with (go_at_call 41; refine c'.mono ?_; rintro e w1 ⟨ao2, cap2, rfl, hown, hb⟩)
    refine bodyPost_ret (v := .tuple #[.slice ao2 m cap2, .int .i64 0]) (by simp [results, Try.results21, go_sem]) rfl ⟨_, by simp, hown, hb⟩

def nxt (now : Int) (st : Int × Bool) (x : Le) : Int × Bool := if now < x.til ∧ (st.2 = false ∨ x.til < st.1) then (x.til, true) else st

theorem take_fold {α : Type} (f : α → Le → α) (s : α) (xs : List Le) (k : Nat) (hk : k < xs.length) : (xs.take (k + 1)).foldl f s = f ((xs.take k).foldl f s) xs[k]! := by
  rw [List.take_add_one, List.getElem?_eq_getElem hk, List.foldl_append, getElem!_pos xs k hk]
  rfl

set_option maxHeartbeats 2000000 in
theorem next_calls (ao : Option Addr) (n cap : Nat) (xs : List Le) (now : Int) (w : World) (h : Sl w 4 ao n cap (xs.map Le.enc)) :
    Calls Try.prog 19 #[.slice ao n cap, .int .i64 now] w fun e w' => e = .returned (.int .i64 (xs.foldl (nxt now) (0, false)).1) ∧ Below w.heap.size w w' := by
  have hbig : n ≤ 9223372036854775807 := Nat.le_trans h.hcap h.hmax
  have hln := Sl.len h
  by_cases h0 : n = 0
  · subst h0
    have hxs : xs = [] := List.eq_nil_of_length_eq_zero hln
    subst hxs
    clear h
    go_enter Try.func19, Try.ntmps19
    go_wp2
    go_loopg [5, 6, 11] 0 (fun k s5 s6 s11 wr => ∃ x, s5 = .int .i64 0 ∧ s6 = .bool false ∧ s11 = .int .i64 0 ∧ wr = plus w x)
    case atStart => exact ⟨_, rfl, rfl, rfl, plus_self w⟩
    case round =>
      obtain ⟨x, rfl, rfl, rfl, rfl⟩ := hrel
      go_wp2
      go_ret
      exact ⟨rfl, below_plus _ _⟩
  obtain ⟨b, off, rfl, hb, hc⟩ := Sl.open4 h (by omega)
  have HC : Aside (∀ j, j < n → w.cell? ⟨b, off + j * 4, none⟩ = some (.int .i64 xs[j]!.conn) ∧ w.cell? ⟨b, off + j * 4 + 1, none⟩ = some (.int .i64 xs[j]!.id) ∧ w.cell? ⟨b, off + j * 4 + 2, none⟩ = some (.int .i64 xs[j]!.kind) ∧ w.cell? ⟨b, off + j * 4 + 3, none⟩ = some (.int .i64 xs[j]!.til)) := hc
  clear hc h
  go_enter Try.func19, Try.ntmps19
  go_wp2
  go_loopg [5, 6, 11] n (fun k s5 s6 s11 wr => ∃ (idx : Nat) (x : World) (a : Int) (t : Bool), s5 = .int .i64 a ∧ s6 = .bool t ∧ s11 = .int .i64 (idx : Int) ∧ wr = plus w x ∧ k + idx = n ∧ Aside ((xs.take idx).foldl (nxt now) (0, false) = (a, t)))
  case atStart => exact ⟨0, _, 0, false, rfl, rfl, rfl, plus_self w, by omega, rfl⟩
  case round =>
    obtain ⟨idx, x, a, t, rfl, rfl, rfl, rfl, hk, FA⟩ := hrel
    by_cases hi : idx < n
    · obtain ⟨l0, l1, l2, l3⟩ := HC.out idx hi
      have FB : Aside (∀ r, nxt now (a, t) xs[idx]! = r → (xs.take (idx + 1)).foldl (nxt now) (0, false) = r) := fun r hr => by
        rw [take_fold _ _ _ _ (by omega), FA.out]; exact hr
      clear FA HC
      generalize xs[idx]! = y at l0 l1 l2 l3 FB
      obtain ⟨y1, y2, y3, y4⟩ := y
      simp only [] at l0 l1 l2 l3
      have key : ∀ (a' : Int) (t' : Bool) wr', Below w.heap.size w wr' → Aside (nxt now (a, t) ⟨y1, y2, y3, y4⟩ = (a', t')) →
          ∃ (idx' : Nat) (x' : World) (a2 : Int) (t2 : Bool), Value.int .i64 a' = .int .i64 a2 ∧ Value.bool t' = .bool t2 ∧ Value.int .i64 ((idx : Int) + 1) = .int .i64 (idx' : Int) ∧ wr' = plus w x' ∧ (gk - 1) + idx' = n ∧ Aside ((xs.take idx').foldl (nxt now) (0, false) = (a2, t2)) := fun a' t' wr' hb hn =>
        let ⟨z, hz⟩ := plus_of_below hb
        ⟨idx + 1, z, a', t', rfl, rfl, by simp, hz, by omega, FB.out _ hn.out⟩
      by_cases hq : now < y4 ∧ (t = false ∨ y4 < a)
      · have KQ : Aside (nxt now (a, t) ⟨y1, y2, y3, y4⟩ = (y4, true)) := by show nxt _ _ _ = _; simp only [nxt]; rw [if_pos hq]
        obtain ⟨hq1, hq2⟩ := hq
        cases t
        · clear hq2
          go_wp2
          go_roundg (gk - 1)
          case measure => omega
          case rel =>
            refine key _ _ _ ?_ KQ
            repeat (first | (with_reducible exact Below.refl _ _) | (with_reducible assumption) | (with_reducible refine below_to_plus ?_ ?_ _) | (with_reducible refine below_holds ?_ ?_ _ _) | (with_reducible refine Below.alloc ?_ ?_ _) | (with_reducible refine Below.drew ?_) | (with_reducible refine below_drewN ?_ _) | (with_reducible refine Below.setCell ?_ ?_ _))
            all_goals first | omega | (simp; done) | (simp [go_sem]; done) | (simp [go_sem]; omega)
        · have hq3 : y4 < a := by simpa using hq2
          clear hq2
          go_wp2
          go_roundg (gk - 1)
          case measure => omega
          case rel =>
            refine key _ _ _ ?_ KQ
            repeat (first | (with_reducible exact Below.refl _ _) | (with_reducible assumption) | (with_reducible refine below_to_plus ?_ ?_ _) | (with_reducible refine below_holds ?_ ?_ _ _) | (with_reducible refine Below.alloc ?_ ?_ _) | (with_reducible refine Below.drew ?_) | (with_reducible refine below_drewN ?_ _) | (with_reducible refine Below.setCell ?_ ?_ _))
            all_goals first | omega | (simp; done) | (simp [go_sem]; done) | (simp [go_sem]; omega)
      · have KQ : Aside (nxt now (a, t) ⟨y1, y2, y3, y4⟩ = (a, t)) := by show nxt _ _ _ = _; simp only [nxt]; rw [if_neg hq]
        by_cases hq1 : now < y4
        · have hq2 : t = true ∧ ¬ y4 < a := by
            refine ⟨?_, fun h => hq ⟨hq1, .inr h⟩⟩
            cases t
            · exact absurd ⟨hq1, .inl rfl⟩ hq
            · rfl
          obtain ⟨rfl, hq3⟩ := hq2
          clear hq
          go_wp2
          go_roundg (gk - 1)
          case measure => omega
          case rel =>
            refine key _ _ _ ?_ KQ
            repeat (first | (with_reducible exact Below.refl _ _) | (with_reducible assumption) | (with_reducible refine below_to_plus ?_ ?_ _) | (with_reducible refine below_holds ?_ ?_ _ _) | (with_reducible refine Below.alloc ?_ ?_ _) | (with_reducible refine Below.drew ?_) | (with_reducible refine below_drewN ?_ _) | (with_reducible refine Below.setCell ?_ ?_ _))
            all_goals first | omega | (simp; done) | (simp [go_sem]; done) | (simp [go_sem]; omega)
        · clear hq
          go_wp2
          go_roundg (gk - 1)
          case measure => omega
          case rel =>
            refine key _ _ _ ?_ KQ
            repeat (first | (with_reducible exact Below.refl _ _) | (with_reducible assumption) | (with_reducible refine below_to_plus ?_ ?_ _) | (with_reducible refine below_holds ?_ ?_ _ _) | (with_reducible refine Below.alloc ?_ ?_ _) | (with_reducible refine Below.drew ?_) | (with_reducible refine below_drewN ?_ _) | (with_reducible refine Below.setCell ?_ ?_ _))
            all_goals first | omega | (simp; done) | (simp [go_sem]; done) | (simp [go_sem]; omega)
    · have hin : ¬ (idx : Int) < (n : Int) := by omega
      have FC : Aside ((xs.foldl (nxt now) (0, false)) = (a, t)) := by
        have := FA.out
        rw [List.take_of_length_le (by omega)] at this
        exact this
      clear FA HC
      go_wp2
      go_ret
      exact ⟨ret_int (by rw [FC.out]), below_plus _ _⟩

end Go.Proofs.Ytodmgdihkhakpaa
