/- This text proves the walks of Clean, Drop and Forget of the reference. Conditions: those that each theorem names. -/
import Derived.Test.YtodmgdihkhakpaaLeaseM
namespace Go.Proofs.Ytodmgdihkhakpaa
open Go.ChangeShapes Go.WideShapes Go.ChangeAt Go.RowKit
set_option linter.unusedVariables false

theorem filt_skip (p : Le → Bool) (xs : List Le) (k : Nat) (hk : k < xs.length) (h : p xs[k]! = false) : (xs.take (k + 1)).filter p = (xs.take k).filter p := by
  rw [List.take_add_one, List.getElem?_eq_getElem hk, List.filter_append]
  rw [getElem!_pos xs k hk] at h
  simp [h]
theorem filt_keep (p : Le → Bool) (xs : List Le) (k : Nat) (hk : k < xs.length) (h : p xs[k]! = true) : (xs.take (k + 1)).filter p = (xs.take k).filter p ++ [xs[k]!] := by
  rw [List.take_add_one, List.getElem?_eq_getElem hk, List.filter_append]
  rw [getElem!_pos xs k hk] at h ⊢
  simp [h]
theorem cell_four_new (wr : World) (a b c d : Value) (t : TypeId) : ∀ j u, ([a, b, c, d] : List Value)[j]? = some u → (wr.alloc (.cells #[a, b, c, d] t)).cell? ((⟨wr.heap.size, 0, none⟩ : Addr).add j) = some u := by
  intro j u hj
  rw [Addr.add_lit, Nat.zero_add, World.cell?_alloc_at (w := wr) _ _ _ _ rfl]
  simpa using hj
theorem one_four {a b c d : Int} : ∀ u ∈ ([.int .i64 a, .int .i64 b, .int .i64 c, .int .i64 d] : List Value), u.oneCell' = true := by
  intro u hu
  simp only [List.mem_cons, List.not_mem_nil, or_false] at hu
  rcases hu with rfl | rfl | rfl | rfl <;> rfl

set_option maxHeartbeats 4000000 in
theorem rclean_loop (p : Le → Bool) (ao : Option Addr) (n cap : Nat) (xs : List Le) (now : Int) (hp : ∀ y1 y2 y3 y4, p ⟨y1, y2, y3, y4⟩ = decide (now < y4)) (w : World) (h : Sl w 4 ao n cap (xs.map Le.enc)) (hn : n ≤ 1000000) :
    Calls Try.prog 25 #[.slice ao n cap, .int .i64 now] w fun e w' => ∃ ao' cap', e = .returned (.slice ao' (xs.filter p).length cap') ∧ Below w.heap.size w w' ∧ w'.ownsRow w.heap.size 36 4 (.slice ao' (xs.filter p).length cap') (xs.filter p).length (flat (xs.filter p)) := by
  have hln := Sl.len h
  have hbig : n ≤ 9223372036854775807 := by omega
  obtain ⟨i0, hi0, hz0, hs0, hb0⟩ := leaseInfo
  have HC : Aside (∀ j, j < n → ∃ b off, ao = some ⟨b, off, none⟩ ∧ b < w.heap.size ∧ w.cell? ⟨b, off + j * 4, none⟩ = some (.int .i64 xs[j]!.conn) ∧ w.cell? ⟨b, off + j * 4 + 1, none⟩ = some (.int .i64 xs[j]!.id) ∧ w.cell? ⟨b, off + j * 4 + 2, none⟩ = some (.int .i64 xs[j]!.kind) ∧ w.cell? ⟨b, off + j * 4 + 3, none⟩ = some (.int .i64 xs[j]!.til)) := by
    intro j hj
    obtain ⟨b, off, h1, h2, h3⟩ := Sl.open4 h (by omega)
    exact ⟨b, off, h1, h2, h3 j hj⟩
  have HL : Aside (xs.length = n) := hln
  have HP : Aside (∀ y1 y2 y3 y4, _ = _) := hp
  clear h hln hp
  go_enter Try.func25, Try.ntmps25
  go_wp2
  go_loopg [5, 6] n (fun k so si wr => ∃ (idx : Nat) (ao' : Option Addr) (cap' m : Nat), si = .int .i64 (idx : Int) ∧ so = .slice ao' m cap' ∧ k + idx = n ∧ m ≤ idx ∧ Aside (((xs.take idx).filter p).length = m ∧ Below w.heap.size w wr ∧ wr.ownsRow w.heap.size 36 4 (.slice ao' m cap') m (flat ((xs.take idx).filter p))))
  case atStart => exact ⟨0, none, 0, 0, rfl, rfl, by omega, by omega, rfl, Below.refl _ _, World.ownsRow_nil _ _ _ _⟩
  case round =>
    obtain ⟨idx, ao', cap', m, rfl, rfl, hk, hm, ST⟩ := hrel
    by_cases hi : idx < n
    · obtain ⟨b, off, rfl, hbw, q0, q1, q2, q3⟩ := HC.out idx hi
      have l0 := (ST.out.2.1.cell (p := ⟨b, off + idx * 4, none⟩) hbw).trans q0
      have l1 := (ST.out.2.1.cell (p := ⟨b, off + idx * 4 + 1, none⟩) hbw).trans q1
      have l2 := (ST.out.2.1.cell (p := ⟨b, off + idx * 4 + 2, none⟩) hbw).trans q2
      have l3 := (ST.out.2.1.cell (p := ⟨b, off + idx * 4 + 3, none⟩) hbw).trans q3
      clear q0 q1 q2 q3
      have SK : Aside (p xs[idx]! = false → (xs.take (idx + 1)).filter p = (xs.take idx).filter p) := filt_skip _ xs idx (by rw [HL.out]; exact hi)
      have SP : Aside (p xs[idx]! = true → (xs.take (idx + 1)).filter p = (xs.take idx).filter p ++ [xs[idx]!]) := filt_keep _ xs idx (by rw [HL.out]; exact hi)
      generalize xs[idx]! = y at l0 l1 l2 l3 SK SP
      obtain ⟨y1, y2, y3, y4⟩ := y
      simp only [] at l0 l1 l2 l3
      have GO : Aside (∀ v' w', w'.ownsRow w.heap.size 36 4 v' (m + 1) (flat ((xs.take idx).filter p) ++ [.int .i64 y1, .int .i64 y2, .int .i64 y3, .int .i64 y4]) → (wr.alloc (.cells #[.int .i64 y1, .int .i64 y2, .int .i64 y3, .int .i64 y4] 36)).grownBy w' (Value.slice ao' m cap').ownBlock → p ⟨y1, y2, y3, y4⟩ = true →
          ∃ ao2 cap2, v' = .slice ao2 (m + 1) cap2 ∧ ((xs.take (idx + 1)).filter p).length = m + 1 ∧ Below w.heap.size w w' ∧ w'.ownsRow w.heap.size 36 4 (.slice ao2 (m + 1) cap2) (m + 1) (flat ((xs.take (idx + 1)).filter p))) := by
        intro v' w' ho hg hp
        have e := SP.out hp
        obtain ⟨e1, e2, e3⟩ := ST.out
        rw [show flat ((xs.take idx).filter p) ++ [.int .i64 y1, .int .i64 y2, .int .i64 y3, .int .i64 y4] = flat ((xs.take (idx + 1)).filter p) by rw [e, flat_append]; rfl] at ho
        obtain ⟨ao2, cap2, hv, _⟩ := own_sl ho
        subst hv
        refine ⟨ao2, cap2, rfl, by rw [e, List.length_append, e1]; rfl, ?_, ho⟩
        exact (e2.alloc e2.size _).grown hg (by have := e2.size; simp; omega) (fun k hk => (e3.lt k hk).1)
      by_cases hc : now < y4
      · skip
        have PT : Aside (p ⟨y1, y2, y3, y4⟩ = true) := by show _ = _; rw [HP.out]; simp [hc]
        have hown := ST.out.2.2
        have hszw := ST.out.2.1.size
        clear SK SP HC
        go_wp2_with (at_builtin; refine wpList_append_own _ rfl _ _ 22 rfl w.heap.size 36 i0 _ 4 32 Try.underlying22 hi0 hz0 hs0 hb0 rfl (by omega) _ _ _ rfl (hown.alloc _) ⟨wr.heap.size, 0, none⟩ 1 1 [.int .i64 y1, .int .i64 y2, .int .i64 y3, .int .i64 y4] rfl rfl (cell_four_new _ _ _ _ _ _) one_four (by unfold maxLen; omega) (by omega) (by simp; omega) ?_)
        intro v' w1 hown' hgrow _
        obtain ⟨ao2, cap2, rfl, hlen, hbel, hown2⟩ := GO.out v' w1 hown' hgrow PT.out
        have ST2 : Aside (_ ∧ _ ∧ _) := ⟨hlen, hbel, hown2⟩
        clear hown hown' hgrow hlen hbel hown2 GO
        go_wp2
        go_roundg (gk - 1)
        case measure => omega
        case rel => exact ⟨idx + 1, ao2, cap2, m + 1, by simp, by rfl, by omega, by omega, ST2.out⟩
      · skip
        have PT : Aside (p ⟨y1, y2, y3, y4⟩ = false) := by show _ = _; rw [HP.out]; simp [hc]
        have ST2 : Aside (((xs.take (idx + 1)).filter p).length = m ∧ Below w.heap.size w wr ∧ wr.ownsRow w.heap.size 36 4 (.slice ao' m cap') m (flat ((xs.take (idx + 1)).filter p))) := by
          have e := SK.out PT.out
          show _ ∧ _
          rw [e]; exact ST.out
        clear SK SP HC GO
        go_wp2
        go_roundg (gk - 1)
        case measure => omega
        case rel => exact ⟨idx + 1, ao', cap', m, by simp, rfl, by omega, by omega, ST2.out⟩
    · have HX : Aside (xs.take idx = xs) := by show _ = _; rw [List.take_of_length_le]; have := HL.out; omega
      obtain rfl : idx = n := by omega
      clear HC
      go_wp2
      go_ret
      obtain ⟨e1, e2, e3⟩ := ST.out
      rw [HX.out] at e1 e3
      exact ⟨ao', cap', by rw [e1]; rfl, e2, by rw [e1]; exact e3⟩
set_option maxHeartbeats 4000000 in
theorem rforget_loop (p : Le → Bool) (ao : Option Addr) (n cap : Nat) (xs : List Le) (cn : Int) (hp : ∀ y1 y2 y3 y4, p ⟨y1, y2, y3, y4⟩ = decide (y1 ≠ cn)) (w : World) (h : Sl w 4 ao n cap (xs.map Le.enc)) (hn : n ≤ 1000000) :
    Calls Try.prog 26 #[.slice ao n cap, .int .i64 cn] w fun e w' => ∃ ao' cap', e = .returned (.slice ao' (xs.filter p).length cap') ∧ Below w.heap.size w w' ∧ w'.ownsRow w.heap.size 36 4 (.slice ao' (xs.filter p).length cap') (xs.filter p).length (flat (xs.filter p)) := by
  have hln := Sl.len h
  have hbig : n ≤ 9223372036854775807 := by omega
  obtain ⟨i0, hi0, hz0, hs0, hb0⟩ := leaseInfo
  have HC : Aside (∀ j, j < n → ∃ b off, ao = some ⟨b, off, none⟩ ∧ b < w.heap.size ∧ w.cell? ⟨b, off + j * 4, none⟩ = some (.int .i64 xs[j]!.conn) ∧ w.cell? ⟨b, off + j * 4 + 1, none⟩ = some (.int .i64 xs[j]!.id) ∧ w.cell? ⟨b, off + j * 4 + 2, none⟩ = some (.int .i64 xs[j]!.kind) ∧ w.cell? ⟨b, off + j * 4 + 3, none⟩ = some (.int .i64 xs[j]!.til)) := by
    intro j hj
    obtain ⟨b, off, h1, h2, h3⟩ := Sl.open4 h (by omega)
    exact ⟨b, off, h1, h2, h3 j hj⟩
  have HL : Aside (xs.length = n) := hln
  have HP : Aside (∀ y1 y2 y3 y4, _ = _) := hp
  clear h hln hp
  go_enter Try.func26, Try.ntmps26
  go_wp2
  go_loopg [5, 6] n (fun k so si wr => ∃ (idx : Nat) (ao' : Option Addr) (cap' m : Nat), si = .int .i64 (idx : Int) ∧ so = .slice ao' m cap' ∧ k + idx = n ∧ m ≤ idx ∧ Aside (((xs.take idx).filter p).length = m ∧ Below w.heap.size w wr ∧ wr.ownsRow w.heap.size 36 4 (.slice ao' m cap') m (flat ((xs.take idx).filter p))))
  case atStart => exact ⟨0, none, 0, 0, rfl, rfl, by omega, by omega, rfl, Below.refl _ _, World.ownsRow_nil _ _ _ _⟩
  case round =>
    obtain ⟨idx, ao', cap', m, rfl, rfl, hk, hm, ST⟩ := hrel
    by_cases hi : idx < n
    · obtain ⟨b, off, rfl, hbw, q0, q1, q2, q3⟩ := HC.out idx hi
      have l0 := (ST.out.2.1.cell (p := ⟨b, off + idx * 4, none⟩) hbw).trans q0
      have l1 := (ST.out.2.1.cell (p := ⟨b, off + idx * 4 + 1, none⟩) hbw).trans q1
      have l2 := (ST.out.2.1.cell (p := ⟨b, off + idx * 4 + 2, none⟩) hbw).trans q2
      have l3 := (ST.out.2.1.cell (p := ⟨b, off + idx * 4 + 3, none⟩) hbw).trans q3
      clear q0 q1 q2 q3
      have SK : Aside (p xs[idx]! = false → (xs.take (idx + 1)).filter p = (xs.take idx).filter p) := filt_skip _ xs idx (by rw [HL.out]; exact hi)
      have SP : Aside (p xs[idx]! = true → (xs.take (idx + 1)).filter p = (xs.take idx).filter p ++ [xs[idx]!]) := filt_keep _ xs idx (by rw [HL.out]; exact hi)
      generalize xs[idx]! = y at l0 l1 l2 l3 SK SP
      obtain ⟨y1, y2, y3, y4⟩ := y
      simp only [] at l0 l1 l2 l3
      have GO : Aside (∀ v' w', w'.ownsRow w.heap.size 36 4 v' (m + 1) (flat ((xs.take idx).filter p) ++ [.int .i64 y1, .int .i64 y2, .int .i64 y3, .int .i64 y4]) → (wr.alloc (.cells #[.int .i64 y1, .int .i64 y2, .int .i64 y3, .int .i64 y4] 36)).grownBy w' (Value.slice ao' m cap').ownBlock → p ⟨y1, y2, y3, y4⟩ = true →
          ∃ ao2 cap2, v' = .slice ao2 (m + 1) cap2 ∧ ((xs.take (idx + 1)).filter p).length = m + 1 ∧ Below w.heap.size w w' ∧ w'.ownsRow w.heap.size 36 4 (.slice ao2 (m + 1) cap2) (m + 1) (flat ((xs.take (idx + 1)).filter p))) := by
        intro v' w' ho hg hp
        have e := SP.out hp
        obtain ⟨e1, e2, e3⟩ := ST.out
        rw [show flat ((xs.take idx).filter p) ++ [.int .i64 y1, .int .i64 y2, .int .i64 y3, .int .i64 y4] = flat ((xs.take (idx + 1)).filter p) by rw [e, flat_append]; rfl] at ho
        obtain ⟨ao2, cap2, hv, _⟩ := own_sl ho
        subst hv
        refine ⟨ao2, cap2, rfl, by rw [e, List.length_append, e1]; rfl, ?_, ho⟩
        exact (e2.alloc e2.size _).grown hg (by have := e2.size; simp; omega) (fun k hk => (e3.lt k hk).1)
      by_cases hc : y1 = cn
      · skip
        have PT : Aside (p ⟨y1, y2, y3, y4⟩ = false) := by show _ = _; rw [HP.out]; simp [hc]
        have ST2 : Aside (((xs.take (idx + 1)).filter p).length = m ∧ Below w.heap.size w wr ∧ wr.ownsRow w.heap.size 36 4 (.slice ao' m cap') m (flat ((xs.take (idx + 1)).filter p))) := by
          have e := SK.out PT.out
          show _ ∧ _
          rw [e]; exact ST.out
        clear SK SP HC GO
        go_wp2
        go_roundg (gk - 1)
        case measure => omega
        case rel => exact ⟨idx + 1, ao', cap', m, by simp, rfl, by omega, by omega, ST2.out⟩
      · skip
        have PT : Aside (p ⟨y1, y2, y3, y4⟩ = true) := by show _ = _; rw [HP.out]; simp [hc]
        have hown := ST.out.2.2
        have hszw := ST.out.2.1.size
        clear SK SP HC
        go_wp2_with (at_builtin; refine wpList_append_own _ rfl _ _ 22 rfl w.heap.size 36 i0 _ 4 32 Try.underlying22 hi0 hz0 hs0 hb0 rfl (by omega) _ _ _ rfl (hown.alloc _) ⟨wr.heap.size, 0, none⟩ 1 1 [.int .i64 y1, .int .i64 y2, .int .i64 y3, .int .i64 y4] rfl rfl (cell_four_new _ _ _ _ _ _) one_four (by unfold maxLen; omega) (by omega) (by simp; omega) ?_)
        intro v' w1 hown' hgrow _
        obtain ⟨ao2, cap2, rfl, hlen, hbel, hown2⟩ := GO.out v' w1 hown' hgrow PT.out
        have ST2 : Aside (_ ∧ _ ∧ _) := ⟨hlen, hbel, hown2⟩
        clear hown hown' hgrow hlen hbel hown2 GO
        go_wp2
        go_roundg (gk - 1)
        case measure => omega
        case rel => exact ⟨idx + 1, ao2, cap2, m + 1, by simp, by rfl, by omega, by omega, ST2.out⟩
    · have HX : Aside (xs.take idx = xs) := by show _ = _; rw [List.take_of_length_le]; have := HL.out; omega
      obtain rfl : idx = n := by omega
      clear HC
      go_wp2
      go_ret
      obtain ⟨e1, e2, e3⟩ := ST.out
      rw [HX.out] at e1 e3
      exact ⟨ao', cap', by rw [e1]; rfl, e2, by rw [e1]; exact e3⟩
def RDropPost (p : Le → Bool) (ao : Option Addr) (n cap : Nat) (xs : List Le) (w : World) (e : Ending) (w' : World) : Prop :=
  ∃ ao' cap', e = .returned (.tuple #[if (xs.filter p).length = n then .slice ao n cap else .slice ao' (xs.filter p).length cap', .int .i64 (if (xs.filter p).length = n then 32 else 0)]) ∧ Below w.heap.size w w' ∧ w'.ownsRow w.heap.size 36 4 (.slice ao' (xs.filter p).length cap') (xs.filter p).length (flat (xs.filter p))

set_option maxHeartbeats 4000000 in
theorem rdrop_loop (p : Le → Bool) (ao : Option Addr) (n cap : Nat) (xs : List Le) (cn fid : Int) (hp : ∀ y1 y2 y3 y4, p ⟨y1, y2, y3, y4⟩ = decide (y2 ≠ fid ∨ y1 ≠ cn)) (w : World) (h : Sl w 4 ao n cap (xs.map Le.enc)) (hn : n ≤ 1000000) :
    Calls Try.prog 22 #[.slice ao n cap, .int .i64 cn, .int .i64 fid] w fun e w' => RDropPost p ao n cap xs w e w' := by
  have hln := Sl.len h
  have hbig : n ≤ 9223372036854775807 := by omega
  obtain ⟨i0, hi0, hz0, hs0, hb0⟩ := leaseInfo
  have HC : Aside (∀ j, j < n → ∃ b off, ao = some ⟨b, off, none⟩ ∧ b < w.heap.size ∧ w.cell? ⟨b, off + j * 4, none⟩ = some (.int .i64 xs[j]!.conn) ∧ w.cell? ⟨b, off + j * 4 + 1, none⟩ = some (.int .i64 xs[j]!.id) ∧ w.cell? ⟨b, off + j * 4 + 2, none⟩ = some (.int .i64 xs[j]!.kind) ∧ w.cell? ⟨b, off + j * 4 + 3, none⟩ = some (.int .i64 xs[j]!.til)) := by
    intro j hj
    obtain ⟨b, off, h1, h2, h3⟩ := Sl.open4 h (by omega)
    exact ⟨b, off, h1, h2, h3 j hj⟩
  have HL : Aside (xs.length = n) := hln
  have HP : Aside (∀ y1 y2 y3 y4, _ = _) := hp
  clear h hln hp
  go_enter Try.func22, Try.ntmps22
  go_wp2
  go_loopg [8, 9] n (fun k so si wr => ∃ (idx : Nat) (ao' : Option Addr) (cap' m : Nat), si = .int .i64 (idx : Int) ∧ so = .slice ao' m cap' ∧ k + idx = n ∧ m ≤ idx ∧ Aside (((xs.take idx).filter p).length = m ∧ Below w.heap.size w wr ∧ wr.ownsRow w.heap.size 36 4 (.slice ao' m cap') m (flat ((xs.take idx).filter p))))
  case atStart => exact ⟨0, none, 0, 0, rfl, rfl, by omega, by omega, rfl, Below.refl _ _, World.ownsRow_nil _ _ _ _⟩
  case round =>
    obtain ⟨idx, ao', cap', m, rfl, rfl, hk, hm, ST⟩ := hrel
    by_cases hi : idx < n
    · obtain ⟨b, off, rfl, hbw, q0, q1, q2, q3⟩ := HC.out idx hi
      have l0 := (ST.out.2.1.cell (p := ⟨b, off + idx * 4, none⟩) hbw).trans q0
      have l1 := (ST.out.2.1.cell (p := ⟨b, off + idx * 4 + 1, none⟩) hbw).trans q1
      have l2 := (ST.out.2.1.cell (p := ⟨b, off + idx * 4 + 2, none⟩) hbw).trans q2
      have l3 := (ST.out.2.1.cell (p := ⟨b, off + idx * 4 + 3, none⟩) hbw).trans q3
      clear q0 q1 q2 q3
      have SK : Aside (p xs[idx]! = false → (xs.take (idx + 1)).filter p = (xs.take idx).filter p) := filt_skip _ xs idx (by rw [HL.out]; exact hi)
      have SP : Aside (p xs[idx]! = true → (xs.take (idx + 1)).filter p = (xs.take idx).filter p ++ [xs[idx]!]) := filt_keep _ xs idx (by rw [HL.out]; exact hi)
      generalize xs[idx]! = y at l0 l1 l2 l3 SK SP
      obtain ⟨y1, y2, y3, y4⟩ := y
      simp only [] at l0 l1 l2 l3
      have GO : Aside (∀ v' w', w'.ownsRow w.heap.size 36 4 v' (m + 1) (flat ((xs.take idx).filter p) ++ [.int .i64 y1, .int .i64 y2, .int .i64 y3, .int .i64 y4]) → (wr.alloc (.cells #[.int .i64 y1, .int .i64 y2, .int .i64 y3, .int .i64 y4] 36)).grownBy w' (Value.slice ao' m cap').ownBlock → p ⟨y1, y2, y3, y4⟩ = true →
          ∃ ao2 cap2, v' = .slice ao2 (m + 1) cap2 ∧ ((xs.take (idx + 1)).filter p).length = m + 1 ∧ Below w.heap.size w w' ∧ w'.ownsRow w.heap.size 36 4 (.slice ao2 (m + 1) cap2) (m + 1) (flat ((xs.take (idx + 1)).filter p))) := by
        intro v' w' ho hg hp
        have e := SP.out hp
        obtain ⟨e1, e2, e3⟩ := ST.out
        rw [show flat ((xs.take idx).filter p) ++ [.int .i64 y1, .int .i64 y2, .int .i64 y3, .int .i64 y4] = flat ((xs.take (idx + 1)).filter p) by rw [e, flat_append]; rfl] at ho
        obtain ⟨ao2, cap2, hv, _⟩ := own_sl ho
        subst hv
        refine ⟨ao2, cap2, rfl, by rw [e, List.length_append, e1]; rfl, ?_, ho⟩
        exact (e2.alloc e2.size _).grown hg (by have := e2.size; simp; omega) (fun k hk => (e3.lt k hk).1)
      by_cases hc : y2 = fid
      · by_cases hc2 : y1 = cn
        · subst hc; subst hc2
          have PT : Aside (p ⟨y1, y2, y3, y4⟩ = false) := by show _ = _; rw [HP.out]; simp
          have ST2 : Aside (((xs.take (idx + 1)).filter p).length = m ∧ Below w.heap.size w wr ∧ wr.ownsRow w.heap.size 36 4 (.slice ao' m cap') m (flat ((xs.take (idx + 1)).filter p))) := by
            have e := SK.out PT.out
            show _ ∧ _
            rw [e]; exact ST.out
          clear SK SP HC GO
          go_wp2
          go_roundg (gk - 1)
          case measure => omega
          case rel => exact ⟨idx + 1, ao', cap', m, by simp, rfl, by omega, by omega, ST2.out⟩
        · subst hc
          have PT : Aside (p ⟨y1, y2, y3, y4⟩ = true) := by show _ = _; rw [HP.out]; simp [hc2]
          have hown := ST.out.2.2
          have hszw := ST.out.2.1.size
          clear SK SP HC
          go_wp2_with (at_builtin; refine wpList_append_own _ rfl _ _ 22 rfl w.heap.size 36 i0 _ 4 32 Try.underlying22 hi0 hz0 hs0 hb0 rfl (by omega) _ _ _ rfl (hown.alloc _) ⟨wr.heap.size, 0, none⟩ 1 1 [.int .i64 y1, .int .i64 y2, .int .i64 y3, .int .i64 y4] rfl rfl (cell_four_new _ _ _ _ _ _) one_four (by unfold maxLen; omega) (by omega) (by simp; omega) ?_)
          intro v' w1 hown' hgrow _
          obtain ⟨ao2, cap2, rfl, hlen, hbel, hown2⟩ := GO.out v' w1 hown' hgrow PT.out
          have ST2 : Aside (_ ∧ _ ∧ _) := ⟨hlen, hbel, hown2⟩
          clear hown hown' hgrow hlen hbel hown2 GO
          go_wp2
          go_roundg (gk - 1)
          case measure => omega
          case rel => exact ⟨idx + 1, ao2, cap2, m + 1, by simp, by rfl, by omega, by omega, ST2.out⟩
      · skip
        have PT : Aside (p ⟨y1, y2, y3, y4⟩ = true) := by show _ = _; rw [HP.out]; simp [hc]
        have hown := ST.out.2.2
        have hszw := ST.out.2.1.size
        clear SK SP HC
        go_wp2_with (at_builtin; refine wpList_append_own _ rfl _ _ 22 rfl w.heap.size 36 i0 _ 4 32 Try.underlying22 hi0 hz0 hs0 hb0 rfl (by omega) _ _ _ rfl (hown.alloc _) ⟨wr.heap.size, 0, none⟩ 1 1 [.int .i64 y1, .int .i64 y2, .int .i64 y3, .int .i64 y4] rfl rfl (cell_four_new _ _ _ _ _ _) one_four (by unfold maxLen; omega) (by omega) (by simp; omega) ?_)
        intro v' w1 hown' hgrow _
        obtain ⟨ao2, cap2, rfl, hlen, hbel, hown2⟩ := GO.out v' w1 hown' hgrow PT.out
        have ST2 : Aside (_ ∧ _ ∧ _) := ⟨hlen, hbel, hown2⟩
        clear hown hown' hgrow hlen hbel hown2 GO
        go_wp2
        go_roundg (gk - 1)
        case measure => omega
        case rel => exact ⟨idx + 1, ao2, cap2, m + 1, by simp, by rfl, by omega, by omega, ST2.out⟩
    · have HX : Aside (xs.take idx = xs) := by show _ = _; rw [List.take_of_length_le]; have := HL.out; omega
      obtain rfl : idx = n := by omega
      clear HC
      by_cases hmn : m = idx
      · subst hmn
        go_wp2
        obtain ⟨e1, e2, e3⟩ := ST.out
        rw [HX.out] at e1 e3
        refine bodyPost_ret (v := .tuple #[.slice ao m cap, .int .i64 32]) (by simp [results, Try.results22, go_sem]) rfl ⟨ao', cap', by rw [e1]; simp, e2, by rw [e1]; exact e3⟩
      · have hmi : ¬ (m : Int) = (idx : Int) := by omega
        go_wp2
        obtain ⟨e1, e2, e3⟩ := ST.out
        rw [HX.out] at e1 e3
        refine bodyPost_ret (v := .tuple #[.slice ao' m cap', .int .i64 0]) (by simp [results, Try.results22, go_sem]) rfl ⟨ao', cap', by rw [e1]; simp [hmn], e2, by rw [e1]; exact e3⟩

end Go.Proofs.Ytodmgdihkhakpaa
