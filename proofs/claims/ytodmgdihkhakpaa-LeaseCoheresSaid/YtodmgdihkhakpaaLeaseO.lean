/- This text proves the walks of Blocks, Valid, Next and Same of the reference. Conditions: those that each theorem names. -/
import Derived.Test.YtodmgdihkhakpaaLeaseN
namespace Go.Proofs.Ytodmgdihkhakpaa
open Go.ChangeShapes Go.WideShapes Go.ChangeAt Go.RowKit
set_option linter.unusedVariables false

/-- The cells of a slice of leases. -/
def CellsL (W : World) (ao : Option Addr) (ys : List Le) : Prop := ∀ j, j < ys.length → ∃ b off, ao = some ⟨b, off, none⟩ ∧ b < W.heap.size ∧ W.cell? ⟨b, off + j * 4, none⟩ = some (.int .i64 ys[j]!.conn) ∧ W.cell? ⟨b, off + j * 4 + 1, none⟩ = some (.int .i64 ys[j]!.id) ∧
  W.cell? ⟨b, off + j * 4 + 2, none⟩ = some (.int .i64 ys[j]!.kind) ∧ W.cell? ⟨b, off + j * 4 + 3, none⟩ = some (.int .i64 ys[j]!.til)
theorem cellsL {W : World} {ao : Option Addr} {n cap : Nat} {ys : List Le} (h : Sl W 4 ao n cap (ys.map Le.enc)) : CellsL W ao ys := by
  intro j hj
  have hl := Sl.len h
  obtain ⟨b, off, h1, h2, h3⟩ := Sl.open4 h (by omega)
  exact ⟨b, off, h1, h2, h3 j (by omega)⟩

theorem CellsL.later {W W' : World} {ao : Option Addr} {ys : List Le} (h : CellsL W ao ys) (hb : Below W.heap.size W W') : CellsL W' ao ys := fun j hj => by
  obtain ⟨b, off, h1, h2, h3, h4, h5, h6⟩ := h j hj
  exact ⟨b, off, h1, Nat.lt_of_lt_of_le h2 hb.size, (hb.cell (p := ⟨b, off + j * 4, none⟩) h2).trans h3, (hb.cell (p := ⟨b, off + j * 4 + 1, none⟩) h2).trans h4, (hb.cell (p := ⟨b, off + j * 4 + 2, none⟩) h2).trans h5, (hb.cell (p := ⟨b, off + j * 4 + 3, none⟩) h2).trans h6⟩

/-- The reference's Clean gives the live leases. -/
theorem rlive_calls (ao : Option Addr) (n cap : Nat) (xs : List Le) (now : Int) (w : World) (h : Sl w 4 ao n cap (xs.map Le.enc)) (hn : n ≤ 1000000) :
    Calls Try.prog 25 #[.slice ao n cap, .int .i64 now] w fun e w' => ∃ ao' cap', e = .returned (.slice ao' (liveL xs now).length cap') ∧ Below w.heap.size w w' ∧ w'.ownsRow w.heap.size 36 4 (.slice ao' (liveL xs now).length cap') (liveL xs now).length (flat (liveL xs now)) :=
  rclean_loop (fun x => !(decide (x.til ≤ now))) ao n cap xs now (fun y1 y2 y3 y4 => by rw [Bool.eq_iff_iff]; simp) w h hn
theorem rlive_sl (ao : Option Addr) (n cap : Nat) (xs : List Le) (now : Int) (w : World) (h : Sl w 4 ao n cap (xs.map Le.enc)) (hn : n ≤ 1000000) :
    Calls Try.prog 25 #[.slice ao n cap, .int .i64 now] w fun e w' => ∃ ao' cap', e = .returned (.slice ao' (liveL xs now).length cap') ∧ Below w.heap.size w w' ∧ CellsL w' ao' (liveL xs now) :=
  (rlive_calls ao n cap xs now w h hn).mono fun e w' ⟨ao', cap', he, hb, ho⟩ => by
    obtain ⟨a2, c2, e2, hsl⟩ := own_sl ho
    cases e2
    exact ⟨_, _, he, hb, cellsL hsl⟩

theorem any_take (q : Le → Bool) (ys : List Le) (h : ∀ j, j < ys.length → q ys[j]! = false) : ys.any q = false := by
  rw [List.any_eq_false]
  intro x hx
  obtain ⟨i, hi, rfl⟩ := List.getElem_of_mem hx
  have := h i hi
  rw [getElem!_pos ys i hi] at this
  rw [this]; exact Bool.false_ne_true
theorem any_hit (q : Le → Bool) (ys : List Le) (j : Nat) (hj : j < ys.length) (h : q ys[j]! = true) : ys.any q = true := by
  rw [List.any_eq_true]
  rw [getElem!_pos ys j hj] at h
  exact ⟨_, List.getElem_mem hj, h⟩

set_option maxHeartbeats 4000000 in
theorem rblocks_loop (q : Le → Bool) (ao : Option Addr) (n cap : Nat) (xs : List Le) (cn fid kd now : Int) (hq : ∀ y1 y2 y3 y4, q ⟨y1, y2, y3, y4⟩ = decide (y2 = fid ∧ y1 ≠ cn ∧ (kd = 2 ∨ kd = 1 ∧ y3 = 2))) (w : World) (h : Sl w 4 ao n cap (xs.map Le.enc)) (hn : n ≤ 1000000) :
    Calls Try.prog 16 #[.slice ao n cap, .int .i64 cn, .int .i64 fid, .int .i64 kd, .int .i64 now] w fun e w' => e = .returned (.bool ((liveL xs now).any q)) ∧ Below w.heap.size w w' := by
  have c := rlive_sl ao n cap xs now w h hn
  have hlen : (liveL xs now).length ≤ n := by have := live_length xs now; rw [Sl.len h] at this; exact this
  have HQ : Aside (∀ y1 y2 y3 y4, _ = _) := hq
  clear h hq
  generalize liveL xs now = ys at c hlen ⊢
  obtain ⟨r, hr⟩ : ∃ r, r = ys.any q := ⟨_, rfl⟩
  rw [← hr]
  have HR : Aside (r = ys.any q) := hr
  clear hr
  have hbig : ys.length ≤ 9223372036854775807 := by omega
  go_enter Try.func16, Try.ntmps16
  go_wp2_with (go_at_call 25; refine c.mono ?_; rintro e U ⟨ao2, cap2, rfl, hb, hc⟩)
  have HB : Aside (Below w.heap.size w U) := hb
  have HC : Aside (CellsL U ao2 ys) := hc
  clear hb hc c
  go_loopg [12] ys.length (fun k si wr => ∃ (idx : Nat) (x : World), si = .int .i64 (idx : Int) ∧ wr = plus U x ∧ k + idx = ys.length ∧ Aside (∀ j, j < idx → q ys[j]! = false))
  case atStart => exact ⟨0, _, rfl, plus_self U, by omega, fun j hj => absurd hj (Nat.not_lt_zero _)⟩
  case round =>
    obtain ⟨idx, x, rfl, rfl, hk, FA⟩ := hrel
    by_cases hi : idx < ys.length
    · obtain ⟨b, off, rfl, hbw, l0, l1, l2, l3⟩ := HC.out idx hi
      have HT : Aside (q ys[idx]! = true → r = true) := fun h => by rw [HR.out]; exact any_hit q ys idx hi h
      have HF : Aside (q ys[idx]! = false → ∀ j, j < idx + 1 → q ys[j]! = false) := fun h j hj => by
        rcases (by omega : j < idx ∨ j = idx) with h' | h'
        · exact FA.out j h'
        · rw [h']; exact h
      clear FA HC
      generalize ys[idx]! = y at l0 l1 l2 l3 HT HF
      obtain ⟨y1, y2, y3, y4⟩ := y
      simp only [] at l0 l1 l2 l3
      by_cases h1 : y2 = fid
      · subst h1
        by_cases h2 : y1 = cn
        · subst h2
          have ST : Aside (∀ j, j < idx + 1 → q ys[j]! = false) := HF.out (by rw [HQ.out]; simp)
          clear HT HF
          go_wp2
          go_roundg (gk - 1)
          case measure => omega
          case rel => exact ⟨idx + 1, x, by simp, rfl, by omega, ST⟩
        · by_cases h3 : kd = 2
          · subst h3
            have RT : Aside (r = true) := HT.out (by rw [HQ.out]; simp [h2])
            clear HT HF
            go_wp2
            go_ret
            exact ⟨ret_bool RT.out.symm, HB.out.trans ((below_plus _ _).mono HB.out.size)⟩
          · by_cases h4 : kd = 1
            · subst h4
              by_cases h5 : y3 = 2
              · subst h5
                have RT : Aside (r = true) := HT.out (by rw [HQ.out]; simp [h2])
                clear HT HF
                go_wp2
                go_ret
                exact ⟨ret_bool RT.out.symm, HB.out.trans ((below_plus _ _).mono HB.out.size)⟩
              · have g2 : (y1 != cn) = true := by simp [h2]
                have g5 : (y3 == 2) = false := by simp [h5]
                have ST : Aside (∀ j, j < idx + 1 → q ys[j]! = false) := HF.out (by rw [HQ.out]; simp [h2, h5])
                clear HT HF
                go_wp2
                go_roundg (gk - 1)
                case measure => omega
                case rel => exact ⟨idx + 1, x, by simp, rfl, by omega, ST⟩
            · have g2 : (y1 != cn) = true := by simp [h2]
              have g3 : (kd == 2) = false := by simp [h3]
              have g4 : (kd == 1) = false := by simp [h4]
              have ST : Aside (∀ j, j < idx + 1 → q ys[j]! = false) := HF.out (by rw [HQ.out]; simp [h2, h3, h4])
              clear HT HF
              go_wp2
              go_roundg (gk - 1)
              case measure => omega
              case rel => exact ⟨idx + 1, x, by simp, rfl, by omega, ST⟩
      · skip
        have ST : Aside (∀ j, j < idx + 1 → q ys[j]! = false) := HF.out (by rw [HQ.out]; simp [h1])
        clear HT HF
        go_wp2
        go_roundg (gk - 1)
        case measure => omega
        case rel => exact ⟨idx + 1, x, by simp, rfl, by omega, ST⟩
    · have RF : Aside (r = false) := by show _ = _; rw [HR.out]; exact any_take q ys (fun j hj => FA.out j (by omega))
      have hin : idx = ys.length := by omega
      subst hin
      clear FA HC
      go_wp2
      go_ret
      exact ⟨ret_bool RF.out.symm, HB.out.trans ((below_plus _ _).mono HB.out.size)⟩

set_option maxHeartbeats 4000000 in
theorem rvalid_loop (q : Le → Bool) (ao : Option Addr) (n cap : Nat) (xs : List Le) (cn fid kd now : Int) (hq : ∀ y1 y2 y3 y4, q ⟨y1, y2, y3, y4⟩ = decide (y2 = fid ∧ y1 = cn ∧ (kd = 1 ∨ kd = 2 ∧ y3 = 2))) (w : World) (h : Sl w 4 ao n cap (xs.map Le.enc)) (hn : n ≤ 1000000) :
    Calls Try.prog 18 #[.slice ao n cap, .int .i64 cn, .int .i64 fid, .int .i64 kd, .int .i64 now] w fun e w' => e = .returned (.bool ((liveL xs now).any q)) ∧ Below w.heap.size w w' := by
  have c := rlive_sl ao n cap xs now w h hn
  have hlen : (liveL xs now).length ≤ n := by have := live_length xs now; rw [Sl.len h] at this; exact this
  have HQ : Aside (∀ y1 y2 y3 y4, _ = _) := hq
  clear h hq
  generalize liveL xs now = ys at c hlen ⊢
  obtain ⟨r, hr⟩ : ∃ r, r = ys.any q := ⟨_, rfl⟩
  rw [← hr]
  have HR : Aside (r = ys.any q) := hr
  clear hr
  have hbig : ys.length ≤ 9223372036854775807 := by omega
  go_enter Try.func18, Try.ntmps18
  go_wp2_with (go_at_call 25; refine c.mono ?_; rintro e U ⟨ao2, cap2, rfl, hb, hc⟩)
  have HB : Aside (Below w.heap.size w U) := hb
  have HC : Aside (CellsL U ao2 ys) := hc
  clear hb hc c
  go_loopg [12] ys.length (fun k si wr => ∃ (idx : Nat) (x : World), si = .int .i64 (idx : Int) ∧ wr = plus U x ∧ k + idx = ys.length ∧ Aside (∀ j, j < idx → q ys[j]! = false))
  case atStart => exact ⟨0, _, rfl, plus_self U, by omega, fun j hj => absurd hj (Nat.not_lt_zero _)⟩
  case round =>
    obtain ⟨idx, x, rfl, rfl, hk, FA⟩ := hrel
    by_cases hi : idx < ys.length
    · obtain ⟨b, off, rfl, hbw, l0, l1, l2, l3⟩ := HC.out idx hi
      have HT : Aside (q ys[idx]! = true → r = true) := fun h => by rw [HR.out]; exact any_hit q ys idx hi h
      have HF : Aside (q ys[idx]! = false → ∀ j, j < idx + 1 → q ys[j]! = false) := fun h j hj => by
        rcases (by omega : j < idx ∨ j = idx) with h' | h'
        · exact FA.out j h'
        · rw [h']; exact h
      clear FA HC
      generalize ys[idx]! = y at l0 l1 l2 l3 HT HF
      obtain ⟨y1, y2, y3, y4⟩ := y
      simp only [] at l0 l1 l2 l3
      by_cases h1 : y2 = fid
      · subst h1
        by_cases h2 : y1 = cn
        · subst h2
          by_cases h3 : kd = 1
          · subst h3
            have RT : Aside (r = true) := HT.out (by rw [HQ.out]; simp)
            clear HT HF
            go_wp2
            go_ret
            exact ⟨ret_bool RT.out.symm, HB.out.trans ((below_plus _ _).mono HB.out.size)⟩
          · by_cases h4 : kd = 2
            · subst h4
              by_cases h5 : y3 = 2
              · subst h5
                have RT : Aside (r = true) := HT.out (by rw [HQ.out]; simp)
                clear HT HF
                go_wp2
                go_ret
                exact ⟨ret_bool RT.out.symm, HB.out.trans ((below_plus _ _).mono HB.out.size)⟩
              · skip
                have ST : Aside (∀ j, j < idx + 1 → q ys[j]! = false) := HF.out (by rw [HQ.out]; simp [h5])
                clear HT HF
                go_wp2
                go_roundg (gk - 1)
                case measure => omega
                case rel => exact ⟨idx + 1, x, by simp, rfl, by omega, ST⟩
            · have g3 : (kd == 1) = false := by simp [h3]
              have g4 : (kd == 2) = false := by simp [h4]
              have ST : Aside (∀ j, j < idx + 1 → q ys[j]! = false) := HF.out (by rw [HQ.out]; simp [h3, h4])
              clear HT HF
              go_wp2
              go_roundg (gk - 1)
              case measure => omega
              case rel => exact ⟨idx + 1, x, by simp, rfl, by omega, ST⟩
        · skip
          have ST : Aside (∀ j, j < idx + 1 → q ys[j]! = false) := HF.out (by rw [HQ.out]; simp [h2])
          clear HT HF
          go_wp2
          go_roundg (gk - 1)
          case measure => omega
          case rel => exact ⟨idx + 1, x, by simp, rfl, by omega, ST⟩
      · skip
        have ST : Aside (∀ j, j < idx + 1 → q ys[j]! = false) := HF.out (by rw [HQ.out]; simp [h1])
        clear HT HF
        go_wp2
        go_roundg (gk - 1)
        case measure => omega
        case rel => exact ⟨idx + 1, x, by simp, rfl, by omega, ST⟩
    · have RF : Aside (r = false) := by show _ = _; rw [HR.out]; exact any_take q ys (fun j hj => FA.out j (by omega))
      have hin : idx = ys.length := by omega
      subst hin
      clear FA HC
      go_wp2
      go_ret
      exact ⟨ret_bool RF.out.symm, HB.out.trans ((below_plus _ _).mono HB.out.size)⟩

def rnxt (st : Nat × Int) (x : Le) : Nat × Int := (st.1 + 1, if st.1 = 0 ∨ x.til < st.2 then x.til else st.2)

set_option maxHeartbeats 4000000 in
theorem rnext_calls (ao : Option Addr) (n cap : Nat) (xs : List Le) (now : Int) (w : World) (h : Sl w 4 ao n cap (xs.map Le.enc)) (hn : n ≤ 1000000) :
    Calls Try.prog 20 #[.slice ao n cap, .int .i64 now] w fun e w' => e = .returned (.int .i64 ((liveL xs now).foldl rnxt (0, 0)).2) ∧ Below w.heap.size w w' := by
  have c := rlive_sl ao n cap xs now w h hn
  have hlen : (liveL xs now).length ≤ n := by have := live_length xs now; rw [Sl.len h] at this; exact this
  clear h
  generalize liveL xs now = ys at c hlen ⊢
  have hbig : ys.length ≤ 9223372036854775807 := by omega
  go_enter Try.func20, Try.ntmps20
  go_wp2_with (go_at_call 25; refine c.mono ?_; rintro e U ⟨ao2, cap2, rfl, hb, hc⟩)
  have HB : Aside (Below w.heap.size w U) := hb
  have HC : Aside (CellsL U ao2 ys) := hc
  clear hb hc c
  go_loopg [6, 7] ys.length (fun k s6 s7 wr => ∃ (idx : Nat) (x : World) (a : Int), s7 = .int .i64 (idx : Int) ∧ wr = plus U x ∧ s6 = .int .i64 a ∧ k + idx = ys.length ∧ Aside ((ys.take idx).foldl rnxt (0, 0) = (idx, a)))
  case atStart => exact ⟨0, _, 0, rfl, plus_self U, rfl, by omega, rfl⟩
  case round =>
    obtain ⟨idx, x, a, rfl, rfl, rfl, hk, FA⟩ := hrel
    by_cases hi : idx < ys.length
    · obtain ⟨b, off, rfl, hbw, l0, l1, l2, l3⟩ := HC.out idx hi
      have FB : Aside ((ys.take (idx + 1)).foldl rnxt (0, 0) = rnxt (idx, a) ys[idx]!) := by show _ = _; rw [take_fold _ _ _ _ hi, FA.out]
      clear FA HC
      generalize ys[idx]! = y at l0 l1 l2 l3 FB
      obtain ⟨y1, y2, y3, y4⟩ := y
      simp only [] at l0 l1 l2 l3
      by_cases h0 : idx = 0
      · subst h0; simp only [Nat.zero_mul, Nat.add_zero] at l0 l1 l2 l3
        have ST : Aside ((ys.take (0 + 1)).foldl rnxt (0, 0) = (0 + 1, y4)) := by show _ = _; rw [FB.out]; unfold rnxt; simp only []; simp
        clear FB
        go_wp2
        go_roundg (gk - 1)
        case measure => omega
        case rel => exact ⟨0 + 1, x, y4, by simp, rfl, rfl, by omega, ST⟩
      · by_cases h1 : y4 < a
        · skip
          have ST : Aside ((ys.take (idx + 1)).foldl rnxt (0, 0) = (idx + 1, y4)) := by show _ = _; rw [FB.out]; unfold rnxt; simp only []; rw [if_pos (.inr h1)]
          clear FB
          go_wp2
          go_roundg (gk - 1)
          case measure => omega
          case rel => exact ⟨idx + 1, x, y4, by simp, rfl, rfl, by omega, ST⟩
        · skip
          have ST : Aside ((ys.take (idx + 1)).foldl rnxt (0, 0) = (idx + 1, a)) := by show _ = _; rw [FB.out]; unfold rnxt; simp only []; rw [if_neg (by omega)]
          clear FB
          go_wp2
          go_roundg (gk - 1)
          case measure => omega
          case rel => exact ⟨idx + 1, x, a, by simp, rfl, rfl, by omega, ST⟩
    · have hin : idx = ys.length := by omega
      subst hin
      have FB : Aside (ys.foldl rnxt (0, 0) = (ys.length, a)) := by have := FA.out; rw [List.take_of_length_le (Nat.le_refl _)] at this; exact this
      clear FA HC
      go_wp2
      go_ret
      exact ⟨ret_int (by rw [FB.out]), HB.out.trans ((below_plus _ _).mono HB.out.size)⟩

end Go.Proofs.Ytodmgdihkhakpaa
