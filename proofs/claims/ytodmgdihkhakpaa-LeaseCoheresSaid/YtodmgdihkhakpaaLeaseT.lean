/- This text opens a list of leases that came in, and proves the walks of the statements LeaseRight, LeaseGrants and LeaseTells. Conditions: those that each theorem names. -/
import Derived.Test.YtodmgdihkhakpaaLeaseS
namespace Go.Proofs.Ytodmgdihkhakpaa
open Go.ChangeShapes Go.WideShapes Go.ChangeAt Go.RowKit
set_option linter.unusedVariables false

theorem own : ownKnob Try.prog.godebug = none := by kernel_rfl
theorem laidOut : laidOutB Try.prog = true := by kernel_rfl
theorem i64_range {n : Int} (h : (Lit.int .i64 n).wf = true) : -9223372036854775808 ≤ n ∧ n ≤ 9223372036854775807 := by
  simpa [Lit.wf, IntKind.min, IntKind.max, IntKind.signed, IntKind.bits] using h
theorem leaseLeaves : leavesOf Try.prog 5 36 = some [some (some .i64), some (some .i64), some (some .i64), some (some .i64)] := by kernel_rfl
theorem four_cells (l : List Value) (h1 : leavesOk [some (some .i64), some (some .i64), some (some .i64), some (some .i64)] l) : ∃ y : Le, l = y.enc := by
  obtain ⟨a, r1, e1, ⟨n1, rfl, _⟩, h2⟩ := leavesOk_cons h1
  obtain ⟨b, r2, e2, ⟨n2, rfl, _⟩, h3⟩ := leavesOk_cons h2
  obtain ⟨c, r3, e3, ⟨n3, rfl, _⟩, h4⟩ := leavesOk_cons h3
  obtain ⟨d, r4, e4, ⟨n4, rfl, _⟩, h5⟩ := leavesOk_cons h4
  have e5 := leavesOk_nil h5
  exact ⟨⟨n1, n2, n3, n4⟩, by rw [e1, e2, e3, e4, e5]; rfl⟩
theorem leases_of : ∀ (xs : List (List Value)), (∀ x ∈ xs, leavesOk [some (some .i64), some (some .i64), some (some .i64), some (some .i64)] x) → ∃ ys : List Le, xs = ys.map Le.enc
  | [], _ => ⟨[], rfl⟩
  | x :: xs, h => by
    obtain ⟨y, rfl⟩ := four_cells x (h x (by simp))
    obtain ⟨ys, rfl⟩ := leases_of xs (fun z hz => h z (by simp [hz]))
    exact ⟨y :: ys, rfl⟩

theorem askLeaves : leavesOf Try.prog 5 26 = some [some (some .i64), some (some .i64), some (some .i64), some (some .i64), some (some .i64)] := by kernel_rfl
theorem ask_open {H : Type} {enc : TypeId × Value → H} {w : World} {base : Nat} {spare : Nat → Bool} {held : Bool} {v : Value} {d : DataW H} {ps : List MemPlace} (hk : ∃ cs, v = .agg cs)
    (h : DataW.Trod enc Try.prog w base spare held 26 v d ps) : ∃ cn fid kd tm now, v = .agg #[.int .i64 cn, .int .i64 fid, .int .i64 kd, .int .i64 tm, .int .i64 now] := by
  obtain ⟨cs, rfl⟩ := hk
  have h1 := leaves_of_Trod askLeaves h
  obtain ⟨l⟩ := cs
  simp only [Value.cells] at h1
  obtain ⟨a, r1, e1, ⟨n1, rfl, _⟩, h2⟩ := leavesOk_cons h1
  obtain ⟨b, r2, e2, ⟨n2, rfl, _⟩, h3⟩ := leavesOk_cons h2
  obtain ⟨c, r3, e3, ⟨n3, rfl, _⟩, h4⟩ := leavesOk_cons h3
  obtain ⟨d, r4, e4, ⟨n4, rfl, _⟩, h5⟩ := leavesOk_cons h4
  obtain ⟨f, r5, e5, ⟨n5, rfl, _⟩, h6⟩ := leavesOk_cons h5
  have e6 := leavesOk_nil h6
  exact ⟨n1, n2, n3, n4, n5, by rw [e1, e2, e3, e4, e5, e6]⟩

set_option maxHeartbeats 1000000 in
theorem lawRight_calls (ao : Option Addr) (n cap : Nat) (ys : List Le) (w : World) (h : Sl w 4 ao n cap (ys.map Le.enc)) : Calls Try.prog 3 #[.slice ao n cap] w fun e w' => e = .returned (.bool true) ∧ Below w.heap.size w w' := by
  have hbig : n ≤ 9223372036854775807 := Nat.le_trans h.hcap h.hmax
  by_cases h100 : 100 < n
  · go_enter Try.func3, Try.ntmps3
    go_wp2_with fail
    refine (awake_calls _).mono ?_
    rintro e W' ⟨rfl, hb⟩
    go_wp2_with fail
    go_ret
    exact ⟨rfl, hb⟩
  · have c1 := right_calls ao n cap ys w h
    have c2 := fun W hb => rright_calls ao n cap ys W (h.stays hb)
    cases hr : rightB ys with
    | true =>
      rw [hr] at c1 c2
      go_enter Try.func3, Try.ntmps3
      go_wp2_with fail
      refine (c1).mono ?_
      rintro e W1 ⟨rfl, hb1⟩
      go_wp2_with fail
      refine (c2 _ hb1).mono ?_
      rintro e W2 ⟨rfl, hb2⟩
      have hb3 := hb1.trans (hb2.mono hb1.size)
      go_wp2_with fail
      refine (awake_calls _).mono ?_
      rintro e W3 ⟨rfl, hb⟩
      go_wp2_with fail
      go_ret
      exact ⟨rfl, hb3.trans (hb.mono hb3.size)⟩
    | false =>
      rw [hr] at c1 c2
      go_enter Try.func3, Try.ntmps3
      go_wp2_with fail
      refine (c1).mono ?_
      rintro e W1 ⟨rfl, hb1⟩
      go_wp2_with fail
      refine (c2 _ hb1).mono ?_
      rintro e W2 ⟨rfl, hb2⟩
      have hb3 := hb1.trans (hb2.mono hb1.size)
      go_wp2_with fail
      refine (awake_calls _).mono ?_
      rintro e W3 ⟨rfl, hb⟩
      go_wp2_with fail
      go_ret
      exact ⟨rfl, hb3.trans (hb.mono hb3.size)⟩

set_option maxHeartbeats 1000000 in
theorem lawGrants_early (ao : Option Addr) (n cap : Nat) (ys : List Le) (cn fid kd tm now : Int) (w : World) (h : Sl w 4 ao n cap (ys.map Le.enc)) (hr : n ≤ 100 → rightB ys = false) : Calls Try.prog 4 #[.slice ao n cap, .agg #[.int .i64 cn, .int .i64 fid, .int .i64 kd, .int .i64 tm, .int .i64 now]] w fun e w' => e = .returned (.bool true) ∧ Below w.heap.size w w' := by
  have hbig : n ≤ 9223372036854775807 := Nat.le_trans h.hcap h.hmax
  have hb0 : Below w.heap.size w (w.alloc (.cells #[.int .i64 cn, .int .i64 fid, .int .i64 kd, .int .i64 tm, .int .i64 now] 26)) := (Below.refl _ w).alloc (Nat.le_refl _) _
  by_cases h100 : 100 < n
  · go_enter Try.func4, Try.ntmps4
    go_wp2_with fail
    refine (awake_calls _).mono ?_
    rintro e W' ⟨rfl, hb⟩
    go_wp2_with fail
    go_ret
    exact ⟨rfl, hb0.trans (hb.mono hb0.size)⟩
  · have c2 := rright_calls ao n cap ys _ (h.stays hb0)
    rw [hr (by omega)] at c2
    go_enter Try.func4, Try.ntmps4
    go_wp2_with fail
    refine (c2).mono ?_
    rintro e W2 ⟨rfl, hb2⟩
    have hb3 := hb0.trans (hb2.mono hb0.size)
    go_wp2_with fail
    refine (awake_calls _).mono ?_
    rintro e W3 ⟨rfl, hb⟩
    go_wp2_with fail
    go_ret
    exact ⟨rfl, hb3.trans (hb.mono hb3.size)⟩

/-- The box of a request, in a later world. -/
structure AskBox (U : World) (b : Nat) (cn fid kd tm now : Int) : Prop where
  lt : b < U.heap.size
  c0 : U.cell? ⟨b, 0, none⟩ = some (.int .i64 cn)
  c1 : U.cell? ⟨b, 1, none⟩ = some (.int .i64 fid)
  c2 : U.cell? ⟨b, 2, none⟩ = some (.int .i64 kd)
  c3 : U.cell? ⟨b, 3, none⟩ = some (.int .i64 tm)
  c4 : U.cell? ⟨b, 4, none⟩ = some (.int .i64 now)
theorem AskBox.later {U U' : World} {b : Nat} {cn fid kd tm now : Int} (h : AskBox U b cn fid kd tm now) (hb : Below U.heap.size U U') : AskBox U' b cn fid kd tm now :=
  ⟨Nat.lt_of_lt_of_le h.lt hb.size, (hb.cell (p := ⟨b, 0, none⟩) h.lt).trans h.c0, (hb.cell (p := ⟨b, 1, none⟩) h.lt).trans h.c1, (hb.cell (p := ⟨b, 2, none⟩) h.lt).trans h.c2, (hb.cell (p := ⟨b, 3, none⟩) h.lt).trans h.c3, (hb.cell (p := ⟨b, 4, none⟩) h.lt).trans h.c4⟩
theorem askBox_new (w : World) (cn fid kd tm now : Int) (t : TypeId) : AskBox (w.alloc (.cells #[.int .i64 cn, .int .i64 fid, .int .i64 kd, .int .i64 tm, .int .i64 now] t)) w.heap.size cn fid kd tm now :=
  ⟨by simp, by simp [go_sem], by simp [go_sem], by simp [go_sem], by simp [go_sem], by simp [go_sem]⟩

set_option maxHeartbeats 4000000 in
theorem lawGrants_right (ao : Option Addr) (n cap : Nat) (ys : List Le) (cn fid kd tm now : Int) (w : World) (h : Sl w 4 ao n cap (ys.map Le.enc)) (hn : n ≤ 100) (hr : rightB ys = true) : Calls Try.prog 4 #[.slice ao n cap, .agg #[.int .i64 cn, .int .i64 fid, .int .i64 kd, .int .i64 tm, .int .i64 now]] w fun e w' => e = .returned (.bool true) ∧ Below w.heap.size w w' := by
  have hs := ((rightB_iff ys).1 hr).2.2
  have hb0 : Below w.heap.size w (w.alloc (.cells #[.int .i64 cn, .int .i64 fid, .int .i64 kd, .int .i64 tm, .int .i64 now] 26)) := (Below.refl _ w).alloc (Nat.le_refl _) _
  have hq := askBox_new w cn fid kd tm now 26
  have c2 := rright_calls ao n cap ys _ (h.stays hb0)
  rw [hr] at c2
  have cG : ∀ W, Below w.heap.size w W → Calls Try.prog 12 #[.slice ao n cap, .int .i64 cn, .int .i64 fid, .int .i64 kd, .int .i64 tm, .int .i64 now] W fun e W' => ∃ ao' cap', e = .returned (.tuple #[.slice ao' (grantF ys cn fid kd tm now).1.length cap', .int .i64 (grantF ys cn fid kd tm now).2.1, .int .i64 (grantF ys cn fid kd tm now).2.2]) ∧ Sl W' 4 ao' (grantF ys cn fid kd tm now).1.length cap' ((grantF ys cn fid kd tm now).1.map Le.enc) ∧ Below W.heap.size W W' := fun W hb =>
    (grant_calls ao n cap ys cn fid kd tm now W (h.stays hb) (by omega) hs).mono fun e W' ⟨a, c, he, ho, hb'⟩ => by
      obtain ⟨a2, c2, hv, hsl⟩ := own_sl ho
      cases hv
      exact ⟨_, _, he, hsl, hb'⟩
  have cR : ∀ W, Below w.heap.size w W → Calls Try.prog 13 #[.slice ao n cap, .int .i64 cn, .int .i64 fid, .int .i64 kd, .int .i64 tm, .int .i64 now] W fun e W' => ∃ ao' cap', e = .returned (.tuple #[.slice ao' (grantF ys cn fid kd tm now).1.length cap', .int .i64 (grantF ys cn fid kd tm now).2.1, .int .i64 (grantF ys cn fid kd tm now).2.2]) ∧ Sl W' 4 ao' (grantF ys cn fid kd tm now).1.length cap' ((grantF ys cn fid kd tm now).1.map Le.enc) ∧ Below W.heap.size W W' := fun W hb => by
    refine (rgrant_calls ao n cap ys cn fid kd tm now W (h.stays hb) (by omega)).mono ?_
    rw [grant_rgrant ys cn fid kd tm now hr]
    rintro e W' ⟨hb', a, c, he, hsl⟩
    exact ⟨a, c, he, hsl, hb'⟩
  have hgr := grant_right ys cn fid kd tm now hr
  have HGR : Aside (_ = true) := hgr
  clear hs hr h hgr
  generalize grantF ys cn fid kd tm now = r at cG cR HGR
  obtain ⟨rs, u, k⟩ := r
  simp only [] at cG cR HGR
  go_enter Try.func4, Try.ntmps4
  go_wp2_with fail
  have hnb : n ≤ 9223372036854775807 := by omega
  refine c2.mono ?_
  rintro e W2 ⟨rfl, hb2⟩
  have hq := hq.later hb2
  have HB := hb0.trans (hb2.mono hb0.size)
  have q0 := hq.c0
  have q1 := hq.c1
  have q2 := hq.c2
  have q3 := hq.c3
  have q4 := hq.c4
  clear hb0 hb2
  go_wp2_with fail
  refine (cG _ HB).mono ?_
  rintro e W3 ⟨a1, p1, rfl, h1, hb3⟩
  have HB3 := HB.trans (hb3.mono HB.size)
  clear q0 q1 q2 q3 q4
  have hq := hq.later hb3
  have q0 := hq.c0
  have q1 := hq.c1
  have q2 := hq.c2
  have q3 := hq.c3
  have q4 := hq.c4
  clear hb3
  go_wp2_with fail
  refine (cR _ HB3).mono ?_
  rintro e W4 ⟨a2, p2, rfl, h2, hb4⟩
  have HB4 := HB3.trans (hb4.mono HB3.size)
  have h1 := h1.stays hb4
  clear q0 q1 q2 q3 q4 hb4
  go_wp2_with fail
  refine (rsame_calls _ _ _ _ _ _ _ h1 h2).mono ?_
  rintro e W5 ⟨rfl, hb5⟩
  have HB5 := HB4.trans (hb5.mono HB4.size)
  have h1 := h1.stays hb5
  clear hb5
  have cr := right_calls _ _ _ _ _ h1
  rw [HGR.out] at cr
  go_wp2_with fail
  refine (cr).mono ?_
  rintro e W6 ⟨rfl, hb6⟩
  have HB6 := HB5.trans (hb6.mono HB5.size)
  go_wp2_with fail
  refine (awake_calls _).mono ?_
  rintro e W7 ⟨rfl, hb7⟩
  have HB7 := HB6.trans (hb7.mono HB6.size)
  go_wp2_with fail
  go_ret
  exact ⟨rfl, HB7⟩

theorem lawGrants_calls (ao : Option Addr) (n cap : Nat) (ys : List Le) (cn fid kd tm now : Int) (w : World) (h : Sl w 4 ao n cap (ys.map Le.enc)) : Calls Try.prog 4 #[.slice ao n cap, .agg #[.int .i64 cn, .int .i64 fid, .int .i64 kd, .int .i64 tm, .int .i64 now]] w fun e w' => e = .returned (.bool true) ∧ Below w.heap.size w w' := by
  by_cases hg : n ≤ 100 ∧ rightB ys = true
  · exact lawGrants_right ao n cap ys cn fid kd tm now w h hg.1 hg.2
  · exact lawGrants_early ao n cap ys cn fid kd tm now w h (fun hn => by simpa using fun e => hg ⟨hn, e⟩)

set_option maxHeartbeats 1000000 in
theorem lawTells_early (ao : Option Addr) (n cap : Nat) (ys : List Le) (cn fid kd tm now : Int) (w : World) (h : Sl w 4 ao n cap (ys.map Le.enc)) (hr : n ≤ 100 → rightB ys = false) : Calls Try.prog 5 #[.slice ao n cap, .agg #[.int .i64 cn, .int .i64 fid, .int .i64 kd, .int .i64 tm, .int .i64 now]] w fun e w' => e = .returned (.bool true) ∧ Below w.heap.size w w' := by
  have hbig : n ≤ 9223372036854775807 := Nat.le_trans h.hcap h.hmax
  have hb0 : Below w.heap.size w (w.alloc (.cells #[.int .i64 cn, .int .i64 fid, .int .i64 kd, .int .i64 tm, .int .i64 now] 26)) := (Below.refl _ w).alloc (Nat.le_refl _) _
  by_cases h100 : 100 < n
  · go_enter Try.func5, Try.ntmps5
    go_wp2_with fail
    refine (awake_calls _).mono ?_
    rintro e W' ⟨rfl, hb⟩
    go_wp2_with fail
    go_ret
    exact ⟨rfl, hb0.trans (hb.mono hb0.size)⟩
  · have c2 := rright_calls ao n cap ys _ (h.stays hb0)
    rw [hr (by omega)] at c2
    go_enter Try.func5, Try.ntmps5
    go_wp2_with fail
    refine (c2).mono ?_
    rintro e W2 ⟨rfl, hb2⟩
    have hb3 := hb0.trans (hb2.mono hb0.size)
    go_wp2_with fail
    refine (awake_calls _).mono ?_
    rintro e W3 ⟨rfl, hb⟩
    go_wp2_with fail
    go_ret
    exact ⟨rfl, hb3.trans (hb.mono hb3.size)⟩

set_option maxHeartbeats 8000000 in
theorem lawTells_right (ao : Option Addr) (n cap : Nat) (ys : List Le) (cn fid kd tm now : Int) (w : World) (h : Sl w 4 ao n cap (ys.map Le.enc)) (hn : n ≤ 100) (hr : rightB ys = true) : Calls Try.prog 5 #[.slice ao n cap, .agg #[.int .i64 cn, .int .i64 fid, .int .i64 kd, .int .i64 tm, .int .i64 now]] w fun e w' => e = .returned (.bool true) ∧ Below w.heap.size w w' := by
  have hb0 : Below w.heap.size w (w.alloc (.cells #[.int .i64 cn, .int .i64 fid, .int .i64 kd, .int .i64 tm, .int .i64 now] 26)) := (Below.refl _ w).alloc (Nat.le_refl _) _
  have hq := askBox_new w cn fid kd tm now 26
  have c2 := rright_calls ao n cap ys _ (h.stays hb0)
  rw [hr] at c2
  go_enter Try.func5, Try.ntmps5
  go_wp2_with fail
  have hnb : n ≤ 9223372036854775807 := by omega
  refine c2.mono ?_
  rintro e W2 ⟨rfl, hb2⟩
  have hq := hq.later hb2
  have HB : Aside (Below w.heap.size w W2) := hb0.trans (hb2.mono hb0.size)
  have h2 : Sl W2 4 ao n cap (ys.map Le.enc) := h.stays HB.out
  have q0 := hq.c0
  have q1 := hq.c1
  have q2 := hq.c2
  have q3 := hq.c3
  have q4 := hq.c4
  have hxl := hq.lt
  have cB1 := fun x => blocks_calls ao n cap ys cn fid kd now (plus W2 x) (h2.stays (below_plus W2 x))
  have cB2 := fun x => rblocks_loop (fun y => decide (y.id = fid ∧ y.conn ≠ cn ∧ (kd = 2 ∨ kd = 1 ∧ y.kind = 2))) ao n cap ys cn fid kd now (fun _ _ _ _ => rfl) (plus W2 x) (h2.stays (below_plus W2 x)) (by omega)
  have cV1 := fun x => valid_calls ao n cap ys cn fid kd now (plus W2 x) (h2.stays (below_plus W2 x))
  have cV2 := fun x => rvalid_loop (fun y => decide (y.id = fid ∧ y.conn = cn ∧ (kd = 1 ∨ kd = 2 ∧ y.kind = 2))) ao n cap ys cn fid kd now (fun _ _ _ _ => rfl) (plus W2 x) (h2.stays (below_plus W2 x)) (by omega)
  have cN1 := fun x => next_calls ao n cap ys now (plus W2 x) (h2.stays (below_plus W2 x))
  have cN2 := fun x => rnext_calls ao n cap ys now (plus W2 x) (h2.stays (below_plus W2 x)) (by omega)
  have cA := fun x => awake_calls (plus W2 x)
  rw [blocks_same] at cB1
  rw [valid_same] at cV1
  rw [next_same] at cN1
  clear h h2 hr c2 hb0 hb2 hq
  generalize ((liveL ys now).any fun y => decide (y.id = fid ∧ y.conn ≠ cn ∧ (kd = 2 ∨ kd = 1 ∧ y.kind = 2))) = r1 at cB1 cB2
  generalize ((liveL ys now).any fun y => decide (y.id = fid ∧ y.conn = cn ∧ (kd = 1 ∨ kd = 2 ∧ y.kind = 2))) = r2 at cV1 cV2
  generalize ((liveL ys now).foldl rnxt (0, 0)).2 = r3 at cN1 cN2
  cases r1 <;> cases r2
  all_goals
    go_wp2
    refine wp_region_plus (by kernel_rfl) (by kernel_rfl) ?_
    repeat (go_big_quiet_step (first | (go_at_call 15; exact calls_plus (cB1 _)) | (go_at_call 16; exact calls_plus (cB2 _)) | (go_at_call 17; exact calls_plus (cV1 _)) | (go_at_call 18; exact calls_plus (cV2 _)) | (go_at_call 19; exact calls_plus (cN1 _)) | (go_at_call 20; exact calls_plus (cN2 _)) | (go_at_call 9; exact calls_plus (cA _))))
    refine wpQuiet_nil ?_
    rintro _ ⟨x, rfl⟩
    go_wp2
    go_ret
    exact ⟨rfl, HB.out.trans ((below_plus _ _).mono HB.out.size)⟩

theorem lawTells_calls (ao : Option Addr) (n cap : Nat) (ys : List Le) (cn fid kd tm now : Int) (w : World) (h : Sl w 4 ao n cap (ys.map Le.enc)) : Calls Try.prog 5 #[.slice ao n cap, .agg #[.int .i64 cn, .int .i64 fid, .int .i64 kd, .int .i64 tm, .int .i64 now]] w fun e w' => e = .returned (.bool true) ∧ Below w.heap.size w w' := by
  by_cases hg : n ≤ 100 ∧ rightB ys = true
  · exact lawTells_right ao n cap ys cn fid kd tm now w h hg.1 hg.2
  · exact lawTells_early ao n cap ys cn fid kd tm now w h (fun hn => by simpa using fun e => hg ⟨hn, e⟩)

end Go.Proofs.Ytodmgdihkhakpaa
