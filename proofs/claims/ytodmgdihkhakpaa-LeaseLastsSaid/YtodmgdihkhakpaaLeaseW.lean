/- This text proves the walk of the statement LeaseLasts. Conditions: those that each theorem names. -/
import Derived.Test.YtodmgdihkhakpaaLeaseT
import Derived.RegionTactic
namespace Go.Proofs.Ytodmgdihkhakpaa
open Go.ChangeShapes Go.WideShapes Go.ChangeAt Go.RowKit
set_option linter.unusedVariables false

theorem grantSl {f : FuncId} {args : Array Value} {w : World} {ys : List Le} {u k : Int} (h : Calls Try.prog f args w fun e w' => GrantPost w ys u k e w') :
    Calls Try.prog f args w fun e w' => ∃ ao' cap', e = .returned (.tuple #[.slice ao' ys.length cap', .int .i64 u, .int .i64 k]) ∧ Sl w' 4 ao' ys.length cap' (ys.map Le.enc) ∧ Below w.heap.size w w' :=
  h.mono fun e w' ⟨a, c, he, ho, hb⟩ => by
    obtain ⟨a2, c2, hv, hsl⟩ := own_sl ho
    cases hv
    exact ⟨_, _, he, hsl, hb⟩

theorem sorted_unique : ∀ {zs : List Le}, SortedL zs → ∀ a ∈ zs, ∀ b ∈ zs, a.id = b.id → a.conn = b.conn → a = b
  | [], _, a, ha, _, _, _, _ => by cases ha
  | z :: zs, h, a, ha, b, hb, h1, h2 => by
    obtain ⟨hz, hs⟩ := List.pairwise_cons.1 h
    rcases List.mem_cons.1 ha with ea | ha'
    · rcases List.mem_cons.1 hb with eb | hb'
      · rw [ea, eb]
      · have := hz b hb'
        rw [before_iff] at this
        rw [ea] at h1 h2
        omega
    · rcases List.mem_cons.1 hb with eb | hb'
      · have := hz a ha'
        rw [before_iff] at this
        rw [eb] at h1 h2
        omega
      · exact sorted_unique hs a ha' b hb' h1 h2

theorem lasts_valid (zs : List Le) (cn fid kd til0 later : Int) (hs : SortedL zs) (hx : (⟨cn, fid, kd, til0⟩ : Le) ∈ zs) (hk : kindB kd = true) :
    (kindB kd && zs.any fun y => decide (y.id = fid ∧ y.conn = cn ∧ later < y.til ∧ (kd = 1 ∨ y.kind = 2))) = decide (later < til0) := by
  rw [hk, Bool.true_and, Bool.eq_iff_iff, List.any_eq_true]
  simp only [decide_eq_true_eq]
  constructor
  · rintro ⟨y, hy, h1, h2, h3, _⟩
    have := sorted_unique hs y hy _ hx h1 h2
    rw [this] at h3
    exact h3
  · intro h
    refine ⟨_, hx, rfl, rfl, h, ?_⟩
    unfold kindB at hk
    simpa using hk
theorem lasts_blocks (zs : List Le) (cn fid kd til0 later other k2 : Int) (hx : (⟨cn, fid, kd, til0⟩ : Le) ∈ zs) (hk : kindB k2 = true) (ho : other ≠ cn) (hl : later < til0) (h2 : k2 = 2 ∨ kd = 2) :
    (kindB k2 && zs.any fun y => decide (y.id = fid ∧ y.conn ≠ other ∧ later < y.til ∧ (k2 = 2 ∨ y.kind = 2))) = true := by
  rw [hk, Bool.true_and, List.any_eq_true]
  exact ⟨_, hx, decide_eq_true ⟨rfl, fun e => ho e.symm, hl, h2⟩⟩

set_option maxHeartbeats 4000000 in
theorem lawLasts_early (ao : Option Addr) (n cap : Nat) (ys : List Le) (cn fid kd tm now other later : Int) (w : World) (h : Sl w 4 ao n cap (ys.map Le.enc)) (hr : n ≤ 100 → rightB ys = false) : Calls Try.prog 7 #[.agg #[.slice ao n cap, .int .i64 cn, .int .i64 fid, .int .i64 kd, .int .i64 tm, .int .i64 now, .int .i64 other, .int .i64 later]] w fun e w' => e = .returned (.bool true) ∧ Below w.heap.size w w' := by
  have hbig : n ≤ 9223372036854775807 := Nat.le_trans h.hcap h.hmax
  have HB : Aside (Below w.heap.size w (((w.alloc (.cells #[.slice ao n cap, .int .i64 cn, .int .i64 fid, .int .i64 kd, .int .i64 tm, .int .i64 now, .int .i64 other, .int .i64 later] 39)).alloc (.cells #[.int .i64 cn, .int .i64 fid, .int .i64 kd, .int .i64 tm, .int .i64 now] 26)).drew)) := (((Below.refl _ w).alloc (Nat.le_refl _) _).alloc (by simp) _).drew
  have HS : Aside (Sl (((w.alloc (.cells #[.slice ao n cap, .int .i64 cn, .int .i64 fid, .int .i64 kd, .int .i64 tm, .int .i64 now, .int .i64 other, .int .i64 later] 39)).alloc (.cells #[.int .i64 cn, .int .i64 fid, .int .i64 kd, .int .i64 tm, .int .i64 now] 26)).drew) 4 ao n cap (ys.map Le.enc)) := h.stays HB.out
  by_cases h100 : 100 < n
  · clear h
    go_enter Try.func7, Try.ntmps7
    go_wp2
    go_region
    go_wp2_with fail
    refine (awake_calls _).mono ?_
    rintro e W' ⟨rfl, hb⟩
    go_wp2_with fail
    go_ret
    exact ⟨rfl, HB.out.trans (hb.mono HB.out.size)⟩
  · have c2 := rright_calls ao n cap ys _ HS.out
    rw [hr (by omega)] at c2
    clear h hr
    go_enter Try.func7, Try.ntmps7
    go_wp2
    go_region
    go_wp2_with fail
    refine c2.mono ?_
    rintro e W1 ⟨rfl, hb1⟩
    have HB2 : Aside (Below w.heap.size w W1) := HB.out.trans (hb1.mono HB.out.size)
    clear hb1 c2
    go_wp2_with fail
    refine (awake_calls _).mono ?_
    rintro e W' ⟨rfl, hb⟩
    go_wp2_with fail
    go_ret
    exact ⟨rfl, HB2.out.trans (hb.mono HB2.out.size)⟩

set_option maxHeartbeats 16000000 in
set_option maxRecDepth 20000 in
theorem lawLasts_right (ao : Option Addr) (n cap : Nat) (ys : List Le) (cn fid kd tm now other later : Int) (w : World) (h : Sl w 4 ao n cap (ys.map Le.enc)) (hn : n ≤ 100) (hr : rightB ys = true) : Calls Try.prog 7 #[.agg #[.slice ao n cap, .int .i64 cn, .int .i64 fid, .int .i64 kd, .int .i64 tm, .int .i64 now, .int .i64 other, .int .i64 later]] w fun e w' => e = .returned (.bool true) ∧ Below w.heap.size w w' := by
  have hbig : n ≤ 9223372036854775807 := by omega
  have HB : Aside (Below w.heap.size w (((w.alloc (.cells #[.slice ao n cap, .int .i64 cn, .int .i64 fid, .int .i64 kd, .int .i64 tm, .int .i64 now, .int .i64 other, .int .i64 later] 39)).alloc (.cells #[.int .i64 cn, .int .i64 fid, .int .i64 kd, .int .i64 tm, .int .i64 now] 26)).drew)) := (((Below.refl _ w).alloc (Nat.le_refl _) _).alloc (by simp) _).drew
  have hS0 := h.stays HB.out
  have hq0 : AskBox (((w.alloc (.cells #[.slice ao n cap, .int .i64 cn, .int .i64 fid, .int .i64 kd, .int .i64 tm, .int .i64 now, .int .i64 other, .int .i64 later] 39)).alloc (.cells #[.int .i64 cn, .int .i64 fid, .int .i64 kd, .int .i64 tm, .int .i64 now] 26)).drew) (w.heap.size + 1) cn fid kd tm now := ⟨by simp, by simp [go_sem], by simp [go_sem], by simp [go_sem], by simp [go_sem], by simp [go_sem]⟩
  have HQ : Aside (AskBox _ _ _ _ _ _ _) := hq0
  have c2 := rright_calls ao n cap ys _ hS0
  rw [hr] at c2
  have cG := fun W (hb : Below w.heap.size w W) => grant_calls ao n cap ys cn fid kd tm now W (h.stays hb) (by omega) ((rightB_iff ys).1 hr).2.2
  have GOK := grant_ok ys cn fid kd tm now hr
  clear h hr hS0 hq0
  rcases GOK with GE | ⟨GO, hreq, _, hrp⟩
  · obtain ⟨k, hk, e⟩ : ∃ k : Int, (k != 0) = true ∧ grantF ys cn fid kd tm now = (ys, 0, k) := by
      rcases GE with e | e | e
      · exact ⟨1, rfl, e⟩
      · exact ⟨32, rfl, e⟩
      · exact ⟨22, rfl, e⟩
    rw [e] at cG
    clear e GE
    go_enter Try.func7, Try.ntmps7
    go_wp2
    go_region
    go_wp2_with fail
    refine c2.mono ?_
    rintro e W1 ⟨rfl, hb1⟩
    have HB2 : Aside (Below w.heap.size w W1) := HB.out.trans (hb1.mono HB.out.size)
    have hq := HQ.out.later hb1
    clear hb1 c2
    have q0 := hq.c0
    have q1 := hq.c1
    have q2 := hq.c2
    have q3 := hq.c3
    have q4 := hq.c4
    go_wp2_with fail
    refine (cG _ HB2.out).mono ?_
    rintro e W2 ⟨a2, p2, rfl, _, hb2⟩
    go_wp2_with fail
    refine (awake_calls _).mono ?_
    rintro e W' ⟨rfl, hb⟩
    go_wp2_with fail
    go_ret
    have HB3 := HB2.out.trans (hb2.mono HB2.out.size)
    exact ⟨rfl, HB3.trans (hb.mono HB3.size)⟩
  · rw [GO] at cG
    have hkd : kindB kd = true := by unfold reqB at hreq; simp only [Bool.and_eq_true] at hreq; exact hreq.1.1.2
    have hmem := mem_self_putL (x := ⟨cn, fid, kd, now + tm⟩) (liveL ys now)
    have hsz := ((rightB_iff _).1 hrp).2.2
    have LV := fun l => lasts_valid _ cn fid kd (now + tm) l hsz hmem hkd
    have LB := fun k2 => lasts_blocks _ cn fid kd (now + tm) later other k2 hmem
    have hl64 : (putL ⟨cn, fid, kd, now + tm⟩ (liveL ys now)).length ≤ 64 := ((rightB_iff _).1 hrp).1
    clear GO hreq hrp hmem hsz
    generalize putL ⟨cn, fid, kd, now + tm⟩ (liveL ys now) = zs at cG LV LB hl64
    simp only [] at cG
    obtain ⟨u, hu⟩ : ∃ u, now + tm = u := ⟨_, rfl⟩
    rw [hu] at cG LV LB
    clear hu
    have cG' : ∀ W, Below w.heap.size w W → Calls Try.prog 12 #[.slice ao n cap, .int .i64 cn, .int .i64 fid, .int .i64 kd, .int .i64 tm, .int .i64 now] W fun e W' => ∃ ao' cap', e = .returned (.tuple #[.slice ao' zs.length cap', .int .i64 u, .int .i64 0]) ∧ Sl W' 4 ao' zs.length cap' (zs.map Le.enc) ∧ Below W.heap.size W W' := fun W hb =>
      (grantSl (cG W hb))
    clear cG
    have cV : ∀ ao' cap' W, Sl W 4 ao' zs.length cap' (zs.map Le.enc) → Calls Try.prog 17 #[.slice ao' zs.length cap', .int .i64 cn, .int .i64 fid, .int .i64 kd, .int .i64 later] W fun e W' => e = .returned (.bool (decide (later < u))) ∧ Below W.heap.size W W' := fun ao' cap' W hs => by
      have := valid_calls ao' zs.length cap' zs cn fid kd later W hs
      rw [LV later] at this
      exact this
    clear LV
    have start : ∀ Q : Prop, Q → Q := fun _ q => q
    by_cases hlate : later < now
    · go_enter Try.func7, Try.ntmps7
      go_wp2
      go_region
      go_wp2_with fail
      refine c2.mono ?_
      rintro e W1 ⟨rfl, hb1⟩
      have HB1 : Aside (Below w.heap.size w W1) := HB.out.trans (hb1.mono HB.out.size)
      have hq := HQ.out.later hb1
      clear hb1 c2
      have q0 := hq.c0
      have q1 := hq.c1
      have q2 := hq.c2
      have q3 := hq.c3
      have q4 := hq.c4
      go_wp2_with fail
      refine (cG' _ HB1.out).mono ?_
      rintro e W3 ⟨a3, p3, rfl, hsl, hb⟩
      have HB3 : Aside (Below w.heap.size w W3) := HB1.out.trans (hb.mono HB1.out.size)
      have hq' := hq.later hb
      clear hq q0 q1 q2 q3 q4 hb cG'
      have hq := hq'
      clear hq'
      have q0 := hq.c0
      have q1 := hq.c1
      have q2 := hq.c2
      have q3 := hq.c3
      have q4 := hq.c4
      go_wp2_with fail
      refine (awake_calls _).mono ?_
      rintro e W9 ⟨rfl, hb⟩
      go_wp2_with fail
      go_ret
      exact ⟨rfl, by first | exact HB6.out.trans (hb.mono HB6.out.size) | exact HB5.out.trans (hb.mono HB5.out.size) | exact HB4.out.trans (hb.mono HB4.out.size) | exact HB3.out.trans (hb.mono HB3.out.size)⟩
    by_cases hoc : other = cn
    · have e0 : (other == cn) = true := by simp [hoc]
      clear hoc
      go_enter Try.func7, Try.ntmps7
      go_wp2
      go_region
      go_wp2_with fail
      refine c2.mono ?_
      rintro e W1 ⟨rfl, hb1⟩
      have HB1 : Aside (Below w.heap.size w W1) := HB.out.trans (hb1.mono HB.out.size)
      have hq := HQ.out.later hb1
      clear hb1 c2
      have q0 := hq.c0
      have q1 := hq.c1
      have q2 := hq.c2
      have q3 := hq.c3
      have q4 := hq.c4
      go_wp2_with fail
      refine (cG' _ HB1.out).mono ?_
      rintro e W3 ⟨a3, p3, rfl, hsl, hb⟩
      have HB3 : Aside (Below w.heap.size w W3) := HB1.out.trans (hb.mono HB1.out.size)
      have hq' := hq.later hb
      clear hq q0 q1 q2 q3 q4 hb cG'
      have hq := hq'
      clear hq'
      have q0 := hq.c0
      have q1 := hq.c1
      have q2 := hq.c2
      have q3 := hq.c3
      have q4 := hq.c4
      go_wp2_with fail
      refine (awake_calls _).mono ?_
      rintro e W9 ⟨rfl, hb⟩
      go_wp2_with fail
      go_ret
      exact ⟨rfl, by first | exact HB6.out.trans (hb.mono HB6.out.size) | exact HB5.out.trans (hb.mono HB5.out.size) | exact HB4.out.trans (hb.mono HB4.out.size) | exact HB3.out.trans (hb.mono HB3.out.size)⟩
    have e0 : (other == cn) = false := by simp [hoc]
    by_cases hold : later < u
    · have cB2 : ∀ ao' cap' W, Sl W 4 ao' zs.length cap' (zs.map Le.enc) → Calls Try.prog 15 #[.slice ao' zs.length cap', .int .i64 other, .int .i64 fid, .int .i64 2, .int .i64 later] W fun e W' => e = .returned (.bool true) ∧ Below W.heap.size W W' := fun ao' cap' W hs => by
        have := blocks_calls ao' zs.length cap' zs other fid 2 later W hs
        rw [LB 2 rfl hoc hold (.inl rfl)] at this
        exact this
      have cB1 : kd = 2 → ∀ ao' cap' W, Sl W 4 ao' zs.length cap' (zs.map Le.enc) → Calls Try.prog 15 #[.slice ao' zs.length cap', .int .i64 other, .int .i64 fid, .int .i64 1, .int .i64 later] W fun e W' => e = .returned (.bool true) ∧ Below W.heap.size W W' := fun hk2 ao' cap' W hs => by
        have := blocks_calls ao' zs.length cap' zs other fid 1 later W hs
        rw [LB 1 rfl hoc hold (.inr hk2)] at this
        exact this
      clear LB hoc
      rw [decide_eq_true hold] at cV
      by_cases hk2 : kd = 2
      · have cB1' := cB1 hk2
        have e2 : (kd == 2) = true := by simp [hk2]
        clear cB1 hk2
        go_enter Try.func7, Try.ntmps7
        go_wp2
        go_region
        go_wp2_with fail
        refine c2.mono ?_
        rintro e W1 ⟨rfl, hb1⟩
        have HB1 : Aside (Below w.heap.size w W1) := HB.out.trans (hb1.mono HB.out.size)
        have hq := HQ.out.later hb1
        clear hb1 c2
        have q0 := hq.c0
        have q1 := hq.c1
        have q2 := hq.c2
        have q3 := hq.c3
        have q4 := hq.c4
        go_wp2_with fail
        refine (cG' _ HB1.out).mono ?_
        rintro e W3 ⟨a3, p3, rfl, hsl, hb⟩
        have HB3 : Aside (Below w.heap.size w W3) := HB1.out.trans (hb.mono HB1.out.size)
        have hq' := hq.later hb
        clear hq q0 q1 q2 q3 q4 hb cG'
        have hq := hq'
        clear hq'
        have q0 := hq.c0
        have q1 := hq.c1
        have q2 := hq.c2
        have q3 := hq.c3
        have q4 := hq.c4
        go_wp2_with fail
        refine (cV _ _ _ hsl).mono ?_
        rintro e W4 ⟨rfl, hb⟩
        have HB4 : Aside (Below w.heap.size w W4) := HB3.out.trans (hb.mono HB3.out.size)
        have hsl' := hsl.stays hb
        have hq' := hq.later hb
        clear hq q0 q1 q2 q3 q4 hb hsl
        have hq := hq'
        have hsl := hsl'
        clear hq' hsl'
        have q0 := hq.c0
        have q1 := hq.c1
        have q2 := hq.c2
        have q3 := hq.c3
        have q4 := hq.c4
        go_wp2_with fail
        refine (cB2 _ _ _ hsl).mono ?_
        rintro e W5 ⟨rfl, hb⟩
        have HB5 : Aside (Below w.heap.size w W5) := HB4.out.trans (hb.mono HB4.out.size)
        have hsl' := hsl.stays hb
        have hq' := hq.later hb
        clear hq q0 q1 q2 q3 q4 hb hsl
        have hq := hq'
        have hsl := hsl'
        clear hq' hsl'
        have q0 := hq.c0
        have q1 := hq.c1
        have q2 := hq.c2
        have q3 := hq.c3
        have q4 := hq.c4
        go_wp2_with fail
        refine (cB1' _ _ _ hsl).mono ?_
        rintro e W6 ⟨rfl, hb⟩
        have HB6 : Aside (Below w.heap.size w W6) := HB5.out.trans (hb.mono HB5.out.size)
        have hsl' := hsl.stays hb
        have hq' := hq.later hb
        clear hq q0 q1 q2 q3 q4 hb hsl
        have hq := hq'
        have hsl := hsl'
        clear hq' hsl'
        have q0 := hq.c0
        have q1 := hq.c1
        have q2 := hq.c2
        have q3 := hq.c3
        have q4 := hq.c4
        go_wp2_with fail
        refine (awake_calls _).mono ?_
        rintro e W9 ⟨rfl, hb⟩
        go_wp2_with fail
        go_ret
        exact ⟨rfl, by first | exact HB6.out.trans (hb.mono HB6.out.size) | exact HB5.out.trans (hb.mono HB5.out.size) | exact HB4.out.trans (hb.mono HB4.out.size) | exact HB3.out.trans (hb.mono HB3.out.size)⟩
      · have e2 : (kd == 2) = false := by simp [hk2]
        clear cB1 hk2
        go_enter Try.func7, Try.ntmps7
        go_wp2
        go_region
        go_wp2_with fail
        refine c2.mono ?_
        rintro e W1 ⟨rfl, hb1⟩
        have HB1 : Aside (Below w.heap.size w W1) := HB.out.trans (hb1.mono HB.out.size)
        have hq := HQ.out.later hb1
        clear hb1 c2
        have q0 := hq.c0
        have q1 := hq.c1
        have q2 := hq.c2
        have q3 := hq.c3
        have q4 := hq.c4
        go_wp2_with fail
        refine (cG' _ HB1.out).mono ?_
        rintro e W3 ⟨a3, p3, rfl, hsl, hb⟩
        have HB3 : Aside (Below w.heap.size w W3) := HB1.out.trans (hb.mono HB1.out.size)
        have hq' := hq.later hb
        clear hq q0 q1 q2 q3 q4 hb cG'
        have hq := hq'
        clear hq'
        have q0 := hq.c0
        have q1 := hq.c1
        have q2 := hq.c2
        have q3 := hq.c3
        have q4 := hq.c4
        go_wp2_with fail
        refine (cV _ _ _ hsl).mono ?_
        rintro e W4 ⟨rfl, hb⟩
        have HB4 : Aside (Below w.heap.size w W4) := HB3.out.trans (hb.mono HB3.out.size)
        have hsl' := hsl.stays hb
        have hq' := hq.later hb
        clear hq q0 q1 q2 q3 q4 hb hsl
        have hq := hq'
        have hsl := hsl'
        clear hq' hsl'
        have q0 := hq.c0
        have q1 := hq.c1
        have q2 := hq.c2
        have q3 := hq.c3
        have q4 := hq.c4
        go_wp2_with fail
        refine (cB2 _ _ _ hsl).mono ?_
        rintro e W5 ⟨rfl, hb⟩
        have HB5 : Aside (Below w.heap.size w W5) := HB4.out.trans (hb.mono HB4.out.size)
        have hsl' := hsl.stays hb
        have hq' := hq.later hb
        clear hq q0 q1 q2 q3 q4 hb hsl
        have hq := hq'
        have hsl := hsl'
        clear hq' hsl'
        have q0 := hq.c0
        have q1 := hq.c1
        have q2 := hq.c2
        have q3 := hq.c3
        have q4 := hq.c4
        go_wp2_with fail
        refine (awake_calls _).mono ?_
        rintro e W9 ⟨rfl, hb⟩
        go_wp2_with fail
        go_ret
        exact ⟨rfl, by first | exact HB6.out.trans (hb.mono HB6.out.size) | exact HB5.out.trans (hb.mono HB5.out.size) | exact HB4.out.trans (hb.mono HB4.out.size) | exact HB3.out.trans (hb.mono HB3.out.size)⟩
    · rw [decide_eq_false hold] at cV
      clear LB hoc
      go_enter Try.func7, Try.ntmps7
      go_wp2
      go_region
      go_wp2_with fail
      refine c2.mono ?_
      rintro e W1 ⟨rfl, hb1⟩
      have HB1 : Aside (Below w.heap.size w W1) := HB.out.trans (hb1.mono HB.out.size)
      have hq := HQ.out.later hb1
      clear hb1 c2
      have q0 := hq.c0
      have q1 := hq.c1
      have q2 := hq.c2
      have q3 := hq.c3
      have q4 := hq.c4
      go_wp2_with fail
      refine (cG' _ HB1.out).mono ?_
      rintro e W3 ⟨a3, p3, rfl, hsl, hb⟩
      have HB3 : Aside (Below w.heap.size w W3) := HB1.out.trans (hb.mono HB1.out.size)
      have hq' := hq.later hb
      clear hq q0 q1 q2 q3 q4 hb cG'
      have hq := hq'
      clear hq'
      have q0 := hq.c0
      have q1 := hq.c1
      have q2 := hq.c2
      have q3 := hq.c3
      have q4 := hq.c4
      go_wp2_with fail
      refine (cV _ _ _ hsl).mono ?_
      rintro e W4 ⟨rfl, hb⟩
      have HB4 : Aside (Below w.heap.size w W4) := HB3.out.trans (hb.mono HB3.out.size)
      have hsl' := hsl.stays hb
      have hq' := hq.later hb
      clear hq q0 q1 q2 q3 q4 hb hsl
      have hq := hq'
      have hsl := hsl'
      clear hq' hsl'
      have q0 := hq.c0
      have q1 := hq.c1
      have q2 := hq.c2
      have q3 := hq.c3
      have q4 := hq.c4
      go_wp2_with fail
      refine (awake_calls _).mono ?_
      rintro e W9 ⟨rfl, hb⟩
      go_wp2_with fail
      go_ret
      exact ⟨rfl, by first | exact HB6.out.trans (hb.mono HB6.out.size) | exact HB5.out.trans (hb.mono HB5.out.size) | exact HB4.out.trans (hb.mono HB4.out.size) | exact HB3.out.trans (hb.mono HB3.out.size)⟩

theorem lawLasts_calls (ao : Option Addr) (n cap : Nat) (ys : List Le) (cn fid kd tm now other later : Int) (w : World) (h : Sl w 4 ao n cap (ys.map Le.enc)) : Calls Try.prog 7 #[.agg #[.slice ao n cap, .int .i64 cn, .int .i64 fid, .int .i64 kd, .int .i64 tm, .int .i64 now, .int .i64 other, .int .i64 later]] w fun e w' => e = .returned (.bool true) ∧ Below w.heap.size w w' := by
  by_cases hg : n ≤ 100 ∧ rightB ys = true
  · exact lawLasts_right ao n cap ys cn fid kd tm now other later w h hg.1 hg.2
  · exact lawLasts_early ao n cap ys cn fid kd tm now other later w h (fun hn => by simpa using fun e => hg ⟨hn, e⟩)

end Go.Proofs.Ytodmgdihkhakpaa
