/- This text proves the walk of the statement LeaseDrops. Conditions: those that each theorem names. -/
import Derived.Test.YtodmgdihkhakpaaLeaseT
namespace Go.Proofs.Ytodmgdihkhakpaa
open Go.ChangeShapes Go.WideShapes Go.ChangeAt Go.RowKit
set_option linter.unusedVariables false

theorem filter_full {p : Le → Bool} : ∀ {xs : List Le}, (xs.filter p).length = xs.length → xs.filter p = xs
  | [], _ => rfl
  | x :: xs, h => by
    have hle := List.length_filter_le p xs
    cases hp : p x with
    | true =>
      rw [List.filter_cons_of_pos hp] at h ⊢
      rw [filter_full (by simpa using h)]
    | false =>
      rw [List.filter_cons_of_neg (by simp [hp])] at h
      simp at h
      omega

theorem rdrop_calls (ao : Option Addr) (n cap : Nat) (ys : List Le) (cn fid : Int) (w : World) (h : Sl w 4 ao n cap (ys.map Le.enc)) (hn : n ≤ 1000000) :
    Calls Try.prog 22 #[.slice ao n cap, .int .i64 cn, .int .i64 fid] w fun e w' => ∃ ao' cap', e = .returned (.tuple #[.slice ao' (ys.filter fun x => !(decide (x.conn = cn ∧ x.id = fid))).length cap', .int .i64 (if (ys.filter fun x => !(decide (x.conn = cn ∧ x.id = fid))).length = ys.length then 32 else 0)]) ∧
      Sl w' 4 ao' (ys.filter fun x => !(decide (x.conn = cn ∧ x.id = fid))).length cap' ((ys.filter fun x => !(decide (x.conn = cn ∧ x.id = fid))).map Le.enc) ∧ Below w.heap.size w w' := by
  refine (rdrop_loop (fun x => !(decide (x.conn = cn ∧ x.id = fid))) ao n cap ys cn fid (fun y1 y2 y3 y4 => by rw [Bool.eq_iff_iff]; simp; omega) w h hn).mono ?_
  rintro e w' ⟨ao', cap', he, hb, ho⟩
  obtain ⟨a2, c2, hv, hsl⟩ := own_sl ho
  cases hv
  have hln := Sl.len h
  by_cases hz : (ys.filter fun x => !(decide (x.conn = cn ∧ x.id = fid))).length = n
  · have hfull := filter_full (xs := ys) (p := fun x => !(decide (x.conn = cn ∧ x.id = fid))) (by rw [hz, hln])
    refine ⟨ao, cap, ?_, ?_, hb⟩
    · rw [he, if_pos hz, if_pos hz, if_pos (by omega), hz]
    · rw [hfull, hln]; exact h.stays hb
  · refine ⟨_, _, ?_, hsl, hb⟩
    rw [he, if_neg hz, if_neg hz, if_neg (by omega)]

theorem gdrop_calls (ao : Option Addr) (n cap : Nat) (ys : List Le) (cn fid : Int) (w : World) (h : Sl w 4 ao n cap (ys.map Le.enc)) (hn : n ≤ 1000000) :
    Calls Try.prog 21 #[.slice ao n cap, .int .i64 cn, .int .i64 fid] w fun e w' => ∃ ao' cap', e = .returned (.tuple #[.slice ao' (ys.filter fun x => !(decide (x.conn = cn ∧ x.id = fid))).length cap', .int .i64 (if (ys.filter fun x => !(decide (x.conn = cn ∧ x.id = fid))).length = ys.length then 32 else 0)]) ∧
      Sl w' 4 ao' (ys.filter fun x => !(decide (x.conn = cn ∧ x.id = fid))).length cap' ((ys.filter fun x => !(decide (x.conn = cn ∧ x.id = fid))).map Le.enc) ∧ Below w.heap.size w w' := by
  refine (drop_calls ao n cap ys cn fid w h hn).mono ?_
  rintro e w' ⟨v', he, ho, hb⟩
  obtain ⟨a2, c2, hv, hsl⟩ := own_sl ho
  cases hv
  exact ⟨_, _, he, hsl, hb⟩
theorem gclean_calls (ao : Option Addr) (n cap : Nat) (ys : List Le) (now : Int) (w : World) (h : Sl w 4 ao n cap (ys.map Le.enc)) (hn : n ≤ 1000000) :
    Calls Try.prog 23 #[.slice ao n cap, .int .i64 now] w fun e w' => ∃ v, e = .returned v ∧ Below w.heap.size w w' ∧ slV 4 (liveL ys now).length ((liveL ys now).map Le.enc) v w.heap.size w'.heap.size w' := by
  refine (clean_calls ao n cap ys now w h hn).mono ?_
  rintro e w' ⟨v', he, ho, hb⟩
  obtain ⟨a2, c2, hv, hsl⟩ := own_sl ho
  exact ⟨v', he, hb, a2, c2, hv, hsl⟩
theorem gforget_calls (ao : Option Addr) (n cap : Nat) (ys : List Le) (cn : Int) (w : World) (h : Sl w 4 ao n cap (ys.map Le.enc)) (hn : n ≤ 1000000) :
    Calls Try.prog 24 #[.slice ao n cap, .int .i64 cn] w fun e w' => ∃ v, e = .returned v ∧ Below w.heap.size w w' ∧ slV 4 (ys.filter fun x => !(decide (x.conn = cn))).length ((ys.filter fun x => !(decide (x.conn = cn))).map Le.enc) v w.heap.size w'.heap.size w' := by
  refine (forget_calls ao n cap ys cn w h hn).mono ?_
  rintro e w' ⟨v', he, ho, hb⟩
  obtain ⟨a2, c2, hv, hsl⟩ := own_sl ho
  exact ⟨v', he, hb, a2, c2, hv, hsl⟩
theorem rforget_sl (ao : Option Addr) (n cap : Nat) (ys : List Le) (cn : Int) (w : World) (h : Sl w 4 ao n cap (ys.map Le.enc)) (hn : n ≤ 1000000) :
    Calls Try.prog 26 #[.slice ao n cap, .int .i64 cn] w fun e w' => ∃ ao' cap', e = .returned (.slice ao' (ys.filter fun x => !(decide (x.conn = cn))).length cap') ∧ Sl w' 4 ao' (ys.filter fun x => !(decide (x.conn = cn))).length cap' ((ys.filter fun x => !(decide (x.conn = cn))).map Le.enc) ∧ Below w.heap.size w w' := by
  refine (rforget_loop (fun x => !(decide (x.conn = cn))) ao n cap ys cn (fun y1 y2 y3 y4 => by rw [Bool.eq_iff_iff]; simp) w h hn).mono ?_
  rintro e w' ⟨ao', cap', he, hb, ho⟩
  obtain ⟨a2, c2, hv, hsl⟩ := own_sl ho
  cases hv
  exact ⟨_, _, he, hsl, hb⟩
theorem rlive_sl2 (ao : Option Addr) (n cap : Nat) (ys : List Le) (now : Int) (w : World) (h : Sl w 4 ao n cap (ys.map Le.enc)) (hn : n ≤ 1000000) :
    Calls Try.prog 25 #[.slice ao n cap, .int .i64 now] w fun e w' => ∃ ao' cap', e = .returned (.slice ao' (liveL ys now).length cap') ∧ Sl w' 4 ao' (liveL ys now).length cap' ((liveL ys now).map Le.enc) ∧ Below w.heap.size w w' := by
  refine (rlive_calls ao n cap ys now w h hn).mono ?_
  rintro e w' ⟨ao', cap', he, hb, ho⟩
  obtain ⟨a2, c2, hv, hsl⟩ := own_sl ho
  cases hv
  exact ⟨_, _, he, hsl, hb⟩

set_option maxHeartbeats 1000000 in
theorem lawDrops_early (ao : Option Addr) (n cap : Nat) (ys : List Le) (cn fid kd tm now : Int) (w : World) (h : Sl w 4 ao n cap (ys.map Le.enc)) (hr : n ≤ 100 → rightB ys = false) : Calls Try.prog 8 #[.slice ao n cap, .agg #[.int .i64 cn, .int .i64 fid, .int .i64 kd, .int .i64 tm, .int .i64 now]] w fun e w' => e = .returned (.bool true) ∧ Below w.heap.size w w' := by
  have hbig : n ≤ 9223372036854775807 := Nat.le_trans h.hcap h.hmax
  have hb0 : Below w.heap.size w (w.alloc (.cells #[.int .i64 cn, .int .i64 fid, .int .i64 kd, .int .i64 tm, .int .i64 now] 26)) := (Below.refl _ w).alloc (Nat.le_refl _) _
  by_cases h100 : 100 < n
  · go_enter Try.func8, Try.ntmps8
    go_wp2_with fail
    refine (awake_calls _).mono ?_
    rintro e W' ⟨rfl, hb⟩
    go_wp2_with fail
    go_ret
    exact ⟨rfl, hb0.trans (hb.mono hb0.size)⟩
  · have c2 := rright_calls ao n cap ys _ (h.stays hb0)
    rw [hr (by omega)] at c2
    go_enter Try.func8, Try.ntmps8
    go_wp2_with fail
    refine (c2).mono ?_
    rintro e W2 ⟨rfl, hb2⟩
    have hb3 := hb0.trans (hb2.mono hb0.size)
    go_wp2_with fail
    refine (awake_calls _).mono ?_
    rintro e W3 ⟨rfl, hb⟩
    go_wp2_with fail
    go_ret
    exact ⟨rfl, hb3.trans (hb.mono hb3.size)⟩

set_option maxHeartbeats 8000000 in
set_option maxRecDepth 20000 in
theorem lawDrops_right (ao : Option Addr) (n cap : Nat) (ys : List Le) (cn fid kd tm now : Int) (w : World) (h : Sl w 4 ao n cap (ys.map Le.enc)) (hn : n ≤ 100) (hr : rightB ys = true) : Calls Try.prog 8 #[.slice ao n cap, .agg #[.int .i64 cn, .int .i64 fid, .int .i64 kd, .int .i64 tm, .int .i64 now]] w fun e w' => e = .returned (.bool true) ∧ Below w.heap.size w w' := by
  have hb0 : Below w.heap.size w (w.alloc (.cells #[.int .i64 cn, .int .i64 fid, .int .i64 kd, .int .i64 tm, .int .i64 now] 26)) := (Below.refl _ w).alloc (Nat.le_refl _) _
  have hq := askBox_new w cn fid kd tm now 26
  have HB0 : Aside (Below w.heap.size w (w.alloc (.cells #[.int .i64 cn, .int .i64 fid, .int .i64 kd, .int .i64 tm, .int .i64 now] 26))) := hb0
  have h0 := h.stays hb0
  have c2 := rright_calls ao n cap ys _ h0
  rw [hr] at c2
  have R1 : Aside (rightB (ys.filter fun x => !(decide (x.conn = cn ∧ x.id = fid))) = true) := rightB_filter _ hr
  have R2 : Aside (rightB (liveL ys now) = true) := rightB_filter _ hr
  have R3 : Aside (rightB (ys.filter fun x => !(decide (x.conn = cn))) = true) := rightB_filter _ hr
  have hn6 : n ≤ 1000000 := by omega
  have cGD := fun U (hb : Below w.heap.size w U) => gdrop_calls ao n cap ys cn fid U (h.stays hb) hn6
  have cRD := fun U (hb : Below w.heap.size w U) => rdrop_calls ao n cap ys cn fid U (h.stays hb) hn6
  generalize hzd : (ys.filter fun x => !(decide (x.conn = cn ∧ x.id = fid))) = zd at cGD cRD R1
  generalize hee : (if zd.length = ys.length then (32 : Int) else 0) = ee at cGD cRD
  clear hzd hee
  clear h hr
  have q0 := hq.c0
  have q1 := hq.c1
  have q2 := hq.c2
  have q3 := hq.c3
  have q4 := hq.c4
  go_enter Try.func8, Try.ntmps8
  go_wp2_with fail
  have hnb : n ≤ 9223372036854775807 := by omega
  refine c2.mono ?_
  rintro e U1 ⟨rfl, hbx⟩
  have HB1 : Aside (Below w.heap.size w U1) := HB0.out.trans (hbx.mono HB0.out.size)
  have h1 := h0.stays hbx
  have hq' := hq.later hbx
  clear hq q0 q1 q2 q3 q4 hbx HB0 h0 hb0 c2
  have hq := hq'
  clear hq'
  have q0 := hq.c0
  have q1 := hq.c1
  have q2 := hq.c2
  have q3 := hq.c3
  have q4 := hq.c4
  go_wp2_with fail
  refine (cGD _ HB1.out).mono ?_
  rintro e U2 ⟨a1, p1, rfl, hm, hbx⟩
  have HB2 : Aside (Below w.heap.size w U2) := HB1.out.trans (hbx.mono HB1.out.size)
  have h1' := h1.stays hbx
  clear h1
  have h1 := h1'
  clear h1'
  have hq' := hq.later hbx
  clear hq q0 q1 q2 q3 q4
  have hq := hq'
  clear hq'
  have q0 := hq.c0
  have q1 := hq.c1
  have q2 := hq.c2
  have q3 := hq.c3
  have q4 := hq.c4
  clear hbx HB1
  go_wp2_with fail
  refine (cRD _ HB2.out).mono ?_
  rintro e U3 ⟨a2, p2, rfl, hk, hbx⟩
  have HB3 : Aside (Below w.heap.size w U3) := HB2.out.trans (hbx.mono HB2.out.size)
  have h1' := h1.stays hbx
  clear h1
  have h1 := h1'
  clear h1'
  have hm' := hm.stays hbx
  clear hm
  have hm := hm'
  clear hm'
  have hq' := hq.later hbx
  clear hq q0 q1 q2 q3 q4
  have hq := hq'
  clear hq'
  have q0 := hq.c0
  have q1 := hq.c1
  have q2 := hq.c2
  have q3 := hq.c3
  have q4 := hq.c4
  clear hbx HB2
  have cC := fun x => gclean_calls ao n cap ys now (plus U3 x) (h1.stays (below_plus U3 x)) hn6
  have cF := fun x => gforget_calls ao n cap ys cn (plus U3 x) (h1.stays (below_plus U3 x)) hn6
  have hql := hq.lt
  generalize hzl : liveL ys now = zl at cC R2
  generalize hzf : (ys.filter fun x => !(decide (x.conn = cn))) = zf at cF R3
  have HZL : Aside (_ = _) := hzl
  have HZF : Aside (_ = _) := hzf
  clear hzl hzf cGD cRD
  go_wp2
  refine wp_region_mix_plus 8 [3, 7] (by kernel_rfl) (by kernel_rfl) ?_
  simp only [List.take, List.drop]
  refine mix_quiet rfl rfl (fun K hK => ?_)
  simp [go_sem]
  refine hK _ ?_
  clear hK
  clear K
  refine mix_quiet rfl rfl (fun K hK => ?_)
  simp [go_sem]
  refine hK _ ?_
  clear hK
  clear K
  refine mix_quiet rfl rfl (fun K hK => ?_)
  simp [go_sem, hql, q4]
  refine hK _ ?_
  clear hK
  clear K
  refine mix_call (slV 4 zl.length (zl.map Le.enc)) (slV_mono _ _ _) 23 #[.slice ao n cap, .int .i64 now] rfl rfl (fun x => by simp [go_sem]) (fun x => cC x) ?_
  refine mix_quiet rfl rfl (fun K hK => ?_)
  simp [go_sem]
  refine hK _ ?_
  clear hK
  clear K
  refine mix_quiet rfl rfl (fun K hK => ?_)
  simp [go_sem]
  refine hK _ ?_
  clear hK
  clear K
  refine mix_quiet rfl rfl (fun K hK => ?_)
  simp [go_sem, hql, q0]
  refine hK _ ?_
  clear hK
  clear K
  refine mix_call (slV 4 zf.length (zf.map Le.enc)) (slV_mono _ _ _) 24 #[.slice ao n cap, .int .i64 cn] rfl rfl (fun x => by simp [go_sem]) (fun x => cF x) ?_
  refine mix_nil ?_
  rintro _ ⟨y, rfl⟩
  simp only [List.nil_append, List.cons_append]
  refine specEnd_sl (fun ac pc _ hc => ?_)
  refine specEnd_sl (fun af pf _ hf => ?_)
  refine specEnd_nil ?_
  simp only [Act.put, Array.setIfInBounds, List.size_toArray, List.length_cons, List.length_nil, Nat.reduceAdd, Nat.reduceLT, dite_true, List.set_toArray, List.set_cons_succ, List.set_cons_zero]
  have hbx := below_plus U3 y
  have HB4 : Aside (Below w.heap.size w (plus U3 y)) := HB3.out.trans (hbx.mono HB3.out.size)
  have h1' := h1.stays hbx
  have hm' := hm.stays hbx
  have hk' := hk.stays hbx
  have hq' := hq.later hbx
  clear h1 hm hk hq q0 q1 q2 q3 q4 hbx HB3 cC cF hql
  generalize plus U3 y = U4 at *
  have h1 := h1'
  have hm := hm'
  have hk := hk'
  have hq := hq'
  clear h1' hm' hk' hq'
  have q0 := hq.c0
  have q1 := hq.c1
  have q2 := hq.c2
  have q3 := hq.c3
  have q4 := hq.c4
  go_wp2_with fail
  refine (rsame_calls _ _ _ _ _ _ _ hm hk).mono ?_
  rintro e U5 ⟨rfl, hbx⟩
  have HB5 : Aside (Below w.heap.size w U5) := HB4.out.trans (hbx.mono HB4.out.size)
  have h1' := h1.stays hbx
  clear h1
  have h1 := h1'
  clear h1'
  have hm' := hm.stays hbx
  clear hm
  have hm := hm'
  clear hm'
  have hc' := hc.stays hbx
  clear hc
  have hc := hc'
  clear hc'
  have hf' := hf.stays hbx
  clear hf
  have hf := hf'
  clear hf'
  have hq' := hq.later hbx
  clear hq q0 q1 q2 q3 q4
  have hq := hq'
  clear hq'
  have q0 := hq.c0
  have q1 := hq.c1
  have q2 := hq.c2
  have q3 := hq.c3
  have q4 := hq.c4
  clear hbx HB4
  have cl := rlive_sl2 ao n cap ys now U5 h1 hn6
  rw [HZL.out] at cl
  go_wp2_with fail
  refine (cl).mono ?_
  rintro e U6 ⟨a6, p6, rfl, hx, hbx⟩
  have HB6 : Aside (Below w.heap.size w U6) := HB5.out.trans (hbx.mono HB5.out.size)
  have h1' := h1.stays hbx
  clear h1
  have h1 := h1'
  clear h1'
  have hm' := hm.stays hbx
  clear hm
  have hm := hm'
  clear hm'
  have hc' := hc.stays hbx
  clear hc
  have hc := hc'
  clear hc'
  have hf' := hf.stays hbx
  clear hf
  have hf := hf'
  clear hf'
  have hq' := hq.later hbx
  clear hq q0 q1 q2 q3 q4
  have hq := hq'
  clear hq'
  have q0 := hq.c0
  have q1 := hq.c1
  have q2 := hq.c2
  have q3 := hq.c3
  have q4 := hq.c4
  clear hbx HB5
  go_wp2_with fail
  refine (rsame_calls _ _ _ _ _ _ _ hc hx).mono ?_
  rintro e U7 ⟨rfl, hbx⟩
  have HB7 : Aside (Below w.heap.size w U7) := HB6.out.trans (hbx.mono HB6.out.size)
  have h1' := h1.stays hbx
  clear h1
  have h1 := h1'
  clear h1'
  have hm' := hm.stays hbx
  clear hm
  have hm := hm'
  clear hm'
  have hc' := hc.stays hbx
  clear hc
  have hc := hc'
  clear hc'
  have hf' := hf.stays hbx
  clear hf
  have hf := hf'
  clear hf'
  have hq' := hq.later hbx
  clear hq q0 q1 q2 q3 q4
  have hq := hq'
  clear hq'
  have q0 := hq.c0
  have q1 := hq.c1
  have q2 := hq.c2
  have q3 := hq.c3
  have q4 := hq.c4
  clear hbx HB6
  have cf := rforget_sl ao n cap ys cn U7 h1 hn6
  rw [HZF.out] at cf
  go_wp2_with fail
  refine (cf).mono ?_
  rintro e U8 ⟨a8, p8, rfl, hy, hbx⟩
  have HB8 : Aside (Below w.heap.size w U8) := HB7.out.trans (hbx.mono HB7.out.size)
  have hm' := hm.stays hbx
  clear hm
  have hm := hm'
  clear hm'
  have hc' := hc.stays hbx
  clear hc
  have hc := hc'
  clear hc'
  have hf' := hf.stays hbx
  clear hf
  have hf := hf'
  clear hf'
  have hq' := hq.later hbx
  clear hq q0 q1 q2 q3 q4
  have hq := hq'
  clear hq'
  have q0 := hq.c0
  have q1 := hq.c1
  have q2 := hq.c2
  have q3 := hq.c3
  have q4 := hq.c4
  clear hbx HB7
  go_wp2_with fail
  refine (rsame_calls _ _ _ _ _ _ _ hf hy).mono ?_
  rintro e U9 ⟨rfl, hbx⟩
  have HB9 : Aside (Below w.heap.size w U9) := HB8.out.trans (hbx.mono HB8.out.size)
  have hm' := hm.stays hbx
  clear hm
  have hm := hm'
  clear hm'
  have hc' := hc.stays hbx
  clear hc
  have hc := hc'
  clear hc'
  have hf' := hf.stays hbx
  clear hf
  have hf := hf'
  clear hf'
  have hq' := hq.later hbx
  clear hq q0 q1 q2 q3 q4
  have hq := hq'
  clear hq'
  have q0 := hq.c0
  have q1 := hq.c1
  have q2 := hq.c2
  have q3 := hq.c3
  have q4 := hq.c4
  clear hbx HB8
  have cr := right_calls _ _ _ _ _ hm
  rw [R1.out] at cr
  go_wp2_with fail
  refine (cr).mono ?_
  rintro e U10 ⟨rfl, hbx⟩
  have HB10 : Aside (Below w.heap.size w U10) := HB9.out.trans (hbx.mono HB9.out.size)
  have hc' := hc.stays hbx
  clear hc
  have hc := hc'
  clear hc'
  have hf' := hf.stays hbx
  clear hf
  have hf := hf'
  clear hf'
  have hq' := hq.later hbx
  clear hq q0 q1 q2 q3 q4
  have hq := hq'
  clear hq'
  have q0 := hq.c0
  have q1 := hq.c1
  have q2 := hq.c2
  have q3 := hq.c3
  have q4 := hq.c4
  clear hbx HB9
  have cr := right_calls _ _ _ _ _ hc
  rw [R2.out] at cr
  go_wp2_with fail
  refine (cr).mono ?_
  rintro e U11 ⟨rfl, hbx⟩
  have HB11 : Aside (Below w.heap.size w U11) := HB10.out.trans (hbx.mono HB10.out.size)
  have hf' := hf.stays hbx
  clear hf
  have hf := hf'
  clear hf'
  have hq' := hq.later hbx
  clear hq q0 q1 q2 q3 q4
  have hq := hq'
  clear hq'
  have q0 := hq.c0
  have q1 := hq.c1
  have q2 := hq.c2
  have q3 := hq.c3
  have q4 := hq.c4
  clear hbx HB10
  have cr := right_calls _ _ _ _ _ hf
  rw [R3.out] at cr
  go_wp2_with fail
  refine (cr).mono ?_
  rintro e U12 ⟨rfl, hbx⟩
  have HB12 : Aside (Below w.heap.size w U12) := HB11.out.trans (hbx.mono HB11.out.size)
  have hq' := hq.later hbx
  clear hq q0 q1 q2 q3 q4
  have hq := hq'
  clear hq'
  have q0 := hq.c0
  have q1 := hq.c1
  have q2 := hq.c2
  have q3 := hq.c3
  have q4 := hq.c4
  clear hbx HB11
  go_wp2_with fail
  refine (awake_calls _).mono ?_
  rintro e U13 ⟨rfl, hbx⟩
  have HB13 : Aside (Below w.heap.size w U13) := HB12.out.trans (hbx.mono HB12.out.size)
  have hq' := hq.later hbx
  clear hq q0 q1 q2 q3 q4
  have hq := hq'
  clear hq'
  have q0 := hq.c0
  have q1 := hq.c1
  have q2 := hq.c2
  have q3 := hq.c3
  have q4 := hq.c4
  clear hbx HB12
  go_wp2_with fail
  go_ret
  exact ⟨rfl, HB13.out⟩

theorem lawDrops_calls (ao : Option Addr) (n cap : Nat) (ys : List Le) (cn fid kd tm now : Int) (w : World) (h : Sl w 4 ao n cap (ys.map Le.enc)) : Calls Try.prog 8 #[.slice ao n cap, .agg #[.int .i64 cn, .int .i64 fid, .int .i64 kd, .int .i64 tm, .int .i64 now]] w fun e w' => e = .returned (.bool true) ∧ Below w.heap.size w w' := by
  by_cases hg : n ≤ 100 ∧ rightB ys = true
  · exact lawDrops_right ao n cap ys cn fid kd tm now w h hg.1 hg.2
  · exact lawDrops_early ao n cap ys cn fid kd tm now w h (fun hn => by simpa using fun e => hg ⟨hn, e⟩)

end Go.Proofs.Ytodmgdihkhakpaa
