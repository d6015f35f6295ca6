/- This text proves the walk of the statement LeaseCoheres. Conditions: those that each theorem names. -/
import Derived.Test.YtodmgdihkhakpaaLeaseT
import Derived.StillTactics
namespace Go.Proofs.Ytodmgdihkhakpaa
open Go.ChangeShapes Go.WideShapes Go.ChangeAt Go.RowKit
set_option linter.unusedVariables false

structure As where
  conn : Int
  id : Int
  kind : Int
  term : Int
  now : Int
instance : Inhabited As := ⟨⟨0, 0, 0, 0, 0⟩⟩
def As.enc (x : As) : List Value := [.int .i64 x.conn, .int .i64 x.id, .int .i64 x.kind, .int .i64 x.term, .int .i64 x.now]
theorem asks_of : ∀ (xs : List (List Value)), (∀ x ∈ xs, leavesOk [some (some .i64), some (some .i64), some (some .i64), some (some .i64), some (some .i64)] x) → ∃ ys : List As, xs = ys.map As.enc
  | [], _ => ⟨[], rfl⟩
  | x :: xs, h => by
    obtain ⟨a, r1, e1, ⟨n1, rfl, _⟩, h2⟩ := leavesOk_cons (h x (by simp))
    obtain ⟨b, r2, e2, ⟨n2, rfl, _⟩, h3⟩ := leavesOk_cons h2
    obtain ⟨c, r3, e3, ⟨n3, rfl, _⟩, h4⟩ := leavesOk_cons h3
    obtain ⟨d, r4, e4, ⟨n4, rfl, _⟩, h5⟩ := leavesOk_cons h4
    obtain ⟨f, r5, e5, ⟨n5, rfl, _⟩, h6⟩ := leavesOk_cons h5
    have e6 := leavesOk_nil h6
    obtain ⟨ys, rfl⟩ := asks_of xs (fun z hz => h z (by simp [hz]))
    exact ⟨⟨n1, n2, n3, n4, n5⟩ :: ys, by rw [e1, e2, e3, e4, e5, e6]; rfl⟩
/-- The cells of a slice of requests. -/
def CellsA (W : World) (ao : Option Addr) (ys : List As) : Prop := ∀ j, j < ys.length → ∃ b off, ao = some ⟨b, off, none⟩ ∧ b < W.heap.size ∧ W.cell? ⟨b, off + j * 5, none⟩ = some (.int .i64 ys[j]!.conn) ∧ W.cell? ⟨b, off + j * 5 + 1, none⟩ = some (.int .i64 ys[j]!.id) ∧
  W.cell? ⟨b, off + j * 5 + 2, none⟩ = some (.int .i64 ys[j]!.kind) ∧ W.cell? ⟨b, off + j * 5 + 3, none⟩ = some (.int .i64 ys[j]!.term) ∧ W.cell? ⟨b, off + j * 5 + 4, none⟩ = some (.int .i64 ys[j]!.now)
theorem cellsA {W : World} {ao : Option Addr} {n cap : Nat} {ys : List As} (h : Sl W 5 ao n cap (ys.map As.enc)) : CellsA W ao ys := by
  intro j hj
  have hl : ys.length = n := by have := h.hlen; simpa using this
  obtain ⟨b, off, rfl, hb, hc⟩ := h.here (by omega)
  have hx : (ys.map As.enc)[j]? = some ys[j]!.enc := by rw [List.getElem?_map, List.getElem?_eq_getElem hj, getElem!_pos ys j hj]; rfl
  exact ⟨b, off, rfl, hb, hc j _ hx 0 _ rfl, hc j _ hx 1 _ rfl, hc j _ hx 2 _ rfl, hc j _ hx 3 _ rfl, hc j _ hx 4 _ rfl⟩

/-- No two leases that conflict hold at a time. -/
def Coh (zs : List Le) (now : Int) : Prop := ∀ a ∈ zs, ∀ b ∈ zs, conflictB a b = true → now < a.til → now < b.til → False
theorem Coh.later {zs : List Le} {now now' : Int} (h : Coh zs now) (hn : now ≤ now') : Coh zs now' := fun a ha b hb hc h1 h2 => h a ha b hb hc (by omega) (by omega)
theorem conflict_self (x : Le) : conflictB x x = false := by simp [conflictB]
theorem conflict_comm (x y : Le) : conflictB x y = conflictB y x := by
  rw [Bool.eq_iff_iff]; simp only [conflictB, decide_eq_true_eq]; omega
theorem coh_put {zs : List Le} {x : Le} {now now' : Int} (h : Coh zs now) (hn : now ≤ now') (hc : ∀ y ∈ liveL zs now', conflictB x y = false) : Coh (putL x (liveL zs now')) now' := by
  intro a ha b hb hcf h1 h2
  have hmem : ∀ y, y ∈ liveL zs now' → y ∈ zs := fun y hy => (List.mem_filter.1 hy).1
  rcases mem_putL ha with ea | ha2
  · rcases mem_putL hb with eb | hb2
    · rw [ea, eb, conflict_self] at hcf; cases hcf
    · rw [ea, hc b hb2] at hcf; cases hcf
  · rcases mem_putL hb with eb | hb2
    · rw [eb, conflict_comm, hc a ha2] at hcf; cases hcf
    · exact h a (hmem a ha2) b (hmem b hb2) hcf (by omega) (by omega)

theorem callThen_call {P : Program} {ops : Array Oper} {Q : Exit → Act → World → Prop} {o : Oper} {rest : List Oper} {a : Act} {w : World} (f : FuncId) (args : Array Value) (hrun : (execOp a.eval o).run P w = .ok (.enter f args) w)
    (hc : Calls P f args w (fun e w' => ∃ v, e = .returned v ∧ wpStill P ops w' (fun a'' => Q .normal a'' w') rest (a.put o.dst v))) : CallThen P ops Q (o :: rest) a w := by
  show Oper.wp P o a w _ _
  unfold Oper.wp
  rw [hrun]
  exact hc.mono (fun e w' ⟨v, he, h⟩ => by subst he; exact h)

/-- The state of the outer loop. -/
def CoSt (w : World) (ao' : Option Addr) (cap' : Nat) (zs : List Le) (nw : Int) (wr : World) : Prop :=
  rightB zs = true ∧ Coh zs nw ∧ Sl wr 4 ao' zs.length cap' (zs.map Le.enc) ∧ Below w.heap.size w wr
theorem CoSt.later {w : World} {ao' : Option Addr} {cap' : Nat} {zs : List Le} {nw nw' : Int} {wr wr' : World} (h : CoSt w ao' cap' zs nw wr) (hn : nw ≤ nw') (hb : Below wr.heap.size wr wr') : CoSt w ao' cap' zs nw' wr' :=
  ⟨h.1, h.2.1.later hn, h.2.2.1.stays hb, h.2.2.2.trans (hb.mono h.2.2.2.size)⟩

set_option maxHeartbeats 16000000 in
set_option maxRecDepth 100000 in
theorem lawCoheres_in (ao : Option Addr) (n cap : Nat) (ys : List As) (w : World) (h : Sl w 5 ao n cap (ys.map As.enc)) (hn : n ≤ 60) : Calls Try.prog 6 #[.slice ao n cap] w fun e w' => e = .returned (.bool true) ∧ Below w.heap.size w w' := by
  have HC : Aside (CellsA w ao ys) := cellsA h
  have hln : ys.length = n := by have := h.hlen; simpa using this
  have HL : Aside (ys.length = n) := hln
  clear h hln
  go_enter Try.func6, Try.ntmps6
  have hnb : n ≤ 9223372036854775807 := by omega
  go_wp2
  go_loopg [3, 4, 17] n (fun k s3 s4 s17 wr => ∃ (idx : Nat) (ao' : Option Addr) (cap' : Nat) (zs : List Le) (nw : Int), s17 = .int .i64 (idx : Int) ∧ s3 = .slice ao' zs.length cap' ∧ s4 = .int .i64 nw ∧ k + idx = n ∧ 0 ≤ nw ∧ nw ≤ 1099511627776 ∧ CoSt w ao' cap' zs nw wr)
  case atStart => exact ⟨0, none, 0, [], 0, rfl, rfl, rfl, by omega, by omega, by omega, rfl, (fun a ha => by cases ha), sl_nil w, Below.refl _ _⟩
  case round =>
    obtain ⟨idx, ao', cap', zs, nw, rfl, rfl, rfl, hk, hw0, hw1, ST⟩ := hrel
    have hzl : zs.length ≤ 64 := ((rightB_iff zs).1 ST.1).1
    by_cases hi : idx < n
    · have hi2 : (idx : Int) < (n : Int) := by omega
      have hbz : (0 : Int) ≤ (idx : Int) := by omega
      obtain ⟨b, off, rfl, hbw, q0, q1, q2, q3, q4⟩ := HC.out idx (by have := HL.out; omega)
      have l0 := (ST.2.2.2.cell (p := ⟨b, off + idx * 5, none⟩) hbw).trans q0
      have l1 := (ST.2.2.2.cell (p := ⟨b, off + idx * 5 + 1, none⟩) hbw).trans q1
      have l2 := (ST.2.2.2.cell (p := ⟨b, off + idx * 5 + 2, none⟩) hbw).trans q2
      have l3 := (ST.2.2.2.cell (p := ⟨b, off + idx * 5 + 3, none⟩) hbw).trans q3
      have l4 := (ST.2.2.2.cell (p := ⟨b, off + idx * 5 + 4, none⟩) hbw).trans q4
      have hbr : b < wr.heap.size := Nat.lt_of_lt_of_le hbw ST.2.2.2.size
      clear q0 q1 q2 q3 q4
      generalize ys[idx]! = y at l0 l1 l2 l3 l4
      obtain ⟨cn, fid, kd, tm, now⟩ := y
      simp only [] at l0 l1 l2 l3 l4
      by_cases hlt : now < nw
      · have ST2 := ST
        go_wp2
        go_roundg (gk - 1)
        case measure => omega
        case rel => exact ⟨idx + 1, ao', cap', zs, nw, by simp, rfl, rfl, by omega, by omega, by omega, ST2⟩
      by_cases hgt : 1099511627776 < now
      · have ST2 := ST
        go_wp2
        go_roundg (gk - 1)
        case measure => omega
        case rel => exact ⟨idx + 1, ao', cap', zs, nw, by simp, rfl, rfl, by omega, by omega, by omega, ST2⟩
      have cG := fun x => (grant_calls ao' zs.length cap' zs cn fid kd tm now (plus wr x) (ST.2.2.1.stays (below_plus wr x)) (by omega) ((rightB_iff zs).1 ST.1).2.2)
      have HG : Aside (_) := grant_ok zs cn fid kd tm now ST.1
      generalize hGF : grantF zs cn fid kd tm now = GF at cG HG
      obtain ⟨gl, gu, ge⟩ := GF
      simp only [] at cG
      clear hGF
      have hgl : gl.length ≤ 64 ∧ (ge ≠ 0 → gl = zs) ∧ (ge = 0 → rightB gl = true ∧ Coh gl now) := by
        rcases HG.out with (e | e | e) | ⟨e, _, e2, e3⟩
        · cases e; exact ⟨hzl, fun _ => rfl, fun e => by cases e⟩
        · cases e; exact ⟨hzl, fun _ => rfl, fun e => by cases e⟩
        · cases e; exact ⟨hzl, fun _ => rfl, fun e => by cases e⟩
        · cases e; exact ⟨((rightB_iff _).1 e3).1, fun e => absurd rfl e, fun _ => ⟨e3, coh_put ST.2.1 (by omega) e2⟩⟩
      clear HG
      obtain ⟨hg1, hg2, hg3⟩ := hgl
      have HG3 : Aside (ge = 0 → rightB gl = true ∧ Coh gl now) := hg3
      clear hg2 hg3
      go_wp2
      refine wp_region_call 22 (by kernel_rfl) (by kernel_rfl) ?_
      simp only [List.take, List.drop]
      refine mix_quiet rfl rfl (fun K hK => ?_)
      simp [go_sem]
      refine hK _ ?_
      clear hK
      clear K
      refine mix_quiet rfl rfl (fun K hK => ?_)
      simp [go_sem]
      refine hK _ ?_
      clear hK
      clear K
      refine mix_quiet rfl rfl (fun K hK => ?_)
      simp [go_sem]
      refine hK _ ?_
      clear hK
      clear K
      refine mix_quiet rfl rfl (fun K hK => ?_)
      simp [go_sem, hi2, hbz]
      refine hK _ ?_
      clear hK
      clear K
      refine mix_quiet rfl rfl (fun K hK => ?_)
      simp [go_sem]
      refine hK _ ?_
      clear hK
      clear K
      refine mix_quiet rfl rfl (fun K hK => ?_)
      simp [go_sem, l0, hbr]
      refine hK _ ?_
      clear hK
      clear K
      refine mix_quiet rfl rfl (fun K hK => ?_)
      simp [go_sem]
      refine hK _ ?_
      clear hK
      clear K
      refine mix_quiet rfl rfl (fun K hK => ?_)
      simp [go_sem]
      refine hK _ ?_
      clear hK
      clear K
      refine mix_quiet rfl rfl (fun K hK => ?_)
      simp [go_sem, hi2, hbz]
      refine hK _ ?_
      clear hK
      clear K
      refine mix_quiet rfl rfl (fun K hK => ?_)
      simp [go_sem]
      refine hK _ ?_
      clear hK
      clear K
      refine mix_quiet rfl rfl (fun K hK => ?_)
      simp [go_sem, l1, hbr]
      refine hK _ ?_
      clear hK
      clear K
      refine mix_quiet rfl rfl (fun K hK => ?_)
      simp [go_sem]
      refine hK _ ?_
      clear hK
      clear K
      refine mix_quiet rfl rfl (fun K hK => ?_)
      simp [go_sem]
      refine hK _ ?_
      clear hK
      clear K
      refine mix_quiet rfl rfl (fun K hK => ?_)
      simp [go_sem, hi2, hbz]
      refine hK _ ?_
      clear hK
      clear K
      refine mix_quiet rfl rfl (fun K hK => ?_)
      simp [go_sem]
      refine hK _ ?_
      clear hK
      clear K
      refine mix_quiet rfl rfl (fun K hK => ?_)
      simp [go_sem, l2, hbr]
      refine hK _ ?_
      clear hK
      clear K
      refine mix_quiet rfl rfl (fun K hK => ?_)
      simp [go_sem]
      refine hK _ ?_
      clear hK
      clear K
      refine mix_quiet rfl rfl (fun K hK => ?_)
      simp [go_sem]
      refine hK _ ?_
      clear hK
      clear K
      refine mix_quiet rfl rfl (fun K hK => ?_)
      simp [go_sem, hi2, hbz]
      refine hK _ ?_
      clear hK
      clear K
      refine mix_quiet rfl rfl (fun K hK => ?_)
      simp [go_sem]
      refine hK _ ?_
      clear hK
      clear K
      refine mix_quiet rfl rfl (fun K hK => ?_)
      simp [go_sem, l3, hbr]
      refine hK _ ?_
      clear hK
      clear K
      refine mix_quiet rfl rfl (fun K hK => ?_)
      simp [go_sem]
      refine hK _ ?_
      clear hK
      clear K
      refine mix_nil ?_
      rintro _ ⟨x, rfl⟩
      refine callThen_call 12 #[.slice ao' zs.length cap', .int .i64 cn, .int .i64 fid, .int .i64 kd, .int .i64 tm, .int .i64 now] (by simp [go_sem]) ((cG x).mono ?_)
      rintro e U ⟨ao3, cap3, he, ho, hb⟩
      refine ⟨_, he, ?_⟩
      have HBU : Aside (Below wr.heap.size wr U) := (below_plus wr x).trans (hb.mono (below_plus wr x).size)
      have HSL : Aside (Sl U 4 ao3 gl.length cap3 (gl.map Le.enc)) := by
        obtain ⟨a4, c4, hv, hsl⟩ := own_sl ho
        cases hv
        exact hsl
      clear ho hb he cG l0 l1 l2 l3 l4
      simp only [Act.put, Array.setIfInBounds, List.size_toArray, List.length_cons, List.length_nil, Nat.reduceAdd, Nat.reduceLT, dite_true, List.set_toArray, List.set_cons_succ, List.set_cons_zero]
      repeat still_step
      refine wpStill_nil ?_
      by_cases hge : ge = 0
      · subst hge
        have ST3 : CoSt w ao3 cap3 gl now U := ⟨(HG3.out rfl).1, (HG3.out rfl).2, HSL.out, ST.2.2.2.trans (HBU.out.mono ST.2.2.2.size)⟩
        have HCO : Aside (Coh gl now) := (HG3.out rfl).2
        have CL : Aside (CellsL U ao3 gl) := cellsL HSL.out
        clear HG3 HSL HBU ST
        have hglb : gl.length ≤ 9223372036854775807 := by omega
        have hgl64 : ¬ (64 : Int) < (gl.length : Int) := by omega
        go_wp2
        go_loopg [75] gl.length (fun k s75 wr2 => ∃ (i2 : Nat) (x2 : World), s75 = .int .i64 (i2 : Int) ∧ wr2 = plus U x2 ∧ k + i2 = gl.length)
        case atStart => exact ⟨0, _, rfl, plus_self U, by omega⟩
        case round =>
          obtain ⟨i2, x2, rfl, rfl, hk2⟩ := hrel
          by_cases hi2' : i2 < gl.length
          · have hi2z : (i2 : Int) < (gl.length : Int) := by omega
            go_wp2
            go_loopg [79] i2 (fun k s79 wr3 => ∃ (i3 : Nat) (x3 : World), s79 = .int .i64 (i3 : Int) ∧ wr3 = plus U x3 ∧ k + i3 = i2)
            case atStart => exact ⟨0, x2, rfl, rfl, by omega⟩
            case round =>
              obtain ⟨i3, x3, rfl, rfl, hk3⟩ := hrel
              by_cases hi3 : i3 < i2
              · have hi3z : (i3 : Int) < (i2 : Int) := by omega
                have hi3g : (i3 : Int) < (gl.length : Int) := by omega
                obtain ⟨b2, off2, rfl, hbw2, m0, m1, m2, m3⟩ := CL.out i2 hi2'
                obtain ⟨b3, off3, hv3, hbw3, k0, k1, k2, k3⟩ := CL.out i3 (by omega)
                cases hv3
                have NCF : Aside (conflictB gl[i2]! gl[i3]! = true → now < gl[i2]!.til → now < gl[i3]!.til → False) := fun h1 h2 h3 => HCO.out _ (by rw [getElem!_pos gl i2 hi2']; exact List.getElem_mem _) _ (by rw [getElem!_pos gl i3 (by omega)]; exact List.getElem_mem _) h1 h2 h3
                clear CL HCO ST3
                generalize gl[i2]! = y at m0 m1 m2 m3 NCF
                generalize gl[i3]! = z at k0 k1 k2 k3 NCF
                obtain ⟨y1, y2, y3, y4⟩ := y
                obtain ⟨z1, z2, z3, z4⟩ := z
                simp only [] at m0 m1 m2 m3 k0 k1 k2 k3
                by_cases h1 : y2 = z2
                · by_cases h2 : y1 = z1
                  · have e1 : (y2 == z2) = true := by simp [h1]
                    have e2 : (y1 != z1) = false := by simp [h2]
                    clear h1 h2 NCF
                    go_wp2
                    refine wp_region_plus (by kernel_rfl) (by kernel_rfl) ?_
                    repeat (go_big_quiet_step (fail))
                    refine wpQuiet_nil ?_
                    rintro _ ⟨x5, rfl⟩
                    go_wp2
                    go_roundg (gk - 1)
                    case measure => omega
                    case rel =>
                      obtain ⟨z5, hz5⟩ := plus_plus U _ x5
                      exact ⟨i3 + 1, z5, by simp, hz5, by omega⟩
                  · have e1 : (y2 == z2) = true := by simp [h1]
                    have e2 : (y1 != z1) = true := by simp [h2]
                    by_cases h3 : y3 = 2
                    · have e3 : (y3 == 2) = true := by simp [h3]
                      by_cases h5 : now < y4
                      · by_cases h6 : now < z4
                        · exact (NCF.out (by simp [conflictB, h1, h2, h3]) h5 h6).elim
                        · clear h1 h2 h3 NCF
                          go_wp2
                          refine wp_region_plus (by kernel_rfl) (by kernel_rfl) ?_
                          repeat (go_big_quiet_step (fail))
                          refine wpQuiet_nil ?_
                          rintro _ ⟨x5, rfl⟩
                          go_wp2
                          go_roundg (gk - 1)
                          case measure => omega
                          case rel =>
                            obtain ⟨z5, hz5⟩ := plus_plus U _ x5
                            exact ⟨i3 + 1, z5, by simp, hz5, by omega⟩
                      · have e5 : decide (now < y4) = false := decide_eq_false h5
                        clear h1 h2 h3 NCF
                        go_wp2
                        refine wp_region_plus (by kernel_rfl) (by kernel_rfl) ?_
                        repeat (go_big_quiet_step (fail))
                        refine wpQuiet_nil ?_
                        rintro _ ⟨x5, rfl⟩
                        go_wp2
                        go_roundg (gk - 1)
                        case measure => omega
                        case rel =>
                          obtain ⟨z5, hz5⟩ := plus_plus U _ x5
                          exact ⟨i3 + 1, z5, by simp, hz5, by omega⟩
                    · have e3 : (y3 == 2) = false := by simp [h3]
                      by_cases h4 : z3 = 2
                      · have e4 : (z3 == 2) = true := by simp [h4]
                        by_cases h5 : now < y4
                        · by_cases h6 : now < z4
                          · exact (NCF.out (by simp [conflictB, h1, h2, h4]) h5 h6).elim
                          · clear h1 h2 h3 h4 NCF
                            go_wp2
                            refine wp_region_plus (by kernel_rfl) (by kernel_rfl) ?_
                            repeat (go_big_quiet_step (fail))
                            refine wpQuiet_nil ?_
                            rintro _ ⟨x5, rfl⟩
                            go_wp2
                            go_roundg (gk - 1)
                            case measure => omega
                            case rel =>
                              obtain ⟨z5, hz5⟩ := plus_plus U _ x5
                              exact ⟨i3 + 1, z5, by simp, hz5, by omega⟩
                        · have e5 : decide (now < y4) = false := decide_eq_false h5
                          clear h1 h2 h3 h4 NCF
                          go_wp2
                          refine wp_region_plus (by kernel_rfl) (by kernel_rfl) ?_
                          repeat (go_big_quiet_step (fail))
                          refine wpQuiet_nil ?_
                          rintro _ ⟨x5, rfl⟩
                          go_wp2
                          go_roundg (gk - 1)
                          case measure => omega
                          case rel =>
                            obtain ⟨z5, hz5⟩ := plus_plus U _ x5
                            exact ⟨i3 + 1, z5, by simp, hz5, by omega⟩
                      · have e4 : (z3 == 2) = false := by simp [h4]
                        clear h1 h2 h3 h4 NCF
                        go_wp2
                        refine wp_region_plus (by kernel_rfl) (by kernel_rfl) ?_
                        repeat (go_big_quiet_step (fail))
                        refine wpQuiet_nil ?_
                        rintro _ ⟨x5, rfl⟩
                        go_wp2
                        go_roundg (gk - 1)
                        case measure => omega
                        case rel =>
                          obtain ⟨z5, hz5⟩ := plus_plus U _ x5
                          exact ⟨i3 + 1, z5, by simp, hz5, by omega⟩
                · have e1 : (y2 == z2) = false := by simp [h1]
                  clear h1 NCF
                  go_wp2
                  refine wp_region_plus (by kernel_rfl) (by kernel_rfl) ?_
                  repeat (go_big_quiet_step (fail))
                  refine wpQuiet_nil ?_
                  rintro _ ⟨x5, rfl⟩
                  go_wp2
                  go_roundg (gk - 1)
                  case measure => omega
                  case rel =>
                    obtain ⟨z5, hz5⟩ := plus_plus U _ x5
                    exact ⟨i3 + 1, z5, by simp, hz5, by omega⟩
              · have hi3z : ¬ (i3 : Int) < (i2 : Int) := by omega
                go_wp2
                go_roundg (gl.length - (i2 + 1))
                case measure => omega
                case rel => exact ⟨i2 + 1, x3, by simp, rfl, by omega⟩
          · have hi2z : ¬ (i2 : Int) < (gl.length : Int) := by omega
            have ST2 : CoSt w ao3 cap3 gl now (plus U x2) := ST3.later (Int.le_refl _) (below_plus U x2)
            clear CL HCO
            go_wp2
            go_roundg (n - (idx + 1))
            case measure => omega
            case rel => exact ⟨idx + 1, ao3, cap3, gl, now, by simp, rfl, rfl, by omega, by omega, by omega, ST2⟩
      · have ST2 : CoSt w ao' cap' zs now U := ST.later (by omega) HBU.out
        have hge2 : (ge != 0) = true := by simp [hge]
        clear HG3 HSL HBU
        go_wp2
        go_roundg (gk - 1)
        case measure => omega
        case rel => exact ⟨idx + 1, ao', cap', zs, now, by simp, rfl, rfl, by omega, by omega, by omega, ST2⟩
    · have hi2 : ¬ (idx : Int) < (n : Int) := by omega
      have HBW : Aside (Below w.heap.size w wr) := ST.2.2.2
      go_wp2_with fail
      refine (awake_calls _).mono ?_
      rintro e U ⟨rfl, hb⟩
      go_wp2_with fail
      go_ret
      exact ⟨rfl, HBW.out.trans (hb.mono HBW.out.size)⟩

theorem lawCoheres_calls (ao : Option Addr) (n cap : Nat) (ys : List As) (w : World) (h : Sl w 5 ao n cap (ys.map As.enc)) : Calls Try.prog 6 #[.slice ao n cap] w fun e w' => e = .returned (.bool true) ∧ Below w.heap.size w w' := by
  by_cases hn : n ≤ 60
  · exact lawCoheres_in ao n cap ys w h hn
  · have hnb : n ≤ 9223372036854775807 := Nat.le_trans h.hcap h.hmax
    go_enter Try.func6, Try.ntmps6
    go_wp2_with fail
    refine (awake_calls _).mono ?_
    rintro e U ⟨rfl, hb⟩
    go_wp2_with fail
    go_ret
    exact ⟨rfl, hb⟩

end Go.Proofs.Ytodmgdihkhakpaa
