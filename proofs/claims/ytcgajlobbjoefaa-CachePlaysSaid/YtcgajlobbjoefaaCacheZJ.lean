/- This text proves the walk of the statement CacheTruth. Conditions: those that each theorem names. -/
import Derived.Test.YtcgajlobbjoefaaCacheZI
import Derived.Test.YtcgajlobbjoefaaCacheZG
namespace Go.Proofs.Ytcgajlobbjoefaa
open Go.ChangeShapes Go.WideShapes Go.ChangeAt Go.RowKit
set_option linter.unusedVariables false
set_option linter.unusedSimpArgs false

theorem cap_range (most : Int) : 0 ≤ capF most ∧ capF most ≤ 256 := by
  unfold capF
  split
  · omega
  · split <;> omega
theorem RightP.fresh (most : Int) : RightP (capF most) [] [] := ⟨cap_range most, by have := (cap_range most).1; simpa using this, by simp, by simp, List.Pairwise.nil, by simp, by simp, List.Pairwise.nil⟩

set_option maxRecDepth 20000 in
set_option maxHeartbeats 16000000 in
theorem lawTruth_calls (f : ByteArray) (most : Int) (ao : Option Addr) (n cap : Nat) (os : List Opc) (w : World) (h : Sl w 7 ao n cap (os.map Opc.enc)) :
    Calls Try.prog 7 #[.string f, .int .i64 most, .slice ao n cap] w fun e w' => e = .returned (.bool true) ∧ Below w.heap.size w w' := by
  have HL : Aside (os.length = n) := Sl.lenE h
  have HC : Aside (CellsOpc w ao os) := cellsOpc h
  have HB : Aside (Below w.heap.size w w) := Below.refl _ _
  clear h
  by_cases g1 : 500 < f.size
  · have g1z : decide ((500 : Int) < (f.size : Int)) = true := decide_eq_true (by omega)
    go_enter Try.func7, Try.ntmps7
    go_wp2_with fail
    refine (awake_calls _).mono ?_
    rintro e w1 ⟨rfl, hb⟩
    have HB' : Aside (Below w.heap.size w w1) := HB.out.trans (hb.mono HB.out.size)
    clear hb HB 
    have HB : Aside (Below w.heap.size w w1) := HB'.out
    clear HB'
    go_wp2
    go_ret
    exact ⟨rfl, HB.out⟩
  have g1z : decide ((500 : Int) < (f.size : Int)) = false := decide_eq_false (by omega)
  by_cases g2 : 60 < n
  · have g2z : decide ((60 : Int) < (n : Int)) = true := decide_eq_true (by omega)
    go_enter Try.func7, Try.ntmps7
    go_wp2_with fail
    refine (awake_calls _).mono ?_
    rintro e w1 ⟨rfl, hb⟩
    have HB' : Aside (Below w.heap.size w w1) := HB.out.trans (hb.mono HB.out.size)
    clear hb HB 
    have HB : Aside (Below w.heap.size w w1) := HB'.out
    clear HB'
    go_wp2
    go_ret
    exact ⟨rfl, HB.out⟩
  have g2z : decide ((60 : Int) < (n : Int)) = false := decide_eq_false (by omega)
  have hbig : n ≤ 9223372036854775807 := by omega
  have hcq := RightP.fresh most
  have cn := new_calls most w
  generalize capF most = cq at hcq cn
  have HR0 : Aside (RightP cq [] []) := hcq
  clear hcq
  go_enter Try.func7, Try.ntmps7
  go_wp2_with fail
  refine (cn).mono ?_
  rintro e w1 ⟨rfl, hb⟩
  have HB' : Aside (Below w.heap.size w w1) := HB.out.trans (hb.mono HB.out.size)
  clear hb HB 
  have HB : Aside (Below w.heap.size w w1) := HB'.out
  clear HB'
  clear cn
  have HB' : Aside (Below w.heap.size w (w1.alloc (.cells #[.int .i64 cq, .slice none 0 0, .slice none 0 0] 25))) := HB.out.alloc HB.out.size _
  have C' : Aside ((w1.alloc (.cells #[.int .i64 cq, .slice none 0 0, .slice none 0 0] 25)).heap[w1.heap.size]? = some (.cells #[.int .i64 cq, .slice none 0 0, .slice none 0 0] 25 (0, 0))) := hp_new rfl
  have hcb' := HB.out.size
  clear HB
  go_wp2
  generalize (w1.alloc (.cells #[.int .i64 cq, .slice none 0 0, .slice none 0 0] 25)) = wv at HB' C' ⊢
  generalize w1.heap.size = cb at C' hcb' ⊢
  have hcb : w.heap.size ≤ cb := hcb'
  go_loopg [28] n (fun k s28 wr => ∃ (idx : Nat) (bl : List Pc) (hs : List Hd) (a1 : Option Addr) (k1 : Nat) (a2 : Option Addr) (k2 : Nat), s28 = .int .i64 (idx : Int) ∧ k + idx = n ∧ Aside (wr.heap[cb]? = some (.cells #[.int .i64 cq, .slice a1 bl.length k1, .slice a2 hs.length k2] 25 (0, 0))) ∧ Aside (Sl wr 4 a1 bl.length k1 (bl.map Pc.enc)) ∧ Aside (Sl wr 3 a2 hs.length k2 (hs.map Hd.enc)) ∧ Aside (RightP cq bl hs ∧ TPs f bl) ∧ Aside (Below w.heap.size w wr))
  case atStart => exact ⟨0, [], [], none, 0, none, 0, rfl, by omega, C'.out, sl_none, sl_none, ⟨HR0.out, fun p hp => by cases hp⟩, HB'.out⟩
  case round =>
    obtain ⟨idx, bl, hs, a1, k1, a2, k2, rfl, hk, C, S1, S2, RT, HB⟩ := hrel
    clear HB' C' hcb' HR0
    by_cases hi : idx < n
    · have hiz : (idx : Int) < (n : Int) := by omega
      obtain ⟨b, off, rfl, hbw, q0, q1, q2, q3, q4, q5, q6⟩ := HC.out idx (by have := HL.out; omega)
      have l0 := (HB.out.cell (p := ⟨b, off + idx * 7, none⟩) hbw).trans q0
      have l1 := (HB.out.cell (p := ⟨b, off + idx * 7 + 1, none⟩) hbw).trans q1
      have l2 := (HB.out.cell (p := ⟨b, off + idx * 7 + 2, none⟩) hbw).trans q2
      have l3 := (HB.out.cell (p := ⟨b, off + idx * 7 + 3, none⟩) hbw).trans q3
      have l4 := (HB.out.cell (p := ⟨b, off + idx * 7 + 4, none⟩) hbw).trans q4
      have l5 := (HB.out.cell (p := ⟨b, off + idx * 7 + 5, none⟩) hbw).trans q5
      have l6 := (HB.out.cell (p := ⟨b, off + idx * 7 + 6, none⟩) hbw).trans q6
      have hbr : b < wr.heap.size := Nat.lt_of_lt_of_le hbw HB.out.size
      clear q0 q1 q2 q3 q4 q5 q6 HC
      generalize os[idx]! = y at l0 l1 l2 l3 l4 l5 l6
      obtain ⟨kd, id, vers, at', cnt, tm, data⟩ := y
      simp only [] at l0 l1 l2 l3 l4 l5 l6
      by_cases c3 : kd = 3
      · subst c3
        by_cases d : 0 ≤ at' ∧ at' < (f.size : Int) ∧ 0 < cnt
        · have d0 : decide (0 ≤ at') = true := decide_eq_true d.1
          have d1 : decide (at' < (f.size : Int)) = true := decide_eq_true d.2.1
          have d2 : decide (0 < cnt) = true := decide_eq_true d.2.2
          have cr := fun U => read_calls f at' cnt U d.1 (by omega)
          have TR : Aside (TP f ⟨id, vers, at', readF f at' cnt⟩) := tp_read d.1 d.2.1 d.2.2
          generalize readF f at' cnt = s3 at cr TR
          clear d
          have hR := RT.out.1
          have cpt := fun U (s1 : Sl U 4 a1 bl.length k1 (bl.map Pc.enc)) (s2 : Sl U 3 a2 hs.length k2 (hs.map Hd.enc)) => put_all cq a1 bl.length k1 a2 hs.length k2 bl hs id vers at' s3 U s1 s2 hR
          have RT' : Aside (RightP cq (putF cq ⟨id, vers, at', s3⟩ bl hs) hs ∧ TPs f (putF cq ⟨id, vers, at', s3⟩ bl hs)) := ⟨hR.putF _, RT.out.2.put _ TR.out⟩
          generalize putF cq ⟨id, vers, at', s3⟩ bl hs = bp at cpt RT'
          clear hR RT
          clear TR
          have cc0 := cell_heap C.out 0 _ rfl
          have cc1 := cell_heap C.out 1 _ rfl
          have cc2 := cell_heap C.out 2 _ rfl
          have cclt : cb < wr.heap.size := (Array.getElem?_eq_some_iff.1 C.out).1
          have C' : Aside ((wr.alloc (.cells #[.int .i64 3, .int .i64 id, .int .i64 vers, .int .i64 at', .int .i64 cnt, .int .i64 tm, .string data] 39)).heap[cb]? = some (.cells #[.int .i64 cq, .slice a1 bl.length k1, .slice a2 hs.length k2] 25 (0, 0))) := hp_old C.out
          have S1' : Aside (Sl (wr.alloc (.cells #[.int .i64 3, .int .i64 id, .int .i64 vers, .int .i64 at', .int .i64 cnt, .int .i64 tm, .string data] 39)) 4 a1 bl.length k1 (bl.map Pc.enc)) := S1.out.stays ((Below.refl _ _).alloc (Nat.le_refl _) _)
          have S2' : Aside (Sl (wr.alloc (.cells #[.int .i64 3, .int .i64 id, .int .i64 vers, .int .i64 at', .int .i64 cnt, .int .i64 tm, .string data] 39)) 3 a2 hs.length k2 (hs.map Hd.enc)) := S2.out.stays ((Below.refl _ _).alloc (Nat.le_refl _) _)
          have O' : Aside ((wr.alloc (.cells #[.int .i64 3, .int .i64 id, .int .i64 vers, .int .i64 at', .int .i64 cnt, .int .i64 tm, .string data] 39)).heap[wr.heap.size]? = some (.cells #[.int .i64 3, .int .i64 id, .int .i64 vers, .int .i64 at', .int .i64 cnt, .int .i64 tm, .string data] 39 (0, 0))) := hp_new rfl
          have HB' : Aside (Below w.heap.size w (wr.alloc (.cells #[.int .i64 3, .int .i64 id, .int .i64 vers, .int .i64 at', .int .i64 cnt, .int .i64 tm, .string data] 39))) := HB.out.alloc HB.out.size _
          clear HB C S1 S2
          go_wp2_with fail
          clear cc0 cc1 cc2 cclt
          generalize (wr.alloc (.cells #[.int .i64 3, .int .i64 id, .int .i64 vers, .int .i64 at', .int .i64 cnt, .int .i64 tm, .string data] 39)) = v1 at C' S1' S2' O' HB' ⊢
          generalize wr.heap.size = ob at O' ⊢
          have C : Aside (v1.heap[cb]? = some (.cells #[.int .i64 cq, .slice a1 bl.length k1, .slice a2 hs.length k2] 25 (0, 0))) := C'.out
          clear C'
          have S1 : Aside (Sl v1 4 a1 bl.length k1 (bl.map Pc.enc)) := S1'.out
          clear S1'
          have S2 : Aside (Sl v1 3 a2 hs.length k2 (hs.map Hd.enc)) := S2'.out
          clear S2'
          have O : Aside (v1.heap[ob]? = some (.cells #[.int .i64 3, .int .i64 id, .int .i64 vers, .int .i64 at', .int .i64 cnt, .int .i64 tm, .string data] 39 (0, 0))) := O'.out
          clear O'
          have HB : Aside (Below w.heap.size w v1) := HB'.out
          clear HB'
          clear l0 l1 l2 l3 l4 l5 l6 hbr
          have oc0 := cell_heap O.out 0 _ rfl
          have oc1 := cell_heap O.out 1 _ rfl
          have oc2 := cell_heap O.out 2 _ rfl
          have oc3 := cell_heap O.out 3 _ rfl
          have oc4 := cell_heap O.out 4 _ rfl
          have oc5 := cell_heap O.out 5 _ rfl
          have oc6 := cell_heap O.out 6 _ rfl
          have oclt : ob < v1.heap.size := (Array.getElem?_eq_some_iff.1 O.out).1
          go_wp2
          refine wp_region_plus (by kernel_rfl) (by kernel_rfl) ?_
          repeat (go_big_quiet_step (first | (go_at_call 21; exact calls_plus (cr _))))
          refine wpQuiet_nil ?_
          rintro _ ⟨x1, rfl⟩
          have hb := below_plus v1 x1
          generalize plus v1 x1 = u1 at hb ⊢
          have C' : Aside (u1.heap[cb]? = some (.cells #[.int .i64 cq, .slice a1 bl.length k1, .slice a2 hs.length k2] 25 (0, 0))) := heap_later C.out hb
          have S1' : Aside (Sl u1 4 a1 bl.length k1 (bl.map Pc.enc)) := S1.out.stays hb
          have S2' : Aside (Sl u1 3 a2 hs.length k2 (hs.map Hd.enc)) := S2.out.stays hb
          have O' : Aside (u1.heap[ob]? = some (.cells #[.int .i64 3, .int .i64 id, .int .i64 vers, .int .i64 at', .int .i64 cnt, .int .i64 tm, .string data] 39 (0, 0))) := heap_later O.out hb
          have HB' : Aside (Below w.heap.size w u1) := HB.out.trans (hb.mono HB.out.size)
          clear hb HB C S1 S2 O oc0 oc1 oc2 oc3 oc4 oc5 oc6 oclt cr
          have C : Aside (u1.heap[cb]? = some (.cells #[.int .i64 cq, .slice a1 bl.length k1, .slice a2 hs.length k2] 25 (0, 0))) := C'.out
          clear C'
          have S1 : Aside (Sl u1 4 a1 bl.length k1 (bl.map Pc.enc)) := S1'.out
          clear S1'
          have S2 : Aside (Sl u1 3 a2 hs.length k2 (hs.map Hd.enc)) := S2'.out
          clear S2'
          have O : Aside (u1.heap[ob]? = some (.cells #[.int .i64 3, .int .i64 id, .int .i64 vers, .int .i64 at', .int .i64 cnt, .int .i64 tm, .string data] 39 (0, 0))) := O'.out
          clear O'
          have HB : Aside (Below w.heap.size w u1) := HB'.out
          clear HB'
          have cc0 := cell_heap C.out 0 _ rfl
          have cc1 := cell_heap C.out 1 _ rfl
          have cc2 := cell_heap C.out 2 _ rfl
          have cclt : cb < u1.heap.size := (Array.getElem?_eq_some_iff.1 C.out).1
          have oc0 := cell_heap O.out 0 _ rfl
          have oc1 := cell_heap O.out 1 _ rfl
          have oc2 := cell_heap O.out 2 _ rfl
          have oc3 := cell_heap O.out 3 _ rfl
          have oc4 := cell_heap O.out 4 _ rfl
          have oc5 := cell_heap O.out 5 _ rfl
          have oc6 := cell_heap O.out 6 _ rfl
          have oclt : ob < u1.heap.size := (Array.getElem?_eq_some_iff.1 O.out).1
          go_wp2_with fail
          refine (cpt _ S1.out S2.out).mono ?_
          rintro e w2 ⟨a3, k3, a4, k4, rfl, s1, s2, hb⟩
          have C' : Aside (w2.heap[cb]? = some (.cells #[.int .i64 cq, .slice a1 bl.length k1, .slice a2 hs.length k2] 25 (0, 0))) := heap_later C.out hb
          have S3' : Aside (Sl w2 4 a3 bp.length k3 (bp.map Pc.enc)) := s1
          have S4' : Aside (Sl w2 3 a4 hs.length k4 (hs.map Hd.enc)) := s2
          have HB' : Aside (Below w.heap.size w w2) := HB.out.trans (hb.mono HB.out.size)
          clear hb HB C S1 S2 O s1 s2 cc0 cc1 cc2 cclt oc0 oc1 oc2 oc3 oc4 oc5 oc6 oclt
          have C : Aside (w2.heap[cb]? = some (.cells #[.int .i64 cq, .slice a1 bl.length k1, .slice a2 hs.length k2] 25 (0, 0))) := C'.out
          clear C'
          have S3 : Aside (Sl w2 4 a3 bp.length k3 (bp.map Pc.enc)) := S3'.out
          clear S3'
          have S4 : Aside (Sl w2 3 a4 hs.length k4 (hs.map Hd.enc)) := S4'.out
          clear S4'
          have HB : Aside (Below w.heap.size w w2) := HB'.out
          clear HB'
          have lcb : cb < w2.heap.size := (Array.getElem?_eq_some_iff.1 C.out).1
          rw [holds_self C.out]
          clear cpt
          go_wp2
          go_roundg (gk - 1)
          case measure => omega
          case rel => exact ⟨idx + 1, bp, hs, a3, k3, a4, k4, by simp, by omega, hh_eq lcb, slP_holds C.out S3.out, slH_holds C.out S4.out, RT', below_holds HB.out hcb _ _⟩
        by_cases d0 : 0 ≤ at'
        rotate_left
        · have e0 : decide (0 ≤ at') = false := decide_eq_false d0
          clear d d0
          have hR := RT.out.1
          have cpt := fun U (s1 : Sl U 4 a1 bl.length k1 (bl.map Pc.enc)) (s2 : Sl U 3 a2 hs.length k2 (hs.map Hd.enc)) => put_all cq a1 bl.length k1 a2 hs.length k2 bl hs id vers (f.size : Int) ⟨#[]⟩ U s1 s2 hR
          have RT' : Aside (RightP cq (putF cq ⟨id, vers, (f.size : Int), ⟨#[]⟩⟩ bl hs) hs ∧ TPs f (putF cq ⟨id, vers, (f.size : Int), ⟨#[]⟩⟩ bl hs)) := ⟨hR.putF _, RT.out.2.put _ tp_end⟩
          generalize putF cq ⟨id, vers, (f.size : Int), ⟨#[]⟩⟩ bl hs = bp at cpt RT'
          clear hR RT
          have cc0 := cell_heap C.out 0 _ rfl
          have cc1 := cell_heap C.out 1 _ rfl
          have cc2 := cell_heap C.out 2 _ rfl
          have cclt : cb < wr.heap.size := (Array.getElem?_eq_some_iff.1 C.out).1
          have C' : Aside ((wr.alloc (.cells #[.int .i64 3, .int .i64 id, .int .i64 vers, .int .i64 at', .int .i64 cnt, .int .i64 tm, .string data] 39)).heap[cb]? = some (.cells #[.int .i64 cq, .slice a1 bl.length k1, .slice a2 hs.length k2] 25 (0, 0))) := hp_old C.out
          have S1' : Aside (Sl (wr.alloc (.cells #[.int .i64 3, .int .i64 id, .int .i64 vers, .int .i64 at', .int .i64 cnt, .int .i64 tm, .string data] 39)) 4 a1 bl.length k1 (bl.map Pc.enc)) := S1.out.stays ((Below.refl _ _).alloc (Nat.le_refl _) _)
          have S2' : Aside (Sl (wr.alloc (.cells #[.int .i64 3, .int .i64 id, .int .i64 vers, .int .i64 at', .int .i64 cnt, .int .i64 tm, .string data] 39)) 3 a2 hs.length k2 (hs.map Hd.enc)) := S2.out.stays ((Below.refl _ _).alloc (Nat.le_refl _) _)
          have O' : Aside ((wr.alloc (.cells #[.int .i64 3, .int .i64 id, .int .i64 vers, .int .i64 at', .int .i64 cnt, .int .i64 tm, .string data] 39)).heap[wr.heap.size]? = some (.cells #[.int .i64 3, .int .i64 id, .int .i64 vers, .int .i64 at', .int .i64 cnt, .int .i64 tm, .string data] 39 (0, 0))) := hp_new rfl
          have HB' : Aside (Below w.heap.size w (wr.alloc (.cells #[.int .i64 3, .int .i64 id, .int .i64 vers, .int .i64 at', .int .i64 cnt, .int .i64 tm, .string data] 39))) := HB.out.alloc HB.out.size _
          clear HB C S1 S2
          go_wp2_with fail
          clear cc0 cc1 cc2 cclt
          generalize (wr.alloc (.cells #[.int .i64 3, .int .i64 id, .int .i64 vers, .int .i64 at', .int .i64 cnt, .int .i64 tm, .string data] 39)) = v1 at C' S1' S2' O' HB' ⊢
          generalize wr.heap.size = ob at O' ⊢
          have C : Aside (v1.heap[cb]? = some (.cells #[.int .i64 cq, .slice a1 bl.length k1, .slice a2 hs.length k2] 25 (0, 0))) := C'.out
          clear C'
          have S1 : Aside (Sl v1 4 a1 bl.length k1 (bl.map Pc.enc)) := S1'.out
          clear S1'
          have S2 : Aside (Sl v1 3 a2 hs.length k2 (hs.map Hd.enc)) := S2'.out
          clear S2'
          have O : Aside (v1.heap[ob]? = some (.cells #[.int .i64 3, .int .i64 id, .int .i64 vers, .int .i64 at', .int .i64 cnt, .int .i64 tm, .string data] 39 (0, 0))) := O'.out
          clear O'
          have HB : Aside (Below w.heap.size w v1) := HB'.out
          clear HB'
          clear l0 l1 l2 l3 l4 l5 l6 hbr
          refine (cpt _ S1.out S2.out).mono ?_
          rintro e w2 ⟨a3, k3, a4, k4, rfl, s1, s2, hb⟩
          have C' : Aside (w2.heap[cb]? = some (.cells #[.int .i64 cq, .slice a1 bl.length k1, .slice a2 hs.length k2] 25 (0, 0))) := heap_later C.out hb
          have S3' : Aside (Sl w2 4 a3 bp.length k3 (bp.map Pc.enc)) := s1
          have S4' : Aside (Sl w2 3 a4 hs.length k4 (hs.map Hd.enc)) := s2
          have HB' : Aside (Below w.heap.size w w2) := HB.out.trans (hb.mono HB.out.size)
          clear hb HB C S1 S2 O s1 s2
          have C : Aside (w2.heap[cb]? = some (.cells #[.int .i64 cq, .slice a1 bl.length k1, .slice a2 hs.length k2] 25 (0, 0))) := C'.out
          clear C'
          have S3 : Aside (Sl w2 4 a3 bp.length k3 (bp.map Pc.enc)) := S3'.out
          clear S3'
          have S4 : Aside (Sl w2 3 a4 hs.length k4 (hs.map Hd.enc)) := S4'.out
          clear S4'
          have HB : Aside (Below w.heap.size w w2) := HB'.out
          clear HB'
          have lcb : cb < w2.heap.size := (Array.getElem?_eq_some_iff.1 C.out).1
          rw [holds_self C.out]
          clear cpt
          go_wp2
          go_roundg (gk - 1)
          case measure => omega
          case rel => exact ⟨idx + 1, bp, hs, a3, k3, a4, k4, by simp, by omega, hh_eq lcb, slP_holds C.out S3.out, slH_holds C.out S4.out, RT', below_holds HB.out hcb _ _⟩
        by_cases d1 : at' < (f.size : Int)
        rotate_left
        · have e0 : decide (0 ≤ at') = true := decide_eq_true d0
          have e1 : decide (at' < (f.size : Int)) = false := decide_eq_false d1
          clear d d0 d1
          have hR := RT.out.1
          have cpt := fun U (s1 : Sl U 4 a1 bl.length k1 (bl.map Pc.enc)) (s2 : Sl U 3 a2 hs.length k2 (hs.map Hd.enc)) => put_all cq a1 bl.length k1 a2 hs.length k2 bl hs id vers (f.size : Int) ⟨#[]⟩ U s1 s2 hR
          have RT' : Aside (RightP cq (putF cq ⟨id, vers, (f.size : Int), ⟨#[]⟩⟩ bl hs) hs ∧ TPs f (putF cq ⟨id, vers, (f.size : Int), ⟨#[]⟩⟩ bl hs)) := ⟨hR.putF _, RT.out.2.put _ tp_end⟩
          generalize putF cq ⟨id, vers, (f.size : Int), ⟨#[]⟩⟩ bl hs = bp at cpt RT'
          clear hR RT
          have cc0 := cell_heap C.out 0 _ rfl
          have cc1 := cell_heap C.out 1 _ rfl
          have cc2 := cell_heap C.out 2 _ rfl
          have cclt : cb < wr.heap.size := (Array.getElem?_eq_some_iff.1 C.out).1
          have C' : Aside ((wr.alloc (.cells #[.int .i64 3, .int .i64 id, .int .i64 vers, .int .i64 at', .int .i64 cnt, .int .i64 tm, .string data] 39)).heap[cb]? = some (.cells #[.int .i64 cq, .slice a1 bl.length k1, .slice a2 hs.length k2] 25 (0, 0))) := hp_old C.out
          have S1' : Aside (Sl (wr.alloc (.cells #[.int .i64 3, .int .i64 id, .int .i64 vers, .int .i64 at', .int .i64 cnt, .int .i64 tm, .string data] 39)) 4 a1 bl.length k1 (bl.map Pc.enc)) := S1.out.stays ((Below.refl _ _).alloc (Nat.le_refl _) _)
          have S2' : Aside (Sl (wr.alloc (.cells #[.int .i64 3, .int .i64 id, .int .i64 vers, .int .i64 at', .int .i64 cnt, .int .i64 tm, .string data] 39)) 3 a2 hs.length k2 (hs.map Hd.enc)) := S2.out.stays ((Below.refl _ _).alloc (Nat.le_refl _) _)
          have O' : Aside ((wr.alloc (.cells #[.int .i64 3, .int .i64 id, .int .i64 vers, .int .i64 at', .int .i64 cnt, .int .i64 tm, .string data] 39)).heap[wr.heap.size]? = some (.cells #[.int .i64 3, .int .i64 id, .int .i64 vers, .int .i64 at', .int .i64 cnt, .int .i64 tm, .string data] 39 (0, 0))) := hp_new rfl
          have HB' : Aside (Below w.heap.size w (wr.alloc (.cells #[.int .i64 3, .int .i64 id, .int .i64 vers, .int .i64 at', .int .i64 cnt, .int .i64 tm, .string data] 39))) := HB.out.alloc HB.out.size _
          clear HB C S1 S2
          go_wp2_with fail
          clear cc0 cc1 cc2 cclt
          generalize (wr.alloc (.cells #[.int .i64 3, .int .i64 id, .int .i64 vers, .int .i64 at', .int .i64 cnt, .int .i64 tm, .string data] 39)) = v1 at C' S1' S2' O' HB' ⊢
          generalize wr.heap.size = ob at O' ⊢
          have C : Aside (v1.heap[cb]? = some (.cells #[.int .i64 cq, .slice a1 bl.length k1, .slice a2 hs.length k2] 25 (0, 0))) := C'.out
          clear C'
          have S1 : Aside (Sl v1 4 a1 bl.length k1 (bl.map Pc.enc)) := S1'.out
          clear S1'
          have S2 : Aside (Sl v1 3 a2 hs.length k2 (hs.map Hd.enc)) := S2'.out
          clear S2'
          have O : Aside (v1.heap[ob]? = some (.cells #[.int .i64 3, .int .i64 id, .int .i64 vers, .int .i64 at', .int .i64 cnt, .int .i64 tm, .string data] 39 (0, 0))) := O'.out
          clear O'
          have HB : Aside (Below w.heap.size w v1) := HB'.out
          clear HB'
          clear l0 l1 l2 l3 l4 l5 l6 hbr
          refine (cpt _ S1.out S2.out).mono ?_
          rintro e w2 ⟨a3, k3, a4, k4, rfl, s1, s2, hb⟩
          have C' : Aside (w2.heap[cb]? = some (.cells #[.int .i64 cq, .slice a1 bl.length k1, .slice a2 hs.length k2] 25 (0, 0))) := heap_later C.out hb
          have S3' : Aside (Sl w2 4 a3 bp.length k3 (bp.map Pc.enc)) := s1
          have S4' : Aside (Sl w2 3 a4 hs.length k4 (hs.map Hd.enc)) := s2
          have HB' : Aside (Below w.heap.size w w2) := HB.out.trans (hb.mono HB.out.size)
          clear hb HB C S1 S2 O s1 s2
          have C : Aside (w2.heap[cb]? = some (.cells #[.int .i64 cq, .slice a1 bl.length k1, .slice a2 hs.length k2] 25 (0, 0))) := C'.out
          clear C'
          have S3 : Aside (Sl w2 4 a3 bp.length k3 (bp.map Pc.enc)) := S3'.out
          clear S3'
          have S4 : Aside (Sl w2 3 a4 hs.length k4 (hs.map Hd.enc)) := S4'.out
          clear S4'
          have HB : Aside (Below w.heap.size w w2) := HB'.out
          clear HB'
          have lcb : cb < w2.heap.size := (Array.getElem?_eq_some_iff.1 C.out).1
          rw [holds_self C.out]
          clear cpt
          go_wp2
          go_roundg (gk - 1)
          case measure => omega
          case rel => exact ⟨idx + 1, bp, hs, a3, k3, a4, k4, by simp, by omega, hh_eq lcb, slP_holds C.out S3.out, slH_holds C.out S4.out, RT', below_holds HB.out hcb _ _⟩
        have d2 : ¬ 0 < cnt := fun h => d ⟨d0, d1, h⟩
        have e0 : decide (0 ≤ at') = true := decide_eq_true d0
        have e1 : decide (at' < (f.size : Int)) = true := decide_eq_true d1
        have e2 : decide (0 < cnt) = false := decide_eq_false d2
        clear d d0 d1 d2
        have hR := RT.out.1
        have cpt := fun U (s1 : Sl U 4 a1 bl.length k1 (bl.map Pc.enc)) (s2 : Sl U 3 a2 hs.length k2 (hs.map Hd.enc)) => put_all cq a1 bl.length k1 a2 hs.length k2 bl hs id vers (f.size : Int) ⟨#[]⟩ U s1 s2 hR
        have RT' : Aside (RightP cq (putF cq ⟨id, vers, (f.size : Int), ⟨#[]⟩⟩ bl hs) hs ∧ TPs f (putF cq ⟨id, vers, (f.size : Int), ⟨#[]⟩⟩ bl hs)) := ⟨hR.putF _, RT.out.2.put _ tp_end⟩
        generalize putF cq ⟨id, vers, (f.size : Int), ⟨#[]⟩⟩ bl hs = bp at cpt RT'
        clear hR RT
        have cc0 := cell_heap C.out 0 _ rfl
        have cc1 := cell_heap C.out 1 _ rfl
        have cc2 := cell_heap C.out 2 _ rfl
        have cclt : cb < wr.heap.size := (Array.getElem?_eq_some_iff.1 C.out).1
        have C' : Aside ((wr.alloc (.cells #[.int .i64 3, .int .i64 id, .int .i64 vers, .int .i64 at', .int .i64 cnt, .int .i64 tm, .string data] 39)).heap[cb]? = some (.cells #[.int .i64 cq, .slice a1 bl.length k1, .slice a2 hs.length k2] 25 (0, 0))) := hp_old C.out
        have S1' : Aside (Sl (wr.alloc (.cells #[.int .i64 3, .int .i64 id, .int .i64 vers, .int .i64 at', .int .i64 cnt, .int .i64 tm, .string data] 39)) 4 a1 bl.length k1 (bl.map Pc.enc)) := S1.out.stays ((Below.refl _ _).alloc (Nat.le_refl _) _)
        have S2' : Aside (Sl (wr.alloc (.cells #[.int .i64 3, .int .i64 id, .int .i64 vers, .int .i64 at', .int .i64 cnt, .int .i64 tm, .string data] 39)) 3 a2 hs.length k2 (hs.map Hd.enc)) := S2.out.stays ((Below.refl _ _).alloc (Nat.le_refl _) _)
        have O' : Aside ((wr.alloc (.cells #[.int .i64 3, .int .i64 id, .int .i64 vers, .int .i64 at', .int .i64 cnt, .int .i64 tm, .string data] 39)).heap[wr.heap.size]? = some (.cells #[.int .i64 3, .int .i64 id, .int .i64 vers, .int .i64 at', .int .i64 cnt, .int .i64 tm, .string data] 39 (0, 0))) := hp_new rfl
        have HB' : Aside (Below w.heap.size w (wr.alloc (.cells #[.int .i64 3, .int .i64 id, .int .i64 vers, .int .i64 at', .int .i64 cnt, .int .i64 tm, .string data] 39))) := HB.out.alloc HB.out.size _
        clear HB C S1 S2
        go_wp2_with fail
        clear cc0 cc1 cc2 cclt
        generalize (wr.alloc (.cells #[.int .i64 3, .int .i64 id, .int .i64 vers, .int .i64 at', .int .i64 cnt, .int .i64 tm, .string data] 39)) = v1 at C' S1' S2' O' HB' ⊢
        generalize wr.heap.size = ob at O' ⊢
        have C : Aside (v1.heap[cb]? = some (.cells #[.int .i64 cq, .slice a1 bl.length k1, .slice a2 hs.length k2] 25 (0, 0))) := C'.out
        clear C'
        have S1 : Aside (Sl v1 4 a1 bl.length k1 (bl.map Pc.enc)) := S1'.out
        clear S1'
        have S2 : Aside (Sl v1 3 a2 hs.length k2 (hs.map Hd.enc)) := S2'.out
        clear S2'
        have O : Aside (v1.heap[ob]? = some (.cells #[.int .i64 3, .int .i64 id, .int .i64 vers, .int .i64 at', .int .i64 cnt, .int .i64 tm, .string data] 39 (0, 0))) := O'.out
        clear O'
        have HB : Aside (Below w.heap.size w v1) := HB'.out
        clear HB'
        clear l0 l1 l2 l3 l4 l5 l6 hbr
        refine (cpt _ S1.out S2.out).mono ?_
        rintro e w2 ⟨a3, k3, a4, k4, rfl, s1, s2, hb⟩
        have C' : Aside (w2.heap[cb]? = some (.cells #[.int .i64 cq, .slice a1 bl.length k1, .slice a2 hs.length k2] 25 (0, 0))) := heap_later C.out hb
        have S3' : Aside (Sl w2 4 a3 bp.length k3 (bp.map Pc.enc)) := s1
        have S4' : Aside (Sl w2 3 a4 hs.length k4 (hs.map Hd.enc)) := s2
        have HB' : Aside (Below w.heap.size w w2) := HB.out.trans (hb.mono HB.out.size)
        clear hb HB C S1 S2 O s1 s2
        have C : Aside (w2.heap[cb]? = some (.cells #[.int .i64 cq, .slice a1 bl.length k1, .slice a2 hs.length k2] 25 (0, 0))) := C'.out
        clear C'
        have S3 : Aside (Sl w2 4 a3 bp.length k3 (bp.map Pc.enc)) := S3'.out
        clear S3'
        have S4 : Aside (Sl w2 3 a4 hs.length k4 (hs.map Hd.enc)) := S4'.out
        clear S4'
        have HB : Aside (Below w.heap.size w w2) := HB'.out
        clear HB'
        have lcb : cb < w2.heap.size := (Array.getElem?_eq_some_iff.1 C.out).1
        rw [holds_self C.out]
        clear cpt
        go_wp2
        go_roundg (gk - 1)
        case measure => omega
        case rel => exact ⟨idx + 1, bp, hs, a3, k3, a4, k4, by simp, by omega, hh_eq lcb, slP_holds C.out S3.out, slH_holds C.out S4.out, RT', below_holds HB.out hcb _ _⟩
      have k3n : (kd == 3) = false := by simpa using c3
      by_cases c4 : kd = 4
      · subst c4
        clear c3 k3n
        have hR := RT.out.1
        have cg := fun U (s1 : Sl U 4 a1 bl.length k1 (bl.map Pc.enc)) (s2 : Sl U 3 a2 hs.length k2 (hs.map Hd.enc)) => get_all cq a1 bl.length k1 a2 hs.length k2 bl hs id at' cnt tm U s1 s2 hR
        have RT' : Aside (RightP cq (getF id at' cnt tm bl hs).1 hs ∧ TPs f (getF id at' cnt tm bl hs).1) := ⟨hR.getF _ _ _ _, RT.out.2.get _ _ _ _⟩
        have GT := get_true (hs := hs) RT.out.2 id at' cnt tm
        generalize getF id at' cnt tm bl hs = r at cg RT' GT
        obtain ⟨bg, sg, ig⟩ := r
        simp only [] at GT
        have RT' : Aside (RightP cq bg hs ∧ TPs f bg) := RT'
        clear hR RT
        cases ig with
        | false =>
          obtain rfl : sg = ⟨#[]⟩ := GT.2 rfl
          clear GT
          have cc0 := cell_heap C.out 0 _ rfl
          have cc1 := cell_heap C.out 1 _ rfl
          have cc2 := cell_heap C.out 2 _ rfl
          have cclt : cb < wr.heap.size := (Array.getElem?_eq_some_iff.1 C.out).1
          have C' : Aside ((wr.alloc (.cells #[.int .i64 4, .int .i64 id, .int .i64 vers, .int .i64 at', .int .i64 cnt, .int .i64 tm, .string data] 39)).heap[cb]? = some (.cells #[.int .i64 cq, .slice a1 bl.length k1, .slice a2 hs.length k2] 25 (0, 0))) := hp_old C.out
          have S1' : Aside (Sl (wr.alloc (.cells #[.int .i64 4, .int .i64 id, .int .i64 vers, .int .i64 at', .int .i64 cnt, .int .i64 tm, .string data] 39)) 4 a1 bl.length k1 (bl.map Pc.enc)) := S1.out.stays ((Below.refl _ _).alloc (Nat.le_refl _) _)
          have S2' : Aside (Sl (wr.alloc (.cells #[.int .i64 4, .int .i64 id, .int .i64 vers, .int .i64 at', .int .i64 cnt, .int .i64 tm, .string data] 39)) 3 a2 hs.length k2 (hs.map Hd.enc)) := S2.out.stays ((Below.refl _ _).alloc (Nat.le_refl _) _)
          have O' : Aside ((wr.alloc (.cells #[.int .i64 4, .int .i64 id, .int .i64 vers, .int .i64 at', .int .i64 cnt, .int .i64 tm, .string data] 39)).heap[wr.heap.size]? = some (.cells #[.int .i64 4, .int .i64 id, .int .i64 vers, .int .i64 at', .int .i64 cnt, .int .i64 tm, .string data] 39 (0, 0))) := hp_new rfl
          have HB' : Aside (Below w.heap.size w (wr.alloc (.cells #[.int .i64 4, .int .i64 id, .int .i64 vers, .int .i64 at', .int .i64 cnt, .int .i64 tm, .string data] 39))) := HB.out.alloc HB.out.size _
          clear HB C S1 S2
          go_wp2_with fail
          clear cc0 cc1 cc2 cclt
          generalize (wr.alloc (.cells #[.int .i64 4, .int .i64 id, .int .i64 vers, .int .i64 at', .int .i64 cnt, .int .i64 tm, .string data] 39)) = v1 at C' S1' S2' O' HB' ⊢
          generalize wr.heap.size = ob at O' ⊢
          have C : Aside (v1.heap[cb]? = some (.cells #[.int .i64 cq, .slice a1 bl.length k1, .slice a2 hs.length k2] 25 (0, 0))) := C'.out
          clear C'
          have S1 : Aside (Sl v1 4 a1 bl.length k1 (bl.map Pc.enc)) := S1'.out
          clear S1'
          have S2 : Aside (Sl v1 3 a2 hs.length k2 (hs.map Hd.enc)) := S2'.out
          clear S2'
          have O : Aside (v1.heap[ob]? = some (.cells #[.int .i64 4, .int .i64 id, .int .i64 vers, .int .i64 at', .int .i64 cnt, .int .i64 tm, .string data] 39 (0, 0))) := O'.out
          clear O'
          have HB : Aside (Below w.heap.size w v1) := HB'.out
          clear HB'
          clear l0 l1 l2 l3 l4 l5 l6 hbr
          refine (cg _ S1.out S2.out).mono ?_
          rintro e w2 ⟨a3, k3, a4, k4, rfl, s1, s2, hb⟩
          have C' : Aside (w2.heap[cb]? = some (.cells #[.int .i64 cq, .slice a1 bl.length k1, .slice a2 hs.length k2] 25 (0, 0))) := heap_later C.out hb
          have O' : Aside (w2.heap[ob]? = some (.cells #[.int .i64 4, .int .i64 id, .int .i64 vers, .int .i64 at', .int .i64 cnt, .int .i64 tm, .string data] 39 (0, 0))) := heap_later O.out hb
          have S3' : Aside (Sl w2 4 a3 bg.length k3 (bg.map Pc.enc)) := s1
          have S4' : Aside (Sl w2 3 a4 hs.length k4 (hs.map Hd.enc)) := s2
          have HB' : Aside (Below w.heap.size w w2) := HB.out.trans (hb.mono HB.out.size)
          clear hb HB C O S1 S2 s1 s2
          have C : Aside (w2.heap[cb]? = some (.cells #[.int .i64 cq, .slice a1 bl.length k1, .slice a2 hs.length k2] 25 (0, 0))) := C'.out
          clear C'
          have O : Aside (w2.heap[ob]? = some (.cells #[.int .i64 4, .int .i64 id, .int .i64 vers, .int .i64 at', .int .i64 cnt, .int .i64 tm, .string data] 39 (0, 0))) := O'.out
          clear O'
          have S3 : Aside (Sl w2 4 a3 bg.length k3 (bg.map Pc.enc)) := S3'.out
          clear S3'
          have S4 : Aside (Sl w2 3 a4 hs.length k4 (hs.map Hd.enc)) := S4'.out
          clear S4'
          have HB : Aside (Below w.heap.size w w2) := HB'.out
          clear HB'
          have lcb : cb < w2.heap.size := (Array.getElem?_eq_some_iff.1 C.out).1
          have ncb : ¬ w2.heap.size = cb := by omega
          have ncb2 : ¬ cb = w2.heap.size := by omega
          have hal : ∀ c o, (holds w2 cb c 25).alloc o = holds (w2.alloc o) cb c 25 := fun c o => alloc_holds lcb o
          rw [holds_self C.out]
          clear cg
          go_wp2
          go_roundg (gk - 1)
          case measure => omega
          case rel => exact ⟨idx + 1, bg, hs, a3, k3, a4, k4, by simp, by omega, hh_eq (by simp; omega), slP_holds (hp_old C.out) (S3.out.stays ((Below.refl _ _).alloc (Nat.le_refl _) _)), slH_holds (hp_old C.out) (S4.out.stays ((Below.refl _ _).alloc (Nat.le_refl _) _)), RT', below_holds (HB.out.alloc HB.out.size _) hcb _ _⟩
        | true =>
          obtain ⟨g0, g1, gs⟩ := GT.1 rfl
          have cr := fun U => read_calls f at' cnt U g0 g1
          rw [← gs] at cr
          have x0 : decide (at' < 0) = false := decide_eq_false (by omega)
          have x1 : decide (cnt < 0) = false := decide_eq_false (by omega)
          clear GT gs
          have cc0 := cell_heap C.out 0 _ rfl
          have cc1 := cell_heap C.out 1 _ rfl
          have cc2 := cell_heap C.out 2 _ rfl
          have cclt : cb < wr.heap.size := (Array.getElem?_eq_some_iff.1 C.out).1
          have C' : Aside ((wr.alloc (.cells #[.int .i64 4, .int .i64 id, .int .i64 vers, .int .i64 at', .int .i64 cnt, .int .i64 tm, .string data] 39)).heap[cb]? = some (.cells #[.int .i64 cq, .slice a1 bl.length k1, .slice a2 hs.length k2] 25 (0, 0))) := hp_old C.out
          have S1' : Aside (Sl (wr.alloc (.cells #[.int .i64 4, .int .i64 id, .int .i64 vers, .int .i64 at', .int .i64 cnt, .int .i64 tm, .string data] 39)) 4 a1 bl.length k1 (bl.map Pc.enc)) := S1.out.stays ((Below.refl _ _).alloc (Nat.le_refl _) _)
          have S2' : Aside (Sl (wr.alloc (.cells #[.int .i64 4, .int .i64 id, .int .i64 vers, .int .i64 at', .int .i64 cnt, .int .i64 tm, .string data] 39)) 3 a2 hs.length k2 (hs.map Hd.enc)) := S2.out.stays ((Below.refl _ _).alloc (Nat.le_refl _) _)
          have O' : Aside ((wr.alloc (.cells #[.int .i64 4, .int .i64 id, .int .i64 vers, .int .i64 at', .int .i64 cnt, .int .i64 tm, .string data] 39)).heap[wr.heap.size]? = some (.cells #[.int .i64 4, .int .i64 id, .int .i64 vers, .int .i64 at', .int .i64 cnt, .int .i64 tm, .string data] 39 (0, 0))) := hp_new rfl
          have HB' : Aside (Below w.heap.size w (wr.alloc (.cells #[.int .i64 4, .int .i64 id, .int .i64 vers, .int .i64 at', .int .i64 cnt, .int .i64 tm, .string data] 39))) := HB.out.alloc HB.out.size _
          clear HB C S1 S2
          go_wp2_with fail
          clear cc0 cc1 cc2 cclt
          generalize (wr.alloc (.cells #[.int .i64 4, .int .i64 id, .int .i64 vers, .int .i64 at', .int .i64 cnt, .int .i64 tm, .string data] 39)) = v1 at C' S1' S2' O' HB' ⊢
          generalize wr.heap.size = ob at O' ⊢
          have C : Aside (v1.heap[cb]? = some (.cells #[.int .i64 cq, .slice a1 bl.length k1, .slice a2 hs.length k2] 25 (0, 0))) := C'.out
          clear C'
          have S1 : Aside (Sl v1 4 a1 bl.length k1 (bl.map Pc.enc)) := S1'.out
          clear S1'
          have S2 : Aside (Sl v1 3 a2 hs.length k2 (hs.map Hd.enc)) := S2'.out
          clear S2'
          have O : Aside (v1.heap[ob]? = some (.cells #[.int .i64 4, .int .i64 id, .int .i64 vers, .int .i64 at', .int .i64 cnt, .int .i64 tm, .string data] 39 (0, 0))) := O'.out
          clear O'
          have HB : Aside (Below w.heap.size w v1) := HB'.out
          clear HB'
          clear l0 l1 l2 l3 l4 l5 l6 hbr
          refine (cg _ S1.out S2.out).mono ?_
          rintro e w2 ⟨a3, k3, a4, k4, rfl, s1, s2, hb⟩
          have C' : Aside (w2.heap[cb]? = some (.cells #[.int .i64 cq, .slice a1 bl.length k1, .slice a2 hs.length k2] 25 (0, 0))) := heap_later C.out hb
          have O' : Aside (w2.heap[ob]? = some (.cells #[.int .i64 4, .int .i64 id, .int .i64 vers, .int .i64 at', .int .i64 cnt, .int .i64 tm, .string data] 39 (0, 0))) := heap_later O.out hb
          have S3' : Aside (Sl w2 4 a3 bg.length k3 (bg.map Pc.enc)) := s1
          have S4' : Aside (Sl w2 3 a4 hs.length k4 (hs.map Hd.enc)) := s2
          have HB' : Aside (Below w.heap.size w w2) := HB.out.trans (hb.mono HB.out.size)
          clear hb HB C O S1 S2 s1 s2
          have C : Aside (w2.heap[cb]? = some (.cells #[.int .i64 cq, .slice a1 bl.length k1, .slice a2 hs.length k2] 25 (0, 0))) := C'.out
          clear C'
          have O : Aside (w2.heap[ob]? = some (.cells #[.int .i64 4, .int .i64 id, .int .i64 vers, .int .i64 at', .int .i64 cnt, .int .i64 tm, .string data] 39 (0, 0))) := O'.out
          clear O'
          have S3 : Aside (Sl w2 4 a3 bg.length k3 (bg.map Pc.enc)) := S3'.out
          clear S3'
          have S4 : Aside (Sl w2 3 a4 hs.length k4 (hs.map Hd.enc)) := S4'.out
          clear S4'
          have HB : Aside (Below w.heap.size w w2) := HB'.out
          clear HB'
          have ncb : ¬ w2.heap.size = cb := by have := (Array.getElem?_eq_some_iff.1 C.out).1; omega
          have cc0 := cell_heap C.out 0 _ rfl
          have cc1 := cell_heap C.out 1 _ rfl
          have cc2 := cell_heap C.out 2 _ rfl
          have cclt : cb < w2.heap.size := (Array.getElem?_eq_some_iff.1 C.out).1
          have oc0 := cell_heap O.out 0 _ rfl
          have oc1 := cell_heap O.out 1 _ rfl
          have oc2 := cell_heap O.out 2 _ rfl
          have oc3 := cell_heap O.out 3 _ rfl
          have oc4 := cell_heap O.out 4 _ rfl
          have oc5 := cell_heap O.out 5 _ rfl
          have oc6 := cell_heap O.out 6 _ rfl
          have oclt : ob < w2.heap.size := (Array.getElem?_eq_some_iff.1 O.out).1
          have C' : Aside ((w2.alloc (.cells #[.int .i64 cq, .slice a3 bg.length k3, .slice a4 hs.length k4] 25)).heap[cb]? = some (.cells #[.int .i64 cq, .slice a1 bl.length k1, .slice a2 hs.length k2] 25 (0, 0))) := hp_old C.out
          have O' : Aside ((w2.alloc (.cells #[.int .i64 cq, .slice a3 bg.length k3, .slice a4 hs.length k4] 25)).heap[ob]? = some (.cells #[.int .i64 4, .int .i64 id, .int .i64 vers, .int .i64 at', .int .i64 cnt, .int .i64 tm, .string data] 39 (0, 0))) := hp_old O.out
          have S3' : Aside (Sl (w2.alloc (.cells #[.int .i64 cq, .slice a3 bg.length k3, .slice a4 hs.length k4] 25)) 4 a3 bg.length k3 (bg.map Pc.enc)) := S3.out.stays ((Below.refl _ _).alloc (Nat.le_refl _) _)
          have S4' : Aside (Sl (w2.alloc (.cells #[.int .i64 cq, .slice a3 bg.length k3, .slice a4 hs.length k4] 25)) 3 a4 hs.length k4 (hs.map Hd.enc)) := S4.out.stays ((Below.refl _ _).alloc (Nat.le_refl _) _)
          have D' : Aside ((w2.alloc (.cells #[.int .i64 cq, .slice a3 bg.length k3, .slice a4 hs.length k4] 25)).heap[w2.heap.size]? = some (.cells #[.int .i64 cq, .slice a3 bg.length k3, .slice a4 hs.length k4] 25 (0, 0))) := hp_new rfl
          have HB' : Aside (Below w.heap.size w (w2.alloc (.cells #[.int .i64 cq, .slice a3 bg.length k3, .slice a4 hs.length k4] 25))) := HB.out.alloc HB.out.size _
          clear HB C O S3 S4
          go_wp2_with fail
          clear cc0 cc1 cc2 cclt oc0 oc1 oc2 oc3 oc4 oc5 oc6 oclt
          generalize (w2.alloc (.cells #[.int .i64 cq, .slice a3 bg.length k3, .slice a4 hs.length k4] 25)) = v3 at C' O' S3' S4' D' HB' ⊢
          generalize w2.heap.size = db at D' ncb ⊢
          have C : Aside (v3.heap[cb]? = some (.cells #[.int .i64 cq, .slice a1 bl.length k1, .slice a2 hs.length k2] 25 (0, 0))) := C'.out
          clear C'
          have O : Aside (v3.heap[ob]? = some (.cells #[.int .i64 4, .int .i64 id, .int .i64 vers, .int .i64 at', .int .i64 cnt, .int .i64 tm, .string data] 39 (0, 0))) := O'.out
          clear O'
          have S3 : Aside (Sl v3 4 a3 bg.length k3 (bg.map Pc.enc)) := S3'.out
          clear S3'
          have S4 : Aside (Sl v3 3 a4 hs.length k4 (hs.map Hd.enc)) := S4'.out
          clear S4'
          have D : Aside (v3.heap[db]? = some (.cells #[.int .i64 cq, .slice a3 bg.length k3, .slice a4 hs.length k4] 25 (0, 0))) := D'.out
          clear D'
          have HB : Aside (Below w.heap.size w v3) := HB'.out
          clear HB'
          refine (cr _).mono ?_
          rintro e w4 ⟨rfl, hb⟩
          have C' : Aside (w4.heap[cb]? = some (.cells #[.int .i64 cq, .slice a1 bl.length k1, .slice a2 hs.length k2] 25 (0, 0))) := heap_later C.out hb
          have S3' : Aside (Sl w4 4 a3 bg.length k3 (bg.map Pc.enc)) := S3.out.stays hb
          have S4' : Aside (Sl w4 3 a4 hs.length k4 (hs.map Hd.enc)) := S4.out.stays hb
          have D' : Aside (w4.heap[db]? = some (.cells #[.int .i64 cq, .slice a3 bg.length k3, .slice a4 hs.length k4] 25 (0, 0))) := heap_later D.out hb
          have HB' : Aside (Below w.heap.size w w4) := HB.out.trans (hb.mono HB.out.size)
          clear hb HB C S3 S4 D O
          have C : Aside (w4.heap[cb]? = some (.cells #[.int .i64 cq, .slice a1 bl.length k1, .slice a2 hs.length k2] 25 (0, 0))) := C'.out
          clear C'
          have S3 : Aside (Sl w4 4 a3 bg.length k3 (bg.map Pc.enc)) := S3'.out
          clear S3'
          have S4 : Aside (Sl w4 3 a4 hs.length k4 (hs.map Hd.enc)) := S4'.out
          clear S4'
          have D : Aside (w4.heap[db]? = some (.cells #[.int .i64 cq, .slice a3 bg.length k3, .slice a4 hs.length k4] 25 (0, 0))) := D'.out
          clear D'
          have HB : Aside (Below w.heap.size w w4) := HB'.out
          clear HB'
          have lcb : cb < w4.heap.size := (Array.getElem?_eq_some_iff.1 C.out).1
          rw [holds_self C.out]
          have dc0 := cell_heap D.out 0 _ rfl
          have dc1 := cell_heap D.out 1 _ rfl
          have dc2 := cell_heap D.out 2 _ rfl
          have dclt : db < w4.heap.size := (Array.getElem?_eq_some_iff.1 D.out).1
          have ncb2 : ¬ cb = db := by omega
          clear cg cr
          go_wp2
          go_roundg (gk - 1)
          case measure => omega
          case rel => exact ⟨idx + 1, bg, hs, a3, k3, a4, k4, by simp, by omega, hh_eq lcb, slP_holds C.out S3.out, slH_holds C.out S4.out, RT', below_holds HB.out hcb _ _⟩
      have k4n : (kd == 4) = false := by simpa using c4
      have hR := RT.out.1
      have cd := fun U (s1 : Sl U 4 a1 bl.length k1 (bl.map Pc.enc)) (s2 : Sl U 3 a2 hs.length k2 (hs.map Hd.enc)) => did_calls cq a1 bl.length k1 a2 hs.length k2 bl hs kd id vers at' cnt tm data U s1 s2 hR
      have RT' : Aside (RightP cq (stepF cq kd id vers at' cnt tm data bl hs).1 (stepF cq kd id vers at' cnt tm data bl hs).2.1 ∧ TPs f (stepF cq kd id vers at' cnt tm data bl hs).1) := ⟨hR.stepF _ _ _ _ _ _ _, RT.out.2.step _ _ _ _ _ _ _ c3⟩
      generalize stepF cq kd id vers at' cnt tm data bl hs = r at cd RT'
      obtain ⟨bd, hd, sd, id'⟩ := r
      have RT' : Aside (RightP cq bd hd ∧ TPs f bd) := RT'
      clear hR RT c3 c4
      have cc0 := cell_heap C.out 0 _ rfl
      have cc1 := cell_heap C.out 1 _ rfl
      have cc2 := cell_heap C.out 2 _ rfl
      have cclt : cb < wr.heap.size := (Array.getElem?_eq_some_iff.1 C.out).1
      have C' : Aside ((wr.alloc (.cells #[.int .i64 kd, .int .i64 id, .int .i64 vers, .int .i64 at', .int .i64 cnt, .int .i64 tm, .string data] 39)).heap[cb]? = some (.cells #[.int .i64 cq, .slice a1 bl.length k1, .slice a2 hs.length k2] 25 (0, 0))) := hp_old C.out
      have S1' : Aside (Sl (wr.alloc (.cells #[.int .i64 kd, .int .i64 id, .int .i64 vers, .int .i64 at', .int .i64 cnt, .int .i64 tm, .string data] 39)) 4 a1 bl.length k1 (bl.map Pc.enc)) := S1.out.stays ((Below.refl _ _).alloc (Nat.le_refl _) _)
      have S2' : Aside (Sl (wr.alloc (.cells #[.int .i64 kd, .int .i64 id, .int .i64 vers, .int .i64 at', .int .i64 cnt, .int .i64 tm, .string data] 39)) 3 a2 hs.length k2 (hs.map Hd.enc)) := S2.out.stays ((Below.refl _ _).alloc (Nat.le_refl _) _)
      have O' : Aside ((wr.alloc (.cells #[.int .i64 kd, .int .i64 id, .int .i64 vers, .int .i64 at', .int .i64 cnt, .int .i64 tm, .string data] 39)).heap[wr.heap.size]? = some (.cells #[.int .i64 kd, .int .i64 id, .int .i64 vers, .int .i64 at', .int .i64 cnt, .int .i64 tm, .string data] 39 (0, 0))) := hp_new rfl
      have HB' : Aside (Below w.heap.size w (wr.alloc (.cells #[.int .i64 kd, .int .i64 id, .int .i64 vers, .int .i64 at', .int .i64 cnt, .int .i64 tm, .string data] 39))) := HB.out.alloc HB.out.size _
      clear HB C S1 S2
      go_wp2_with fail
      clear cc0 cc1 cc2 cclt
      generalize (wr.alloc (.cells #[.int .i64 kd, .int .i64 id, .int .i64 vers, .int .i64 at', .int .i64 cnt, .int .i64 tm, .string data] 39)) = v1 at C' S1' S2' O' HB' ⊢
      generalize wr.heap.size = ob at O' ⊢
      have C : Aside (v1.heap[cb]? = some (.cells #[.int .i64 cq, .slice a1 bl.length k1, .slice a2 hs.length k2] 25 (0, 0))) := C'.out
      clear C'
      have S1 : Aside (Sl v1 4 a1 bl.length k1 (bl.map Pc.enc)) := S1'.out
      clear S1'
      have S2 : Aside (Sl v1 3 a2 hs.length k2 (hs.map Hd.enc)) := S2'.out
      clear S2'
      have O : Aside (v1.heap[ob]? = some (.cells #[.int .i64 kd, .int .i64 id, .int .i64 vers, .int .i64 at', .int .i64 cnt, .int .i64 tm, .string data] 39 (0, 0))) := O'.out
      clear O'
      have HB : Aside (Below w.heap.size w v1) := HB'.out
      clear HB'
      clear l0 l1 l2 l3 l4 l5 l6 hbr
      refine (cd _ S1.out S2.out).mono ?_
      rintro e w2 ⟨a3, k3, a4, k4, rfl, s1, s2, hb⟩
      have C' : Aside (w2.heap[cb]? = some (.cells #[.int .i64 cq, .slice a1 bl.length k1, .slice a2 hs.length k2] 25 (0, 0))) := heap_later C.out hb
      have S3' : Aside (Sl w2 4 a3 bd.length k3 (bd.map Pc.enc)) := s1
      have S4' : Aside (Sl w2 3 a4 hd.length k4 (hd.map Hd.enc)) := s2
      have HB' : Aside (Below w.heap.size w w2) := HB.out.trans (hb.mono HB.out.size)
      clear hb HB C S1 S2 O s1 s2
      have C : Aside (w2.heap[cb]? = some (.cells #[.int .i64 cq, .slice a1 bl.length k1, .slice a2 hs.length k2] 25 (0, 0))) := C'.out
      clear C'
      have S3 : Aside (Sl w2 4 a3 bd.length k3 (bd.map Pc.enc)) := S3'.out
      clear S3'
      have S4 : Aside (Sl w2 3 a4 hd.length k4 (hd.map Hd.enc)) := S4'.out
      clear S4'
      have HB : Aside (Below w.heap.size w w2) := HB'.out
      clear HB'
      have lcb : cb < w2.heap.size := (Array.getElem?_eq_some_iff.1 C.out).1
      rw [holds_self C.out]
      clear cd
      go_wp2
      go_roundg (gk - 1)
      case measure => omega
      case rel => exact ⟨idx + 1, bd, hd, a3, k3, a4, k4, by simp, by omega, hh_eq lcb, slP_holds C.out S3.out, slH_holds C.out S4.out, RT', below_holds HB.out hcb _ _⟩
    · have hiz : ¬ (idx : Int) < (n : Int) := by omega
      clear HC RT
      go_wp2_with fail
      refine (awake_calls _).mono ?_
      rintro e w1 ⟨rfl, hb⟩
      have C' : Aside (w1.heap[cb]? = some (.cells #[.int .i64 cq, .slice a1 bl.length k1, .slice a2 hs.length k2] 25 (0, 0))) := heap_later C.out hb
      have S1' : Aside (Sl w1 4 a1 bl.length k1 (bl.map Pc.enc)) := S1.out.stays hb
      have S2' : Aside (Sl w1 3 a2 hs.length k2 (hs.map Hd.enc)) := S2.out.stays hb
      have HB' : Aside (Below w.heap.size w w1) := HB.out.trans (hb.mono HB.out.size)
      clear hb HB C S1 S2
      have C : Aside (w1.heap[cb]? = some (.cells #[.int .i64 cq, .slice a1 bl.length k1, .slice a2 hs.length k2] 25 (0, 0))) := C'.out
      clear C'
      have S1 : Aside (Sl w1 4 a1 bl.length k1 (bl.map Pc.enc)) := S1'.out
      clear S1'
      have S2 : Aside (Sl w1 3 a2 hs.length k2 (hs.map Hd.enc)) := S2'.out
      clear S2'
      have HB : Aside (Below w.heap.size w w1) := HB'.out
      clear HB'
      go_wp2
      go_ret
      exact ⟨rfl, HB.out⟩

end Go.Proofs.Ytcgajlobbjoefaa
