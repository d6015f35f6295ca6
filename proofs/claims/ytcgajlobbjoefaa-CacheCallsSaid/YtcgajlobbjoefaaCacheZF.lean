/- This text proves the walk of the statement CacheCalls. Conditions: those that each theorem names. -/
import Derived.Test.YtcgajlobbjoefaaCacheZE
namespace Go.Proofs.Ytcgajlobbjoefaa
open Go.ChangeShapes Go.WideShapes Go.ChangeAt Go.RowKit
set_option linter.unusedVariables false
set_option linter.unusedSimpArgs false

set_option maxRecDepth 20000 in
set_option maxHeartbeats 16000000 in
theorem lawCalls_calls (cp : Int) (ao : Option Addr) (n c1 : Nat) (ao2 : Option Addr) (n2 c2 : Nat) (bl : List Pc) (hs : List Hd) (kd id vers at' cnt tm : Int) (data : ByteArray) (w : World) (h1 : Sl w 4 ao n c1 (bl.map Pc.enc)) (h2 : Sl w 3 ao2 n2 c2 (hs.map Hd.enc)) :
    Calls Try.prog 5 #[.agg #[.int .i64 cp, .slice ao n c1, .slice ao2 n2 c2], .agg #[.int .i64 kd, .int .i64 id, .int .i64 vers, .int .i64 at', .int .i64 cnt, .int .i64 tm, .string data]] w fun e w' => e = .returned (.bool true) ∧ Below w.heap.size w w' := by
  have hb0 : Below w.heap.size w ((w.alloc (.cells #[.int .i64 cp, .slice ao n c1, .slice ao2 n2 c2] 25)).alloc (.cells #[.int .i64 kd, .int .i64 id, .int .i64 vers, .int .i64 at', .int .i64 cnt, .int .i64 tm, .string data] 39)) := by
    repeat (first | (with_reducible exact Below.refl _ _) | (with_reducible assumption) | (with_reducible refine below_to_plus ?_ ?_ _) | (with_reducible refine below_holds ?_ ?_ _ _) | (with_reducible refine Below.alloc ?_ ?_ _) | (with_reducible refine Below.drew ?_) | (with_reducible refine below_drewN ?_ _) | (with_reducible refine Below.setCell ?_ ?_ _))
    all_goals first | omega | (simp; done) | (simp [go_sem]; done) | (simp [go_sem]; omega)
  have C : Aside (((w.alloc (.cells #[.int .i64 cp, .slice ao n c1, .slice ao2 n2 c2] 25)).alloc (.cells #[.int .i64 kd, .int .i64 id, .int .i64 vers, .int .i64 at', .int .i64 cnt, .int .i64 tm, .string data] 39)).heap[w.heap.size]? = some (.cells #[.int .i64 cp, .slice ao n c1, .slice ao2 n2 c2] 25 (0, 0))) := hp_old (hp_new rfl)
  have O : Aside (((w.alloc (.cells #[.int .i64 cp, .slice ao n c1, .slice ao2 n2 c2] 25)).alloc (.cells #[.int .i64 kd, .int .i64 id, .int .i64 vers, .int .i64 at', .int .i64 cnt, .int .i64 tm, .string data] 39)).heap[w.heap.size + 1]? = some (.cells #[.int .i64 kd, .int .i64 id, .int .i64 vers, .int .i64 at', .int .i64 cnt, .int .i64 tm, .string data] 39 (0, 0))) := hp_new (by simp)
  have S1 : Aside (Sl ((w.alloc (.cells #[.int .i64 cp, .slice ao n c1, .slice ao2 n2 c2] 25)).alloc (.cells #[.int .i64 kd, .int .i64 id, .int .i64 vers, .int .i64 at', .int .i64 cnt, .int .i64 tm, .string data] 39)) 4 ao n c1 (bl.map Pc.enc)) := h1.stays hb0
  have S2 : Aside (Sl ((w.alloc (.cells #[.int .i64 cp, .slice ao n c1, .slice ao2 n2 c2] 25)).alloc (.cells #[.int .i64 kd, .int .i64 id, .int .i64 vers, .int .i64 at', .int .i64 cnt, .int .i64 tm, .string data] 39)) 3 ao2 n2 c2 (hs.map Hd.enc)) := h2.stays hb0
  have HB : Aside (Below w.heap.size w ((w.alloc (.cells #[.int .i64 cp, .slice ao n c1, .slice ao2 n2 c2] 25)).alloc (.cells #[.int .i64 kd, .int .i64 id, .int .i64 vers, .int .i64 at', .int .i64 cnt, .int .i64 tm, .string data] 39))) := hb0
  clear h1 h2 hb0
  go_enter Try.func5, Try.ntmps5
  go_wp2_with fail
  refine (small_calls cp ao n c1 ao2 n2 c2 bl hs _ S1.out S2.out).mono ?_
  rintro e w1 ⟨sb, rfl, hsb, hb⟩
  have C' : Aside (w1.heap[w.heap.size]? = some (.cells #[.int .i64 cp, .slice ao n c1, .slice ao2 n2 c2] 25 (0, 0))) := heap_later C.out hb
  have O' : Aside (w1.heap[w.heap.size + 1]? = some (.cells #[.int .i64 kd, .int .i64 id, .int .i64 vers, .int .i64 at', .int .i64 cnt, .int .i64 tm, .string data] 39 (0, 0))) := heap_later O.out hb
  have S1' : Aside (Sl w1 4 ao n c1 (bl.map Pc.enc)) := S1.out.stays hb
  have S2' : Aside (Sl w1 3 ao2 n2 c2 (hs.map Hd.enc)) := S2.out.stays hb
  have HB' : Aside (Below w.heap.size w w1) := HB.out.trans (hb.mono HB.out.size)
  clear hb HB C O S1 S2
  have C : Aside (w1.heap[w.heap.size]? = some (.cells #[.int .i64 cp, .slice ao n c1, .slice ao2 n2 c2] 25 (0, 0))) := C'.out
  clear C'
  have O : Aside (w1.heap[w.heap.size + 1]? = some (.cells #[.int .i64 kd, .int .i64 id, .int .i64 vers, .int .i64 at', .int .i64 cnt, .int .i64 tm, .string data] 39 (0, 0))) := O'.out
  clear O'
  have S1 : Aside (Sl w1 4 ao n c1 (bl.map Pc.enc)) := S1'.out
  clear S1'
  have S2 : Aside (Sl w1 3 ao2 n2 c2 (hs.map Hd.enc)) := S2'.out
  clear S2'
  have HB : Aside (Below w.heap.size w w1) := HB'.out
  clear HB'
  have cc0 := cell_heap C.out 0 _ rfl
  have cc1 := cell_heap C.out 1 _ rfl
  have cc2 := cell_heap C.out 2 _ rfl
  have cclt : w.heap.size < w1.heap.size := (Array.getElem?_eq_some_iff.1 C.out).1
  have oc0 := cell_heap O.out 0 _ rfl
  have oc1 := cell_heap O.out 1 _ rfl
  have oc2 := cell_heap O.out 2 _ rfl
  have oc3 := cell_heap O.out 3 _ rfl
  have oc4 := cell_heap O.out 4 _ rfl
  have oc5 := cell_heap O.out 5 _ rfl
  have oc6 := cell_heap O.out 6 _ rfl
  have oclt : w.heap.size + 1 < w1.heap.size := (Array.getElem?_eq_some_iff.1 O.out).1
  cases sb with
  | false =>
    clear hsb
    go_wp2_with fail
    refine (awake_calls _).mono ?_
    rintro e w2 ⟨rfl, hb⟩
    have C' : Aside (w2.heap[w.heap.size]? = some (.cells #[.int .i64 cp, .slice ao n c1, .slice ao2 n2 c2] 25 (0, 0))) := heap_later C.out hb
    have O' : Aside (w2.heap[w.heap.size + 1]? = some (.cells #[.int .i64 kd, .int .i64 id, .int .i64 vers, .int .i64 at', .int .i64 cnt, .int .i64 tm, .string data] 39 (0, 0))) := heap_later O.out hb
    have S1' : Aside (Sl w2 4 ao n c1 (bl.map Pc.enc)) := S1.out.stays hb
    have S2' : Aside (Sl w2 3 ao2 n2 c2 (hs.map Hd.enc)) := S2.out.stays hb
    have HB' : Aside (Below w.heap.size w w2) := HB.out.trans (hb.mono HB.out.size)
    clear hb HB C O S1 S2 cc0 cc1 cc2 cclt oc0 oc1 oc2 oc3 oc4 oc5 oc6 oclt
    have C : Aside (w2.heap[w.heap.size]? = some (.cells #[.int .i64 cp, .slice ao n c1, .slice ao2 n2 c2] 25 (0, 0))) := C'.out
    clear C'
    have O : Aside (w2.heap[w.heap.size + 1]? = some (.cells #[.int .i64 kd, .int .i64 id, .int .i64 vers, .int .i64 at', .int .i64 cnt, .int .i64 tm, .string data] 39 (0, 0))) := O'.out
    clear O'
    have S1 : Aside (Sl w2 4 ao n c1 (bl.map Pc.enc)) := S1'.out
    clear S1'
    have S2 : Aside (Sl w2 3 ao2 n2 c2 (hs.map Hd.enc)) := S2'.out
    clear S2'
    have HB : Aside (Below w.heap.size w w2) := HB'.out
    clear HB'
    go_wp2
    go_ret
    exact ⟨rfl, HB.out⟩
  | true =>
    clear hsb
    by_cases g : 100000 < data.size
    · have gz : (100000 : Int) < (data.size : Int) := by omega
      have gd : decide ((100000 : Int) < (data.size : Int)) = true := decide_eq_true gz
      clear g
      go_wp2_with fail
      refine (awake_calls _).mono ?_
      rintro e w2 ⟨rfl, hb⟩
      have C' : Aside (w2.heap[w.heap.size]? = some (.cells #[.int .i64 cp, .slice ao n c1, .slice ao2 n2 c2] 25 (0, 0))) := heap_later C.out hb
      have O' : Aside (w2.heap[w.heap.size + 1]? = some (.cells #[.int .i64 kd, .int .i64 id, .int .i64 vers, .int .i64 at', .int .i64 cnt, .int .i64 tm, .string data] 39 (0, 0))) := heap_later O.out hb
      have S1' : Aside (Sl w2 4 ao n c1 (bl.map Pc.enc)) := S1.out.stays hb
      have S2' : Aside (Sl w2 3 ao2 n2 c2 (hs.map Hd.enc)) := S2.out.stays hb
      have HB' : Aside (Below w.heap.size w w2) := HB.out.trans (hb.mono HB.out.size)
      clear hb HB C O S1 S2 cc0 cc1 cc2 cclt oc0 oc1 oc2 oc3 oc4 oc5 oc6 oclt
      have C : Aside (w2.heap[w.heap.size]? = some (.cells #[.int .i64 cp, .slice ao n c1, .slice ao2 n2 c2] 25 (0, 0))) := C'.out
      clear C'
      have O : Aside (w2.heap[w.heap.size + 1]? = some (.cells #[.int .i64 kd, .int .i64 id, .int .i64 vers, .int .i64 at', .int .i64 cnt, .int .i64 tm, .string data] 39 (0, 0))) := O'.out
      clear O'
      have S1 : Aside (Sl w2 4 ao n c1 (bl.map Pc.enc)) := S1'.out
      clear S1'
      have S2 : Aside (Sl w2 3 ao2 n2 c2 (hs.map Hd.enc)) := S2'.out
      clear S2'
      have HB : Aside (Below w.heap.size w w2) := HB'.out
      clear HB'
      go_wp2
      go_ret
      exact ⟨rfl, HB.out⟩
    have gd : decide ((100000 : Int) < (data.size : Int)) = false := decide_eq_false (by omega)
    clear g
    have cq := fun U (s1 : Sl U 4 ao n c1 (bl.map Pc.enc)) (s2 : Sl U 3 ao2 n2 c2 (hs.map Hd.enc)) => rright_calls cp ao n c1 ao2 n2 c2 bl hs U s1 s2
    cases hr : rightB cp bl hs with
    | false =>
      rw [hr] at cq
      clear hr
      go_wp2_with fail
      refine (cq _ S1.out S2.out).mono ?_
      rintro e w2 ⟨rfl, hb⟩
      have C' : Aside (w2.heap[w.heap.size]? = some (.cells #[.int .i64 cp, .slice ao n c1, .slice ao2 n2 c2] 25 (0, 0))) := heap_later C.out hb
      have O' : Aside (w2.heap[w.heap.size + 1]? = some (.cells #[.int .i64 kd, .int .i64 id, .int .i64 vers, .int .i64 at', .int .i64 cnt, .int .i64 tm, .string data] 39 (0, 0))) := heap_later O.out hb
      have S1' : Aside (Sl w2 4 ao n c1 (bl.map Pc.enc)) := S1.out.stays hb
      have S2' : Aside (Sl w2 3 ao2 n2 c2 (hs.map Hd.enc)) := S2.out.stays hb
      have HB' : Aside (Below w.heap.size w w2) := HB.out.trans (hb.mono HB.out.size)
      clear hb HB C O S1 S2 cc0 cc1 cc2 cclt oc0 oc1 oc2 oc3 oc4 oc5 oc6 oclt
      have C : Aside (w2.heap[w.heap.size]? = some (.cells #[.int .i64 cp, .slice ao n c1, .slice ao2 n2 c2] 25 (0, 0))) := C'.out
      clear C'
      have O : Aside (w2.heap[w.heap.size + 1]? = some (.cells #[.int .i64 kd, .int .i64 id, .int .i64 vers, .int .i64 at', .int .i64 cnt, .int .i64 tm, .string data] 39 (0, 0))) := O'.out
      clear O'
      have S1 : Aside (Sl w2 4 ao n c1 (bl.map Pc.enc)) := S1'.out
      clear S1'
      have S2 : Aside (Sl w2 3 ao2 n2 c2 (hs.map Hd.enc)) := S2'.out
      clear S2'
      have HB : Aside (Below w.heap.size w w2) := HB'.out
      clear HB'
      clear cq
      go_wp2_with fail
      refine (awake_calls _).mono ?_
      rintro e w3 ⟨rfl, hb⟩
      have C' : Aside (w3.heap[w.heap.size]? = some (.cells #[.int .i64 cp, .slice ao n c1, .slice ao2 n2 c2] 25 (0, 0))) := heap_later C.out hb
      have O' : Aside (w3.heap[w.heap.size + 1]? = some (.cells #[.int .i64 kd, .int .i64 id, .int .i64 vers, .int .i64 at', .int .i64 cnt, .int .i64 tm, .string data] 39 (0, 0))) := heap_later O.out hb
      have S1' : Aside (Sl w3 4 ao n c1 (bl.map Pc.enc)) := S1.out.stays hb
      have S2' : Aside (Sl w3 3 ao2 n2 c2 (hs.map Hd.enc)) := S2.out.stays hb
      have HB' : Aside (Below w.heap.size w w3) := HB.out.trans (hb.mono HB.out.size)
      clear hb HB C O S1 S2
      have C : Aside (w3.heap[w.heap.size]? = some (.cells #[.int .i64 cp, .slice ao n c1, .slice ao2 n2 c2] 25 (0, 0))) := C'.out
      clear C'
      have O : Aside (w3.heap[w.heap.size + 1]? = some (.cells #[.int .i64 kd, .int .i64 id, .int .i64 vers, .int .i64 at', .int .i64 cnt, .int .i64 tm, .string data] 39 (0, 0))) := O'.out
      clear O'
      have S1 : Aside (Sl w3 4 ao n c1 (bl.map Pc.enc)) := S1'.out
      clear S1'
      have S2 : Aside (Sl w3 3 ao2 n2 c2 (hs.map Hd.enc)) := S2'.out
      clear S2'
      have HB : Aside (Below w.heap.size w w3) := HB'.out
      clear HB'
      go_wp2
      go_ret
      exact ⟨rfl, HB.out⟩
    | true =>
      rw [hr] at cq
      have hR := RightP.of hr
      have cd := fun U (s1 : Sl U 4 ao n c1 (bl.map Pc.enc)) (s2 : Sl U 3 ao2 n2 c2 (hs.map Hd.enc)) => did_calls cp ao n c1 ao2 n2 c2 bl hs kd id vers at' cnt tm data U s1 s2 hR
      have cw := fun U (s1 : Sl U 4 ao n c1 (bl.map Pc.enc)) (s2 : Sl U 3 ao2 n2 c2 (hs.map Hd.enc)) => want_calls cp ao n c1 ao2 n2 c2 bl hs kd id vers at' cnt tm data U s1 s2 hR
      have hR2 := hR.stepF kd id vers at' cnt tm data
      generalize stepF cp kd id vers at' cnt tm data bl hs = r at cd cw hR2
      obtain ⟨bl', hs', st, rb⟩ := r
      have hr2 : rightB cp bl' hs' = true := (right_iff _ _ _).2 hR2
      clear hr hR hR2
      go_wp2_with fail
      refine (cq _ S1.out S2.out).mono ?_
      rintro e w2 ⟨rfl, hb⟩
      have C' : Aside (w2.heap[w.heap.size]? = some (.cells #[.int .i64 cp, .slice ao n c1, .slice ao2 n2 c2] 25 (0, 0))) := heap_later C.out hb
      have O' : Aside (w2.heap[w.heap.size + 1]? = some (.cells #[.int .i64 kd, .int .i64 id, .int .i64 vers, .int .i64 at', .int .i64 cnt, .int .i64 tm, .string data] 39 (0, 0))) := heap_later O.out hb
      have S1' : Aside (Sl w2 4 ao n c1 (bl.map Pc.enc)) := S1.out.stays hb
      have S2' : Aside (Sl w2 3 ao2 n2 c2 (hs.map Hd.enc)) := S2.out.stays hb
      have HB' : Aside (Below w.heap.size w w2) := HB.out.trans (hb.mono HB.out.size)
      clear hb HB C O S1 S2 cc0 cc1 cc2 cclt oc0 oc1 oc2 oc3 oc4 oc5 oc6 oclt
      have C : Aside (w2.heap[w.heap.size]? = some (.cells #[.int .i64 cp, .slice ao n c1, .slice ao2 n2 c2] 25 (0, 0))) := C'.out
      clear C'
      have O : Aside (w2.heap[w.heap.size + 1]? = some (.cells #[.int .i64 kd, .int .i64 id, .int .i64 vers, .int .i64 at', .int .i64 cnt, .int .i64 tm, .string data] 39 (0, 0))) := O'.out
      clear O'
      have S1 : Aside (Sl w2 4 ao n c1 (bl.map Pc.enc)) := S1'.out
      clear S1'
      have S2 : Aside (Sl w2 3 ao2 n2 c2 (hs.map Hd.enc)) := S2'.out
      clear S2'
      have HB : Aside (Below w.heap.size w w2) := HB'.out
      clear HB'
      have cc0 := cell_heap C.out 0 _ rfl
      have cc1 := cell_heap C.out 1 _ rfl
      have cc2 := cell_heap C.out 2 _ rfl
      have cclt : w.heap.size < w2.heap.size := (Array.getElem?_eq_some_iff.1 C.out).1
      have oc0 := cell_heap O.out 0 _ rfl
      have oc1 := cell_heap O.out 1 _ rfl
      have oc2 := cell_heap O.out 2 _ rfl
      have oc3 := cell_heap O.out 3 _ rfl
      have oc4 := cell_heap O.out 4 _ rfl
      have oc5 := cell_heap O.out 5 _ rfl
      have oc6 := cell_heap O.out 6 _ rfl
      have oclt : w.heap.size + 1 < w2.heap.size := (Array.getElem?_eq_some_iff.1 O.out).1
      clear cq
      go_wp2_with fail
      refine (cd _ S1.out S2.out).mono ?_
      rintro e w3 ⟨a1, k1, a2, k2, rfl, s1, s2, hb⟩
      have C' : Aside (w3.heap[w.heap.size]? = some (.cells #[.int .i64 cp, .slice ao n c1, .slice ao2 n2 c2] 25 (0, 0))) := heap_later C.out hb
      have O' : Aside (w3.heap[w.heap.size + 1]? = some (.cells #[.int .i64 kd, .int .i64 id, .int .i64 vers, .int .i64 at', .int .i64 cnt, .int .i64 tm, .string data] 39 (0, 0))) := heap_later O.out hb
      have S1' : Aside (Sl w3 4 ao n c1 (bl.map Pc.enc)) := S1.out.stays hb
      have S2' : Aside (Sl w3 3 ao2 n2 c2 (hs.map Hd.enc)) := S2.out.stays hb
      have S3' : Aside (Sl w3 4 a1 bl'.length k1 (bl'.map Pc.enc)) := s1
      have S4' : Aside (Sl w3 3 a2 hs'.length k2 (hs'.map Hd.enc)) := s2
      have HB' : Aside (Below w.heap.size w w3) := HB.out.trans (hb.mono HB.out.size)
      clear hb HB C O S1 S2 s1 s2 cc0 cc1 cc2 cclt oc0 oc1 oc2 oc3 oc4 oc5 oc6 oclt
      have C : Aside (w3.heap[w.heap.size]? = some (.cells #[.int .i64 cp, .slice ao n c1, .slice ao2 n2 c2] 25 (0, 0))) := C'.out
      clear C'
      have O : Aside (w3.heap[w.heap.size + 1]? = some (.cells #[.int .i64 kd, .int .i64 id, .int .i64 vers, .int .i64 at', .int .i64 cnt, .int .i64 tm, .string data] 39 (0, 0))) := O'.out
      clear O'
      have S1 : Aside (Sl w3 4 ao n c1 (bl.map Pc.enc)) := S1'.out
      clear S1'
      have S2 : Aside (Sl w3 3 ao2 n2 c2 (hs.map Hd.enc)) := S2'.out
      clear S2'
      have S3 : Aside (Sl w3 4 a1 bl'.length k1 (bl'.map Pc.enc)) := S3'.out
      clear S3'
      have S4 : Aside (Sl w3 3 a2 hs'.length k2 (hs'.map Hd.enc)) := S4'.out
      clear S4'
      have HB : Aside (Below w.heap.size w w3) := HB'.out
      clear HB'
      have cc0 := cell_heap C.out 0 _ rfl
      have cc1 := cell_heap C.out 1 _ rfl
      have cc2 := cell_heap C.out 2 _ rfl
      have cclt : w.heap.size < w3.heap.size := (Array.getElem?_eq_some_iff.1 C.out).1
      have oc0 := cell_heap O.out 0 _ rfl
      have oc1 := cell_heap O.out 1 _ rfl
      have oc2 := cell_heap O.out 2 _ rfl
      have oc3 := cell_heap O.out 3 _ rfl
      have oc4 := cell_heap O.out 4 _ rfl
      have oc5 := cell_heap O.out 5 _ rfl
      have oc6 := cell_heap O.out 6 _ rfl
      have oclt : w.heap.size + 1 < w3.heap.size := (Array.getElem?_eq_some_iff.1 O.out).1
      have C' : Aside ((w3.alloc (.cells #[.int .i64 cp, .slice a1 bl'.length k1, .slice a2 hs'.length k2] 25)).heap[w.heap.size]? = some (.cells #[.int .i64 cp, .slice ao n c1, .slice ao2 n2 c2] 25 (0, 0))) := hp_old C.out
      have O' : Aside ((w3.alloc (.cells #[.int .i64 cp, .slice a1 bl'.length k1, .slice a2 hs'.length k2] 25)).heap[w.heap.size + 1]? = some (.cells #[.int .i64 kd, .int .i64 id, .int .i64 vers, .int .i64 at', .int .i64 cnt, .int .i64 tm, .string data] 39 (0, 0))) := hp_old O.out
      have S1' : Aside (Sl (w3.alloc (.cells #[.int .i64 cp, .slice a1 bl'.length k1, .slice a2 hs'.length k2] 25)) 4 ao n c1 (bl.map Pc.enc)) := S1.out.stays ((Below.refl _ _).alloc (Nat.le_refl _) _)
      have S2' : Aside (Sl (w3.alloc (.cells #[.int .i64 cp, .slice a1 bl'.length k1, .slice a2 hs'.length k2] 25)) 3 ao2 n2 c2 (hs.map Hd.enc)) := S2.out.stays ((Below.refl _ _).alloc (Nat.le_refl _) _)
      have S3' : Aside (Sl (w3.alloc (.cells #[.int .i64 cp, .slice a1 bl'.length k1, .slice a2 hs'.length k2] 25)) 4 a1 bl'.length k1 (bl'.map Pc.enc)) := S3.out.stays ((Below.refl _ _).alloc (Nat.le_refl _) _)
      have S4' : Aside (Sl (w3.alloc (.cells #[.int .i64 cp, .slice a1 bl'.length k1, .slice a2 hs'.length k2] 25)) 3 a2 hs'.length k2 (hs'.map Hd.enc)) := S4.out.stays ((Below.refl _ _).alloc (Nat.le_refl _) _)
      have A' : Aside ((w3.alloc (.cells #[.int .i64 cp, .slice a1 bl'.length k1, .slice a2 hs'.length k2] 25)).heap[w3.heap.size]? = some (.cells #[.int .i64 cp, .slice a1 bl'.length k1, .slice a2 hs'.length k2] 25 (0, 0))) := hp_new rfl
      have HB' : Aside (Below w.heap.size w (w3.alloc (.cells #[.int .i64 cp, .slice a1 bl'.length k1, .slice a2 hs'.length k2] 25))) := HB.out.alloc HB.out.size _
      clear HB C O S1 S2 S3 S4
      go_wp2_with fail
      clear cc0 cc1 cc2 cclt oc0 oc1 oc2 oc3 oc4 oc5 oc6 oclt
      generalize (w3.alloc (.cells #[.int .i64 cp, .slice a1 bl'.length k1, .slice a2 hs'.length k2] 25)) = v3 at C' O' S1' S2' S3' S4' A' HB' ⊢
      generalize w3.heap.size = ab at A' ⊢
      have C : Aside (v3.heap[w.heap.size]? = some (.cells #[.int .i64 cp, .slice ao n c1, .slice ao2 n2 c2] 25 (0, 0))) := C'.out
      clear C'
      have O : Aside (v3.heap[w.heap.size + 1]? = some (.cells #[.int .i64 kd, .int .i64 id, .int .i64 vers, .int .i64 at', .int .i64 cnt, .int .i64 tm, .string data] 39 (0, 0))) := O'.out
      clear O'
      have S1 : Aside (Sl v3 4 ao n c1 (bl.map Pc.enc)) := S1'.out
      clear S1'
      have S2 : Aside (Sl v3 3 ao2 n2 c2 (hs.map Hd.enc)) := S2'.out
      clear S2'
      have S3 : Aside (Sl v3 4 a1 bl'.length k1 (bl'.map Pc.enc)) := S3'.out
      clear S3'
      have S4 : Aside (Sl v3 3 a2 hs'.length k2 (hs'.map Hd.enc)) := S4'.out
      clear S4'
      have A : Aside (v3.heap[ab]? = some (.cells #[.int .i64 cp, .slice a1 bl'.length k1, .slice a2 hs'.length k2] 25 (0, 0))) := A'.out
      clear A'
      have HB : Aside (Below w.heap.size w v3) := HB'.out
      clear HB'
      clear cd
      refine (cw _ S1.out S2.out).mono ?_
      rintro e w4 ⟨a3, k3, a4, k4, rfl, s1, s2, hb⟩
      have S3' : Aside (Sl w4 4 a1 bl'.length k1 (bl'.map Pc.enc)) := S3.out.stays hb
      have S4' : Aside (Sl w4 3 a2 hs'.length k2 (hs'.map Hd.enc)) := S4.out.stays hb
      have A' : Aside (w4.heap[ab]? = some (.cells #[.int .i64 cp, .slice a1 bl'.length k1, .slice a2 hs'.length k2] 25 (0, 0))) := heap_later A.out hb
      have S5' : Aside (Sl w4 4 a3 bl'.length k3 (bl'.map Pc.enc)) := s1
      have S6' : Aside (Sl w4 3 a4 hs'.length k4 (hs'.map Hd.enc)) := s2
      have HB' : Aside (Below w.heap.size w w4) := HB.out.trans (hb.mono HB.out.size)
      clear hb HB S3 S4 A S1 S2 C O s1 s2
      have S3 : Aside (Sl w4 4 a1 bl'.length k1 (bl'.map Pc.enc)) := S3'.out
      clear S3'
      have S4 : Aside (Sl w4 3 a2 hs'.length k2 (hs'.map Hd.enc)) := S4'.out
      clear S4'
      have A : Aside (w4.heap[ab]? = some (.cells #[.int .i64 cp, .slice a1 bl'.length k1, .slice a2 hs'.length k2] 25 (0, 0))) := A'.out
      clear A'
      have S5 : Aside (Sl w4 4 a3 bl'.length k3 (bl'.map Pc.enc)) := S5'.out
      clear S5'
      have S6 : Aside (Sl w4 3 a4 hs'.length k4 (hs'.map Hd.enc)) := S6'.out
      clear S6'
      have HB : Aside (Below w.heap.size w w4) := HB'.out
      clear HB'
      have ac0 := cell_heap A.out 0 _ rfl
      have ac1 := cell_heap A.out 1 _ rfl
      have ac2 := cell_heap A.out 2 _ rfl
      have aclt : ab < w4.heap.size := (Array.getElem?_eq_some_iff.1 A.out).1
      have S3' : Aside (Sl (w4.alloc (.cells #[.int .i64 cp, .slice a3 bl'.length k3, .slice a4 hs'.length k4] 25)) 4 a1 bl'.length k1 (bl'.map Pc.enc)) := S3.out.stays ((Below.refl _ _).alloc (Nat.le_refl _) _)
      have S4' : Aside (Sl (w4.alloc (.cells #[.int .i64 cp, .slice a3 bl'.length k3, .slice a4 hs'.length k4] 25)) 3 a2 hs'.length k2 (hs'.map Hd.enc)) := S4.out.stays ((Below.refl _ _).alloc (Nat.le_refl _) _)
      have A' : Aside ((w4.alloc (.cells #[.int .i64 cp, .slice a3 bl'.length k3, .slice a4 hs'.length k4] 25)).heap[ab]? = some (.cells #[.int .i64 cp, .slice a1 bl'.length k1, .slice a2 hs'.length k2] 25 (0, 0))) := hp_old A.out
      have S5' : Aside (Sl (w4.alloc (.cells #[.int .i64 cp, .slice a3 bl'.length k3, .slice a4 hs'.length k4] 25)) 4 a3 bl'.length k3 (bl'.map Pc.enc)) := S5.out.stays ((Below.refl _ _).alloc (Nat.le_refl _) _)
      have S6' : Aside (Sl (w4.alloc (.cells #[.int .i64 cp, .slice a3 bl'.length k3, .slice a4 hs'.length k4] 25)) 3 a4 hs'.length k4 (hs'.map Hd.enc)) := S6.out.stays ((Below.refl _ _).alloc (Nat.le_refl _) _)
      have B' : Aside ((w4.alloc (.cells #[.int .i64 cp, .slice a3 bl'.length k3, .slice a4 hs'.length k4] 25)).heap[w4.heap.size]? = some (.cells #[.int .i64 cp, .slice a3 bl'.length k3, .slice a4 hs'.length k4] 25 (0, 0))) := hp_new rfl
      have HB' : Aside (Below w.heap.size w (w4.alloc (.cells #[.int .i64 cp, .slice a3 bl'.length k3, .slice a4 hs'.length k4] 25))) := HB.out.alloc HB.out.size _
      clear HB S3 S4 A S5 S6
      go_wp2_with fail
      clear ac0 ac1 ac2 aclt
      generalize (w4.alloc (.cells #[.int .i64 cp, .slice a3 bl'.length k3, .slice a4 hs'.length k4] 25)) = v4 at S3' S4' A' S5' S6' B' HB' ⊢
      generalize w4.heap.size = bb at B' ⊢
      have S3 : Aside (Sl v4 4 a1 bl'.length k1 (bl'.map Pc.enc)) := S3'.out
      clear S3'
      have S4 : Aside (Sl v4 3 a2 hs'.length k2 (hs'.map Hd.enc)) := S4'.out
      clear S4'
      have A : Aside (v4.heap[ab]? = some (.cells #[.int .i64 cp, .slice a1 bl'.length k1, .slice a2 hs'.length k2] 25 (0, 0))) := A'.out
      clear A'
      have S5 : Aside (Sl v4 4 a3 bl'.length k3 (bl'.map Pc.enc)) := S5'.out
      clear S5'
      have S6 : Aside (Sl v4 3 a4 hs'.length k4 (hs'.map Hd.enc)) := S6'.out
      clear S6'
      have B : Aside (v4.heap[bb]? = some (.cells #[.int .i64 cp, .slice a3 bl'.length k3, .slice a4 hs'.length k4] 25 (0, 0))) := B'.out
      clear B'
      have HB : Aside (Below w.heap.size w v4) := HB'.out
      clear HB'
      clear cw
      refine (rsame_calls cp a1 bl'.length k1 a2 hs'.length k2 a3 k3 a4 k4 bl' hs' _ S3.out S4.out S5.out S6.out).mono ?_
      rintro e w5 ⟨rfl, hb⟩
      have S3' : Aside (Sl w5 4 a1 bl'.length k1 (bl'.map Pc.enc)) := S3.out.stays hb
      have S4' : Aside (Sl w5 3 a2 hs'.length k2 (hs'.map Hd.enc)) := S4.out.stays hb
      have A' : Aside (w5.heap[ab]? = some (.cells #[.int .i64 cp, .slice a1 bl'.length k1, .slice a2 hs'.length k2] 25 (0, 0))) := heap_later A.out hb
      have HB' : Aside (Below w.heap.size w w5) := HB.out.trans (hb.mono HB.out.size)
      clear hb HB S3 S4 A S5 S6 B
      have S3 : Aside (Sl w5 4 a1 bl'.length k1 (bl'.map Pc.enc)) := S3'.out
      clear S3'
      have S4 : Aside (Sl w5 3 a2 hs'.length k2 (hs'.map Hd.enc)) := S4'.out
      clear S4'
      have A : Aside (w5.heap[ab]? = some (.cells #[.int .i64 cp, .slice a1 bl'.length k1, .slice a2 hs'.length k2] 25 (0, 0))) := A'.out
      clear A'
      have HB : Aside (Below w.heap.size w w5) := HB'.out
      clear HB'
      have ac0 := cell_heap A.out 0 _ rfl
      have ac1 := cell_heap A.out 1 _ rfl
      have ac2 := cell_heap A.out 2 _ rfl
      have aclt : ab < w5.heap.size := (Array.getElem?_eq_some_iff.1 A.out).1
      go_wp2_with fail
      refine ((hr2 ▸ right_calls cp a1 bl'.length k1 a2 hs'.length k2 bl' hs' _ S3.out S4.out)).mono ?_
      rintro e w6 ⟨rfl, hb⟩
      have S3' : Aside (Sl w6 4 a1 bl'.length k1 (bl'.map Pc.enc)) := S3.out.stays hb
      have S4' : Aside (Sl w6 3 a2 hs'.length k2 (hs'.map Hd.enc)) := S4.out.stays hb
      have HB' : Aside (Below w.heap.size w w6) := HB.out.trans (hb.mono HB.out.size)
      clear hb HB S3 S4 A ac0 ac1 ac2 aclt
      have S3 : Aside (Sl w6 4 a1 bl'.length k1 (bl'.map Pc.enc)) := S3'.out
      clear S3'
      have S4 : Aside (Sl w6 3 a2 hs'.length k2 (hs'.map Hd.enc)) := S4'.out
      clear S4'
      have HB : Aside (Below w.heap.size w w6) := HB'.out
      clear HB'
      go_wp2_with fail
      refine (awake_calls _).mono ?_
      rintro e w7 ⟨rfl, hb⟩
      have S3' : Aside (Sl w7 4 a1 bl'.length k1 (bl'.map Pc.enc)) := S3.out.stays hb
      have S4' : Aside (Sl w7 3 a2 hs'.length k2 (hs'.map Hd.enc)) := S4.out.stays hb
      have HB' : Aside (Below w.heap.size w w7) := HB.out.trans (hb.mono HB.out.size)
      clear hb HB S3 S4
      have S3 : Aside (Sl w7 4 a1 bl'.length k1 (bl'.map Pc.enc)) := S3'.out
      clear S3'
      have S4 : Aside (Sl w7 3 a2 hs'.length k2 (hs'.map Hd.enc)) := S4'.out
      clear S4'
      have HB : Aside (Below w.heap.size w w7) := HB'.out
      clear HB'
      go_wp2
      go_ret
      exact ⟨rfl, HB.out⟩

end Go.Proofs.Ytcgajlobbjoefaa
