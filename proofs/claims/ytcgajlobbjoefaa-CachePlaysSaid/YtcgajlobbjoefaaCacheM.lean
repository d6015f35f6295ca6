/- This text proves the walk of Get of package cache: no piece has the byte, a piece has all bytes, a piece has too few. Conditions: those that each theorem names. -/
import Derived.Test.YtcgajlobbjoefaaCacheL
import Derived.Deep.RegionHeld3
namespace Go.Proofs.Ytcgajlobbjoefaa
open Go.ChangeShapes Go.WideShapes Go.ChangeAt Go.RowKit
set_option linter.unusedVariables false
set_option linter.unusedSimpArgs false

set_option maxHeartbeats 16000000 in
theorem get_none_n (cp : Int) (ao : Option Addr) (n c1 : Nat) (ao2 : Option Addr) (n2 c2 : Nat) (bl : List Pc) (hs : List Hd) (id at' cnt now : Int) (w : World) (h1 : Sl w 4 ao n c1 (bl.map Pc.enc)) (h2 : Sl w 3 ao2 n2 c2 (hs.map Hd.enc)) (hn : n ≤ 1000000) (hn2 : n2 ≤ 1000000) (ha : AscH hs) (hh : heldB id now hs = true) (h0 : 0 ≤ at') (hc : 0 ≤ cnt) (he : endI id bl = -1) (ok : ∀ y ∈ bl, OkP y) (hv : covI id at' bl = -1) :
    Calls Try.prog 17 #[.agg #[.int .i64 cp, .slice ao n c1, .slice ao2 n2 c2], .int .i64 id, .int .i64 at', .int .i64 cnt, .int .i64 now] w fun e w' => GetPost w cp hs (bl, ⟨#[]⟩, false) e w' := by
  have hln : bl.length = n := Sl.lenE h1
  have hln2 : hs.length = n2 := Sl.lenE h2
  subst hln
  subst hln2
  have S1 : Aside (Sl w 4 ao bl.length c1 (bl.map Pc.enc)) := h1
  have S2 : Aside (Sl w 3 ao2 hs.length c2 (hs.map Hd.enc)) := h2
  have hb0 : Below w.heap.size w ((((w.alloc (.cells #[.int .i64 cp, .slice ao bl.length c1, .slice ao2 hs.length c2] 25)).alloc (.cells #[.int .i64 id] 3)).alloc (.cells #[.int .i64 at'] 3)).alloc (.cells #[.int .i64 0, .slice none 0 0, .slice none 0 0] 25)) := by
    repeat (first | (with_reducible exact Below.refl _ _) | (with_reducible assumption) | (with_reducible refine below_to_plus ?_ ?_ _) | (with_reducible refine below_holds ?_ ?_ _ _) | (with_reducible refine Below.alloc ?_ ?_ _) | (with_reducible refine Below.drew ?_) | (with_reducible refine below_drewN ?_ _) | (with_reducible refine Below.setCell ?_ ?_ _))
    all_goals first | omega | (simp; done) | (simp [go_sem]; done) | (simp [go_sem]; omega)
  have HB : Aside (Below w.heap.size w ((((w.alloc (.cells #[.int .i64 cp, .slice ao bl.length c1, .slice ao2 hs.length c2] 25)).alloc (.cells #[.int .i64 id] 3)).alloc (.cells #[.int .i64 at'] 3)).alloc (.cells #[.int .i64 0, .slice none 0 0, .slice none 0 0] 25))) := hb0
  have Hc : Aside (((((w.alloc (.cells #[.int .i64 cp, .slice ao bl.length c1, .slice ao2 hs.length c2] 25)).alloc (.cells #[.int .i64 id] 3)).alloc (.cells #[.int .i64 at'] 3)).alloc (.cells #[.int .i64 0, .slice none 0 0, .slice none 0 0] 25)).heap[w.heap.size]? = some (.cells #[.int .i64 cp, .slice ao bl.length c1, .slice ao2 hs.length c2] 25 (0, 0))) := by repeat (first | exact hp_new (by first | rfl | (simp; done) | (simp; omega)) | refine hp_old ?_)
  have Hi : Aside (((((w.alloc (.cells #[.int .i64 cp, .slice ao bl.length c1, .slice ao2 hs.length c2] 25)).alloc (.cells #[.int .i64 id] 3)).alloc (.cells #[.int .i64 at'] 3)).alloc (.cells #[.int .i64 0, .slice none 0 0, .slice none 0 0] 25)).heap[w.heap.size + 1]? = some (.cells #[.int .i64 id] 3 (0, 0))) := by repeat (first | exact hp_new (by first | rfl | (simp; done) | (simp; omega)) | refine hp_old ?_)
  have Ht : Aside (((((w.alloc (.cells #[.int .i64 cp, .slice ao bl.length c1, .slice ao2 hs.length c2] 25)).alloc (.cells #[.int .i64 id] 3)).alloc (.cells #[.int .i64 at'] 3)).alloc (.cells #[.int .i64 0, .slice none 0 0, .slice none 0 0] 25)).heap[w.heap.size + 1 + 1]? = some (.cells #[.int .i64 at'] 3 (0, 0))) := by repeat (first | exact hp_new (by first | rfl | (simp; done) | (simp; omega)) | refine hp_old ?_)
  have Hr : Aside (((((w.alloc (.cells #[.int .i64 cp, .slice ao bl.length c1, .slice ao2 hs.length c2] 25)).alloc (.cells #[.int .i64 id] 3)).alloc (.cells #[.int .i64 at'] 3)).alloc (.cells #[.int .i64 0, .slice none 0 0, .slice none 0 0] 25)).heap[w.heap.size + 1 + 1 + 1]? = some (.cells #[.int .i64 0, .slice none 0 0, .slice none 0 0] 25 (0, 0))) := by repeat (first | exact hp_new (by first | rfl | (simp; done) | (simp; omega)) | refine hp_old ?_)
  have ck := held_calls cp ao bl.length c1 ao2 hs.length c2 hs id now ((((w.alloc (.cells #[.int .i64 cp, .slice ao bl.length c1, .slice ao2 hs.length c2] 25)).alloc (.cells #[.int .i64 id] 3)).alloc (.cells #[.int .i64 at'] 3)).alloc (.cells #[.int .i64 0, .slice none 0 0, .slice none 0 0] 25)) (h2.stays hb0) hn2 ha
  rw [hh] at ck
  have ce := fun U hU => end_calls cp ao bl.length c1 ao2 hs.length c2 bl id U (S1.out.stays hU)
  rw [he] at ce
  have x0 : ¬ at' < 0 := by omega
  have xc : ¬ cnt < 0 := by omega
  have hbig : bl.length ≤ 9223372036854775807 := by omega
  have eg : ∀ args w, (callFunc 36 args).run Try.prog w = .ok (.enter 36 args) w := enters_of Try.func36 (by kernel_rfl) rfl
  have cx : ∀ U, Below w.heap.size w U → U.heap[w.heap.size + 1]? = some (.cells #[.int .i64 id] 3 (0, 0)) → U.heap[w.heap.size + 1 + 1]? = some (.cells #[.int .i64 at'] 3 (0, 0)) → Calls Try.prog 35 #[.slice ao bl.length c1, .func (.func 36) #[] #[.pointer (some ⟨w.heap.size + 1, 0, none⟩), .pointer (some ⟨w.heap.size + 1 + 1, 0, none⟩)]] U fun e w' => e = .returned (.int .i64 (covI id at' bl)) ∧ Below U.heap.size U w' := fun U hU hi ht => by
    have := pcIndexFunc_calls (isC id at') 36 _ eg _ _ _ bl U (S1.out.stays hU) (pred_get id at' bl ok (w.heap.size + 1) (w.heap.size + 1 + 1) U (Array.getElem?_eq_some_iff.1 hi).1 (cell_heap hi 0 _ rfl) (Array.getElem?_eq_some_iff.1 ht).1 (cell_heap ht 0 _ rfl))
    rw [idx_fst] at this
    exact this
  rw [hv] at cx
  clear hh he ok hv h1 h2
  go_enter Try.func17, Try.ntmps17
  go_wp2_with fail
  refine (ck).mono ?_
  rintro e u59 ⟨rfl, hb⟩
  have Hc' : Aside (u59.heap[w.heap.size]? = some (.cells #[.int .i64 cp, .slice ao bl.length c1, .slice ao2 hs.length c2] 25 (0, 0))) := heap_later (by repeat (first | exact Hc.out | exact Hi.out | exact Ht.out | exact Hr.out | exact hp_new (by first | rfl | (simp [size_plus, size_holds]; done) | (simp [size_plus, size_holds]; omega)) | (with_reducible refine hp_old ?_) | (with_reducible refine hp_plus ?_) | (with_reducible refine hh_eq (by first | assumption | (simp only [size_holds]; assumption))) | (with_reducible refine hh_ne (by omega) ?_))) hb
  have Hi' : Aside (u59.heap[w.heap.size + 1]? = some (.cells #[.int .i64 id] 3 (0, 0))) := heap_later (by repeat (first | exact Hc.out | exact Hi.out | exact Ht.out | exact Hr.out | exact hp_new (by first | rfl | (simp [size_plus, size_holds]; done) | (simp [size_plus, size_holds]; omega)) | (with_reducible refine hp_old ?_) | (with_reducible refine hp_plus ?_) | (with_reducible refine hh_eq (by first | assumption | (simp only [size_holds]; assumption))) | (with_reducible refine hh_ne (by omega) ?_))) hb
  have Ht' : Aside (u59.heap[w.heap.size + 1 + 1]? = some (.cells #[.int .i64 at'] 3 (0, 0))) := heap_later (by repeat (first | exact Hc.out | exact Hi.out | exact Ht.out | exact Hr.out | exact hp_new (by first | rfl | (simp [size_plus, size_holds]; done) | (simp [size_plus, size_holds]; omega)) | (with_reducible refine hp_old ?_) | (with_reducible refine hp_plus ?_) | (with_reducible refine hh_eq (by first | assumption | (simp only [size_holds]; assumption))) | (with_reducible refine hh_ne (by omega) ?_))) hb
  have Hr' : Aside (u59.heap[w.heap.size + 1 + 1 + 1]? = some (.cells #[.int .i64 0, .slice none 0 0, .slice none 0 0] 25 (0, 0))) := heap_later (by repeat (first | exact Hc.out | exact Hi.out | exact Ht.out | exact Hr.out | exact hp_new (by first | rfl | (simp [size_plus, size_holds]; done) | (simp [size_plus, size_holds]; omega)) | (with_reducible refine hp_old ?_) | (with_reducible refine hp_plus ?_) | (with_reducible refine hh_eq (by first | assumption | (simp only [size_holds]; assumption))) | (with_reducible refine hh_ne (by omega) ?_))) hb
  have HB' : Aside (Below w.heap.size w u59) := below_step (by
    have hHB := HB.out
    repeat (first | (with_reducible exact Below.refl _ _) | (with_reducible assumption) | (with_reducible refine below_to_plus ?_ ?_ _) | (with_reducible refine below_holds ?_ ?_ _ _) | (with_reducible refine Below.alloc ?_ ?_ _) | (with_reducible refine Below.drew ?_) | (with_reducible refine below_drewN ?_ _) | (with_reducible refine Below.setCell ?_ ?_ _))
    all_goals first | omega | (simp; done) | (simp [go_sem]; done) | (simp [go_sem]; omega)) hb
  clear Hc Hi Ht Hr HB hb ck hb0
  have Hc := Hc'
  clear Hc'
  have Hi := Hi'
  clear Hi'
  have Ht := Ht'
  clear Ht'
  have Hr := Hr'
  clear Hr'
  have HB := HB'
  clear HB'
  have bc0 := cell_heap Hc.out 0 _ rfl
  have bc1 := cell_heap Hc.out 1 _ rfl
  have bc2 := cell_heap Hc.out 2 _ rfl
  have ltc : w.heap.size < u59.heap.size := (Array.getElem?_eq_some_iff.1 Hc.out).1
  have bi0 := cell_heap Hi.out 0 _ rfl
  have lti : w.heap.size + 1 < u59.heap.size := (Array.getElem?_eq_some_iff.1 Hi.out).1
  have bt0 := cell_heap Ht.out 0 _ rfl
  have ltt : w.heap.size + 1 + 1 < u59.heap.size := (Array.getElem?_eq_some_iff.1 Ht.out).1
  go_wp2_with fail
  refine (ce _ HB.out).mono ?_
  rintro e u60 ⟨rfl, hb⟩
  have Hc' : Aside (u60.heap[w.heap.size]? = some (.cells #[.int .i64 cp, .slice ao bl.length c1, .slice ao2 hs.length c2] 25 (0, 0))) := heap_later (by repeat (first | exact Hc.out | exact Hi.out | exact Ht.out | exact Hr.out | exact hp_new (by first | rfl | (simp [size_plus, size_holds]; done) | (simp [size_plus, size_holds]; omega)) | (with_reducible refine hp_old ?_) | (with_reducible refine hp_plus ?_) | (with_reducible refine hh_eq (by first | assumption | (simp only [size_holds]; assumption))) | (with_reducible refine hh_ne (by omega) ?_))) hb
  have Hi' : Aside (u60.heap[w.heap.size + 1]? = some (.cells #[.int .i64 id] 3 (0, 0))) := heap_later (by repeat (first | exact Hc.out | exact Hi.out | exact Ht.out | exact Hr.out | exact hp_new (by first | rfl | (simp [size_plus, size_holds]; done) | (simp [size_plus, size_holds]; omega)) | (with_reducible refine hp_old ?_) | (with_reducible refine hp_plus ?_) | (with_reducible refine hh_eq (by first | assumption | (simp only [size_holds]; assumption))) | (with_reducible refine hh_ne (by omega) ?_))) hb
  have Ht' : Aside (u60.heap[w.heap.size + 1 + 1]? = some (.cells #[.int .i64 at'] 3 (0, 0))) := heap_later (by repeat (first | exact Hc.out | exact Hi.out | exact Ht.out | exact Hr.out | exact hp_new (by first | rfl | (simp [size_plus, size_holds]; done) | (simp [size_plus, size_holds]; omega)) | (with_reducible refine hp_old ?_) | (with_reducible refine hp_plus ?_) | (with_reducible refine hh_eq (by first | assumption | (simp only [size_holds]; assumption))) | (with_reducible refine hh_ne (by omega) ?_))) hb
  have Hr' : Aside (u60.heap[w.heap.size + 1 + 1 + 1]? = some (.cells #[.int .i64 0, .slice none 0 0, .slice none 0 0] 25 (0, 0))) := heap_later (by repeat (first | exact Hc.out | exact Hi.out | exact Ht.out | exact Hr.out | exact hp_new (by first | rfl | (simp [size_plus, size_holds]; done) | (simp [size_plus, size_holds]; omega)) | (with_reducible refine hp_old ?_) | (with_reducible refine hp_plus ?_) | (with_reducible refine hh_eq (by first | assumption | (simp only [size_holds]; assumption))) | (with_reducible refine hh_ne (by omega) ?_))) hb
  have HB' : Aside (Below w.heap.size w u60) := below_step (by
    have hHB := HB.out
    repeat (first | (with_reducible exact Below.refl _ _) | (with_reducible assumption) | (with_reducible refine below_to_plus ?_ ?_ _) | (with_reducible refine below_holds ?_ ?_ _ _) | (with_reducible refine Below.alloc ?_ ?_ _) | (with_reducible refine Below.drew ?_) | (with_reducible refine below_drewN ?_ _) | (with_reducible refine Below.setCell ?_ ?_ _))
    all_goals first | omega | (simp; done) | (simp [go_sem]; done) | (simp [go_sem]; omega)) hb
  clear Hc Hi Ht Hr HB hb ce bc0 bc1 bc2 bi0 bt0 ltc lti ltt
  have Hc := Hc'
  clear Hc'
  have Hi := Hi'
  clear Hi'
  have Ht := Ht'
  clear Ht'
  have Hr := Hr'
  clear Hr'
  have HB := HB'
  clear HB'
  have bc0 := cell_heap Hc.out 0 _ rfl
  have bc1 := cell_heap Hc.out 1 _ rfl
  have bc2 := cell_heap Hc.out 2 _ rfl
  have ltc : w.heap.size < u60.heap.size := (Array.getElem?_eq_some_iff.1 Hc.out).1
  have bi0 := cell_heap Hi.out 0 _ rfl
  have lti : w.heap.size + 1 < u60.heap.size := (Array.getElem?_eq_some_iff.1 Hi.out).1
  have bt0 := cell_heap Ht.out 0 _ rfl
  have ltt : w.heap.size + 1 + 1 < u60.heap.size := (Array.getElem?_eq_some_iff.1 Ht.out).1
  go_wp2
  refine wp_region_plus (by kernel_rfl) (by kernel_rfl) ?_
  repeat (go_big_quiet_step (fail))
  refine wpQuiet_nil ?_
  rintro _ ⟨x1, rfl⟩
  go_wp2_with fail
  refine (cx _ (by
    have hHB := HB.out
    repeat (first | (with_reducible exact Below.refl _ _) | (with_reducible assumption) | (with_reducible refine below_to_plus ?_ ?_ _) | (with_reducible refine below_holds ?_ ?_ _ _) | (with_reducible refine Below.alloc ?_ ?_ _) | (with_reducible refine Below.drew ?_) | (with_reducible refine below_drewN ?_ _) | (with_reducible refine Below.setCell ?_ ?_ _))
    all_goals first | omega | (simp; done) | (simp [go_sem]; done) | (simp [go_sem]; omega)) (by repeat (first | exact Hc.out | exact Hi.out | exact Ht.out | exact Hr.out | exact hp_new (by first | rfl | (simp [size_plus, size_holds]; done) | (simp [size_plus, size_holds]; omega)) | (with_reducible refine hp_old ?_) | (with_reducible refine hp_plus ?_) | (with_reducible refine hh_eq (by first | assumption | (simp only [size_holds]; assumption))) | (with_reducible refine hh_ne (by omega) ?_))) (by repeat (first | exact Hc.out | exact Hi.out | exact Ht.out | exact Hr.out | exact hp_new (by first | rfl | (simp [size_plus, size_holds]; done) | (simp [size_plus, size_holds]; omega)) | (with_reducible refine hp_old ?_) | (with_reducible refine hp_plus ?_) | (with_reducible refine hh_eq (by first | assumption | (simp only [size_holds]; assumption))) | (with_reducible refine hh_ne (by omega) ?_)))).mono ?_
  rintro e u61 ⟨rfl, hb⟩
  have Hc' : Aside (u61.heap[w.heap.size]? = some (.cells #[.int .i64 cp, .slice ao bl.length c1, .slice ao2 hs.length c2] 25 (0, 0))) := heap_later (by repeat (first | exact Hc.out | exact Hi.out | exact Ht.out | exact Hr.out | exact hp_new (by first | rfl | (simp [size_plus, size_holds]; done) | (simp [size_plus, size_holds]; omega)) | (with_reducible refine hp_old ?_) | (with_reducible refine hp_plus ?_) | (with_reducible refine hh_eq (by first | assumption | (simp only [size_holds]; assumption))) | (with_reducible refine hh_ne (by omega) ?_))) hb
  have Hi' : Aside (u61.heap[w.heap.size + 1]? = some (.cells #[.int .i64 id] 3 (0, 0))) := heap_later (by repeat (first | exact Hc.out | exact Hi.out | exact Ht.out | exact Hr.out | exact hp_new (by first | rfl | (simp [size_plus, size_holds]; done) | (simp [size_plus, size_holds]; omega)) | (with_reducible refine hp_old ?_) | (with_reducible refine hp_plus ?_) | (with_reducible refine hh_eq (by first | assumption | (simp only [size_holds]; assumption))) | (with_reducible refine hh_ne (by omega) ?_))) hb
  have Ht' : Aside (u61.heap[w.heap.size + 1 + 1]? = some (.cells #[.int .i64 at'] 3 (0, 0))) := heap_later (by repeat (first | exact Hc.out | exact Hi.out | exact Ht.out | exact Hr.out | exact hp_new (by first | rfl | (simp [size_plus, size_holds]; done) | (simp [size_plus, size_holds]; omega)) | (with_reducible refine hp_old ?_) | (with_reducible refine hp_plus ?_) | (with_reducible refine hh_eq (by first | assumption | (simp only [size_holds]; assumption))) | (with_reducible refine hh_ne (by omega) ?_))) hb
  have Hr' : Aside (u61.heap[w.heap.size + 1 + 1 + 1]? = some (.cells #[.int .i64 0, .slice none 0 0, .slice none 0 0] 25 (0, 0))) := heap_later (by repeat (first | exact Hc.out | exact Hi.out | exact Ht.out | exact Hr.out | exact hp_new (by first | rfl | (simp [size_plus, size_holds]; done) | (simp [size_plus, size_holds]; omega)) | (with_reducible refine hp_old ?_) | (with_reducible refine hp_plus ?_) | (with_reducible refine hh_eq (by first | assumption | (simp only [size_holds]; assumption))) | (with_reducible refine hh_ne (by omega) ?_))) hb
  have HB' : Aside (Below w.heap.size w u61) := below_step (by
    have hHB := HB.out
    repeat (first | (with_reducible exact Below.refl _ _) | (with_reducible assumption) | (with_reducible refine below_to_plus ?_ ?_ _) | (with_reducible refine below_holds ?_ ?_ _ _) | (with_reducible refine Below.alloc ?_ ?_ _) | (with_reducible refine Below.drew ?_) | (with_reducible refine below_drewN ?_ _) | (with_reducible refine Below.setCell ?_ ?_ _))
    all_goals first | omega | (simp; done) | (simp [go_sem]; done) | (simp [go_sem]; omega)) hb
  clear Hc Hi Ht Hr HB hb cx bc0 bc1 bc2 bi0 bt0 ltc lti ltt
  have Hc := Hc'
  clear Hc'
  have Hi := Hi'
  clear Hi'
  have Ht := Ht'
  clear Ht'
  have Hr := Hr'
  clear Hr'
  have HB := HB'
  clear HB'
  have bc0 := cell_heap Hc.out 0 _ rfl
  have bc1 := cell_heap Hc.out 1 _ rfl
  have bc2 := cell_heap Hc.out 2 _ rfl
  have ltc : w.heap.size < u61.heap.size := (Array.getElem?_eq_some_iff.1 Hc.out).1
  go_wp2_with fail
  refine (copied_calls cp ao bl.length c1 ao2 hs.length c2 bl hs _ (S1.out.stays (by
    have hHB := HB.out
    repeat (first | (with_reducible exact Below.refl _ _) | (with_reducible assumption) | (with_reducible refine below_to_plus ?_ ?_ _) | (with_reducible refine below_holds ?_ ?_ _ _) | (with_reducible refine Below.alloc ?_ ?_ _) | (with_reducible refine Below.drew ?_) | (with_reducible refine below_drewN ?_ _) | (with_reducible refine Below.setCell ?_ ?_ _))
    all_goals first | omega | (simp; done) | (simp [go_sem]; done) | (simp [go_sem]; omega))) (S2.out.stays (by
    have hHB := HB.out
    repeat (first | (with_reducible exact Below.refl _ _) | (with_reducible assumption) | (with_reducible refine below_to_plus ?_ ?_ _) | (with_reducible refine below_holds ?_ ?_ _ _) | (with_reducible refine Below.alloc ?_ ?_ _) | (with_reducible refine Below.drew ?_) | (with_reducible refine below_drewN ?_ _) | (with_reducible refine Below.setCell ?_ ?_ _))
    all_goals first | omega | (simp; done) | (simp [go_sem]; done) | (simp [go_sem]; omega))) hn hn2).mono ?_
  rintro e u62 ⟨a1, k1, a2, k2, rfl, o1, o2, hb⟩
  have Hr' : Aside (u62.heap[w.heap.size + 1 + 1 + 1]? = some (.cells #[.int .i64 0, .slice none 0 0, .slice none 0 0] 25 (0, 0))) := heap_later (by repeat (first | exact Hc.out | exact Hi.out | exact Ht.out | exact Hr.out | exact hp_new (by first | rfl | (simp [size_plus, size_holds]; done) | (simp [size_plus, size_holds]; omega)) | (with_reducible refine hp_old ?_) | (with_reducible refine hp_plus ?_) | (with_reducible refine hh_eq (by first | assumption | (simp only [size_holds]; assumption))) | (with_reducible refine hh_ne (by omega) ?_))) hb
  have Rbl' : Aside (u62.ownsRow w.heap.size 47 4 (.slice a1 bl.length k1) bl.length (flatE Pc.enc bl)) := own_lower o1 HB.out.size
  have Rhs' : Aside (u62.ownsRow w.heap.size 36 3 (.slice a2 hs.length k2) hs.length (flatE Hd.enc hs)) := own_lower o2 HB.out.size
  have HB' : Aside (Below w.heap.size w u62) := below_step (by
    have hHB := HB.out
    repeat (first | (with_reducible exact Below.refl _ _) | (with_reducible assumption) | (with_reducible refine below_to_plus ?_ ?_ _) | (with_reducible refine below_holds ?_ ?_ _ _) | (with_reducible refine Below.alloc ?_ ?_ _) | (with_reducible refine Below.drew ?_) | (with_reducible refine below_drewN ?_ _) | (with_reducible refine Below.setCell ?_ ?_ _))
    all_goals first | omega | (simp; done) | (simp [go_sem]; done) | (simp [go_sem]; omega)) hb
  clear Hc Hi Ht Hr HB hb o1 o2 bc0 bc1 bc2 ltc
  have Hr := Hr'
  clear Hr'
  have Rbl := Rbl'
  clear Rbl'
  have Rhs := Rhs'
  clear Rhs'
  have HB := HB'
  clear HB'
  have ltr : w.heap.size + 1 + 1 + 1 < u62.heap.size := (Array.getElem?_eq_some_iff.1 Hr.out).1
  have nblr : (.slice a1 bl.length k1 : Value).ownBlock ≠ some (w.heap.size + 1 + 1 + 1) := own_ne Rbl.out Hr.out (by decide)
  have nhsr : (.slice a2 hs.length k2 : Value).ownBlock ≠ some (w.heap.size + 1 + 1 + 1) := own_ne Rhs.out Hr.out (by decide)
  rw [holds_self Hr.out]
  go_wp2
  refine bodyPost_ret (v := .tuple #[.agg #[.int .i64 cp, .slice a1 bl.length k1, .slice a2 hs.length k2], .string ⟨#[]⟩, .bool false]) (by simp [results, Try.results17, go_sem, ↓IntWalk.iteOmega, *]) rfl ⟨_, _, _, _, rfl, own_slP (B := w.heap.size) (by repeat (first | exact Rbl.out | (with_reducible refine own_alloc ?_) | (with_reducible refine own_plus ?_) | (with_reducible refine own_holds ?_ ?_) | assumption)), own_slH (B := w.heap.size) (by repeat (first | exact Rhs.out | (with_reducible refine own_alloc ?_) | (with_reducible refine own_plus ?_) | (with_reducible refine own_holds ?_ ?_) | assumption)), (by
    have hHB := HB.out
    repeat (first | (with_reducible exact Below.refl _ _) | (with_reducible assumption) | (with_reducible refine below_to_plus ?_ ?_ _) | (with_reducible refine below_holds ?_ ?_ _ _) | (with_reducible refine Below.alloc ?_ ?_ _) | (with_reducible refine Below.drew ?_) | (with_reducible refine below_drewN ?_ _) | (with_reducible refine Below.setCell ?_ ?_ _))
    all_goals first | omega | (simp; done) | (simp [go_sem]; done) | (simp [go_sem]; omega))⟩

set_option maxHeartbeats 16000000 in
theorem get_none_f (cp : Int) (ao : Option Addr) (n c1 : Nat) (ao2 : Option Addr) (n2 c2 : Nat) (bl : List Pc) (hs : List Hd) (id at' cnt now : Int) (w : World) (h1 : Sl w 4 ao n c1 (bl.map Pc.enc)) (h2 : Sl w 3 ao2 n2 c2 (hs.map Hd.enc)) (hn : n ≤ 1000000) (hn2 : n2 ≤ 1000000) (ha : AscH hs) (hh : heldB id now hs = true) (h0 : 0 ≤ at') (hc : 0 ≤ cnt) {k : Nat} (hk : k < bl.length) (he : endI id bl = (k : Int)) (hp : at' < bl[k]!.pos) (ok : ∀ y ∈ bl, OkP y) (hv : covI id at' bl = -1) :
    Calls Try.prog 17 #[.agg #[.int .i64 cp, .slice ao n c1, .slice ao2 n2 c2], .int .i64 id, .int .i64 at', .int .i64 cnt, .int .i64 now] w fun e w' => GetPost w cp hs (bl, ⟨#[]⟩, false) e w' := by
  have hln : bl.length = n := Sl.lenE h1
  have hln2 : hs.length = n2 := Sl.lenE h2
  subst hln
  subst hln2
  have S1 : Aside (Sl w 4 ao bl.length c1 (bl.map Pc.enc)) := h1
  have S2 : Aside (Sl w 3 ao2 hs.length c2 (hs.map Hd.enc)) := h2
  have hb0 : Below w.heap.size w ((((w.alloc (.cells #[.int .i64 cp, .slice ao bl.length c1, .slice ao2 hs.length c2] 25)).alloc (.cells #[.int .i64 id] 3)).alloc (.cells #[.int .i64 at'] 3)).alloc (.cells #[.int .i64 0, .slice none 0 0, .slice none 0 0] 25)) := by
    repeat (first | (with_reducible exact Below.refl _ _) | (with_reducible assumption) | (with_reducible refine below_to_plus ?_ ?_ _) | (with_reducible refine below_holds ?_ ?_ _ _) | (with_reducible refine Below.alloc ?_ ?_ _) | (with_reducible refine Below.drew ?_) | (with_reducible refine below_drewN ?_ _) | (with_reducible refine Below.setCell ?_ ?_ _))
    all_goals first | omega | (simp; done) | (simp [go_sem]; done) | (simp [go_sem]; omega)
  have HB : Aside (Below w.heap.size w ((((w.alloc (.cells #[.int .i64 cp, .slice ao bl.length c1, .slice ao2 hs.length c2] 25)).alloc (.cells #[.int .i64 id] 3)).alloc (.cells #[.int .i64 at'] 3)).alloc (.cells #[.int .i64 0, .slice none 0 0, .slice none 0 0] 25))) := hb0
  have Hc : Aside (((((w.alloc (.cells #[.int .i64 cp, .slice ao bl.length c1, .slice ao2 hs.length c2] 25)).alloc (.cells #[.int .i64 id] 3)).alloc (.cells #[.int .i64 at'] 3)).alloc (.cells #[.int .i64 0, .slice none 0 0, .slice none 0 0] 25)).heap[w.heap.size]? = some (.cells #[.int .i64 cp, .slice ao bl.length c1, .slice ao2 hs.length c2] 25 (0, 0))) := by repeat (first | exact hp_new (by first | rfl | (simp; done) | (simp; omega)) | refine hp_old ?_)
  have Hi : Aside (((((w.alloc (.cells #[.int .i64 cp, .slice ao bl.length c1, .slice ao2 hs.length c2] 25)).alloc (.cells #[.int .i64 id] 3)).alloc (.cells #[.int .i64 at'] 3)).alloc (.cells #[.int .i64 0, .slice none 0 0, .slice none 0 0] 25)).heap[w.heap.size + 1]? = some (.cells #[.int .i64 id] 3 (0, 0))) := by repeat (first | exact hp_new (by first | rfl | (simp; done) | (simp; omega)) | refine hp_old ?_)
  have Ht : Aside (((((w.alloc (.cells #[.int .i64 cp, .slice ao bl.length c1, .slice ao2 hs.length c2] 25)).alloc (.cells #[.int .i64 id] 3)).alloc (.cells #[.int .i64 at'] 3)).alloc (.cells #[.int .i64 0, .slice none 0 0, .slice none 0 0] 25)).heap[w.heap.size + 1 + 1]? = some (.cells #[.int .i64 at'] 3 (0, 0))) := by repeat (first | exact hp_new (by first | rfl | (simp; done) | (simp; omega)) | refine hp_old ?_)
  have Hr : Aside (((((w.alloc (.cells #[.int .i64 cp, .slice ao bl.length c1, .slice ao2 hs.length c2] 25)).alloc (.cells #[.int .i64 id] 3)).alloc (.cells #[.int .i64 at'] 3)).alloc (.cells #[.int .i64 0, .slice none 0 0, .slice none 0 0] 25)).heap[w.heap.size + 1 + 1 + 1]? = some (.cells #[.int .i64 0, .slice none 0 0, .slice none 0 0] 25 (0, 0))) := by repeat (first | exact hp_new (by first | rfl | (simp; done) | (simp; omega)) | refine hp_old ?_)
  have ck := held_calls cp ao bl.length c1 ao2 hs.length c2 hs id now ((((w.alloc (.cells #[.int .i64 cp, .slice ao bl.length c1, .slice ao2 hs.length c2] 25)).alloc (.cells #[.int .i64 id] 3)).alloc (.cells #[.int .i64 at'] 3)).alloc (.cells #[.int .i64 0, .slice none 0 0, .slice none 0 0] 25)) (h2.stays hb0) hn2 ha
  rw [hh] at ck
  have ce := fun U hU => end_calls cp ao bl.length c1 ao2 hs.length c2 bl id U (S1.out.stays hU)
  rw [he] at ce
  have x0 : ¬ at' < 0 := by omega
  have xc : ¬ cnt < 0 := by omega
  have hbig : bl.length ≤ 9223372036854775807 := by omega
  obtain ⟨b, off, eao, hbw, e0, e1, e2, e3⟩ := (cellsPc h1) k hk
  subst eao
  have hkz : (k : Int) < (bl.length : Int) := by omega
  have hpn : ¬ bl[k]!.pos ≤ at' := by omega
  have hpd : decide (bl[k]!.pos ≤ at') = false := decide_eq_false hpn
  have eg : ∀ args w, (callFunc 36 args).run Try.prog w = .ok (.enter 36 args) w := enters_of Try.func36 (by kernel_rfl) rfl
  have cx : ∀ U, Below w.heap.size w U → U.heap[w.heap.size + 1]? = some (.cells #[.int .i64 id] 3 (0, 0)) → U.heap[w.heap.size + 1 + 1]? = some (.cells #[.int .i64 at'] 3 (0, 0)) → Calls Try.prog 35 #[.slice (some ⟨b, off, none⟩) bl.length c1, .func (.func 36) #[] #[.pointer (some ⟨w.heap.size + 1, 0, none⟩), .pointer (some ⟨w.heap.size + 1 + 1, 0, none⟩)]] U fun e w' => e = .returned (.int .i64 (covI id at' bl)) ∧ Below U.heap.size U w' := fun U hU hi ht => by
    have := pcIndexFunc_calls (isC id at') 36 _ eg _ _ _ bl U (S1.out.stays hU) (pred_get id at' bl ok (w.heap.size + 1) (w.heap.size + 1 + 1) U (Array.getElem?_eq_some_iff.1 hi).1 (cell_heap hi 0 _ rfl) (Array.getElem?_eq_some_iff.1 ht).1 (cell_heap ht 0 _ rfl))
    rw [idx_fst] at this
    exact this
  rw [hv] at cx
  clear hh he ok hv h1 h2
  clear hp
  generalize bl[k]! = z at e0 e1 e2 e3 hpd hpn
  obtain ⟨z1, z2, z3, z4⟩ := z
  simp only [] at e0 e1 e2 e3 hpd hpn
  go_enter Try.func17, Try.ntmps17
  go_wp2_with fail
  refine (ck).mono ?_
  rintro e u63 ⟨rfl, hb⟩
  have Hc' : Aside (u63.heap[w.heap.size]? = some (.cells #[.int .i64 cp, .slice (some ⟨b, off, none⟩) bl.length c1, .slice ao2 hs.length c2] 25 (0, 0))) := heap_later (by repeat (first | exact Hc.out | exact Hi.out | exact Ht.out | exact Hr.out | exact hp_new (by first | rfl | (simp [size_plus, size_holds]; done) | (simp [size_plus, size_holds]; omega)) | (with_reducible refine hp_old ?_) | (with_reducible refine hp_plus ?_) | (with_reducible refine hh_eq (by first | assumption | (simp only [size_holds]; assumption))) | (with_reducible refine hh_ne (by omega) ?_))) hb
  have Hi' : Aside (u63.heap[w.heap.size + 1]? = some (.cells #[.int .i64 id] 3 (0, 0))) := heap_later (by repeat (first | exact Hc.out | exact Hi.out | exact Ht.out | exact Hr.out | exact hp_new (by first | rfl | (simp [size_plus, size_holds]; done) | (simp [size_plus, size_holds]; omega)) | (with_reducible refine hp_old ?_) | (with_reducible refine hp_plus ?_) | (with_reducible refine hh_eq (by first | assumption | (simp only [size_holds]; assumption))) | (with_reducible refine hh_ne (by omega) ?_))) hb
  have Ht' : Aside (u63.heap[w.heap.size + 1 + 1]? = some (.cells #[.int .i64 at'] 3 (0, 0))) := heap_later (by repeat (first | exact Hc.out | exact Hi.out | exact Ht.out | exact Hr.out | exact hp_new (by first | rfl | (simp [size_plus, size_holds]; done) | (simp [size_plus, size_holds]; omega)) | (with_reducible refine hp_old ?_) | (with_reducible refine hp_plus ?_) | (with_reducible refine hh_eq (by first | assumption | (simp only [size_holds]; assumption))) | (with_reducible refine hh_ne (by omega) ?_))) hb
  have Hr' : Aside (u63.heap[w.heap.size + 1 + 1 + 1]? = some (.cells #[.int .i64 0, .slice none 0 0, .slice none 0 0] 25 (0, 0))) := heap_later (by repeat (first | exact Hc.out | exact Hi.out | exact Ht.out | exact Hr.out | exact hp_new (by first | rfl | (simp [size_plus, size_holds]; done) | (simp [size_plus, size_holds]; omega)) | (with_reducible refine hp_old ?_) | (with_reducible refine hp_plus ?_) | (with_reducible refine hh_eq (by first | assumption | (simp only [size_holds]; assumption))) | (with_reducible refine hh_ne (by omega) ?_))) hb
  have HB' : Aside (Below w.heap.size w u63) := below_step (by
    have hHB := HB.out
    repeat (first | (with_reducible exact Below.refl _ _) | (with_reducible assumption) | (with_reducible refine below_to_plus ?_ ?_ _) | (with_reducible refine below_holds ?_ ?_ _ _) | (with_reducible refine Below.alloc ?_ ?_ _) | (with_reducible refine Below.drew ?_) | (with_reducible refine below_drewN ?_ _) | (with_reducible refine Below.setCell ?_ ?_ _))
    all_goals first | omega | (simp; done) | (simp [go_sem]; done) | (simp [go_sem]; omega)) hb
  clear Hc Hi Ht Hr HB hb ck hb0
  have Hc := Hc'
  clear Hc'
  have Hi := Hi'
  clear Hi'
  have Ht := Ht'
  clear Ht'
  have Hr := Hr'
  clear Hr'
  have HB := HB'
  clear HB'
  have bc0 := cell_heap Hc.out 0 _ rfl
  have bc1 := cell_heap Hc.out 1 _ rfl
  have bc2 := cell_heap Hc.out 2 _ rfl
  have ltc : w.heap.size < u63.heap.size := (Array.getElem?_eq_some_iff.1 Hc.out).1
  have bi0 := cell_heap Hi.out 0 _ rfl
  have lti : w.heap.size + 1 < u63.heap.size := (Array.getElem?_eq_some_iff.1 Hi.out).1
  have bt0 := cell_heap Ht.out 0 _ rfl
  have ltt : w.heap.size + 1 + 1 < u63.heap.size := (Array.getElem?_eq_some_iff.1 Ht.out).1
  go_wp2_with fail
  refine (ce _ HB.out).mono ?_
  rintro e u64 ⟨rfl, hb⟩
  have Hc' : Aside (u64.heap[w.heap.size]? = some (.cells #[.int .i64 cp, .slice (some ⟨b, off, none⟩) bl.length c1, .slice ao2 hs.length c2] 25 (0, 0))) := heap_later (by repeat (first | exact Hc.out | exact Hi.out | exact Ht.out | exact Hr.out | exact hp_new (by first | rfl | (simp [size_plus, size_holds]; done) | (simp [size_plus, size_holds]; omega)) | (with_reducible refine hp_old ?_) | (with_reducible refine hp_plus ?_) | (with_reducible refine hh_eq (by first | assumption | (simp only [size_holds]; assumption))) | (with_reducible refine hh_ne (by omega) ?_))) hb
  have Hi' : Aside (u64.heap[w.heap.size + 1]? = some (.cells #[.int .i64 id] 3 (0, 0))) := heap_later (by repeat (first | exact Hc.out | exact Hi.out | exact Ht.out | exact Hr.out | exact hp_new (by first | rfl | (simp [size_plus, size_holds]; done) | (simp [size_plus, size_holds]; omega)) | (with_reducible refine hp_old ?_) | (with_reducible refine hp_plus ?_) | (with_reducible refine hh_eq (by first | assumption | (simp only [size_holds]; assumption))) | (with_reducible refine hh_ne (by omega) ?_))) hb
  have Ht' : Aside (u64.heap[w.heap.size + 1 + 1]? = some (.cells #[.int .i64 at'] 3 (0, 0))) := heap_later (by repeat (first | exact Hc.out | exact Hi.out | exact Ht.out | exact Hr.out | exact hp_new (by first | rfl | (simp [size_plus, size_holds]; done) | (simp [size_plus, size_holds]; omega)) | (with_reducible refine hp_old ?_) | (with_reducible refine hp_plus ?_) | (with_reducible refine hh_eq (by first | assumption | (simp only [size_holds]; assumption))) | (with_reducible refine hh_ne (by omega) ?_))) hb
  have Hr' : Aside (u64.heap[w.heap.size + 1 + 1 + 1]? = some (.cells #[.int .i64 0, .slice none 0 0, .slice none 0 0] 25 (0, 0))) := heap_later (by repeat (first | exact Hc.out | exact Hi.out | exact Ht.out | exact Hr.out | exact hp_new (by first | rfl | (simp [size_plus, size_holds]; done) | (simp [size_plus, size_holds]; omega)) | (with_reducible refine hp_old ?_) | (with_reducible refine hp_plus ?_) | (with_reducible refine hh_eq (by first | assumption | (simp only [size_holds]; assumption))) | (with_reducible refine hh_ne (by omega) ?_))) hb
  have HB' : Aside (Below w.heap.size w u64) := below_step (by
    have hHB := HB.out
    repeat (first | (with_reducible exact Below.refl _ _) | (with_reducible assumption) | (with_reducible refine below_to_plus ?_ ?_ _) | (with_reducible refine below_holds ?_ ?_ _ _) | (with_reducible refine Below.alloc ?_ ?_ _) | (with_reducible refine Below.drew ?_) | (with_reducible refine below_drewN ?_ _) | (with_reducible refine Below.setCell ?_ ?_ _))
    all_goals first | omega | (simp; done) | (simp [go_sem]; done) | (simp [go_sem]; omega)) hb
  clear Hc Hi Ht Hr HB hb ce bc0 bc1 bc2 bi0 bt0 ltc lti ltt
  have Hc := Hc'
  clear Hc'
  have Hi := Hi'
  clear Hi'
  have Ht := Ht'
  clear Ht'
  have Hr := Hr'
  clear Hr'
  have HB := HB'
  clear HB'
  have bc0 := cell_heap Hc.out 0 _ rfl
  have bc1 := cell_heap Hc.out 1 _ rfl
  have bc2 := cell_heap Hc.out 2 _ rfl
  have ltc : w.heap.size < u64.heap.size := (Array.getElem?_eq_some_iff.1 Hc.out).1
  have bi0 := cell_heap Hi.out 0 _ rfl
  have lti : w.heap.size + 1 < u64.heap.size := (Array.getElem?_eq_some_iff.1 Hi.out).1
  have bt0 := cell_heap Ht.out 0 _ rfl
  have ltt : w.heap.size + 1 + 1 < u64.heap.size := (Array.getElem?_eq_some_iff.1 Ht.out).1
  have m0 := (HB.out.cell (p := ⟨b, off + k * 4, none⟩) hbw).trans e0
  have m1 := (HB.out.cell (p := ⟨b, off + k * 4 + 1, none⟩) hbw).trans e1
  have m2 := (HB.out.cell (p := ⟨b, off + k * 4 + 2, none⟩) hbw).trans e2
  have m3 := (HB.out.cell (p := ⟨b, off + k * 4 + 3, none⟩) hbw).trans e3
  have hbr : b < u64.heap.size := Nat.lt_of_lt_of_le hbw HB.out.size
  go_wp2
  refine wp_region_plus (by kernel_rfl) (by kernel_rfl) ?_
  repeat (go_big_quiet_step (fail))
  refine wpQuiet_nil ?_
  rintro _ ⟨x1, rfl⟩
  go_wp2_with fail
  refine (cx _ (by
    have hHB := HB.out
    repeat (first | (with_reducible exact Below.refl _ _) | (with_reducible assumption) | (with_reducible refine below_to_plus ?_ ?_ _) | (with_reducible refine below_holds ?_ ?_ _ _) | (with_reducible refine Below.alloc ?_ ?_ _) | (with_reducible refine Below.drew ?_) | (with_reducible refine below_drewN ?_ _) | (with_reducible refine Below.setCell ?_ ?_ _))
    all_goals first | omega | (simp; done) | (simp [go_sem]; done) | (simp [go_sem]; omega)) (by repeat (first | exact Hc.out | exact Hi.out | exact Ht.out | exact Hr.out | exact hp_new (by first | rfl | (simp [size_plus, size_holds]; done) | (simp [size_plus, size_holds]; omega)) | (with_reducible refine hp_old ?_) | (with_reducible refine hp_plus ?_) | (with_reducible refine hh_eq (by first | assumption | (simp only [size_holds]; assumption))) | (with_reducible refine hh_ne (by omega) ?_))) (by repeat (first | exact Hc.out | exact Hi.out | exact Ht.out | exact Hr.out | exact hp_new (by first | rfl | (simp [size_plus, size_holds]; done) | (simp [size_plus, size_holds]; omega)) | (with_reducible refine hp_old ?_) | (with_reducible refine hp_plus ?_) | (with_reducible refine hh_eq (by first | assumption | (simp only [size_holds]; assumption))) | (with_reducible refine hh_ne (by omega) ?_)))).mono ?_
  rintro e u65 ⟨rfl, hb⟩
  have Hc' : Aside (u65.heap[w.heap.size]? = some (.cells #[.int .i64 cp, .slice (some ⟨b, off, none⟩) bl.length c1, .slice ao2 hs.length c2] 25 (0, 0))) := heap_later (by repeat (first | exact Hc.out | exact Hi.out | exact Ht.out | exact Hr.out | exact hp_new (by first | rfl | (simp [size_plus, size_holds]; done) | (simp [size_plus, size_holds]; omega)) | (with_reducible refine hp_old ?_) | (with_reducible refine hp_plus ?_) | (with_reducible refine hh_eq (by first | assumption | (simp only [size_holds]; assumption))) | (with_reducible refine hh_ne (by omega) ?_))) hb
  have Hi' : Aside (u65.heap[w.heap.size + 1]? = some (.cells #[.int .i64 id] 3 (0, 0))) := heap_later (by repeat (first | exact Hc.out | exact Hi.out | exact Ht.out | exact Hr.out | exact hp_new (by first | rfl | (simp [size_plus, size_holds]; done) | (simp [size_plus, size_holds]; omega)) | (with_reducible refine hp_old ?_) | (with_reducible refine hp_plus ?_) | (with_reducible refine hh_eq (by first | assumption | (simp only [size_holds]; assumption))) | (with_reducible refine hh_ne (by omega) ?_))) hb
  have Ht' : Aside (u65.heap[w.heap.size + 1 + 1]? = some (.cells #[.int .i64 at'] 3 (0, 0))) := heap_later (by repeat (first | exact Hc.out | exact Hi.out | exact Ht.out | exact Hr.out | exact hp_new (by first | rfl | (simp [size_plus, size_holds]; done) | (simp [size_plus, size_holds]; omega)) | (with_reducible refine hp_old ?_) | (with_reducible refine hp_plus ?_) | (with_reducible refine hh_eq (by first | assumption | (simp only [size_holds]; assumption))) | (with_reducible refine hh_ne (by omega) ?_))) hb
  have Hr' : Aside (u65.heap[w.heap.size + 1 + 1 + 1]? = some (.cells #[.int .i64 0, .slice none 0 0, .slice none 0 0] 25 (0, 0))) := heap_later (by repeat (first | exact Hc.out | exact Hi.out | exact Ht.out | exact Hr.out | exact hp_new (by first | rfl | (simp [size_plus, size_holds]; done) | (simp [size_plus, size_holds]; omega)) | (with_reducible refine hp_old ?_) | (with_reducible refine hp_plus ?_) | (with_reducible refine hh_eq (by first | assumption | (simp only [size_holds]; assumption))) | (with_reducible refine hh_ne (by omega) ?_))) hb
  have HB' : Aside (Below w.heap.size w u65) := below_step (by
    have hHB := HB.out
    repeat (first | (with_reducible exact Below.refl _ _) | (with_reducible assumption) | (with_reducible refine below_to_plus ?_ ?_ _) | (with_reducible refine below_holds ?_ ?_ _ _) | (with_reducible refine Below.alloc ?_ ?_ _) | (with_reducible refine Below.drew ?_) | (with_reducible refine below_drewN ?_ _) | (with_reducible refine Below.setCell ?_ ?_ _))
    all_goals first | omega | (simp; done) | (simp [go_sem]; done) | (simp [go_sem]; omega)) hb
  clear Hc Hi Ht Hr HB hb cx bc0 bc1 bc2 bi0 bt0 ltc lti ltt m0 m1 m2 m3 hbr
  have Hc := Hc'
  clear Hc'
  have Hi := Hi'
  clear Hi'
  have Ht := Ht'
  clear Ht'
  have Hr := Hr'
  clear Hr'
  have HB := HB'
  clear HB'
  have bc0 := cell_heap Hc.out 0 _ rfl
  have bc1 := cell_heap Hc.out 1 _ rfl
  have bc2 := cell_heap Hc.out 2 _ rfl
  have ltc : w.heap.size < u65.heap.size := (Array.getElem?_eq_some_iff.1 Hc.out).1
  go_wp2_with fail
  refine (copied_calls cp (some ⟨b, off, none⟩) bl.length c1 ao2 hs.length c2 bl hs _ (S1.out.stays (by
    have hHB := HB.out
    repeat (first | (with_reducible exact Below.refl _ _) | (with_reducible assumption) | (with_reducible refine below_to_plus ?_ ?_ _) | (with_reducible refine below_holds ?_ ?_ _ _) | (with_reducible refine Below.alloc ?_ ?_ _) | (with_reducible refine Below.drew ?_) | (with_reducible refine below_drewN ?_ _) | (with_reducible refine Below.setCell ?_ ?_ _))
    all_goals first | omega | (simp; done) | (simp [go_sem]; done) | (simp [go_sem]; omega))) (S2.out.stays (by
    have hHB := HB.out
    repeat (first | (with_reducible exact Below.refl _ _) | (with_reducible assumption) | (with_reducible refine below_to_plus ?_ ?_ _) | (with_reducible refine below_holds ?_ ?_ _ _) | (with_reducible refine Below.alloc ?_ ?_ _) | (with_reducible refine Below.drew ?_) | (with_reducible refine below_drewN ?_ _) | (with_reducible refine Below.setCell ?_ ?_ _))
    all_goals first | omega | (simp; done) | (simp [go_sem]; done) | (simp [go_sem]; omega))) hn hn2).mono ?_
  rintro e u66 ⟨a1, k1, a2, k2, rfl, o1, o2, hb⟩
  have Hr' : Aside (u66.heap[w.heap.size + 1 + 1 + 1]? = some (.cells #[.int .i64 0, .slice none 0 0, .slice none 0 0] 25 (0, 0))) := heap_later (by repeat (first | exact Hc.out | exact Hi.out | exact Ht.out | exact Hr.out | exact hp_new (by first | rfl | (simp [size_plus, size_holds]; done) | (simp [size_plus, size_holds]; omega)) | (with_reducible refine hp_old ?_) | (with_reducible refine hp_plus ?_) | (with_reducible refine hh_eq (by first | assumption | (simp only [size_holds]; assumption))) | (with_reducible refine hh_ne (by omega) ?_))) hb
  have Rbl' : Aside (u66.ownsRow w.heap.size 47 4 (.slice a1 bl.length k1) bl.length (flatE Pc.enc bl)) := own_lower o1 HB.out.size
  have Rhs' : Aside (u66.ownsRow w.heap.size 36 3 (.slice a2 hs.length k2) hs.length (flatE Hd.enc hs)) := own_lower o2 HB.out.size
  have HB' : Aside (Below w.heap.size w u66) := below_step (by
    have hHB := HB.out
    repeat (first | (with_reducible exact Below.refl _ _) | (with_reducible assumption) | (with_reducible refine below_to_plus ?_ ?_ _) | (with_reducible refine below_holds ?_ ?_ _ _) | (with_reducible refine Below.alloc ?_ ?_ _) | (with_reducible refine Below.drew ?_) | (with_reducible refine below_drewN ?_ _) | (with_reducible refine Below.setCell ?_ ?_ _))
    all_goals first | omega | (simp; done) | (simp [go_sem]; done) | (simp [go_sem]; omega)) hb
  clear Hc Hi Ht Hr HB hb o1 o2 bc0 bc1 bc2 ltc
  have Hr := Hr'
  clear Hr'
  have Rbl := Rbl'
  clear Rbl'
  have Rhs := Rhs'
  clear Rhs'
  have HB := HB'
  clear HB'
  have ltr : w.heap.size + 1 + 1 + 1 < u66.heap.size := (Array.getElem?_eq_some_iff.1 Hr.out).1
  have nblr : (.slice a1 bl.length k1 : Value).ownBlock ≠ some (w.heap.size + 1 + 1 + 1) := own_ne Rbl.out Hr.out (by decide)
  have nhsr : (.slice a2 hs.length k2 : Value).ownBlock ≠ some (w.heap.size + 1 + 1 + 1) := own_ne Rhs.out Hr.out (by decide)
  rw [holds_self Hr.out]
  go_wp2
  refine bodyPost_ret (v := .tuple #[.agg #[.int .i64 cp, .slice a1 bl.length k1, .slice a2 hs.length k2], .string ⟨#[]⟩, .bool false]) (by simp [results, Try.results17, go_sem, ↓IntWalk.iteOmega, *]) rfl ⟨_, _, _, _, rfl, own_slP (B := w.heap.size) (by repeat (first | exact Rbl.out | (with_reducible refine own_alloc ?_) | (with_reducible refine own_plus ?_) | (with_reducible refine own_holds ?_ ?_) | assumption)), own_slH (B := w.heap.size) (by repeat (first | exact Rhs.out | (with_reducible refine own_alloc ?_) | (with_reducible refine own_plus ?_) | (with_reducible refine own_holds ?_ ?_) | assumption)), (by
    have hHB := HB.out
    repeat (first | (with_reducible exact Below.refl _ _) | (with_reducible assumption) | (with_reducible refine below_to_plus ?_ ?_ _) | (with_reducible refine below_holds ?_ ?_ _ _) | (with_reducible refine Below.alloc ?_ ?_ _) | (with_reducible refine Below.drew ?_) | (with_reducible refine below_drewN ?_ _) | (with_reducible refine Below.setCell ?_ ?_ _))
    all_goals first | omega | (simp; done) | (simp [go_sem]; done) | (simp [go_sem]; omega))⟩

set_option maxHeartbeats 16000000 in
theorem get_part_n (cp : Int) (ao : Option Addr) (n c1 : Nat) (ao2 : Option Addr) (n2 c2 : Nat) (bl : List Pc) (hs : List Hd) (id at' cnt now : Int) (w : World) (h1 : Sl w 4 ao n c1 (bl.map Pc.enc)) (h2 : Sl w 3 ao2 n2 c2 (hs.map Hd.enc)) (hn : n ≤ 1000000) (hn2 : n2 ≤ 1000000) (ha : AscH hs) (hh : heldB id now hs = true) (h0 : 0 ≤ at') (hc : 0 ≤ cnt) (he : endI id bl = -1) (ok : ∀ y ∈ bl, OkP y) {j : Nat} (hj : j < bl.length) (hv : covI id at' bl = (j : Int)) (hq1 : bl[j]!.pos ≤ at') (hq2 : at' < endP bl[j]!) (hcn : cnt ≤ ((bl[j]!.data.extract (at' - bl[j]!.pos).toNat bl[j]!.data.size).size : Int)) :
    Calls Try.prog 17 #[.agg #[.int .i64 cp, .slice ao n c1, .slice ao2 n2 c2], .int .i64 id, .int .i64 at', .int .i64 cnt, .int .i64 now] w fun e w' => GetPost w cp hs (useL j bl, (bl[j]!.data.extract (at' - bl[j]!.pos).toNat bl[j]!.data.size).extract 0 cnt.toNat, true) e w' := by
  have hln : bl.length = n := Sl.lenE h1
  have hln2 : hs.length = n2 := Sl.lenE h2
  subst hln
  subst hln2
  have S1 : Aside (Sl w 4 ao bl.length c1 (bl.map Pc.enc)) := h1
  have S2 : Aside (Sl w 3 ao2 hs.length c2 (hs.map Hd.enc)) := h2
  have hb0 : Below w.heap.size w ((((w.alloc (.cells #[.int .i64 cp, .slice ao bl.length c1, .slice ao2 hs.length c2] 25)).alloc (.cells #[.int .i64 id] 3)).alloc (.cells #[.int .i64 at'] 3)).alloc (.cells #[.int .i64 0, .slice none 0 0, .slice none 0 0] 25)) := by
    repeat (first | (with_reducible exact Below.refl _ _) | (with_reducible assumption) | (with_reducible refine below_to_plus ?_ ?_ _) | (with_reducible refine below_holds ?_ ?_ _ _) | (with_reducible refine Below.alloc ?_ ?_ _) | (with_reducible refine Below.drew ?_) | (with_reducible refine below_drewN ?_ _) | (with_reducible refine Below.setCell ?_ ?_ _))
    all_goals first | omega | (simp; done) | (simp [go_sem]; done) | (simp [go_sem]; omega)
  have HB : Aside (Below w.heap.size w ((((w.alloc (.cells #[.int .i64 cp, .slice ao bl.length c1, .slice ao2 hs.length c2] 25)).alloc (.cells #[.int .i64 id] 3)).alloc (.cells #[.int .i64 at'] 3)).alloc (.cells #[.int .i64 0, .slice none 0 0, .slice none 0 0] 25))) := hb0
  have Hc : Aside (((((w.alloc (.cells #[.int .i64 cp, .slice ao bl.length c1, .slice ao2 hs.length c2] 25)).alloc (.cells #[.int .i64 id] 3)).alloc (.cells #[.int .i64 at'] 3)).alloc (.cells #[.int .i64 0, .slice none 0 0, .slice none 0 0] 25)).heap[w.heap.size]? = some (.cells #[.int .i64 cp, .slice ao bl.length c1, .slice ao2 hs.length c2] 25 (0, 0))) := by repeat (first | exact hp_new (by first | rfl | (simp; done) | (simp; omega)) | refine hp_old ?_)
  have Hi : Aside (((((w.alloc (.cells #[.int .i64 cp, .slice ao bl.length c1, .slice ao2 hs.length c2] 25)).alloc (.cells #[.int .i64 id] 3)).alloc (.cells #[.int .i64 at'] 3)).alloc (.cells #[.int .i64 0, .slice none 0 0, .slice none 0 0] 25)).heap[w.heap.size + 1]? = some (.cells #[.int .i64 id] 3 (0, 0))) := by repeat (first | exact hp_new (by first | rfl | (simp; done) | (simp; omega)) | refine hp_old ?_)
  have Ht : Aside (((((w.alloc (.cells #[.int .i64 cp, .slice ao bl.length c1, .slice ao2 hs.length c2] 25)).alloc (.cells #[.int .i64 id] 3)).alloc (.cells #[.int .i64 at'] 3)).alloc (.cells #[.int .i64 0, .slice none 0 0, .slice none 0 0] 25)).heap[w.heap.size + 1 + 1]? = some (.cells #[.int .i64 at'] 3 (0, 0))) := by repeat (first | exact hp_new (by first | rfl | (simp; done) | (simp; omega)) | refine hp_old ?_)
  have Hr : Aside (((((w.alloc (.cells #[.int .i64 cp, .slice ao bl.length c1, .slice ao2 hs.length c2] 25)).alloc (.cells #[.int .i64 id] 3)).alloc (.cells #[.int .i64 at'] 3)).alloc (.cells #[.int .i64 0, .slice none 0 0, .slice none 0 0] 25)).heap[w.heap.size + 1 + 1 + 1]? = some (.cells #[.int .i64 0, .slice none 0 0, .slice none 0 0] 25 (0, 0))) := by repeat (first | exact hp_new (by first | rfl | (simp; done) | (simp; omega)) | refine hp_old ?_)
  have ck := held_calls cp ao bl.length c1 ao2 hs.length c2 hs id now ((((w.alloc (.cells #[.int .i64 cp, .slice ao bl.length c1, .slice ao2 hs.length c2] 25)).alloc (.cells #[.int .i64 id] 3)).alloc (.cells #[.int .i64 at'] 3)).alloc (.cells #[.int .i64 0, .slice none 0 0, .slice none 0 0] 25)) (h2.stays hb0) hn2 ha
  rw [hh] at ck
  have ce := fun U hU => end_calls cp ao bl.length c1 ao2 hs.length c2 bl id U (S1.out.stays hU)
  rw [he] at ce
  have x0 : ¬ at' < 0 := by omega
  have xc : ¬ cnt < 0 := by omega
  have hbig : bl.length ≤ 9223372036854775807 := by omega
  obtain ⟨b, off, eao, hbw, f0, f1, f2, f3⟩ := (cellsPc h1) j hj
  subst eao
  have eg : ∀ args w, (callFunc 36 args).run Try.prog w = .ok (.enter 36 args) w := enters_of Try.func36 (by kernel_rfl) rfl
  have cx : ∀ U, Below w.heap.size w U → U.heap[w.heap.size + 1]? = some (.cells #[.int .i64 id] 3 (0, 0)) → U.heap[w.heap.size + 1 + 1]? = some (.cells #[.int .i64 at'] 3 (0, 0)) → Calls Try.prog 35 #[.slice (some ⟨b, off, none⟩) bl.length c1, .func (.func 36) #[] #[.pointer (some ⟨w.heap.size + 1, 0, none⟩), .pointer (some ⟨w.heap.size + 1 + 1, 0, none⟩)]] U fun e w' => e = .returned (.int .i64 (covI id at' bl)) ∧ Below U.heap.size U w' := fun U hU hi ht => by
    have := pcIndexFunc_calls (isC id at') 36 _ eg _ _ _ bl U (S1.out.stays hU) (pred_get id at' bl ok (w.heap.size + 1) (w.heap.size + 1 + 1) U (Array.getElem?_eq_some_iff.1 hi).1 (cell_heap hi 0 _ rfl) (Array.getElem?_eq_some_iff.1 ht).1 (cell_heap ht 0 _ rfl))
    rw [idx_fst] at this
    exact this
  rw [hv] at cx
  have hjz : (j : Int) < (bl.length : Int) := by omega
  have oy := ok _ (by rw [getElem!_pos bl j hj]; exact List.getElem_mem _ : bl[j]! ∈ bl)
  have cu := fun U hU => use_calls cp (some ⟨b, off, none⟩) bl.length c1 ao2 hs.length c2 bl hs j U (S1.out.stays hU) (S2.out.stays hU) hn hn2 hj
  obtain ⟨ul, hul⟩ : ∃ ul, useL j bl = ul := ⟨_, rfl⟩
  rw [hul] at cu ⊢
  obtain ⟨rs, hrs⟩ : ∃ rs, (bl[j]!.data.extract (at' - bl[j]!.pos).toNat bl[j]!.data.size) = rs := ⟨_, rfl⟩
  have RS : Aside (_ = rs) := hrs
  rw [hrs] at hcn ⊢
  clear hul hrs
  clear hh he ok hv h1 h2
  generalize bl[j]! = y at f0 f1 f2 f3 hq1 hq2 oy RS
  obtain ⟨y1, y2, y3, y4⟩ := y
  simp only [] at f0 f1 f2 f3 hq1 oy
  have hq3 : at' < y3 + (y4.size : Int) := hq2
  have hsub : IntKind.i64.wrap (at' - y3) = at' - y3 := by
    have o1 := oy.1.1
    have o2 := oy.1.2
    have o3 := oy.2
    simp only [] at o1 o2 o3
    rw [IntKind.wrap_i64]; omega
  have x2 : ∀ U, (Instr.slice 9 (.string y4) (some (.int .i64 (at' - y3))) none none).run Try.prog U = .ok (.string (y4.extract (at' - y3).toNat y4.size)) U := fun U => by
    rw [run_slice_string_from_if (P := Try.prog) U 9 y4 .i64 (at' - y3) Try.underlying9, if_pos (by omega)]
  have RS2 : (y4.extract (at' - y3).toNat y4.size) = rs := RS.out
  rw [RS2] at x2
  clear RS RS2 oy
  have x3 : ∀ U, (Instr.slice 9 (.string rs) none (some (.int .i64 cnt)) none).run Try.prog U = .ok (.string (rs.extract 0 cnt.toNat)) U := fun U => by
    rw [run_slice_string_to_if (P := Try.prog) U 9 rs .i64 cnt Try.underlying9, if_pos (by omega)]
  go_enter Try.func17, Try.ntmps17
  go_wp2_with fail
  refine (ck).mono ?_
  rintro e u67 ⟨rfl, hb⟩
  have Hc' : Aside (u67.heap[w.heap.size]? = some (.cells #[.int .i64 cp, .slice (some ⟨b, off, none⟩) bl.length c1, .slice ao2 hs.length c2] 25 (0, 0))) := heap_later (by repeat (first | exact Hc.out | exact Hi.out | exact Ht.out | exact Hr.out | exact hp_new (by first | rfl | (simp [size_plus, size_holds]; done) | (simp [size_plus, size_holds]; omega)) | (with_reducible refine hp_old ?_) | (with_reducible refine hp_plus ?_) | (with_reducible refine hh_eq (by first | assumption | (simp only [size_holds]; assumption))) | (with_reducible refine hh_ne (by omega) ?_))) hb
  have Hi' : Aside (u67.heap[w.heap.size + 1]? = some (.cells #[.int .i64 id] 3 (0, 0))) := heap_later (by repeat (first | exact Hc.out | exact Hi.out | exact Ht.out | exact Hr.out | exact hp_new (by first | rfl | (simp [size_plus, size_holds]; done) | (simp [size_plus, size_holds]; omega)) | (with_reducible refine hp_old ?_) | (with_reducible refine hp_plus ?_) | (with_reducible refine hh_eq (by first | assumption | (simp only [size_holds]; assumption))) | (with_reducible refine hh_ne (by omega) ?_))) hb
  have Ht' : Aside (u67.heap[w.heap.size + 1 + 1]? = some (.cells #[.int .i64 at'] 3 (0, 0))) := heap_later (by repeat (first | exact Hc.out | exact Hi.out | exact Ht.out | exact Hr.out | exact hp_new (by first | rfl | (simp [size_plus, size_holds]; done) | (simp [size_plus, size_holds]; omega)) | (with_reducible refine hp_old ?_) | (with_reducible refine hp_plus ?_) | (with_reducible refine hh_eq (by first | assumption | (simp only [size_holds]; assumption))) | (with_reducible refine hh_ne (by omega) ?_))) hb
  have Hr' : Aside (u67.heap[w.heap.size + 1 + 1 + 1]? = some (.cells #[.int .i64 0, .slice none 0 0, .slice none 0 0] 25 (0, 0))) := heap_later (by repeat (first | exact Hc.out | exact Hi.out | exact Ht.out | exact Hr.out | exact hp_new (by first | rfl | (simp [size_plus, size_holds]; done) | (simp [size_plus, size_holds]; omega)) | (with_reducible refine hp_old ?_) | (with_reducible refine hp_plus ?_) | (with_reducible refine hh_eq (by first | assumption | (simp only [size_holds]; assumption))) | (with_reducible refine hh_ne (by omega) ?_))) hb
  have HB' : Aside (Below w.heap.size w u67) := below_step (by
    have hHB := HB.out
    repeat (first | (with_reducible exact Below.refl _ _) | (with_reducible assumption) | (with_reducible refine below_to_plus ?_ ?_ _) | (with_reducible refine below_holds ?_ ?_ _ _) | (with_reducible refine Below.alloc ?_ ?_ _) | (with_reducible refine Below.drew ?_) | (with_reducible refine below_drewN ?_ _) | (with_reducible refine Below.setCell ?_ ?_ _))
    all_goals first | omega | (simp; done) | (simp [go_sem]; done) | (simp [go_sem]; omega)) hb
  clear Hc Hi Ht Hr HB hb ck hb0
  have Hc := Hc'
  clear Hc'
  have Hi := Hi'
  clear Hi'
  have Ht := Ht'
  clear Ht'
  have Hr := Hr'
  clear Hr'
  have HB := HB'
  clear HB'
  have bc0 := cell_heap Hc.out 0 _ rfl
  have bc1 := cell_heap Hc.out 1 _ rfl
  have bc2 := cell_heap Hc.out 2 _ rfl
  have ltc : w.heap.size < u67.heap.size := (Array.getElem?_eq_some_iff.1 Hc.out).1
  have bi0 := cell_heap Hi.out 0 _ rfl
  have lti : w.heap.size + 1 < u67.heap.size := (Array.getElem?_eq_some_iff.1 Hi.out).1
  have bt0 := cell_heap Ht.out 0 _ rfl
  have ltt : w.heap.size + 1 + 1 < u67.heap.size := (Array.getElem?_eq_some_iff.1 Ht.out).1
  go_wp2_with fail
  refine (ce _ HB.out).mono ?_
  rintro e u68 ⟨rfl, hb⟩
  have Hc' : Aside (u68.heap[w.heap.size]? = some (.cells #[.int .i64 cp, .slice (some ⟨b, off, none⟩) bl.length c1, .slice ao2 hs.length c2] 25 (0, 0))) := heap_later (by repeat (first | exact Hc.out | exact Hi.out | exact Ht.out | exact Hr.out | exact hp_new (by first | rfl | (simp [size_plus, size_holds]; done) | (simp [size_plus, size_holds]; omega)) | (with_reducible refine hp_old ?_) | (with_reducible refine hp_plus ?_) | (with_reducible refine hh_eq (by first | assumption | (simp only [size_holds]; assumption))) | (with_reducible refine hh_ne (by omega) ?_))) hb
  have Hi' : Aside (u68.heap[w.heap.size + 1]? = some (.cells #[.int .i64 id] 3 (0, 0))) := heap_later (by repeat (first | exact Hc.out | exact Hi.out | exact Ht.out | exact Hr.out | exact hp_new (by first | rfl | (simp [size_plus, size_holds]; done) | (simp [size_plus, size_holds]; omega)) | (with_reducible refine hp_old ?_) | (with_reducible refine hp_plus ?_) | (with_reducible refine hh_eq (by first | assumption | (simp only [size_holds]; assumption))) | (with_reducible refine hh_ne (by omega) ?_))) hb
  have Ht' : Aside (u68.heap[w.heap.size + 1 + 1]? = some (.cells #[.int .i64 at'] 3 (0, 0))) := heap_later (by repeat (first | exact Hc.out | exact Hi.out | exact Ht.out | exact Hr.out | exact hp_new (by first | rfl | (simp [size_plus, size_holds]; done) | (simp [size_plus, size_holds]; omega)) | (with_reducible refine hp_old ?_) | (with_reducible refine hp_plus ?_) | (with_reducible refine hh_eq (by first | assumption | (simp only [size_holds]; assumption))) | (with_reducible refine hh_ne (by omega) ?_))) hb
  have Hr' : Aside (u68.heap[w.heap.size + 1 + 1 + 1]? = some (.cells #[.int .i64 0, .slice none 0 0, .slice none 0 0] 25 (0, 0))) := heap_later (by repeat (first | exact Hc.out | exact Hi.out | exact Ht.out | exact Hr.out | exact hp_new (by first | rfl | (simp [size_plus, size_holds]; done) | (simp [size_plus, size_holds]; omega)) | (with_reducible refine hp_old ?_) | (with_reducible refine hp_plus ?_) | (with_reducible refine hh_eq (by first | assumption | (simp only [size_holds]; assumption))) | (with_reducible refine hh_ne (by omega) ?_))) hb
  have HB' : Aside (Below w.heap.size w u68) := below_step (by
    have hHB := HB.out
    repeat (first | (with_reducible exact Below.refl _ _) | (with_reducible assumption) | (with_reducible refine below_to_plus ?_ ?_ _) | (with_reducible refine below_holds ?_ ?_ _ _) | (with_reducible refine Below.alloc ?_ ?_ _) | (with_reducible refine Below.drew ?_) | (with_reducible refine below_drewN ?_ _) | (with_reducible refine Below.setCell ?_ ?_ _))
    all_goals first | omega | (simp; done) | (simp [go_sem]; done) | (simp [go_sem]; omega)) hb
  clear Hc Hi Ht Hr HB hb ce bc0 bc1 bc2 bi0 bt0 ltc lti ltt
  have Hc := Hc'
  clear Hc'
  have Hi := Hi'
  clear Hi'
  have Ht := Ht'
  clear Ht'
  have Hr := Hr'
  clear Hr'
  have HB := HB'
  clear HB'
  have bc0 := cell_heap Hc.out 0 _ rfl
  have bc1 := cell_heap Hc.out 1 _ rfl
  have bc2 := cell_heap Hc.out 2 _ rfl
  have ltc : w.heap.size < u68.heap.size := (Array.getElem?_eq_some_iff.1 Hc.out).1
  have bi0 := cell_heap Hi.out 0 _ rfl
  have lti : w.heap.size + 1 < u68.heap.size := (Array.getElem?_eq_some_iff.1 Hi.out).1
  have bt0 := cell_heap Ht.out 0 _ rfl
  have ltt : w.heap.size + 1 + 1 < u68.heap.size := (Array.getElem?_eq_some_iff.1 Ht.out).1
  go_wp2
  refine wp_region_plus (by kernel_rfl) (by kernel_rfl) ?_
  repeat (go_big_quiet_step (fail))
  refine wpQuiet_nil ?_
  rintro _ ⟨x1, rfl⟩
  go_wp2_with fail
  refine (cx _ (by
    have hHB := HB.out
    repeat (first | (with_reducible exact Below.refl _ _) | (with_reducible assumption) | (with_reducible refine below_to_plus ?_ ?_ _) | (with_reducible refine below_holds ?_ ?_ _ _) | (with_reducible refine Below.alloc ?_ ?_ _) | (with_reducible refine Below.drew ?_) | (with_reducible refine below_drewN ?_ _) | (with_reducible refine Below.setCell ?_ ?_ _))
    all_goals first | omega | (simp; done) | (simp [go_sem]; done) | (simp [go_sem]; omega)) (by repeat (first | exact Hc.out | exact Hi.out | exact Ht.out | exact Hr.out | exact hp_new (by first | rfl | (simp [size_plus, size_holds]; done) | (simp [size_plus, size_holds]; omega)) | (with_reducible refine hp_old ?_) | (with_reducible refine hp_plus ?_) | (with_reducible refine hh_eq (by first | assumption | (simp only [size_holds]; assumption))) | (with_reducible refine hh_ne (by omega) ?_))) (by repeat (first | exact Hc.out | exact Hi.out | exact Ht.out | exact Hr.out | exact hp_new (by first | rfl | (simp [size_plus, size_holds]; done) | (simp [size_plus, size_holds]; omega)) | (with_reducible refine hp_old ?_) | (with_reducible refine hp_plus ?_) | (with_reducible refine hh_eq (by first | assumption | (simp only [size_holds]; assumption))) | (with_reducible refine hh_ne (by omega) ?_)))).mono ?_
  rintro e u69 ⟨rfl, hb⟩
  have Hc' : Aside (u69.heap[w.heap.size]? = some (.cells #[.int .i64 cp, .slice (some ⟨b, off, none⟩) bl.length c1, .slice ao2 hs.length c2] 25 (0, 0))) := heap_later (by repeat (first | exact Hc.out | exact Hi.out | exact Ht.out | exact Hr.out | exact hp_new (by first | rfl | (simp [size_plus, size_holds]; done) | (simp [size_plus, size_holds]; omega)) | (with_reducible refine hp_old ?_) | (with_reducible refine hp_plus ?_) | (with_reducible refine hh_eq (by first | assumption | (simp only [size_holds]; assumption))) | (with_reducible refine hh_ne (by omega) ?_))) hb
  have Hi' : Aside (u69.heap[w.heap.size + 1]? = some (.cells #[.int .i64 id] 3 (0, 0))) := heap_later (by repeat (first | exact Hc.out | exact Hi.out | exact Ht.out | exact Hr.out | exact hp_new (by first | rfl | (simp [size_plus, size_holds]; done) | (simp [size_plus, size_holds]; omega)) | (with_reducible refine hp_old ?_) | (with_reducible refine hp_plus ?_) | (with_reducible refine hh_eq (by first | assumption | (simp only [size_holds]; assumption))) | (with_reducible refine hh_ne (by omega) ?_))) hb
  have Ht' : Aside (u69.heap[w.heap.size + 1 + 1]? = some (.cells #[.int .i64 at'] 3 (0, 0))) := heap_later (by repeat (first | exact Hc.out | exact Hi.out | exact Ht.out | exact Hr.out | exact hp_new (by first | rfl | (simp [size_plus, size_holds]; done) | (simp [size_plus, size_holds]; omega)) | (with_reducible refine hp_old ?_) | (with_reducible refine hp_plus ?_) | (with_reducible refine hh_eq (by first | assumption | (simp only [size_holds]; assumption))) | (with_reducible refine hh_ne (by omega) ?_))) hb
  have Hr' : Aside (u69.heap[w.heap.size + 1 + 1 + 1]? = some (.cells #[.int .i64 0, .slice none 0 0, .slice none 0 0] 25 (0, 0))) := heap_later (by repeat (first | exact Hc.out | exact Hi.out | exact Ht.out | exact Hr.out | exact hp_new (by first | rfl | (simp [size_plus, size_holds]; done) | (simp [size_plus, size_holds]; omega)) | (with_reducible refine hp_old ?_) | (with_reducible refine hp_plus ?_) | (with_reducible refine hh_eq (by first | assumption | (simp only [size_holds]; assumption))) | (with_reducible refine hh_ne (by omega) ?_))) hb
  have HB' : Aside (Below w.heap.size w u69) := below_step (by
    have hHB := HB.out
    repeat (first | (with_reducible exact Below.refl _ _) | (with_reducible assumption) | (with_reducible refine below_to_plus ?_ ?_ _) | (with_reducible refine below_holds ?_ ?_ _ _) | (with_reducible refine Below.alloc ?_ ?_ _) | (with_reducible refine Below.drew ?_) | (with_reducible refine below_drewN ?_ _) | (with_reducible refine Below.setCell ?_ ?_ _))
    all_goals first | omega | (simp; done) | (simp [go_sem]; done) | (simp [go_sem]; omega)) hb
  clear Hc Hi Ht Hr HB hb cx bc0 bc1 bc2 bi0 bt0 ltc lti ltt
  have Hc := Hc'
  clear Hc'
  have Hi := Hi'
  clear Hi'
  have Ht := Ht'
  clear Ht'
  have Hr := Hr'
  clear Hr'
  have HB := HB'
  clear HB'
  have bc0 := cell_heap Hc.out 0 _ rfl
  have bc1 := cell_heap Hc.out 1 _ rfl
  have bc2 := cell_heap Hc.out 2 _ rfl
  have ltc : w.heap.size < u69.heap.size := (Array.getElem?_eq_some_iff.1 Hc.out).1
  have bi0 := cell_heap Hi.out 0 _ rfl
  have lti : w.heap.size + 1 < u69.heap.size := (Array.getElem?_eq_some_iff.1 Hi.out).1
  have bt0 := cell_heap Ht.out 0 _ rfl
  have ltt : w.heap.size + 1 + 1 < u69.heap.size := (Array.getElem?_eq_some_iff.1 Ht.out).1
  have n0 := (HB.out.cell (p := ⟨b, off + j * 4, none⟩) hbw).trans f0
  have n1 := (HB.out.cell (p := ⟨b, off + j * 4 + 1, none⟩) hbw).trans f1
  have n2 := (HB.out.cell (p := ⟨b, off + j * 4 + 2, none⟩) hbw).trans f2
  have n3 := (HB.out.cell (p := ⟨b, off + j * 4 + 3, none⟩) hbw).trans f3
  have hbr : b < u69.heap.size := Nat.lt_of_lt_of_le hbw HB.out.size
  have ltr : w.heap.size + 1 + 1 + 1 < u69.heap.size := (Array.getElem?_eq_some_iff.1 Hr.out).1
  have nrc : ¬ w.heap.size = w.heap.size + 1 + 1 + 1 := by omega
  have nri : ¬ w.heap.size + 1 = w.heap.size + 1 + 1 + 1 := by omega
  have nrt : ¬ w.heap.size + 1 + 1 = w.heap.size + 1 + 1 + 1 := by omega
  have nrb : ¬ b = w.heap.size + 1 + 1 + 1 := by omega
  have nr1 : ¬ u69.heap.size = w.heap.size + 1 + 1 + 1 := by omega
  have nr2 : ¬ w.heap.size + 1 + 1 + 1 = u69.heap.size := by omega
  have hal : ∀ c o, (holds u69 (w.heap.size + 1 + 1 + 1) c 25).alloc o = holds (u69.alloc o) (w.heap.size + 1 + 1 + 1) c 25 := fun c o => alloc_holds ltr o
  have hHB0 := HB.out
  rw [holds_self Hr.out]
  go_wp2
  go_region_held3 (fun w' => w'.cell? ⟨w.heap.size, 0, none⟩ = some (.int .i64 cp) ∧ w'.cell? ⟨w.heap.size, 1, none⟩ = some (.slice (some ⟨b, off, none⟩) bl.length c1) ∧ w'.cell? ⟨w.heap.size, 2, none⟩ = some (.slice ao2 hs.length c2)) (first | (simp [go_sem, ↓IntWalk.iteOmega, *]; done)) ((first | (go_at_call 34; refine (cu _ (below_holds (Below.drew (Below.alloc hHB0 hHB0.size _)) (by omega) _ _)).mono ?_; rintro e w2 ⟨a1, k1, a2, k2, rfl, o1, o2, hb⟩; have O1 : Aside _ := o1; have O2 : Aside _ := o2; clear o1 o2; obtain ⟨x3, hx⟩ := plus_of_below hb; subst hx; clear hb)))
  all_goals go_wp2
  all_goals refine bodyPost_ret (v := .tuple #[.agg #[.int .i64 cp, .slice a1 ul.length k1, .slice a2 hs.length k2], .string (rs.extract 0 cnt.toNat), .bool true]) (by simp [results, Try.results17, go_sem, ↓IntWalk.iteOmega, *]) rfl ⟨a1, k1, a2, k2, rfl, own_slP (own_past O1.out (Nat.le_refl _) (by simp [size_holds])), own_slH (own_past O2.out (Nat.le_refl _) (by simp [size_holds])), below_to_plus (below_holds (Below.drew (Below.alloc hHB0 hHB0.size _)) (by omega) _ _) (by simp [size_holds]; omega) _⟩

set_option maxHeartbeats 16000000 in
theorem get_part_f (cp : Int) (ao : Option Addr) (n c1 : Nat) (ao2 : Option Addr) (n2 c2 : Nat) (bl : List Pc) (hs : List Hd) (id at' cnt now : Int) (w : World) (h1 : Sl w 4 ao n c1 (bl.map Pc.enc)) (h2 : Sl w 3 ao2 n2 c2 (hs.map Hd.enc)) (hn : n ≤ 1000000) (hn2 : n2 ≤ 1000000) (ha : AscH hs) (hh : heldB id now hs = true) (h0 : 0 ≤ at') (hc : 0 ≤ cnt) {k : Nat} (hk : k < bl.length) (he : endI id bl = (k : Int)) (hp : at' < bl[k]!.pos) (ok : ∀ y ∈ bl, OkP y) {j : Nat} (hj : j < bl.length) (hv : covI id at' bl = (j : Int)) (hq1 : bl[j]!.pos ≤ at') (hq2 : at' < endP bl[j]!) (hcn : cnt ≤ ((bl[j]!.data.extract (at' - bl[j]!.pos).toNat bl[j]!.data.size).size : Int)) :
    Calls Try.prog 17 #[.agg #[.int .i64 cp, .slice ao n c1, .slice ao2 n2 c2], .int .i64 id, .int .i64 at', .int .i64 cnt, .int .i64 now] w fun e w' => GetPost w cp hs (useL j bl, (bl[j]!.data.extract (at' - bl[j]!.pos).toNat bl[j]!.data.size).extract 0 cnt.toNat, true) e w' := by
  have hln : bl.length = n := Sl.lenE h1
  have hln2 : hs.length = n2 := Sl.lenE h2
  subst hln
  subst hln2
  have S1 : Aside (Sl w 4 ao bl.length c1 (bl.map Pc.enc)) := h1
  have S2 : Aside (Sl w 3 ao2 hs.length c2 (hs.map Hd.enc)) := h2
  have hb0 : Below w.heap.size w ((((w.alloc (.cells #[.int .i64 cp, .slice ao bl.length c1, .slice ao2 hs.length c2] 25)).alloc (.cells #[.int .i64 id] 3)).alloc (.cells #[.int .i64 at'] 3)).alloc (.cells #[.int .i64 0, .slice none 0 0, .slice none 0 0] 25)) := by
    repeat (first | (with_reducible exact Below.refl _ _) | (with_reducible assumption) | (with_reducible refine below_to_plus ?_ ?_ _) | (with_reducible refine below_holds ?_ ?_ _ _) | (with_reducible refine Below.alloc ?_ ?_ _) | (with_reducible refine Below.drew ?_) | (with_reducible refine below_drewN ?_ _) | (with_reducible refine Below.setCell ?_ ?_ _))
    all_goals first | omega | (simp; done) | (simp [go_sem]; done) | (simp [go_sem]; omega)
  have HB : Aside (Below w.heap.size w ((((w.alloc (.cells #[.int .i64 cp, .slice ao bl.length c1, .slice ao2 hs.length c2] 25)).alloc (.cells #[.int .i64 id] 3)).alloc (.cells #[.int .i64 at'] 3)).alloc (.cells #[.int .i64 0, .slice none 0 0, .slice none 0 0] 25))) := hb0
  have Hc : Aside (((((w.alloc (.cells #[.int .i64 cp, .slice ao bl.length c1, .slice ao2 hs.length c2] 25)).alloc (.cells #[.int .i64 id] 3)).alloc (.cells #[.int .i64 at'] 3)).alloc (.cells #[.int .i64 0, .slice none 0 0, .slice none 0 0] 25)).heap[w.heap.size]? = some (.cells #[.int .i64 cp, .slice ao bl.length c1, .slice ao2 hs.length c2] 25 (0, 0))) := by repeat (first | exact hp_new (by first | rfl | (simp; done) | (simp; omega)) | refine hp_old ?_)
  have Hi : Aside (((((w.alloc (.cells #[.int .i64 cp, .slice ao bl.length c1, .slice ao2 hs.length c2] 25)).alloc (.cells #[.int .i64 id] 3)).alloc (.cells #[.int .i64 at'] 3)).alloc (.cells #[.int .i64 0, .slice none 0 0, .slice none 0 0] 25)).heap[w.heap.size + 1]? = some (.cells #[.int .i64 id] 3 (0, 0))) := by repeat (first | exact hp_new (by first | rfl | (simp; done) | (simp; omega)) | refine hp_old ?_)
  have Ht : Aside (((((w.alloc (.cells #[.int .i64 cp, .slice ao bl.length c1, .slice ao2 hs.length c2] 25)).alloc (.cells #[.int .i64 id] 3)).alloc (.cells #[.int .i64 at'] 3)).alloc (.cells #[.int .i64 0, .slice none 0 0, .slice none 0 0] 25)).heap[w.heap.size + 1 + 1]? = some (.cells #[.int .i64 at'] 3 (0, 0))) := by repeat (first | exact hp_new (by first | rfl | (simp; done) | (simp; omega)) | refine hp_old ?_)
  have Hr : Aside (((((w.alloc (.cells #[.int .i64 cp, .slice ao bl.length c1, .slice ao2 hs.length c2] 25)).alloc (.cells #[.int .i64 id] 3)).alloc (.cells #[.int .i64 at'] 3)).alloc (.cells #[.int .i64 0, .slice none 0 0, .slice none 0 0] 25)).heap[w.heap.size + 1 + 1 + 1]? = some (.cells #[.int .i64 0, .slice none 0 0, .slice none 0 0] 25 (0, 0))) := by repeat (first | exact hp_new (by first | rfl | (simp; done) | (simp; omega)) | refine hp_old ?_)
  have ck := held_calls cp ao bl.length c1 ao2 hs.length c2 hs id now ((((w.alloc (.cells #[.int .i64 cp, .slice ao bl.length c1, .slice ao2 hs.length c2] 25)).alloc (.cells #[.int .i64 id] 3)).alloc (.cells #[.int .i64 at'] 3)).alloc (.cells #[.int .i64 0, .slice none 0 0, .slice none 0 0] 25)) (h2.stays hb0) hn2 ha
  rw [hh] at ck
  have ce := fun U hU => end_calls cp ao bl.length c1 ao2 hs.length c2 bl id U (S1.out.stays hU)
  rw [he] at ce
  have x0 : ¬ at' < 0 := by omega
  have xc : ¬ cnt < 0 := by omega
  have hbig : bl.length ≤ 9223372036854775807 := by omega
  obtain ⟨b, off, eao, hbw, e0, e1, e2, e3⟩ := (cellsPc h1) k hk
  subst eao
  have hkz : (k : Int) < (bl.length : Int) := by omega
  have hpn : ¬ bl[k]!.pos ≤ at' := by omega
  have hpd : decide (bl[k]!.pos ≤ at') = false := decide_eq_false hpn
  obtain ⟨b9, off9, eb9, _, f0, f1, f2, f3⟩ := (cellsPc h1) j hj
  cases eb9
  have eg : ∀ args w, (callFunc 36 args).run Try.prog w = .ok (.enter 36 args) w := enters_of Try.func36 (by kernel_rfl) rfl
  have cx : ∀ U, Below w.heap.size w U → U.heap[w.heap.size + 1]? = some (.cells #[.int .i64 id] 3 (0, 0)) → U.heap[w.heap.size + 1 + 1]? = some (.cells #[.int .i64 at'] 3 (0, 0)) → Calls Try.prog 35 #[.slice (some ⟨b, off, none⟩) bl.length c1, .func (.func 36) #[] #[.pointer (some ⟨w.heap.size + 1, 0, none⟩), .pointer (some ⟨w.heap.size + 1 + 1, 0, none⟩)]] U fun e w' => e = .returned (.int .i64 (covI id at' bl)) ∧ Below U.heap.size U w' := fun U hU hi ht => by
    have := pcIndexFunc_calls (isC id at') 36 _ eg _ _ _ bl U (S1.out.stays hU) (pred_get id at' bl ok (w.heap.size + 1) (w.heap.size + 1 + 1) U (Array.getElem?_eq_some_iff.1 hi).1 (cell_heap hi 0 _ rfl) (Array.getElem?_eq_some_iff.1 ht).1 (cell_heap ht 0 _ rfl))
    rw [idx_fst] at this
    exact this
  rw [hv] at cx
  have hjz : (j : Int) < (bl.length : Int) := by omega
  have oy := ok _ (by rw [getElem!_pos bl j hj]; exact List.getElem_mem _ : bl[j]! ∈ bl)
  have cu := fun U hU => use_calls cp (some ⟨b, off, none⟩) bl.length c1 ao2 hs.length c2 bl hs j U (S1.out.stays hU) (S2.out.stays hU) hn hn2 hj
  obtain ⟨ul, hul⟩ : ∃ ul, useL j bl = ul := ⟨_, rfl⟩
  rw [hul] at cu ⊢
  obtain ⟨rs, hrs⟩ : ∃ rs, (bl[j]!.data.extract (at' - bl[j]!.pos).toNat bl[j]!.data.size) = rs := ⟨_, rfl⟩
  have RS : Aside (_ = rs) := hrs
  rw [hrs] at hcn ⊢
  clear hul hrs
  clear hh he ok hv h1 h2
  clear hp
  generalize bl[k]! = z at e0 e1 e2 e3 hpd hpn
  obtain ⟨z1, z2, z3, z4⟩ := z
  simp only [] at e0 e1 e2 e3 hpd hpn
  generalize bl[j]! = y at f0 f1 f2 f3 hq1 hq2 oy RS
  obtain ⟨y1, y2, y3, y4⟩ := y
  simp only [] at f0 f1 f2 f3 hq1 oy
  have hq3 : at' < y3 + (y4.size : Int) := hq2
  have hsub : IntKind.i64.wrap (at' - y3) = at' - y3 := by
    have o1 := oy.1.1
    have o2 := oy.1.2
    have o3 := oy.2
    simp only [] at o1 o2 o3
    rw [IntKind.wrap_i64]; omega
  have x2 : ∀ U, (Instr.slice 9 (.string y4) (some (.int .i64 (at' - y3))) none none).run Try.prog U = .ok (.string (y4.extract (at' - y3).toNat y4.size)) U := fun U => by
    rw [run_slice_string_from_if (P := Try.prog) U 9 y4 .i64 (at' - y3) Try.underlying9, if_pos (by omega)]
  have RS2 : (y4.extract (at' - y3).toNat y4.size) = rs := RS.out
  rw [RS2] at x2
  clear RS RS2 oy
  have x3 : ∀ U, (Instr.slice 9 (.string rs) none (some (.int .i64 cnt)) none).run Try.prog U = .ok (.string (rs.extract 0 cnt.toNat)) U := fun U => by
    rw [run_slice_string_to_if (P := Try.prog) U 9 rs .i64 cnt Try.underlying9, if_pos (by omega)]
  go_enter Try.func17, Try.ntmps17
  go_wp2_with fail
  refine (ck).mono ?_
  rintro e u70 ⟨rfl, hb⟩
  have Hc' : Aside (u70.heap[w.heap.size]? = some (.cells #[.int .i64 cp, .slice (some ⟨b, off, none⟩) bl.length c1, .slice ao2 hs.length c2] 25 (0, 0))) := heap_later (by repeat (first | exact Hc.out | exact Hi.out | exact Ht.out | exact Hr.out | exact hp_new (by first | rfl | (simp [size_plus, size_holds]; done) | (simp [size_plus, size_holds]; omega)) | (with_reducible refine hp_old ?_) | (with_reducible refine hp_plus ?_) | (with_reducible refine hh_eq (by first | assumption | (simp only [size_holds]; assumption))) | (with_reducible refine hh_ne (by omega) ?_))) hb
  have Hi' : Aside (u70.heap[w.heap.size + 1]? = some (.cells #[.int .i64 id] 3 (0, 0))) := heap_later (by repeat (first | exact Hc.out | exact Hi.out | exact Ht.out | exact Hr.out | exact hp_new (by first | rfl | (simp [size_plus, size_holds]; done) | (simp [size_plus, size_holds]; omega)) | (with_reducible refine hp_old ?_) | (with_reducible refine hp_plus ?_) | (with_reducible refine hh_eq (by first | assumption | (simp only [size_holds]; assumption))) | (with_reducible refine hh_ne (by omega) ?_))) hb
  have Ht' : Aside (u70.heap[w.heap.size + 1 + 1]? = some (.cells #[.int .i64 at'] 3 (0, 0))) := heap_later (by repeat (first | exact Hc.out | exact Hi.out | exact Ht.out | exact Hr.out | exact hp_new (by first | rfl | (simp [size_plus, size_holds]; done) | (simp [size_plus, size_holds]; omega)) | (with_reducible refine hp_old ?_) | (with_reducible refine hp_plus ?_) | (with_reducible refine hh_eq (by first | assumption | (simp only [size_holds]; assumption))) | (with_reducible refine hh_ne (by omega) ?_))) hb
  have Hr' : Aside (u70.heap[w.heap.size + 1 + 1 + 1]? = some (.cells #[.int .i64 0, .slice none 0 0, .slice none 0 0] 25 (0, 0))) := heap_later (by repeat (first | exact Hc.out | exact Hi.out | exact Ht.out | exact Hr.out | exact hp_new (by first | rfl | (simp [size_plus, size_holds]; done) | (simp [size_plus, size_holds]; omega)) | (with_reducible refine hp_old ?_) | (with_reducible refine hp_plus ?_) | (with_reducible refine hh_eq (by first | assumption | (simp only [size_holds]; assumption))) | (with_reducible refine hh_ne (by omega) ?_))) hb
  have HB' : Aside (Below w.heap.size w u70) := below_step (by
    have hHB := HB.out
    repeat (first | (with_reducible exact Below.refl _ _) | (with_reducible assumption) | (with_reducible refine below_to_plus ?_ ?_ _) | (with_reducible refine below_holds ?_ ?_ _ _) | (with_reducible refine Below.alloc ?_ ?_ _) | (with_reducible refine Below.drew ?_) | (with_reducible refine below_drewN ?_ _) | (with_reducible refine Below.setCell ?_ ?_ _))
    all_goals first | omega | (simp; done) | (simp [go_sem]; done) | (simp [go_sem]; omega)) hb
  clear Hc Hi Ht Hr HB hb ck hb0
  have Hc := Hc'
  clear Hc'
  have Hi := Hi'
  clear Hi'
  have Ht := Ht'
  clear Ht'
  have Hr := Hr'
  clear Hr'
  have HB := HB'
  clear HB'
  have bc0 := cell_heap Hc.out 0 _ rfl
  have bc1 := cell_heap Hc.out 1 _ rfl
  have bc2 := cell_heap Hc.out 2 _ rfl
  have ltc : w.heap.size < u70.heap.size := (Array.getElem?_eq_some_iff.1 Hc.out).1
  have bi0 := cell_heap Hi.out 0 _ rfl
  have lti : w.heap.size + 1 < u70.heap.size := (Array.getElem?_eq_some_iff.1 Hi.out).1
  have bt0 := cell_heap Ht.out 0 _ rfl
  have ltt : w.heap.size + 1 + 1 < u70.heap.size := (Array.getElem?_eq_some_iff.1 Ht.out).1
  go_wp2_with fail
  refine (ce _ HB.out).mono ?_
  rintro e u71 ⟨rfl, hb⟩
  have Hc' : Aside (u71.heap[w.heap.size]? = some (.cells #[.int .i64 cp, .slice (some ⟨b, off, none⟩) bl.length c1, .slice ao2 hs.length c2] 25 (0, 0))) := heap_later (by repeat (first | exact Hc.out | exact Hi.out | exact Ht.out | exact Hr.out | exact hp_new (by first | rfl | (simp [size_plus, size_holds]; done) | (simp [size_plus, size_holds]; omega)) | (with_reducible refine hp_old ?_) | (with_reducible refine hp_plus ?_) | (with_reducible refine hh_eq (by first | assumption | (simp only [size_holds]; assumption))) | (with_reducible refine hh_ne (by omega) ?_))) hb
  have Hi' : Aside (u71.heap[w.heap.size + 1]? = some (.cells #[.int .i64 id] 3 (0, 0))) := heap_later (by repeat (first | exact Hc.out | exact Hi.out | exact Ht.out | exact Hr.out | exact hp_new (by first | rfl | (simp [size_plus, size_holds]; done) | (simp [size_plus, size_holds]; omega)) | (with_reducible refine hp_old ?_) | (with_reducible refine hp_plus ?_) | (with_reducible refine hh_eq (by first | assumption | (simp only [size_holds]; assumption))) | (with_reducible refine hh_ne (by omega) ?_))) hb
  have Ht' : Aside (u71.heap[w.heap.size + 1 + 1]? = some (.cells #[.int .i64 at'] 3 (0, 0))) := heap_later (by repeat (first | exact Hc.out | exact Hi.out | exact Ht.out | exact Hr.out | exact hp_new (by first | rfl | (simp [size_plus, size_holds]; done) | (simp [size_plus, size_holds]; omega)) | (with_reducible refine hp_old ?_) | (with_reducible refine hp_plus ?_) | (with_reducible refine hh_eq (by first | assumption | (simp only [size_holds]; assumption))) | (with_reducible refine hh_ne (by omega) ?_))) hb
  have Hr' : Aside (u71.heap[w.heap.size + 1 + 1 + 1]? = some (.cells #[.int .i64 0, .slice none 0 0, .slice none 0 0] 25 (0, 0))) := heap_later (by repeat (first | exact Hc.out | exact Hi.out | exact Ht.out | exact Hr.out | exact hp_new (by first | rfl | (simp [size_plus, size_holds]; done) | (simp [size_plus, size_holds]; omega)) | (with_reducible refine hp_old ?_) | (with_reducible refine hp_plus ?_) | (with_reducible refine hh_eq (by first | assumption | (simp only [size_holds]; assumption))) | (with_reducible refine hh_ne (by omega) ?_))) hb
  have HB' : Aside (Below w.heap.size w u71) := below_step (by
    have hHB := HB.out
    repeat (first | (with_reducible exact Below.refl _ _) | (with_reducible assumption) | (with_reducible refine below_to_plus ?_ ?_ _) | (with_reducible refine below_holds ?_ ?_ _ _) | (with_reducible refine Below.alloc ?_ ?_ _) | (with_reducible refine Below.drew ?_) | (with_reducible refine below_drewN ?_ _) | (with_reducible refine Below.setCell ?_ ?_ _))
    all_goals first | omega | (simp; done) | (simp [go_sem]; done) | (simp [go_sem]; omega)) hb
  clear Hc Hi Ht Hr HB hb ce bc0 bc1 bc2 bi0 bt0 ltc lti ltt
  have Hc := Hc'
  clear Hc'
  have Hi := Hi'
  clear Hi'
  have Ht := Ht'
  clear Ht'
  have Hr := Hr'
  clear Hr'
  have HB := HB'
  clear HB'
  have bc0 := cell_heap Hc.out 0 _ rfl
  have bc1 := cell_heap Hc.out 1 _ rfl
  have bc2 := cell_heap Hc.out 2 _ rfl
  have ltc : w.heap.size < u71.heap.size := (Array.getElem?_eq_some_iff.1 Hc.out).1
  have bi0 := cell_heap Hi.out 0 _ rfl
  have lti : w.heap.size + 1 < u71.heap.size := (Array.getElem?_eq_some_iff.1 Hi.out).1
  have bt0 := cell_heap Ht.out 0 _ rfl
  have ltt : w.heap.size + 1 + 1 < u71.heap.size := (Array.getElem?_eq_some_iff.1 Ht.out).1
  have m0 := (HB.out.cell (p := ⟨b, off + k * 4, none⟩) hbw).trans e0
  have m1 := (HB.out.cell (p := ⟨b, off + k * 4 + 1, none⟩) hbw).trans e1
  have m2 := (HB.out.cell (p := ⟨b, off + k * 4 + 2, none⟩) hbw).trans e2
  have m3 := (HB.out.cell (p := ⟨b, off + k * 4 + 3, none⟩) hbw).trans e3
  have hbr : b < u71.heap.size := Nat.lt_of_lt_of_le hbw HB.out.size
  go_wp2
  refine wp_region_plus (by kernel_rfl) (by kernel_rfl) ?_
  repeat (go_big_quiet_step (fail))
  refine wpQuiet_nil ?_
  rintro _ ⟨x1, rfl⟩
  go_wp2_with fail
  refine (cx _ (by
    have hHB := HB.out
    repeat (first | (with_reducible exact Below.refl _ _) | (with_reducible assumption) | (with_reducible refine below_to_plus ?_ ?_ _) | (with_reducible refine below_holds ?_ ?_ _ _) | (with_reducible refine Below.alloc ?_ ?_ _) | (with_reducible refine Below.drew ?_) | (with_reducible refine below_drewN ?_ _) | (with_reducible refine Below.setCell ?_ ?_ _))
    all_goals first | omega | (simp; done) | (simp [go_sem]; done) | (simp [go_sem]; omega)) (by repeat (first | exact Hc.out | exact Hi.out | exact Ht.out | exact Hr.out | exact hp_new (by first | rfl | (simp [size_plus, size_holds]; done) | (simp [size_plus, size_holds]; omega)) | (with_reducible refine hp_old ?_) | (with_reducible refine hp_plus ?_) | (with_reducible refine hh_eq (by first | assumption | (simp only [size_holds]; assumption))) | (with_reducible refine hh_ne (by omega) ?_))) (by repeat (first | exact Hc.out | exact Hi.out | exact Ht.out | exact Hr.out | exact hp_new (by first | rfl | (simp [size_plus, size_holds]; done) | (simp [size_plus, size_holds]; omega)) | (with_reducible refine hp_old ?_) | (with_reducible refine hp_plus ?_) | (with_reducible refine hh_eq (by first | assumption | (simp only [size_holds]; assumption))) | (with_reducible refine hh_ne (by omega) ?_)))).mono ?_
  rintro e u72 ⟨rfl, hb⟩
  have Hc' : Aside (u72.heap[w.heap.size]? = some (.cells #[.int .i64 cp, .slice (some ⟨b, off, none⟩) bl.length c1, .slice ao2 hs.length c2] 25 (0, 0))) := heap_later (by repeat (first | exact Hc.out | exact Hi.out | exact Ht.out | exact Hr.out | exact hp_new (by first | rfl | (simp [size_plus, size_holds]; done) | (simp [size_plus, size_holds]; omega)) | (with_reducible refine hp_old ?_) | (with_reducible refine hp_plus ?_) | (with_reducible refine hh_eq (by first | assumption | (simp only [size_holds]; assumption))) | (with_reducible refine hh_ne (by omega) ?_))) hb
  have Hi' : Aside (u72.heap[w.heap.size + 1]? = some (.cells #[.int .i64 id] 3 (0, 0))) := heap_later (by repeat (first | exact Hc.out | exact Hi.out | exact Ht.out | exact Hr.out | exact hp_new (by first | rfl | (simp [size_plus, size_holds]; done) | (simp [size_plus, size_holds]; omega)) | (with_reducible refine hp_old ?_) | (with_reducible refine hp_plus ?_) | (with_reducible refine hh_eq (by first | assumption | (simp only [size_holds]; assumption))) | (with_reducible refine hh_ne (by omega) ?_))) hb
  have Ht' : Aside (u72.heap[w.heap.size + 1 + 1]? = some (.cells #[.int .i64 at'] 3 (0, 0))) := heap_later (by repeat (first | exact Hc.out | exact Hi.out | exact Ht.out | exact Hr.out | exact hp_new (by first | rfl | (simp [size_plus, size_holds]; done) | (simp [size_plus, size_holds]; omega)) | (with_reducible refine hp_old ?_) | (with_reducible refine hp_plus ?_) | (with_reducible refine hh_eq (by first | assumption | (simp only [size_holds]; assumption))) | (with_reducible refine hh_ne (by omega) ?_))) hb
  have Hr' : Aside (u72.heap[w.heap.size + 1 + 1 + 1]? = some (.cells #[.int .i64 0, .slice none 0 0, .slice none 0 0] 25 (0, 0))) := heap_later (by repeat (first | exact Hc.out | exact Hi.out | exact Ht.out | exact Hr.out | exact hp_new (by first | rfl | (simp [size_plus, size_holds]; done) | (simp [size_plus, size_holds]; omega)) | (with_reducible refine hp_old ?_) | (with_reducible refine hp_plus ?_) | (with_reducible refine hh_eq (by first | assumption | (simp only [size_holds]; assumption))) | (with_reducible refine hh_ne (by omega) ?_))) hb
  have HB' : Aside (Below w.heap.size w u72) := below_step (by
    have hHB := HB.out
    repeat (first | (with_reducible exact Below.refl _ _) | (with_reducible assumption) | (with_reducible refine below_to_plus ?_ ?_ _) | (with_reducible refine below_holds ?_ ?_ _ _) | (with_reducible refine Below.alloc ?_ ?_ _) | (with_reducible refine Below.drew ?_) | (with_reducible refine below_drewN ?_ _) | (with_reducible refine Below.setCell ?_ ?_ _))
    all_goals first | omega | (simp; done) | (simp [go_sem]; done) | (simp [go_sem]; omega)) hb
  clear Hc Hi Ht Hr HB hb cx bc0 bc1 bc2 bi0 bt0 ltc lti ltt m0 m1 m2 m3 hbr
  have Hc := Hc'
  clear Hc'
  have Hi := Hi'
  clear Hi'
  have Ht := Ht'
  clear Ht'
  have Hr := Hr'
  clear Hr'
  have HB := HB'
  clear HB'
  have bc0 := cell_heap Hc.out 0 _ rfl
  have bc1 := cell_heap Hc.out 1 _ rfl
  have bc2 := cell_heap Hc.out 2 _ rfl
  have ltc : w.heap.size < u72.heap.size := (Array.getElem?_eq_some_iff.1 Hc.out).1
  have bi0 := cell_heap Hi.out 0 _ rfl
  have lti : w.heap.size + 1 < u72.heap.size := (Array.getElem?_eq_some_iff.1 Hi.out).1
  have bt0 := cell_heap Ht.out 0 _ rfl
  have ltt : w.heap.size + 1 + 1 < u72.heap.size := (Array.getElem?_eq_some_iff.1 Ht.out).1
  have n0 := (HB.out.cell (p := ⟨b, off + j * 4, none⟩) hbw).trans f0
  have n1 := (HB.out.cell (p := ⟨b, off + j * 4 + 1, none⟩) hbw).trans f1
  have n2 := (HB.out.cell (p := ⟨b, off + j * 4 + 2, none⟩) hbw).trans f2
  have n3 := (HB.out.cell (p := ⟨b, off + j * 4 + 3, none⟩) hbw).trans f3
  have hbr : b < u72.heap.size := Nat.lt_of_lt_of_le hbw HB.out.size
  have ltr : w.heap.size + 1 + 1 + 1 < u72.heap.size := (Array.getElem?_eq_some_iff.1 Hr.out).1
  have nrc : ¬ w.heap.size = w.heap.size + 1 + 1 + 1 := by omega
  have nri : ¬ w.heap.size + 1 = w.heap.size + 1 + 1 + 1 := by omega
  have nrt : ¬ w.heap.size + 1 + 1 = w.heap.size + 1 + 1 + 1 := by omega
  have nrb : ¬ b = w.heap.size + 1 + 1 + 1 := by omega
  have nr1 : ¬ u72.heap.size = w.heap.size + 1 + 1 + 1 := by omega
  have nr2 : ¬ w.heap.size + 1 + 1 + 1 = u72.heap.size := by omega
  have hal : ∀ c o, (holds u72 (w.heap.size + 1 + 1 + 1) c 25).alloc o = holds (u72.alloc o) (w.heap.size + 1 + 1 + 1) c 25 := fun c o => alloc_holds ltr o
  have hHB0 := HB.out
  rw [holds_self Hr.out]
  go_wp2
  go_region_held3 (fun w' => w'.cell? ⟨w.heap.size, 0, none⟩ = some (.int .i64 cp) ∧ w'.cell? ⟨w.heap.size, 1, none⟩ = some (.slice (some ⟨b, off, none⟩) bl.length c1) ∧ w'.cell? ⟨w.heap.size, 2, none⟩ = some (.slice ao2 hs.length c2)) (first | (simp [go_sem, ↓IntWalk.iteOmega, *]; done)) ((first | (go_at_call 34; refine (cu _ (below_holds (Below.drew (Below.alloc hHB0 hHB0.size _)) (by omega) _ _)).mono ?_; rintro e w2 ⟨a1, k1, a2, k2, rfl, o1, o2, hb⟩; have O1 : Aside _ := o1; have O2 : Aside _ := o2; clear o1 o2; obtain ⟨x3, hx⟩ := plus_of_below hb; subst hx; clear hb)))
  all_goals go_wp2
  all_goals refine bodyPost_ret (v := .tuple #[.agg #[.int .i64 cp, .slice a1 ul.length k1, .slice a2 hs.length k2], .string (rs.extract 0 cnt.toNat), .bool true]) (by simp [results, Try.results17, go_sem, ↓IntWalk.iteOmega, *]) rfl ⟨a1, k1, a2, k2, rfl, own_slP (own_past O1.out (Nat.le_refl _) (by simp [size_holds])), own_slH (own_past O2.out (Nat.le_refl _) (by simp [size_holds])), below_to_plus (below_holds (Below.drew (Below.alloc hHB0 hHB0.size _)) (by omega) _ _) (by simp [size_holds]; omega) _⟩

set_option maxHeartbeats 16000000 in
theorem get_short_n (cp : Int) (ao : Option Addr) (n c1 : Nat) (ao2 : Option Addr) (n2 c2 : Nat) (bl : List Pc) (hs : List Hd) (id at' cnt now : Int) (w : World) (h1 : Sl w 4 ao n c1 (bl.map Pc.enc)) (h2 : Sl w 3 ao2 n2 c2 (hs.map Hd.enc)) (hn : n ≤ 1000000) (hn2 : n2 ≤ 1000000) (ha : AscH hs) (hh : heldB id now hs = true) (h0 : 0 ≤ at') (hc : 0 ≤ cnt) (he : endI id bl = -1) (ok : ∀ y ∈ bl, OkP y) {j : Nat} (hj : j < bl.length) (hv : covI id at' bl = (j : Int)) (hq1 : bl[j]!.pos ≤ at') (hq2 : at' < endP bl[j]!) (hcn : ((bl[j]!.data.extract (at' - bl[j]!.pos).toNat bl[j]!.data.size).size : Int) < cnt)  :
    Calls Try.prog 17 #[.agg #[.int .i64 cp, .slice ao n c1, .slice ao2 n2 c2], .int .i64 id, .int .i64 at', .int .i64 cnt, .int .i64 now] w fun e w' => GetPost w cp hs (bl, ⟨#[]⟩, false) e w' := by
  have hln : bl.length = n := Sl.lenE h1
  have hln2 : hs.length = n2 := Sl.lenE h2
  subst hln
  subst hln2
  have S1 : Aside (Sl w 4 ao bl.length c1 (bl.map Pc.enc)) := h1
  have S2 : Aside (Sl w 3 ao2 hs.length c2 (hs.map Hd.enc)) := h2
  have hb0 : Below w.heap.size w ((((w.alloc (.cells #[.int .i64 cp, .slice ao bl.length c1, .slice ao2 hs.length c2] 25)).alloc (.cells #[.int .i64 id] 3)).alloc (.cells #[.int .i64 at'] 3)).alloc (.cells #[.int .i64 0, .slice none 0 0, .slice none 0 0] 25)) := by
    repeat (first | (with_reducible exact Below.refl _ _) | (with_reducible assumption) | (with_reducible refine below_to_plus ?_ ?_ _) | (with_reducible refine below_holds ?_ ?_ _ _) | (with_reducible refine Below.alloc ?_ ?_ _) | (with_reducible refine Below.drew ?_) | (with_reducible refine below_drewN ?_ _) | (with_reducible refine Below.setCell ?_ ?_ _))
    all_goals first | omega | (simp; done) | (simp [go_sem]; done) | (simp [go_sem]; omega)
  have HB : Aside (Below w.heap.size w ((((w.alloc (.cells #[.int .i64 cp, .slice ao bl.length c1, .slice ao2 hs.length c2] 25)).alloc (.cells #[.int .i64 id] 3)).alloc (.cells #[.int .i64 at'] 3)).alloc (.cells #[.int .i64 0, .slice none 0 0, .slice none 0 0] 25))) := hb0
  have Hc : Aside (((((w.alloc (.cells #[.int .i64 cp, .slice ao bl.length c1, .slice ao2 hs.length c2] 25)).alloc (.cells #[.int .i64 id] 3)).alloc (.cells #[.int .i64 at'] 3)).alloc (.cells #[.int .i64 0, .slice none 0 0, .slice none 0 0] 25)).heap[w.heap.size]? = some (.cells #[.int .i64 cp, .slice ao bl.length c1, .slice ao2 hs.length c2] 25 (0, 0))) := by repeat (first | exact hp_new (by first | rfl | (simp; done) | (simp; omega)) | refine hp_old ?_)
  have Hi : Aside (((((w.alloc (.cells #[.int .i64 cp, .slice ao bl.length c1, .slice ao2 hs.length c2] 25)).alloc (.cells #[.int .i64 id] 3)).alloc (.cells #[.int .i64 at'] 3)).alloc (.cells #[.int .i64 0, .slice none 0 0, .slice none 0 0] 25)).heap[w.heap.size + 1]? = some (.cells #[.int .i64 id] 3 (0, 0))) := by repeat (first | exact hp_new (by first | rfl | (simp; done) | (simp; omega)) | refine hp_old ?_)
  have Ht : Aside (((((w.alloc (.cells #[.int .i64 cp, .slice ao bl.length c1, .slice ao2 hs.length c2] 25)).alloc (.cells #[.int .i64 id] 3)).alloc (.cells #[.int .i64 at'] 3)).alloc (.cells #[.int .i64 0, .slice none 0 0, .slice none 0 0] 25)).heap[w.heap.size + 1 + 1]? = some (.cells #[.int .i64 at'] 3 (0, 0))) := by repeat (first | exact hp_new (by first | rfl | (simp; done) | (simp; omega)) | refine hp_old ?_)
  have Hr : Aside (((((w.alloc (.cells #[.int .i64 cp, .slice ao bl.length c1, .slice ao2 hs.length c2] 25)).alloc (.cells #[.int .i64 id] 3)).alloc (.cells #[.int .i64 at'] 3)).alloc (.cells #[.int .i64 0, .slice none 0 0, .slice none 0 0] 25)).heap[w.heap.size + 1 + 1 + 1]? = some (.cells #[.int .i64 0, .slice none 0 0, .slice none 0 0] 25 (0, 0))) := by repeat (first | exact hp_new (by first | rfl | (simp; done) | (simp; omega)) | refine hp_old ?_)
  have ck := held_calls cp ao bl.length c1 ao2 hs.length c2 hs id now ((((w.alloc (.cells #[.int .i64 cp, .slice ao bl.length c1, .slice ao2 hs.length c2] 25)).alloc (.cells #[.int .i64 id] 3)).alloc (.cells #[.int .i64 at'] 3)).alloc (.cells #[.int .i64 0, .slice none 0 0, .slice none 0 0] 25)) (h2.stays hb0) hn2 ha
  rw [hh] at ck
  have ce := fun U hU => end_calls cp ao bl.length c1 ao2 hs.length c2 bl id U (S1.out.stays hU)
  rw [he] at ce
  have x0 : ¬ at' < 0 := by omega
  have xc : ¬ cnt < 0 := by omega
  have hbig : bl.length ≤ 9223372036854775807 := by omega
  obtain ⟨b, off, eao, hbw, f0, f1, f2, f3⟩ := (cellsPc h1) j hj
  subst eao
  have eg : ∀ args w, (callFunc 36 args).run Try.prog w = .ok (.enter 36 args) w := enters_of Try.func36 (by kernel_rfl) rfl
  have cx : ∀ U, Below w.heap.size w U → U.heap[w.heap.size + 1]? = some (.cells #[.int .i64 id] 3 (0, 0)) → U.heap[w.heap.size + 1 + 1]? = some (.cells #[.int .i64 at'] 3 (0, 0)) → Calls Try.prog 35 #[.slice (some ⟨b, off, none⟩) bl.length c1, .func (.func 36) #[] #[.pointer (some ⟨w.heap.size + 1, 0, none⟩), .pointer (some ⟨w.heap.size + 1 + 1, 0, none⟩)]] U fun e w' => e = .returned (.int .i64 (covI id at' bl)) ∧ Below U.heap.size U w' := fun U hU hi ht => by
    have := pcIndexFunc_calls (isC id at') 36 _ eg _ _ _ bl U (S1.out.stays hU) (pred_get id at' bl ok (w.heap.size + 1) (w.heap.size + 1 + 1) U (Array.getElem?_eq_some_iff.1 hi).1 (cell_heap hi 0 _ rfl) (Array.getElem?_eq_some_iff.1 ht).1 (cell_heap ht 0 _ rfl))
    rw [idx_fst] at this
    exact this
  rw [hv] at cx
  have hjz : (j : Int) < (bl.length : Int) := by omega
  have oy := ok _ (by rw [getElem!_pos bl j hj]; exact List.getElem_mem _ : bl[j]! ∈ bl)
  obtain ⟨rs, hrs⟩ : ∃ rs, (bl[j]!.data.extract (at' - bl[j]!.pos).toNat bl[j]!.data.size) = rs := ⟨_, rfl⟩
  have RS : Aside (_ = rs) := hrs
  rw [hrs] at hcn
  clear hrs
  clear hh he ok hv h1 h2
  generalize bl[j]! = y at f0 f1 f2 f3 hq1 hq2 oy RS 
  obtain ⟨y1, y2, y3, y4⟩ := y
  simp only [] at f0 f1 f2 f3 hq1 oy
  have hq3 : at' < y3 + (y4.size : Int) := hq2
  have hsub : IntKind.i64.wrap (at' - y3) = at' - y3 := by
    have o1 := oy.1.1
    have o2 := oy.1.2
    have o3 := oy.2
    simp only [] at o1 o2 o3
    rw [IntKind.wrap_i64]; omega
  have x2 : ∀ U, (Instr.slice 9 (.string y4) (some (.int .i64 (at' - y3))) none none).run Try.prog U = .ok (.string (y4.extract (at' - y3).toNat y4.size)) U := fun U => by
    rw [run_slice_string_from_if (P := Try.prog) U 9 y4 .i64 (at' - y3) Try.underlying9, if_pos (by omega)]
  have RS2 : (y4.extract (at' - y3).toNat y4.size) = rs := RS.out
  rw [RS2] at x2
  clear RS RS2
  have hadd : IntKind.i64.wrap (y3 + (y4.size : Int)) = y3 + (y4.size : Int) := by
    have o1 := oy.1.1
    have o2 := oy.1.2
    have o3 := oy.2
    simp only [] at o1 o2 o3
    rw [IntKind.wrap_i64]; omega
  have hcn2 : ¬ cnt ≤ (rs.size : Int) := by omega
  clear oy
  go_enter Try.func17, Try.ntmps17
  go_wp2_with fail
  refine (ck).mono ?_
  rintro e u73 ⟨rfl, hb⟩
  have Hc' : Aside (u73.heap[w.heap.size]? = some (.cells #[.int .i64 cp, .slice (some ⟨b, off, none⟩) bl.length c1, .slice ao2 hs.length c2] 25 (0, 0))) := heap_later (by repeat (first | exact Hc.out | exact Hi.out | exact Ht.out | exact Hr.out | exact hp_new (by first | rfl | (simp [size_plus, size_holds]; done) | (simp [size_plus, size_holds]; omega)) | (with_reducible refine hp_old ?_) | (with_reducible refine hp_plus ?_) | (with_reducible refine hh_eq (by first | assumption | (simp only [size_holds]; assumption))) | (with_reducible refine hh_ne (by omega) ?_))) hb
  have Hi' : Aside (u73.heap[w.heap.size + 1]? = some (.cells #[.int .i64 id] 3 (0, 0))) := heap_later (by repeat (first | exact Hc.out | exact Hi.out | exact Ht.out | exact Hr.out | exact hp_new (by first | rfl | (simp [size_plus, size_holds]; done) | (simp [size_plus, size_holds]; omega)) | (with_reducible refine hp_old ?_) | (with_reducible refine hp_plus ?_) | (with_reducible refine hh_eq (by first | assumption | (simp only [size_holds]; assumption))) | (with_reducible refine hh_ne (by omega) ?_))) hb
  have Ht' : Aside (u73.heap[w.heap.size + 1 + 1]? = some (.cells #[.int .i64 at'] 3 (0, 0))) := heap_later (by repeat (first | exact Hc.out | exact Hi.out | exact Ht.out | exact Hr.out | exact hp_new (by first | rfl | (simp [size_plus, size_holds]; done) | (simp [size_plus, size_holds]; omega)) | (with_reducible refine hp_old ?_) | (with_reducible refine hp_plus ?_) | (with_reducible refine hh_eq (by first | assumption | (simp only [size_holds]; assumption))) | (with_reducible refine hh_ne (by omega) ?_))) hb
  have Hr' : Aside (u73.heap[w.heap.size + 1 + 1 + 1]? = some (.cells #[.int .i64 0, .slice none 0 0, .slice none 0 0] 25 (0, 0))) := heap_later (by repeat (first | exact Hc.out | exact Hi.out | exact Ht.out | exact Hr.out | exact hp_new (by first | rfl | (simp [size_plus, size_holds]; done) | (simp [size_plus, size_holds]; omega)) | (with_reducible refine hp_old ?_) | (with_reducible refine hp_plus ?_) | (with_reducible refine hh_eq (by first | assumption | (simp only [size_holds]; assumption))) | (with_reducible refine hh_ne (by omega) ?_))) hb
  have HB' : Aside (Below w.heap.size w u73) := below_step (by
    have hHB := HB.out
    repeat (first | (with_reducible exact Below.refl _ _) | (with_reducible assumption) | (with_reducible refine below_to_plus ?_ ?_ _) | (with_reducible refine below_holds ?_ ?_ _ _) | (with_reducible refine Below.alloc ?_ ?_ _) | (with_reducible refine Below.drew ?_) | (with_reducible refine below_drewN ?_ _) | (with_reducible refine Below.setCell ?_ ?_ _))
    all_goals first | omega | (simp; done) | (simp [go_sem]; done) | (simp [go_sem]; omega)) hb
  clear Hc Hi Ht Hr HB hb ck hb0
  have Hc := Hc'
  clear Hc'
  have Hi := Hi'
  clear Hi'
  have Ht := Ht'
  clear Ht'
  have Hr := Hr'
  clear Hr'
  have HB := HB'
  clear HB'
  have bc0 := cell_heap Hc.out 0 _ rfl
  have bc1 := cell_heap Hc.out 1 _ rfl
  have bc2 := cell_heap Hc.out 2 _ rfl
  have ltc : w.heap.size < u73.heap.size := (Array.getElem?_eq_some_iff.1 Hc.out).1
  have bi0 := cell_heap Hi.out 0 _ rfl
  have lti : w.heap.size + 1 < u73.heap.size := (Array.getElem?_eq_some_iff.1 Hi.out).1
  have bt0 := cell_heap Ht.out 0 _ rfl
  have ltt : w.heap.size + 1 + 1 < u73.heap.size := (Array.getElem?_eq_some_iff.1 Ht.out).1
  go_wp2_with fail
  refine (ce _ HB.out).mono ?_
  rintro e u74 ⟨rfl, hb⟩
  have Hc' : Aside (u74.heap[w.heap.size]? = some (.cells #[.int .i64 cp, .slice (some ⟨b, off, none⟩) bl.length c1, .slice ao2 hs.length c2] 25 (0, 0))) := heap_later (by repeat (first | exact Hc.out | exact Hi.out | exact Ht.out | exact Hr.out | exact hp_new (by first | rfl | (simp [size_plus, size_holds]; done) | (simp [size_plus, size_holds]; omega)) | (with_reducible refine hp_old ?_) | (with_reducible refine hp_plus ?_) | (with_reducible refine hh_eq (by first | assumption | (simp only [size_holds]; assumption))) | (with_reducible refine hh_ne (by omega) ?_))) hb
  have Hi' : Aside (u74.heap[w.heap.size + 1]? = some (.cells #[.int .i64 id] 3 (0, 0))) := heap_later (by repeat (first | exact Hc.out | exact Hi.out | exact Ht.out | exact Hr.out | exact hp_new (by first | rfl | (simp [size_plus, size_holds]; done) | (simp [size_plus, size_holds]; omega)) | (with_reducible refine hp_old ?_) | (with_reducible refine hp_plus ?_) | (with_reducible refine hh_eq (by first | assumption | (simp only [size_holds]; assumption))) | (with_reducible refine hh_ne (by omega) ?_))) hb
  have Ht' : Aside (u74.heap[w.heap.size + 1 + 1]? = some (.cells #[.int .i64 at'] 3 (0, 0))) := heap_later (by repeat (first | exact Hc.out | exact Hi.out | exact Ht.out | exact Hr.out | exact hp_new (by first | rfl | (simp [size_plus, size_holds]; done) | (simp [size_plus, size_holds]; omega)) | (with_reducible refine hp_old ?_) | (with_reducible refine hp_plus ?_) | (with_reducible refine hh_eq (by first | assumption | (simp only [size_holds]; assumption))) | (with_reducible refine hh_ne (by omega) ?_))) hb
  have Hr' : Aside (u74.heap[w.heap.size + 1 + 1 + 1]? = some (.cells #[.int .i64 0, .slice none 0 0, .slice none 0 0] 25 (0, 0))) := heap_later (by repeat (first | exact Hc.out | exact Hi.out | exact Ht.out | exact Hr.out | exact hp_new (by first | rfl | (simp [size_plus, size_holds]; done) | (simp [size_plus, size_holds]; omega)) | (with_reducible refine hp_old ?_) | (with_reducible refine hp_plus ?_) | (with_reducible refine hh_eq (by first | assumption | (simp only [size_holds]; assumption))) | (with_reducible refine hh_ne (by omega) ?_))) hb
  have HB' : Aside (Below w.heap.size w u74) := below_step (by
    have hHB := HB.out
    repeat (first | (with_reducible exact Below.refl _ _) | (with_reducible assumption) | (with_reducible refine below_to_plus ?_ ?_ _) | (with_reducible refine below_holds ?_ ?_ _ _) | (with_reducible refine Below.alloc ?_ ?_ _) | (with_reducible refine Below.drew ?_) | (with_reducible refine below_drewN ?_ _) | (with_reducible refine Below.setCell ?_ ?_ _))
    all_goals first | omega | (simp; done) | (simp [go_sem]; done) | (simp [go_sem]; omega)) hb
  clear Hc Hi Ht Hr HB hb ce bc0 bc1 bc2 bi0 bt0 ltc lti ltt
  have Hc := Hc'
  clear Hc'
  have Hi := Hi'
  clear Hi'
  have Ht := Ht'
  clear Ht'
  have Hr := Hr'
  clear Hr'
  have HB := HB'
  clear HB'
  have bc0 := cell_heap Hc.out 0 _ rfl
  have bc1 := cell_heap Hc.out 1 _ rfl
  have bc2 := cell_heap Hc.out 2 _ rfl
  have ltc : w.heap.size < u74.heap.size := (Array.getElem?_eq_some_iff.1 Hc.out).1
  have bi0 := cell_heap Hi.out 0 _ rfl
  have lti : w.heap.size + 1 < u74.heap.size := (Array.getElem?_eq_some_iff.1 Hi.out).1
  have bt0 := cell_heap Ht.out 0 _ rfl
  have ltt : w.heap.size + 1 + 1 < u74.heap.size := (Array.getElem?_eq_some_iff.1 Ht.out).1
  go_wp2
  refine wp_region_plus (by kernel_rfl) (by kernel_rfl) ?_
  repeat (go_big_quiet_step (fail))
  refine wpQuiet_nil ?_
  rintro _ ⟨x1, rfl⟩
  go_wp2_with fail
  refine (cx _ (by
    have hHB := HB.out
    repeat (first | (with_reducible exact Below.refl _ _) | (with_reducible assumption) | (with_reducible refine below_to_plus ?_ ?_ _) | (with_reducible refine below_holds ?_ ?_ _ _) | (with_reducible refine Below.alloc ?_ ?_ _) | (with_reducible refine Below.drew ?_) | (with_reducible refine below_drewN ?_ _) | (with_reducible refine Below.setCell ?_ ?_ _))
    all_goals first | omega | (simp; done) | (simp [go_sem]; done) | (simp [go_sem]; omega)) (by repeat (first | exact Hc.out | exact Hi.out | exact Ht.out | exact Hr.out | exact hp_new (by first | rfl | (simp [size_plus, size_holds]; done) | (simp [size_plus, size_holds]; omega)) | (with_reducible refine hp_old ?_) | (with_reducible refine hp_plus ?_) | (with_reducible refine hh_eq (by first | assumption | (simp only [size_holds]; assumption))) | (with_reducible refine hh_ne (by omega) ?_))) (by repeat (first | exact Hc.out | exact Hi.out | exact Ht.out | exact Hr.out | exact hp_new (by first | rfl | (simp [size_plus, size_holds]; done) | (simp [size_plus, size_holds]; omega)) | (with_reducible refine hp_old ?_) | (with_reducible refine hp_plus ?_) | (with_reducible refine hh_eq (by first | assumption | (simp only [size_holds]; assumption))) | (with_reducible refine hh_ne (by omega) ?_)))).mono ?_
  rintro e u75 ⟨rfl, hb⟩
  have Hc' : Aside (u75.heap[w.heap.size]? = some (.cells #[.int .i64 cp, .slice (some ⟨b, off, none⟩) bl.length c1, .slice ao2 hs.length c2] 25 (0, 0))) := heap_later (by repeat (first | exact Hc.out | exact Hi.out | exact Ht.out | exact Hr.out | exact hp_new (by first | rfl | (simp [size_plus, size_holds]; done) | (simp [size_plus, size_holds]; omega)) | (with_reducible refine hp_old ?_) | (with_reducible refine hp_plus ?_) | (with_reducible refine hh_eq (by first | assumption | (simp only [size_holds]; assumption))) | (with_reducible refine hh_ne (by omega) ?_))) hb
  have Hi' : Aside (u75.heap[w.heap.size + 1]? = some (.cells #[.int .i64 id] 3 (0, 0))) := heap_later (by repeat (first | exact Hc.out | exact Hi.out | exact Ht.out | exact Hr.out | exact hp_new (by first | rfl | (simp [size_plus, size_holds]; done) | (simp [size_plus, size_holds]; omega)) | (with_reducible refine hp_old ?_) | (with_reducible refine hp_plus ?_) | (with_reducible refine hh_eq (by first | assumption | (simp only [size_holds]; assumption))) | (with_reducible refine hh_ne (by omega) ?_))) hb
  have Ht' : Aside (u75.heap[w.heap.size + 1 + 1]? = some (.cells #[.int .i64 at'] 3 (0, 0))) := heap_later (by repeat (first | exact Hc.out | exact Hi.out | exact Ht.out | exact Hr.out | exact hp_new (by first | rfl | (simp [size_plus, size_holds]; done) | (simp [size_plus, size_holds]; omega)) | (with_reducible refine hp_old ?_) | (with_reducible refine hp_plus ?_) | (with_reducible refine hh_eq (by first | assumption | (simp only [size_holds]; assumption))) | (with_reducible refine hh_ne (by omega) ?_))) hb
  have Hr' : Aside (u75.heap[w.heap.size + 1 + 1 + 1]? = some (.cells #[.int .i64 0, .slice none 0 0, .slice none 0 0] 25 (0, 0))) := heap_later (by repeat (first | exact Hc.out | exact Hi.out | exact Ht.out | exact Hr.out | exact hp_new (by first | rfl | (simp [size_plus, size_holds]; done) | (simp [size_plus, size_holds]; omega)) | (with_reducible refine hp_old ?_) | (with_reducible refine hp_plus ?_) | (with_reducible refine hh_eq (by first | assumption | (simp only [size_holds]; assumption))) | (with_reducible refine hh_ne (by omega) ?_))) hb
  have HB' : Aside (Below w.heap.size w u75) := below_step (by
    have hHB := HB.out
    repeat (first | (with_reducible exact Below.refl _ _) | (with_reducible assumption) | (with_reducible refine below_to_plus ?_ ?_ _) | (with_reducible refine below_holds ?_ ?_ _ _) | (with_reducible refine Below.alloc ?_ ?_ _) | (with_reducible refine Below.drew ?_) | (with_reducible refine below_drewN ?_ _) | (with_reducible refine Below.setCell ?_ ?_ _))
    all_goals first | omega | (simp; done) | (simp [go_sem]; done) | (simp [go_sem]; omega)) hb
  clear Hc Hi Ht Hr HB hb cx bc0 bc1 bc2 bi0 bt0 ltc lti ltt
  have Hc := Hc'
  clear Hc'
  have Hi := Hi'
  clear Hi'
  have Ht := Ht'
  clear Ht'
  have Hr := Hr'
  clear Hr'
  have HB := HB'
  clear HB'
  have bc0 := cell_heap Hc.out 0 _ rfl
  have bc1 := cell_heap Hc.out 1 _ rfl
  have bc2 := cell_heap Hc.out 2 _ rfl
  have ltc : w.heap.size < u75.heap.size := (Array.getElem?_eq_some_iff.1 Hc.out).1
  have bi0 := cell_heap Hi.out 0 _ rfl
  have lti : w.heap.size + 1 < u75.heap.size := (Array.getElem?_eq_some_iff.1 Hi.out).1
  have bt0 := cell_heap Ht.out 0 _ rfl
  have ltt : w.heap.size + 1 + 1 < u75.heap.size := (Array.getElem?_eq_some_iff.1 Ht.out).1
  have n0 := (HB.out.cell (p := ⟨b, off + j * 4, none⟩) hbw).trans f0
  have n1 := (HB.out.cell (p := ⟨b, off + j * 4 + 1, none⟩) hbw).trans f1
  have n2 := (HB.out.cell (p := ⟨b, off + j * 4 + 2, none⟩) hbw).trans f2
  have n3 := (HB.out.cell (p := ⟨b, off + j * 4 + 3, none⟩) hbw).trans f3
  have hbr : b < u75.heap.size := Nat.lt_of_lt_of_le hbw HB.out.size
  go_wp2
  refine wp_region_plus (by kernel_rfl) (by kernel_rfl) ?_
  repeat (go_big_quiet_step (fail))
  refine wpQuiet_nil ?_
  rintro _ ⟨x1, rfl⟩
  go_wp2_with fail
  refine (copied_calls cp (some ⟨b, off, none⟩) bl.length c1 ao2 hs.length c2 bl hs _ (S1.out.stays (by
    have hHB := HB.out
    repeat (first | (with_reducible exact Below.refl _ _) | (with_reducible assumption) | (with_reducible refine below_to_plus ?_ ?_ _) | (with_reducible refine below_holds ?_ ?_ _ _) | (with_reducible refine Below.alloc ?_ ?_ _) | (with_reducible refine Below.drew ?_) | (with_reducible refine below_drewN ?_ _) | (with_reducible refine Below.setCell ?_ ?_ _))
    all_goals first | omega | (simp; done) | (simp [go_sem]; done) | (simp [go_sem]; omega))) (S2.out.stays (by
    have hHB := HB.out
    repeat (first | (with_reducible exact Below.refl _ _) | (with_reducible assumption) | (with_reducible refine below_to_plus ?_ ?_ _) | (with_reducible refine below_holds ?_ ?_ _ _) | (with_reducible refine Below.alloc ?_ ?_ _) | (with_reducible refine Below.drew ?_) | (with_reducible refine below_drewN ?_ _) | (with_reducible refine Below.setCell ?_ ?_ _))
    all_goals first | omega | (simp; done) | (simp [go_sem]; done) | (simp [go_sem]; omega))) hn hn2).mono ?_
  rintro e u76 ⟨a1, k1, a2, k2, rfl, o1, o2, hb⟩
  have Hr' : Aside (u76.heap[w.heap.size + 1 + 1 + 1]? = some (.cells #[.int .i64 0, .slice none 0 0, .slice none 0 0] 25 (0, 0))) := heap_later (by repeat (first | exact Hc.out | exact Hi.out | exact Ht.out | exact Hr.out | exact hp_new (by first | rfl | (simp [size_plus, size_holds]; done) | (simp [size_plus, size_holds]; omega)) | (with_reducible refine hp_old ?_) | (with_reducible refine hp_plus ?_) | (with_reducible refine hh_eq (by first | assumption | (simp only [size_holds]; assumption))) | (with_reducible refine hh_ne (by omega) ?_))) hb
  have Rbl' : Aside (u76.ownsRow w.heap.size 47 4 (.slice a1 bl.length k1) bl.length (flatE Pc.enc bl)) := own_lower o1 (by have := HB.out.size; simp [size_plus]; omega)
  have Rhs' : Aside (u76.ownsRow w.heap.size 36 3 (.slice a2 hs.length k2) hs.length (flatE Hd.enc hs)) := own_lower o2 (by have := HB.out.size; simp [size_plus]; omega)
  have HB' : Aside (Below w.heap.size w u76) := below_step (by
    have hHB := HB.out
    repeat (first | (with_reducible exact Below.refl _ _) | (with_reducible assumption) | (with_reducible refine below_to_plus ?_ ?_ _) | (with_reducible refine below_holds ?_ ?_ _ _) | (with_reducible refine Below.alloc ?_ ?_ _) | (with_reducible refine Below.drew ?_) | (with_reducible refine below_drewN ?_ _) | (with_reducible refine Below.setCell ?_ ?_ _))
    all_goals first | omega | (simp; done) | (simp [go_sem]; done) | (simp [go_sem]; omega)) hb
  clear Hc Hi Ht Hr HB hb o1 o2 bc0 bc1 bc2 bi0 bt0 ltc lti ltt n0 n1 n2 n3 hbr
  have Hr := Hr'
  clear Hr'
  have Rbl := Rbl'
  clear Rbl'
  have Rhs := Rhs'
  clear Rhs'
  have HB := HB'
  clear HB'
  have ltr : w.heap.size + 1 + 1 + 1 < u76.heap.size := (Array.getElem?_eq_some_iff.1 Hr.out).1
  have nblr : (.slice a1 bl.length k1 : Value).ownBlock ≠ some (w.heap.size + 1 + 1 + 1) := own_ne Rbl.out Hr.out (by decide)
  have nhsr : (.slice a2 hs.length k2 : Value).ownBlock ≠ some (w.heap.size + 1 + 1 + 1) := own_ne Rhs.out Hr.out (by decide)
  rw [holds_self Hr.out]
  go_wp2
  refine bodyPost_ret (v := .tuple #[.agg #[.int .i64 cp, .slice a1 bl.length k1, .slice a2 hs.length k2], .string ⟨#[]⟩, .bool false]) (by simp [results, Try.results17, go_sem, ↓IntWalk.iteOmega, *]) rfl ⟨_, _, _, _, rfl, own_slP (B := w.heap.size) (by repeat (first | exact Rbl.out | (with_reducible refine own_alloc ?_) | (with_reducible refine own_plus ?_) | (with_reducible refine own_holds ?_ ?_) | assumption)), own_slH (B := w.heap.size) (by repeat (first | exact Rhs.out | (with_reducible refine own_alloc ?_) | (with_reducible refine own_plus ?_) | (with_reducible refine own_holds ?_ ?_) | assumption)), (by
    have hHB := HB.out
    repeat (first | (with_reducible exact Below.refl _ _) | (with_reducible assumption) | (with_reducible refine below_to_plus ?_ ?_ _) | (with_reducible refine below_holds ?_ ?_ _ _) | (with_reducible refine Below.alloc ?_ ?_ _) | (with_reducible refine Below.drew ?_) | (with_reducible refine below_drewN ?_ _) | (with_reducible refine Below.setCell ?_ ?_ _))
    all_goals first | omega | (simp; done) | (simp [go_sem]; done) | (simp [go_sem]; omega))⟩

set_option maxHeartbeats 16000000 in
theorem get_short_f (cp : Int) (ao : Option Addr) (n c1 : Nat) (ao2 : Option Addr) (n2 c2 : Nat) (bl : List Pc) (hs : List Hd) (id at' cnt now : Int) (w : World) (h1 : Sl w 4 ao n c1 (bl.map Pc.enc)) (h2 : Sl w 3 ao2 n2 c2 (hs.map Hd.enc)) (hn : n ≤ 1000000) (hn2 : n2 ≤ 1000000) (ha : AscH hs) (hh : heldB id now hs = true) (h0 : 0 ≤ at') (hc : 0 ≤ cnt) {k : Nat} (hk : k < bl.length) (he : endI id bl = (k : Int)) (hp : at' < bl[k]!.pos) (ok : ∀ y ∈ bl, OkP y) {j : Nat} (hj : j < bl.length) (hv : covI id at' bl = (j : Int)) (hq1 : bl[j]!.pos ≤ at') (hq2 : at' < endP bl[j]!) (hcn : ((bl[j]!.data.extract (at' - bl[j]!.pos).toNat bl[j]!.data.size).size : Int) < cnt) (hne : bl[k]!.pos ≠ endP bl[j]!) :
    Calls Try.prog 17 #[.agg #[.int .i64 cp, .slice ao n c1, .slice ao2 n2 c2], .int .i64 id, .int .i64 at', .int .i64 cnt, .int .i64 now] w fun e w' => GetPost w cp hs (bl, ⟨#[]⟩, false) e w' := by
  have hln : bl.length = n := Sl.lenE h1
  have hln2 : hs.length = n2 := Sl.lenE h2
  subst hln
  subst hln2
  have S1 : Aside (Sl w 4 ao bl.length c1 (bl.map Pc.enc)) := h1
  have S2 : Aside (Sl w 3 ao2 hs.length c2 (hs.map Hd.enc)) := h2
  have hb0 : Below w.heap.size w ((((w.alloc (.cells #[.int .i64 cp, .slice ao bl.length c1, .slice ao2 hs.length c2] 25)).alloc (.cells #[.int .i64 id] 3)).alloc (.cells #[.int .i64 at'] 3)).alloc (.cells #[.int .i64 0, .slice none 0 0, .slice none 0 0] 25)) := by
    repeat (first | (with_reducible exact Below.refl _ _) | (with_reducible assumption) | (with_reducible refine below_to_plus ?_ ?_ _) | (with_reducible refine below_holds ?_ ?_ _ _) | (with_reducible refine Below.alloc ?_ ?_ _) | (with_reducible refine Below.drew ?_) | (with_reducible refine below_drewN ?_ _) | (with_reducible refine Below.setCell ?_ ?_ _))
    all_goals first | omega | (simp; done) | (simp [go_sem]; done) | (simp [go_sem]; omega)
  have HB : Aside (Below w.heap.size w ((((w.alloc (.cells #[.int .i64 cp, .slice ao bl.length c1, .slice ao2 hs.length c2] 25)).alloc (.cells #[.int .i64 id] 3)).alloc (.cells #[.int .i64 at'] 3)).alloc (.cells #[.int .i64 0, .slice none 0 0, .slice none 0 0] 25))) := hb0
  have Hc : Aside (((((w.alloc (.cells #[.int .i64 cp, .slice ao bl.length c1, .slice ao2 hs.length c2] 25)).alloc (.cells #[.int .i64 id] 3)).alloc (.cells #[.int .i64 at'] 3)).alloc (.cells #[.int .i64 0, .slice none 0 0, .slice none 0 0] 25)).heap[w.heap.size]? = some (.cells #[.int .i64 cp, .slice ao bl.length c1, .slice ao2 hs.length c2] 25 (0, 0))) := by repeat (first | exact hp_new (by first | rfl | (simp; done) | (simp; omega)) | refine hp_old ?_)
  have Hi : Aside (((((w.alloc (.cells #[.int .i64 cp, .slice ao bl.length c1, .slice ao2 hs.length c2] 25)).alloc (.cells #[.int .i64 id] 3)).alloc (.cells #[.int .i64 at'] 3)).alloc (.cells #[.int .i64 0, .slice none 0 0, .slice none 0 0] 25)).heap[w.heap.size + 1]? = some (.cells #[.int .i64 id] 3 (0, 0))) := by repeat (first | exact hp_new (by first | rfl | (simp; done) | (simp; omega)) | refine hp_old ?_)
  have Ht : Aside (((((w.alloc (.cells #[.int .i64 cp, .slice ao bl.length c1, .slice ao2 hs.length c2] 25)).alloc (.cells #[.int .i64 id] 3)).alloc (.cells #[.int .i64 at'] 3)).alloc (.cells #[.int .i64 0, .slice none 0 0, .slice none 0 0] 25)).heap[w.heap.size + 1 + 1]? = some (.cells #[.int .i64 at'] 3 (0, 0))) := by repeat (first | exact hp_new (by first | rfl | (simp; done) | (simp; omega)) | refine hp_old ?_)
  have Hr : Aside (((((w.alloc (.cells #[.int .i64 cp, .slice ao bl.length c1, .slice ao2 hs.length c2] 25)).alloc (.cells #[.int .i64 id] 3)).alloc (.cells #[.int .i64 at'] 3)).alloc (.cells #[.int .i64 0, .slice none 0 0, .slice none 0 0] 25)).heap[w.heap.size + 1 + 1 + 1]? = some (.cells #[.int .i64 0, .slice none 0 0, .slice none 0 0] 25 (0, 0))) := by repeat (first | exact hp_new (by first | rfl | (simp; done) | (simp; omega)) | refine hp_old ?_)
  have ck := held_calls cp ao bl.length c1 ao2 hs.length c2 hs id now ((((w.alloc (.cells #[.int .i64 cp, .slice ao bl.length c1, .slice ao2 hs.length c2] 25)).alloc (.cells #[.int .i64 id] 3)).alloc (.cells #[.int .i64 at'] 3)).alloc (.cells #[.int .i64 0, .slice none 0 0, .slice none 0 0] 25)) (h2.stays hb0) hn2 ha
  rw [hh] at ck
  have ce := fun U hU => end_calls cp ao bl.length c1 ao2 hs.length c2 bl id U (S1.out.stays hU)
  rw [he] at ce
  have x0 : ¬ at' < 0 := by omega
  have xc : ¬ cnt < 0 := by omega
  have hbig : bl.length ≤ 9223372036854775807 := by omega
  obtain ⟨b, off, eao, hbw, e0, e1, e2, e3⟩ := (cellsPc h1) k hk
  subst eao
  have hkz : (k : Int) < (bl.length : Int) := by omega
  have hpn : ¬ bl[k]!.pos ≤ at' := by omega
  have hpd : decide (bl[k]!.pos ≤ at') = false := decide_eq_false hpn
  obtain ⟨b9, off9, eb9, _, f0, f1, f2, f3⟩ := (cellsPc h1) j hj
  cases eb9
  have eg : ∀ args w, (callFunc 36 args).run Try.prog w = .ok (.enter 36 args) w := enters_of Try.func36 (by kernel_rfl) rfl
  have cx : ∀ U, Below w.heap.size w U → U.heap[w.heap.size + 1]? = some (.cells #[.int .i64 id] 3 (0, 0)) → U.heap[w.heap.size + 1 + 1]? = some (.cells #[.int .i64 at'] 3 (0, 0)) → Calls Try.prog 35 #[.slice (some ⟨b, off, none⟩) bl.length c1, .func (.func 36) #[] #[.pointer (some ⟨w.heap.size + 1, 0, none⟩), .pointer (some ⟨w.heap.size + 1 + 1, 0, none⟩)]] U fun e w' => e = .returned (.int .i64 (covI id at' bl)) ∧ Below U.heap.size U w' := fun U hU hi ht => by
    have := pcIndexFunc_calls (isC id at') 36 _ eg _ _ _ bl U (S1.out.stays hU) (pred_get id at' bl ok (w.heap.size + 1) (w.heap.size + 1 + 1) U (Array.getElem?_eq_some_iff.1 hi).1 (cell_heap hi 0 _ rfl) (Array.getElem?_eq_some_iff.1 ht).1 (cell_heap ht 0 _ rfl))
    rw [idx_fst] at this
    exact this
  rw [hv] at cx
  have hjz : (j : Int) < (bl.length : Int) := by omega
  have oy := ok _ (by rw [getElem!_pos bl j hj]; exact List.getElem_mem _ : bl[j]! ∈ bl)
  obtain ⟨rs, hrs⟩ : ∃ rs, (bl[j]!.data.extract (at' - bl[j]!.pos).toNat bl[j]!.data.size) = rs := ⟨_, rfl⟩
  have RS : Aside (_ = rs) := hrs
  rw [hrs] at hcn
  clear hrs
  have hne2 : (bl[k]!.pos != bl[j]!.pos + (bl[j]!.data.size : Int)) = true := bne_iff_ne.2 hne
  clear hne
  clear hh he ok hv h1 h2
  clear hp
  generalize bl[k]! = z at e0 e1 e2 e3 hpd hpn hne2
  obtain ⟨z1, z2, z3, z4⟩ := z
  simp only [] at e0 e1 e2 e3 hpd hpn
  generalize bl[j]! = y at f0 f1 f2 f3 hq1 hq2 oy RS hne2
  obtain ⟨y1, y2, y3, y4⟩ := y
  simp only [] at f0 f1 f2 f3 hq1 oy hne2
  have hq3 : at' < y3 + (y4.size : Int) := hq2
  have hsub : IntKind.i64.wrap (at' - y3) = at' - y3 := by
    have o1 := oy.1.1
    have o2 := oy.1.2
    have o3 := oy.2
    simp only [] at o1 o2 o3
    rw [IntKind.wrap_i64]; omega
  have x2 : ∀ U, (Instr.slice 9 (.string y4) (some (.int .i64 (at' - y3))) none none).run Try.prog U = .ok (.string (y4.extract (at' - y3).toNat y4.size)) U := fun U => by
    rw [run_slice_string_from_if (P := Try.prog) U 9 y4 .i64 (at' - y3) Try.underlying9, if_pos (by omega)]
  have RS2 : (y4.extract (at' - y3).toNat y4.size) = rs := RS.out
  rw [RS2] at x2
  clear RS RS2
  have hadd : IntKind.i64.wrap (y3 + (y4.size : Int)) = y3 + (y4.size : Int) := by
    have o1 := oy.1.1
    have o2 := oy.1.2
    have o3 := oy.2
    simp only [] at o1 o2 o3
    rw [IntKind.wrap_i64]; omega
  have hcn2 : ¬ cnt ≤ (rs.size : Int) := by omega
  clear oy
  go_enter Try.func17, Try.ntmps17
  go_wp2_with fail
  refine (ck).mono ?_
  rintro e u77 ⟨rfl, hb⟩
  have Hc' : Aside (u77.heap[w.heap.size]? = some (.cells #[.int .i64 cp, .slice (some ⟨b, off, none⟩) bl.length c1, .slice ao2 hs.length c2] 25 (0, 0))) := heap_later (by repeat (first | exact Hc.out | exact Hi.out | exact Ht.out | exact Hr.out | exact hp_new (by first | rfl | (simp [size_plus, size_holds]; done) | (simp [size_plus, size_holds]; omega)) | (with_reducible refine hp_old ?_) | (with_reducible refine hp_plus ?_) | (with_reducible refine hh_eq (by first | assumption | (simp only [size_holds]; assumption))) | (with_reducible refine hh_ne (by omega) ?_))) hb
  have Hi' : Aside (u77.heap[w.heap.size + 1]? = some (.cells #[.int .i64 id] 3 (0, 0))) := heap_later (by repeat (first | exact Hc.out | exact Hi.out | exact Ht.out | exact Hr.out | exact hp_new (by first | rfl | (simp [size_plus, size_holds]; done) | (simp [size_plus, size_holds]; omega)) | (with_reducible refine hp_old ?_) | (with_reducible refine hp_plus ?_) | (with_reducible refine hh_eq (by first | assumption | (simp only [size_holds]; assumption))) | (with_reducible refine hh_ne (by omega) ?_))) hb
  have Ht' : Aside (u77.heap[w.heap.size + 1 + 1]? = some (.cells #[.int .i64 at'] 3 (0, 0))) := heap_later (by repeat (first | exact Hc.out | exact Hi.out | exact Ht.out | exact Hr.out | exact hp_new (by first | rfl | (simp [size_plus, size_holds]; done) | (simp [size_plus, size_holds]; omega)) | (with_reducible refine hp_old ?_) | (with_reducible refine hp_plus ?_) | (with_reducible refine hh_eq (by first | assumption | (simp only [size_holds]; assumption))) | (with_reducible refine hh_ne (by omega) ?_))) hb
  have Hr' : Aside (u77.heap[w.heap.size + 1 + 1 + 1]? = some (.cells #[.int .i64 0, .slice none 0 0, .slice none 0 0] 25 (0, 0))) := heap_later (by repeat (first | exact Hc.out | exact Hi.out | exact Ht.out | exact Hr.out | exact hp_new (by first | rfl | (simp [size_plus, size_holds]; done) | (simp [size_plus, size_holds]; omega)) | (with_reducible refine hp_old ?_) | (with_reducible refine hp_plus ?_) | (with_reducible refine hh_eq (by first | assumption | (simp only [size_holds]; assumption))) | (with_reducible refine hh_ne (by omega) ?_))) hb
  have HB' : Aside (Below w.heap.size w u77) := below_step (by
    have hHB := HB.out
    repeat (first | (with_reducible exact Below.refl _ _) | (with_reducible assumption) | (with_reducible refine below_to_plus ?_ ?_ _) | (with_reducible refine below_holds ?_ ?_ _ _) | (with_reducible refine Below.alloc ?_ ?_ _) | (with_reducible refine Below.drew ?_) | (with_reducible refine below_drewN ?_ _) | (with_reducible refine Below.setCell ?_ ?_ _))
    all_goals first | omega | (simp; done) | (simp [go_sem]; done) | (simp [go_sem]; omega)) hb
  clear Hc Hi Ht Hr HB hb ck hb0
  have Hc := Hc'
  clear Hc'
  have Hi := Hi'
  clear Hi'
  have Ht := Ht'
  clear Ht'
  have Hr := Hr'
  clear Hr'
  have HB := HB'
  clear HB'
  have bc0 := cell_heap Hc.out 0 _ rfl
  have bc1 := cell_heap Hc.out 1 _ rfl
  have bc2 := cell_heap Hc.out 2 _ rfl
  have ltc : w.heap.size < u77.heap.size := (Array.getElem?_eq_some_iff.1 Hc.out).1
  have bi0 := cell_heap Hi.out 0 _ rfl
  have lti : w.heap.size + 1 < u77.heap.size := (Array.getElem?_eq_some_iff.1 Hi.out).1
  have bt0 := cell_heap Ht.out 0 _ rfl
  have ltt : w.heap.size + 1 + 1 < u77.heap.size := (Array.getElem?_eq_some_iff.1 Ht.out).1
  go_wp2_with fail
  refine (ce _ HB.out).mono ?_
  rintro e u78 ⟨rfl, hb⟩
  have Hc' : Aside (u78.heap[w.heap.size]? = some (.cells #[.int .i64 cp, .slice (some ⟨b, off, none⟩) bl.length c1, .slice ao2 hs.length c2] 25 (0, 0))) := heap_later (by repeat (first | exact Hc.out | exact Hi.out | exact Ht.out | exact Hr.out | exact hp_new (by first | rfl | (simp [size_plus, size_holds]; done) | (simp [size_plus, size_holds]; omega)) | (with_reducible refine hp_old ?_) | (with_reducible refine hp_plus ?_) | (with_reducible refine hh_eq (by first | assumption | (simp only [size_holds]; assumption))) | (with_reducible refine hh_ne (by omega) ?_))) hb
  have Hi' : Aside (u78.heap[w.heap.size + 1]? = some (.cells #[.int .i64 id] 3 (0, 0))) := heap_later (by repeat (first | exact Hc.out | exact Hi.out | exact Ht.out | exact Hr.out | exact hp_new (by first | rfl | (simp [size_plus, size_holds]; done) | (simp [size_plus, size_holds]; omega)) | (with_reducible refine hp_old ?_) | (with_reducible refine hp_plus ?_) | (with_reducible refine hh_eq (by first | assumption | (simp only [size_holds]; assumption))) | (with_reducible refine hh_ne (by omega) ?_))) hb
  have Ht' : Aside (u78.heap[w.heap.size + 1 + 1]? = some (.cells #[.int .i64 at'] 3 (0, 0))) := heap_later (by repeat (first | exact Hc.out | exact Hi.out | exact Ht.out | exact Hr.out | exact hp_new (by first | rfl | (simp [size_plus, size_holds]; done) | (simp [size_plus, size_holds]; omega)) | (with_reducible refine hp_old ?_) | (with_reducible refine hp_plus ?_) | (with_reducible refine hh_eq (by first | assumption | (simp only [size_holds]; assumption))) | (with_reducible refine hh_ne (by omega) ?_))) hb
  have Hr' : Aside (u78.heap[w.heap.size + 1 + 1 + 1]? = some (.cells #[.int .i64 0, .slice none 0 0, .slice none 0 0] 25 (0, 0))) := heap_later (by repeat (first | exact Hc.out | exact Hi.out | exact Ht.out | exact Hr.out | exact hp_new (by first | rfl | (simp [size_plus, size_holds]; done) | (simp [size_plus, size_holds]; omega)) | (with_reducible refine hp_old ?_) | (with_reducible refine hp_plus ?_) | (with_reducible refine hh_eq (by first | assumption | (simp only [size_holds]; assumption))) | (with_reducible refine hh_ne (by omega) ?_))) hb
  have HB' : Aside (Below w.heap.size w u78) := below_step (by
    have hHB := HB.out
    repeat (first | (with_reducible exact Below.refl _ _) | (with_reducible assumption) | (with_reducible refine below_to_plus ?_ ?_ _) | (with_reducible refine below_holds ?_ ?_ _ _) | (with_reducible refine Below.alloc ?_ ?_ _) | (with_reducible refine Below.drew ?_) | (with_reducible refine below_drewN ?_ _) | (with_reducible refine Below.setCell ?_ ?_ _))
    all_goals first | omega | (simp; done) | (simp [go_sem]; done) | (simp [go_sem]; omega)) hb
  clear Hc Hi Ht Hr HB hb ce bc0 bc1 bc2 bi0 bt0 ltc lti ltt
  have Hc := Hc'
  clear Hc'
  have Hi := Hi'
  clear Hi'
  have Ht := Ht'
  clear Ht'
  have Hr := Hr'
  clear Hr'
  have HB := HB'
  clear HB'
  have bc0 := cell_heap Hc.out 0 _ rfl
  have bc1 := cell_heap Hc.out 1 _ rfl
  have bc2 := cell_heap Hc.out 2 _ rfl
  have ltc : w.heap.size < u78.heap.size := (Array.getElem?_eq_some_iff.1 Hc.out).1
  have bi0 := cell_heap Hi.out 0 _ rfl
  have lti : w.heap.size + 1 < u78.heap.size := (Array.getElem?_eq_some_iff.1 Hi.out).1
  have bt0 := cell_heap Ht.out 0 _ rfl
  have ltt : w.heap.size + 1 + 1 < u78.heap.size := (Array.getElem?_eq_some_iff.1 Ht.out).1
  have m0 := (HB.out.cell (p := ⟨b, off + k * 4, none⟩) hbw).trans e0
  have m1 := (HB.out.cell (p := ⟨b, off + k * 4 + 1, none⟩) hbw).trans e1
  have m2 := (HB.out.cell (p := ⟨b, off + k * 4 + 2, none⟩) hbw).trans e2
  have m3 := (HB.out.cell (p := ⟨b, off + k * 4 + 3, none⟩) hbw).trans e3
  have hbr : b < u78.heap.size := Nat.lt_of_lt_of_le hbw HB.out.size
  go_wp2
  refine wp_region_plus (by kernel_rfl) (by kernel_rfl) ?_
  repeat (go_big_quiet_step (fail))
  refine wpQuiet_nil ?_
  rintro _ ⟨x1, rfl⟩
  go_wp2_with fail
  refine (cx _ (by
    have hHB := HB.out
    repeat (first | (with_reducible exact Below.refl _ _) | (with_reducible assumption) | (with_reducible refine below_to_plus ?_ ?_ _) | (with_reducible refine below_holds ?_ ?_ _ _) | (with_reducible refine Below.alloc ?_ ?_ _) | (with_reducible refine Below.drew ?_) | (with_reducible refine below_drewN ?_ _) | (with_reducible refine Below.setCell ?_ ?_ _))
    all_goals first | omega | (simp; done) | (simp [go_sem]; done) | (simp [go_sem]; omega)) (by repeat (first | exact Hc.out | exact Hi.out | exact Ht.out | exact Hr.out | exact hp_new (by first | rfl | (simp [size_plus, size_holds]; done) | (simp [size_plus, size_holds]; omega)) | (with_reducible refine hp_old ?_) | (with_reducible refine hp_plus ?_) | (with_reducible refine hh_eq (by first | assumption | (simp only [size_holds]; assumption))) | (with_reducible refine hh_ne (by omega) ?_))) (by repeat (first | exact Hc.out | exact Hi.out | exact Ht.out | exact Hr.out | exact hp_new (by first | rfl | (simp [size_plus, size_holds]; done) | (simp [size_plus, size_holds]; omega)) | (with_reducible refine hp_old ?_) | (with_reducible refine hp_plus ?_) | (with_reducible refine hh_eq (by first | assumption | (simp only [size_holds]; assumption))) | (with_reducible refine hh_ne (by omega) ?_)))).mono ?_
  rintro e u79 ⟨rfl, hb⟩
  have Hc' : Aside (u79.heap[w.heap.size]? = some (.cells #[.int .i64 cp, .slice (some ⟨b, off, none⟩) bl.length c1, .slice ao2 hs.length c2] 25 (0, 0))) := heap_later (by repeat (first | exact Hc.out | exact Hi.out | exact Ht.out | exact Hr.out | exact hp_new (by first | rfl | (simp [size_plus, size_holds]; done) | (simp [size_plus, size_holds]; omega)) | (with_reducible refine hp_old ?_) | (with_reducible refine hp_plus ?_) | (with_reducible refine hh_eq (by first | assumption | (simp only [size_holds]; assumption))) | (with_reducible refine hh_ne (by omega) ?_))) hb
  have Hi' : Aside (u79.heap[w.heap.size + 1]? = some (.cells #[.int .i64 id] 3 (0, 0))) := heap_later (by repeat (first | exact Hc.out | exact Hi.out | exact Ht.out | exact Hr.out | exact hp_new (by first | rfl | (simp [size_plus, size_holds]; done) | (simp [size_plus, size_holds]; omega)) | (with_reducible refine hp_old ?_) | (with_reducible refine hp_plus ?_) | (with_reducible refine hh_eq (by first | assumption | (simp only [size_holds]; assumption))) | (with_reducible refine hh_ne (by omega) ?_))) hb
  have Ht' : Aside (u79.heap[w.heap.size + 1 + 1]? = some (.cells #[.int .i64 at'] 3 (0, 0))) := heap_later (by repeat (first | exact Hc.out | exact Hi.out | exact Ht.out | exact Hr.out | exact hp_new (by first | rfl | (simp [size_plus, size_holds]; done) | (simp [size_plus, size_holds]; omega)) | (with_reducible refine hp_old ?_) | (with_reducible refine hp_plus ?_) | (with_reducible refine hh_eq (by first | assumption | (simp only [size_holds]; assumption))) | (with_reducible refine hh_ne (by omega) ?_))) hb
  have Hr' : Aside (u79.heap[w.heap.size + 1 + 1 + 1]? = some (.cells #[.int .i64 0, .slice none 0 0, .slice none 0 0] 25 (0, 0))) := heap_later (by repeat (first | exact Hc.out | exact Hi.out | exact Ht.out | exact Hr.out | exact hp_new (by first | rfl | (simp [size_plus, size_holds]; done) | (simp [size_plus, size_holds]; omega)) | (with_reducible refine hp_old ?_) | (with_reducible refine hp_plus ?_) | (with_reducible refine hh_eq (by first | assumption | (simp only [size_holds]; assumption))) | (with_reducible refine hh_ne (by omega) ?_))) hb
  have HB' : Aside (Below w.heap.size w u79) := below_step (by
    have hHB := HB.out
    repeat (first | (with_reducible exact Below.refl _ _) | (with_reducible assumption) | (with_reducible refine below_to_plus ?_ ?_ _) | (with_reducible refine below_holds ?_ ?_ _ _) | (with_reducible refine Below.alloc ?_ ?_ _) | (with_reducible refine Below.drew ?_) | (with_reducible refine below_drewN ?_ _) | (with_reducible refine Below.setCell ?_ ?_ _))
    all_goals first | omega | (simp; done) | (simp [go_sem]; done) | (simp [go_sem]; omega)) hb
  clear Hc Hi Ht Hr HB hb cx bc0 bc1 bc2 bi0 bt0 ltc lti ltt m0 m1 m2 m3 hbr
  have Hc := Hc'
  clear Hc'
  have Hi := Hi'
  clear Hi'
  have Ht := Ht'
  clear Ht'
  have Hr := Hr'
  clear Hr'
  have HB := HB'
  clear HB'
  have bc0 := cell_heap Hc.out 0 _ rfl
  have bc1 := cell_heap Hc.out 1 _ rfl
  have bc2 := cell_heap Hc.out 2 _ rfl
  have ltc : w.heap.size < u79.heap.size := (Array.getElem?_eq_some_iff.1 Hc.out).1
  have bi0 := cell_heap Hi.out 0 _ rfl
  have lti : w.heap.size + 1 < u79.heap.size := (Array.getElem?_eq_some_iff.1 Hi.out).1
  have bt0 := cell_heap Ht.out 0 _ rfl
  have ltt : w.heap.size + 1 + 1 < u79.heap.size := (Array.getElem?_eq_some_iff.1 Ht.out).1
  have n0 := (HB.out.cell (p := ⟨b, off + j * 4, none⟩) hbw).trans f0
  have n1 := (HB.out.cell (p := ⟨b, off + j * 4 + 1, none⟩) hbw).trans f1
  have n2 := (HB.out.cell (p := ⟨b, off + j * 4 + 2, none⟩) hbw).trans f2
  have n3 := (HB.out.cell (p := ⟨b, off + j * 4 + 3, none⟩) hbw).trans f3
  have hbr : b < u79.heap.size := Nat.lt_of_lt_of_le hbw HB.out.size
  have hk0 : ¬ (k : Int) < 0 := by omega
  have hk1 : decide ((k : Int) < 0) = false := decide_eq_false hk0
  have m0 := (HB.out.cell (p := ⟨b, off + k * 4, none⟩) hbw).trans e0
  have m1 := (HB.out.cell (p := ⟨b, off + k * 4 + 1, none⟩) hbw).trans e1
  have m2 := (HB.out.cell (p := ⟨b, off + k * 4 + 2, none⟩) hbw).trans e2
  have m3 := (HB.out.cell (p := ⟨b, off + k * 4 + 3, none⟩) hbw).trans e3
  go_wp2
  refine wp_region_plus (by kernel_rfl) (by kernel_rfl) ?_
  repeat (go_big_quiet_step (fail))
  refine wpQuiet_nil ?_
  rintro _ ⟨x1, rfl⟩
  go_wp2_with fail
  refine (copied_calls cp (some ⟨b, off, none⟩) bl.length c1 ao2 hs.length c2 bl hs _ (S1.out.stays (by
    have hHB := HB.out
    repeat (first | (with_reducible exact Below.refl _ _) | (with_reducible assumption) | (with_reducible refine below_to_plus ?_ ?_ _) | (with_reducible refine below_holds ?_ ?_ _ _) | (with_reducible refine Below.alloc ?_ ?_ _) | (with_reducible refine Below.drew ?_) | (with_reducible refine below_drewN ?_ _) | (with_reducible refine Below.setCell ?_ ?_ _))
    all_goals first | omega | (simp; done) | (simp [go_sem]; done) | (simp [go_sem]; omega))) (S2.out.stays (by
    have hHB := HB.out
    repeat (first | (with_reducible exact Below.refl _ _) | (with_reducible assumption) | (with_reducible refine below_to_plus ?_ ?_ _) | (with_reducible refine below_holds ?_ ?_ _ _) | (with_reducible refine Below.alloc ?_ ?_ _) | (with_reducible refine Below.drew ?_) | (with_reducible refine below_drewN ?_ _) | (with_reducible refine Below.setCell ?_ ?_ _))
    all_goals first | omega | (simp; done) | (simp [go_sem]; done) | (simp [go_sem]; omega))) hn hn2).mono ?_
  rintro e u80 ⟨a1, k1, a2, k2, rfl, o1, o2, hb⟩
  have Hr' : Aside (u80.heap[w.heap.size + 1 + 1 + 1]? = some (.cells #[.int .i64 0, .slice none 0 0, .slice none 0 0] 25 (0, 0))) := heap_later (by repeat (first | exact Hc.out | exact Hi.out | exact Ht.out | exact Hr.out | exact hp_new (by first | rfl | (simp [size_plus, size_holds]; done) | (simp [size_plus, size_holds]; omega)) | (with_reducible refine hp_old ?_) | (with_reducible refine hp_plus ?_) | (with_reducible refine hh_eq (by first | assumption | (simp only [size_holds]; assumption))) | (with_reducible refine hh_ne (by omega) ?_))) hb
  have Rbl' : Aside (u80.ownsRow w.heap.size 47 4 (.slice a1 bl.length k1) bl.length (flatE Pc.enc bl)) := own_lower o1 (by have := HB.out.size; simp [size_plus]; omega)
  have Rhs' : Aside (u80.ownsRow w.heap.size 36 3 (.slice a2 hs.length k2) hs.length (flatE Hd.enc hs)) := own_lower o2 (by have := HB.out.size; simp [size_plus]; omega)
  have HB' : Aside (Below w.heap.size w u80) := below_step (by
    have hHB := HB.out
    repeat (first | (with_reducible exact Below.refl _ _) | (with_reducible assumption) | (with_reducible refine below_to_plus ?_ ?_ _) | (with_reducible refine below_holds ?_ ?_ _ _) | (with_reducible refine Below.alloc ?_ ?_ _) | (with_reducible refine Below.drew ?_) | (with_reducible refine below_drewN ?_ _) | (with_reducible refine Below.setCell ?_ ?_ _))
    all_goals first | omega | (simp; done) | (simp [go_sem]; done) | (simp [go_sem]; omega)) hb
  clear Hc Hi Ht Hr HB hb o1 o2 bc0 bc1 bc2 bi0 bt0 ltc lti ltt n0 n1 n2 n3 hbr m0 m1 m2 m3
  have Hr := Hr'
  clear Hr'
  have Rbl := Rbl'
  clear Rbl'
  have Rhs := Rhs'
  clear Rhs'
  have HB := HB'
  clear HB'
  have ltr : w.heap.size + 1 + 1 + 1 < u80.heap.size := (Array.getElem?_eq_some_iff.1 Hr.out).1
  have nblr : (.slice a1 bl.length k1 : Value).ownBlock ≠ some (w.heap.size + 1 + 1 + 1) := own_ne Rbl.out Hr.out (by decide)
  have nhsr : (.slice a2 hs.length k2 : Value).ownBlock ≠ some (w.heap.size + 1 + 1 + 1) := own_ne Rhs.out Hr.out (by decide)
  rw [holds_self Hr.out]
  go_wp2
  refine bodyPost_ret (v := .tuple #[.agg #[.int .i64 cp, .slice a1 bl.length k1, .slice a2 hs.length k2], .string ⟨#[]⟩, .bool false]) (by simp [results, Try.results17, go_sem, ↓IntWalk.iteOmega, *]) rfl ⟨_, _, _, _, rfl, own_slP (B := w.heap.size) (by repeat (first | exact Rbl.out | (with_reducible refine own_alloc ?_) | (with_reducible refine own_plus ?_) | (with_reducible refine own_holds ?_ ?_) | assumption)), own_slH (B := w.heap.size) (by repeat (first | exact Rhs.out | (with_reducible refine own_alloc ?_) | (with_reducible refine own_plus ?_) | (with_reducible refine own_holds ?_ ?_) | assumption)), (by
    have hHB := HB.out
    repeat (first | (with_reducible exact Below.refl _ _) | (with_reducible assumption) | (with_reducible refine below_to_plus ?_ ?_ _) | (with_reducible refine below_holds ?_ ?_ _ _) | (with_reducible refine Below.alloc ?_ ?_ _) | (with_reducible refine Below.drew ?_) | (with_reducible refine below_drewN ?_ _) | (with_reducible refine Below.setCell ?_ ?_ _))
    all_goals first | omega | (simp; done) | (simp [go_sem]; done) | (simp [go_sem]; omega))⟩

set_option maxHeartbeats 16000000 in
theorem get_rest (cp : Int) (ao : Option Addr) (n c1 : Nat) (ao2 : Option Addr) (n2 c2 : Nat) (bl : List Pc) (hs : List Hd) (id at' cnt now : Int) (w : World) (h1 : Sl w 4 ao n c1 (bl.map Pc.enc)) (h2 : Sl w 3 ao2 n2 c2 (hs.map Hd.enc)) (hn : n ≤ 1000000) (hn2 : n2 ≤ 1000000) (ha : AscH hs) (hh : heldB id now hs = true) (h0 : 0 ≤ at') (hc : 0 ≤ cnt) {k : Nat} (hk : k < bl.length) (he : endI id bl = (k : Int)) (hp : at' < bl[k]!.pos) (ok : ∀ y ∈ bl, OkP y) {j : Nat} (hj : j < bl.length) (hv : covI id at' bl = (j : Int)) (hq1 : bl[j]!.pos ≤ at') (hq2 : at' < endP bl[j]!) (hcn : ((bl[j]!.data.extract (at' - bl[j]!.pos).toNat bl[j]!.data.size).size : Int) < cnt) (hne : bl[k]!.pos = endP bl[j]!) {m : Nat} (hm : m < bl.length) (hem : endI id (useL j bl) = (m : Int)) :
    Calls Try.prog 17 #[.agg #[.int .i64 cp, .slice ao n c1, .slice ao2 n2 c2], .int .i64 id, .int .i64 at', .int .i64 cnt, .int .i64 now] w fun e w' => GetPost w cp hs (useL m (useL j bl), (bl[j]!.data.extract (at' - bl[j]!.pos).toNat bl[j]!.data.size), true) e w' := by
  have hln : bl.length = n := Sl.lenE h1
  have hln2 : hs.length = n2 := Sl.lenE h2
  subst hln
  subst hln2
  have S1 : Aside (Sl w 4 ao bl.length c1 (bl.map Pc.enc)) := h1
  have S2 : Aside (Sl w 3 ao2 hs.length c2 (hs.map Hd.enc)) := h2
  have hb0 : Below w.heap.size w ((((w.alloc (.cells #[.int .i64 cp, .slice ao bl.length c1, .slice ao2 hs.length c2] 25)).alloc (.cells #[.int .i64 id] 3)).alloc (.cells #[.int .i64 at'] 3)).alloc (.cells #[.int .i64 0, .slice none 0 0, .slice none 0 0] 25)) := by
    repeat (first | (with_reducible exact Below.refl _ _) | (with_reducible assumption) | (with_reducible refine below_to_plus ?_ ?_ _) | (with_reducible refine below_holds ?_ ?_ _ _) | (with_reducible refine Below.alloc ?_ ?_ _) | (with_reducible refine Below.drew ?_) | (with_reducible refine below_drewN ?_ _) | (with_reducible refine Below.setCell ?_ ?_ _))
    all_goals first | omega | (simp; done) | (simp [go_sem]; done) | (simp [go_sem]; omega)
  have HB : Aside (Below w.heap.size w ((((w.alloc (.cells #[.int .i64 cp, .slice ao bl.length c1, .slice ao2 hs.length c2] 25)).alloc (.cells #[.int .i64 id] 3)).alloc (.cells #[.int .i64 at'] 3)).alloc (.cells #[.int .i64 0, .slice none 0 0, .slice none 0 0] 25))) := hb0
  have Hc : Aside (((((w.alloc (.cells #[.int .i64 cp, .slice ao bl.length c1, .slice ao2 hs.length c2] 25)).alloc (.cells #[.int .i64 id] 3)).alloc (.cells #[.int .i64 at'] 3)).alloc (.cells #[.int .i64 0, .slice none 0 0, .slice none 0 0] 25)).heap[w.heap.size]? = some (.cells #[.int .i64 cp, .slice ao bl.length c1, .slice ao2 hs.length c2] 25 (0, 0))) := by repeat (first | exact hp_new (by first | rfl | (simp; done) | (simp; omega)) | refine hp_old ?_)
  have Hi : Aside (((((w.alloc (.cells #[.int .i64 cp, .slice ao bl.length c1, .slice ao2 hs.length c2] 25)).alloc (.cells #[.int .i64 id] 3)).alloc (.cells #[.int .i64 at'] 3)).alloc (.cells #[.int .i64 0, .slice none 0 0, .slice none 0 0] 25)).heap[w.heap.size + 1]? = some (.cells #[.int .i64 id] 3 (0, 0))) := by repeat (first | exact hp_new (by first | rfl | (simp; done) | (simp; omega)) | refine hp_old ?_)
  have Ht : Aside (((((w.alloc (.cells #[.int .i64 cp, .slice ao bl.length c1, .slice ao2 hs.length c2] 25)).alloc (.cells #[.int .i64 id] 3)).alloc (.cells #[.int .i64 at'] 3)).alloc (.cells #[.int .i64 0, .slice none 0 0, .slice none 0 0] 25)).heap[w.heap.size + 1 + 1]? = some (.cells #[.int .i64 at'] 3 (0, 0))) := by repeat (first | exact hp_new (by first | rfl | (simp; done) | (simp; omega)) | refine hp_old ?_)
  have Hr : Aside (((((w.alloc (.cells #[.int .i64 cp, .slice ao bl.length c1, .slice ao2 hs.length c2] 25)).alloc (.cells #[.int .i64 id] 3)).alloc (.cells #[.int .i64 at'] 3)).alloc (.cells #[.int .i64 0, .slice none 0 0, .slice none 0 0] 25)).heap[w.heap.size + 1 + 1 + 1]? = some (.cells #[.int .i64 0, .slice none 0 0, .slice none 0 0] 25 (0, 0))) := by repeat (first | exact hp_new (by first | rfl | (simp; done) | (simp; omega)) | refine hp_old ?_)
  have ck := held_calls cp ao bl.length c1 ao2 hs.length c2 hs id now ((((w.alloc (.cells #[.int .i64 cp, .slice ao bl.length c1, .slice ao2 hs.length c2] 25)).alloc (.cells #[.int .i64 id] 3)).alloc (.cells #[.int .i64 at'] 3)).alloc (.cells #[.int .i64 0, .slice none 0 0, .slice none 0 0] 25)) (h2.stays hb0) hn2 ha
  rw [hh] at ck
  have ce := fun U hU => end_calls cp ao bl.length c1 ao2 hs.length c2 bl id U (S1.out.stays hU)
  rw [he] at ce
  have x0 : ¬ at' < 0 := by omega
  have xc : ¬ cnt < 0 := by omega
  have hbig : bl.length ≤ 9223372036854775807 := by omega
  obtain ⟨b, off, eao, hbw, e0, e1, e2, e3⟩ := (cellsPc h1) k hk
  subst eao
  have hkz : (k : Int) < (bl.length : Int) := by omega
  have hpn : ¬ bl[k]!.pos ≤ at' := by omega
  have hpd : decide (bl[k]!.pos ≤ at') = false := decide_eq_false hpn
  obtain ⟨b9, off9, eb9, _, f0, f1, f2, f3⟩ := (cellsPc h1) j hj
  cases eb9
  have eg : ∀ args w, (callFunc 36 args).run Try.prog w = .ok (.enter 36 args) w := enters_of Try.func36 (by kernel_rfl) rfl
  have cx : ∀ U, Below w.heap.size w U → U.heap[w.heap.size + 1]? = some (.cells #[.int .i64 id] 3 (0, 0)) → U.heap[w.heap.size + 1 + 1]? = some (.cells #[.int .i64 at'] 3 (0, 0)) → Calls Try.prog 35 #[.slice (some ⟨b, off, none⟩) bl.length c1, .func (.func 36) #[] #[.pointer (some ⟨w.heap.size + 1, 0, none⟩), .pointer (some ⟨w.heap.size + 1 + 1, 0, none⟩)]] U fun e w' => e = .returned (.int .i64 (covI id at' bl)) ∧ Below U.heap.size U w' := fun U hU hi ht => by
    have := pcIndexFunc_calls (isC id at') 36 _ eg _ _ _ bl U (S1.out.stays hU) (pred_get id at' bl ok (w.heap.size + 1) (w.heap.size + 1 + 1) U (Array.getElem?_eq_some_iff.1 hi).1 (cell_heap hi 0 _ rfl) (Array.getElem?_eq_some_iff.1 ht).1 (cell_heap ht 0 _ rfl))
    rw [idx_fst] at this
    exact this
  rw [hv] at cx
  have hjz : (j : Int) < (bl.length : Int) := by omega
  have oy := ok _ (by rw [getElem!_pos bl j hj]; exact List.getElem_mem _ : bl[j]! ∈ bl)
  obtain ⟨rs, hrs⟩ : ∃ rs, (bl[j]!.data.extract (at' - bl[j]!.pos).toNat bl[j]!.data.size) = rs := ⟨_, rfl⟩
  have RS : Aside (_ = rs) := hrs
  rw [hrs] at hcn ⊢
  clear hrs
  have hne2 : (bl[k]!.pos != bl[j]!.pos + (bl[j]!.data.size : Int)) = false := by
    have h9 : bl[k]!.pos = bl[j]!.pos + (bl[j]!.data.size : Int) := hne
    rw [h9]
    exact bne_self_eq_false _
  have cu := fun U hU => use_calls cp (some ⟨b, off, none⟩) bl.length c1 ao2 hs.length c2 bl hs j U (S1.out.stays hU) (S2.out.stays hU) hn hn2 hj
  have ULN : (useL j bl).length = bl.length := useL_len hj
  obtain ⟨ul, hul⟩ : ∃ ul, useL j bl = ul := ⟨_, rfl⟩
  rw [hul] at cu hem ULN ⊢
  have cE0 := fun a1 k1 a2 k2 U (h : Sl U 4 a1 ul.length k1 (ul.map Pc.enc)) => end_calls cp a1 ul.length k1 a2 hs.length k2 ul id U h
  rw [hem] at cE0
  have cU0 := fun a1 k1 a2 k2 U (h : Sl U 4 a1 ul.length k1 (ul.map Pc.enc)) (h' : Sl U 3 a2 hs.length k2 (hs.map Hd.enc)) => use_calls cp a1 ul.length k1 a2 hs.length k2 ul hs m U h h' (by omega) hn2 (by omega)
  obtain ⟨vl, hvl⟩ : ∃ vl, useL m ul = vl := ⟨_, rfl⟩
  rw [hvl] at cU0 ⊢
  clear hul hvl hne hem ULN
  clear hh he ok hv h1 h2
  clear hp
  generalize bl[k]! = z at e0 e1 e2 e3 hpd hpn hne2
  obtain ⟨z1, z2, z3, z4⟩ := z
  simp only [] at e0 e1 e2 e3 hpd hpn
  generalize bl[j]! = y at f0 f1 f2 f3 hq1 hq2 oy RS hne2
  obtain ⟨y1, y2, y3, y4⟩ := y
  simp only [] at f0 f1 f2 f3 hq1 oy hne2
  have hq3 : at' < y3 + (y4.size : Int) := hq2
  have hsub : IntKind.i64.wrap (at' - y3) = at' - y3 := by
    have o1 := oy.1.1
    have o2 := oy.1.2
    have o3 := oy.2
    simp only [] at o1 o2 o3
    rw [IntKind.wrap_i64]; omega
  have x2 : ∀ U, (Instr.slice 9 (.string y4) (some (.int .i64 (at' - y3))) none none).run Try.prog U = .ok (.string (y4.extract (at' - y3).toNat y4.size)) U := fun U => by
    rw [run_slice_string_from_if (P := Try.prog) U 9 y4 .i64 (at' - y3) Try.underlying9, if_pos (by omega)]
  have RS2 : (y4.extract (at' - y3).toNat y4.size) = rs := RS.out
  rw [RS2] at x2
  clear RS RS2
  have hadd : IntKind.i64.wrap (y3 + (y4.size : Int)) = y3 + (y4.size : Int) := by
    have o1 := oy.1.1
    have o2 := oy.1.2
    have o3 := oy.2
    simp only [] at o1 o2 o3
    rw [IntKind.wrap_i64]; omega
  have hcn2 : ¬ cnt ≤ (rs.size : Int) := by omega
  clear oy
  go_enter Try.func17, Try.ntmps17
  go_wp2_with fail
  refine (ck).mono ?_
  rintro e u81 ⟨rfl, hb⟩
  have Hc' : Aside (u81.heap[w.heap.size]? = some (.cells #[.int .i64 cp, .slice (some ⟨b, off, none⟩) bl.length c1, .slice ao2 hs.length c2] 25 (0, 0))) := heap_later (by repeat (first | exact Hc.out | exact Hi.out | exact Ht.out | exact Hr.out | exact hp_new (by first | rfl | (simp [size_plus, size_holds]; done) | (simp [size_plus, size_holds]; omega)) | (with_reducible refine hp_old ?_) | (with_reducible refine hp_plus ?_) | (with_reducible refine hh_eq (by first | assumption | (simp only [size_holds]; assumption))) | (with_reducible refine hh_ne (by omega) ?_))) hb
  have Hi' : Aside (u81.heap[w.heap.size + 1]? = some (.cells #[.int .i64 id] 3 (0, 0))) := heap_later (by repeat (first | exact Hc.out | exact Hi.out | exact Ht.out | exact Hr.out | exact hp_new (by first | rfl | (simp [size_plus, size_holds]; done) | (simp [size_plus, size_holds]; omega)) | (with_reducible refine hp_old ?_) | (with_reducible refine hp_plus ?_) | (with_reducible refine hh_eq (by first | assumption | (simp only [size_holds]; assumption))) | (with_reducible refine hh_ne (by omega) ?_))) hb
  have Ht' : Aside (u81.heap[w.heap.size + 1 + 1]? = some (.cells #[.int .i64 at'] 3 (0, 0))) := heap_later (by repeat (first | exact Hc.out | exact Hi.out | exact Ht.out | exact Hr.out | exact hp_new (by first | rfl | (simp [size_plus, size_holds]; done) | (simp [size_plus, size_holds]; omega)) | (with_reducible refine hp_old ?_) | (with_reducible refine hp_plus ?_) | (with_reducible refine hh_eq (by first | assumption | (simp only [size_holds]; assumption))) | (with_reducible refine hh_ne (by omega) ?_))) hb
  have Hr' : Aside (u81.heap[w.heap.size + 1 + 1 + 1]? = some (.cells #[.int .i64 0, .slice none 0 0, .slice none 0 0] 25 (0, 0))) := heap_later (by repeat (first | exact Hc.out | exact Hi.out | exact Ht.out | exact Hr.out | exact hp_new (by first | rfl | (simp [size_plus, size_holds]; done) | (simp [size_plus, size_holds]; omega)) | (with_reducible refine hp_old ?_) | (with_reducible refine hp_plus ?_) | (with_reducible refine hh_eq (by first | assumption | (simp only [size_holds]; assumption))) | (with_reducible refine hh_ne (by omega) ?_))) hb
  have HB' : Aside (Below w.heap.size w u81) := below_step (by
    have hHB := HB.out
    repeat (first | (with_reducible exact Below.refl _ _) | (with_reducible assumption) | (with_reducible refine below_to_plus ?_ ?_ _) | (with_reducible refine below_holds ?_ ?_ _ _) | (with_reducible refine Below.alloc ?_ ?_ _) | (with_reducible refine Below.drew ?_) | (with_reducible refine below_drewN ?_ _) | (with_reducible refine Below.setCell ?_ ?_ _))
    all_goals first | omega | (simp; done) | (simp [go_sem]; done) | (simp [go_sem]; omega)) hb
  clear Hc Hi Ht Hr HB hb ck hb0
  have Hc := Hc'
  clear Hc'
  have Hi := Hi'
  clear Hi'
  have Ht := Ht'
  clear Ht'
  have Hr := Hr'
  clear Hr'
  have HB := HB'
  clear HB'
  have bc0 := cell_heap Hc.out 0 _ rfl
  have bc1 := cell_heap Hc.out 1 _ rfl
  have bc2 := cell_heap Hc.out 2 _ rfl
  have ltc : w.heap.size < u81.heap.size := (Array.getElem?_eq_some_iff.1 Hc.out).1
  have bi0 := cell_heap Hi.out 0 _ rfl
  have lti : w.heap.size + 1 < u81.heap.size := (Array.getElem?_eq_some_iff.1 Hi.out).1
  have bt0 := cell_heap Ht.out 0 _ rfl
  have ltt : w.heap.size + 1 + 1 < u81.heap.size := (Array.getElem?_eq_some_iff.1 Ht.out).1
  go_wp2_with fail
  refine (ce _ HB.out).mono ?_
  rintro e u82 ⟨rfl, hb⟩
  have Hc' : Aside (u82.heap[w.heap.size]? = some (.cells #[.int .i64 cp, .slice (some ⟨b, off, none⟩) bl.length c1, .slice ao2 hs.length c2] 25 (0, 0))) := heap_later (by repeat (first | exact Hc.out | exact Hi.out | exact Ht.out | exact Hr.out | exact hp_new (by first | rfl | (simp [size_plus, size_holds]; done) | (simp [size_plus, size_holds]; omega)) | (with_reducible refine hp_old ?_) | (with_reducible refine hp_plus ?_) | (with_reducible refine hh_eq (by first | assumption | (simp only [size_holds]; assumption))) | (with_reducible refine hh_ne (by omega) ?_))) hb
  have Hi' : Aside (u82.heap[w.heap.size + 1]? = some (.cells #[.int .i64 id] 3 (0, 0))) := heap_later (by repeat (first | exact Hc.out | exact Hi.out | exact Ht.out | exact Hr.out | exact hp_new (by first | rfl | (simp [size_plus, size_holds]; done) | (simp [size_plus, size_holds]; omega)) | (with_reducible refine hp_old ?_) | (with_reducible refine hp_plus ?_) | (with_reducible refine hh_eq (by first | assumption | (simp only [size_holds]; assumption))) | (with_reducible refine hh_ne (by omega) ?_))) hb
  have Ht' : Aside (u82.heap[w.heap.size + 1 + 1]? = some (.cells #[.int .i64 at'] 3 (0, 0))) := heap_later (by repeat (first | exact Hc.out | exact Hi.out | exact Ht.out | exact Hr.out | exact hp_new (by first | rfl | (simp [size_plus, size_holds]; done) | (simp [size_plus, size_holds]; omega)) | (with_reducible refine hp_old ?_) | (with_reducible refine hp_plus ?_) | (with_reducible refine hh_eq (by first | assumption | (simp only [size_holds]; assumption))) | (with_reducible refine hh_ne (by omega) ?_))) hb
  have Hr' : Aside (u82.heap[w.heap.size + 1 + 1 + 1]? = some (.cells #[.int .i64 0, .slice none 0 0, .slice none 0 0] 25 (0, 0))) := heap_later (by repeat (first | exact Hc.out | exact Hi.out | exact Ht.out | exact Hr.out | exact hp_new (by first | rfl | (simp [size_plus, size_holds]; done) | (simp [size_plus, size_holds]; omega)) | (with_reducible refine hp_old ?_) | (with_reducible refine hp_plus ?_) | (with_reducible refine hh_eq (by first | assumption | (simp only [size_holds]; assumption))) | (with_reducible refine hh_ne (by omega) ?_))) hb
  have HB' : Aside (Below w.heap.size w u82) := below_step (by
    have hHB := HB.out
    repeat (first | (with_reducible exact Below.refl _ _) | (with_reducible assumption) | (with_reducible refine below_to_plus ?_ ?_ _) | (with_reducible refine below_holds ?_ ?_ _ _) | (with_reducible refine Below.alloc ?_ ?_ _) | (with_reducible refine Below.drew ?_) | (with_reducible refine below_drewN ?_ _) | (with_reducible refine Below.setCell ?_ ?_ _))
    all_goals first | omega | (simp; done) | (simp [go_sem]; done) | (simp [go_sem]; omega)) hb
  clear Hc Hi Ht Hr HB hb ce bc0 bc1 bc2 bi0 bt0 ltc lti ltt
  have Hc := Hc'
  clear Hc'
  have Hi := Hi'
  clear Hi'
  have Ht := Ht'
  clear Ht'
  have Hr := Hr'
  clear Hr'
  have HB := HB'
  clear HB'
  have bc0 := cell_heap Hc.out 0 _ rfl
  have bc1 := cell_heap Hc.out 1 _ rfl
  have bc2 := cell_heap Hc.out 2 _ rfl
  have ltc : w.heap.size < u82.heap.size := (Array.getElem?_eq_some_iff.1 Hc.out).1
  have bi0 := cell_heap Hi.out 0 _ rfl
  have lti : w.heap.size + 1 < u82.heap.size := (Array.getElem?_eq_some_iff.1 Hi.out).1
  have bt0 := cell_heap Ht.out 0 _ rfl
  have ltt : w.heap.size + 1 + 1 < u82.heap.size := (Array.getElem?_eq_some_iff.1 Ht.out).1
  have m0 := (HB.out.cell (p := ⟨b, off + k * 4, none⟩) hbw).trans e0
  have m1 := (HB.out.cell (p := ⟨b, off + k * 4 + 1, none⟩) hbw).trans e1
  have m2 := (HB.out.cell (p := ⟨b, off + k * 4 + 2, none⟩) hbw).trans e2
  have m3 := (HB.out.cell (p := ⟨b, off + k * 4 + 3, none⟩) hbw).trans e3
  have hbr : b < u82.heap.size := Nat.lt_of_lt_of_le hbw HB.out.size
  go_wp2
  refine wp_region_plus (by kernel_rfl) (by kernel_rfl) ?_
  repeat (go_big_quiet_step (fail))
  refine wpQuiet_nil ?_
  rintro _ ⟨x1, rfl⟩
  go_wp2_with fail
  refine (cx _ (by
    have hHB := HB.out
    repeat (first | (with_reducible exact Below.refl _ _) | (with_reducible assumption) | (with_reducible refine below_to_plus ?_ ?_ _) | (with_reducible refine below_holds ?_ ?_ _ _) | (with_reducible refine Below.alloc ?_ ?_ _) | (with_reducible refine Below.drew ?_) | (with_reducible refine below_drewN ?_ _) | (with_reducible refine Below.setCell ?_ ?_ _))
    all_goals first | omega | (simp; done) | (simp [go_sem]; done) | (simp [go_sem]; omega)) (by repeat (first | exact Hc.out | exact Hi.out | exact Ht.out | exact Hr.out | exact hp_new (by first | rfl | (simp [size_plus, size_holds]; done) | (simp [size_plus, size_holds]; omega)) | (with_reducible refine hp_old ?_) | (with_reducible refine hp_plus ?_) | (with_reducible refine hh_eq (by first | assumption | (simp only [size_holds]; assumption))) | (with_reducible refine hh_ne (by omega) ?_))) (by repeat (first | exact Hc.out | exact Hi.out | exact Ht.out | exact Hr.out | exact hp_new (by first | rfl | (simp [size_plus, size_holds]; done) | (simp [size_plus, size_holds]; omega)) | (with_reducible refine hp_old ?_) | (with_reducible refine hp_plus ?_) | (with_reducible refine hh_eq (by first | assumption | (simp only [size_holds]; assumption))) | (with_reducible refine hh_ne (by omega) ?_)))).mono ?_
  rintro e u83 ⟨rfl, hb⟩
  have Hc' : Aside (u83.heap[w.heap.size]? = some (.cells #[.int .i64 cp, .slice (some ⟨b, off, none⟩) bl.length c1, .slice ao2 hs.length c2] 25 (0, 0))) := heap_later (by repeat (first | exact Hc.out | exact Hi.out | exact Ht.out | exact Hr.out | exact hp_new (by first | rfl | (simp [size_plus, size_holds]; done) | (simp [size_plus, size_holds]; omega)) | (with_reducible refine hp_old ?_) | (with_reducible refine hp_plus ?_) | (with_reducible refine hh_eq (by first | assumption | (simp only [size_holds]; assumption))) | (with_reducible refine hh_ne (by omega) ?_))) hb
  have Hi' : Aside (u83.heap[w.heap.size + 1]? = some (.cells #[.int .i64 id] 3 (0, 0))) := heap_later (by repeat (first | exact Hc.out | exact Hi.out | exact Ht.out | exact Hr.out | exact hp_new (by first | rfl | (simp [size_plus, size_holds]; done) | (simp [size_plus, size_holds]; omega)) | (with_reducible refine hp_old ?_) | (with_reducible refine hp_plus ?_) | (with_reducible refine hh_eq (by first | assumption | (simp only [size_holds]; assumption))) | (with_reducible refine hh_ne (by omega) ?_))) hb
  have Ht' : Aside (u83.heap[w.heap.size + 1 + 1]? = some (.cells #[.int .i64 at'] 3 (0, 0))) := heap_later (by repeat (first | exact Hc.out | exact Hi.out | exact Ht.out | exact Hr.out | exact hp_new (by first | rfl | (simp [size_plus, size_holds]; done) | (simp [size_plus, size_holds]; omega)) | (with_reducible refine hp_old ?_) | (with_reducible refine hp_plus ?_) | (with_reducible refine hh_eq (by first | assumption | (simp only [size_holds]; assumption))) | (with_reducible refine hh_ne (by omega) ?_))) hb
  have Hr' : Aside (u83.heap[w.heap.size + 1 + 1 + 1]? = some (.cells #[.int .i64 0, .slice none 0 0, .slice none 0 0] 25 (0, 0))) := heap_later (by repeat (first | exact Hc.out | exact Hi.out | exact Ht.out | exact Hr.out | exact hp_new (by first | rfl | (simp [size_plus, size_holds]; done) | (simp [size_plus, size_holds]; omega)) | (with_reducible refine hp_old ?_) | (with_reducible refine hp_plus ?_) | (with_reducible refine hh_eq (by first | assumption | (simp only [size_holds]; assumption))) | (with_reducible refine hh_ne (by omega) ?_))) hb
  have HB' : Aside (Below w.heap.size w u83) := below_step (by
    have hHB := HB.out
    repeat (first | (with_reducible exact Below.refl _ _) | (with_reducible assumption) | (with_reducible refine below_to_plus ?_ ?_ _) | (with_reducible refine below_holds ?_ ?_ _ _) | (with_reducible refine Below.alloc ?_ ?_ _) | (with_reducible refine Below.drew ?_) | (with_reducible refine below_drewN ?_ _) | (with_reducible refine Below.setCell ?_ ?_ _))
    all_goals first | omega | (simp; done) | (simp [go_sem]; done) | (simp [go_sem]; omega)) hb
  clear Hc Hi Ht Hr HB hb cx bc0 bc1 bc2 bi0 bt0 ltc lti ltt m0 m1 m2 m3 hbr
  have Hc := Hc'
  clear Hc'
  have Hi := Hi'
  clear Hi'
  have Ht := Ht'
  clear Ht'
  have Hr := Hr'
  clear Hr'
  have HB := HB'
  clear HB'
  have bc0 := cell_heap Hc.out 0 _ rfl
  have bc1 := cell_heap Hc.out 1 _ rfl
  have bc2 := cell_heap Hc.out 2 _ rfl
  have ltc : w.heap.size < u83.heap.size := (Array.getElem?_eq_some_iff.1 Hc.out).1
  have bi0 := cell_heap Hi.out 0 _ rfl
  have lti : w.heap.size + 1 < u83.heap.size := (Array.getElem?_eq_some_iff.1 Hi.out).1
  have bt0 := cell_heap Ht.out 0 _ rfl
  have ltt : w.heap.size + 1 + 1 < u83.heap.size := (Array.getElem?_eq_some_iff.1 Ht.out).1
  have n0 := (HB.out.cell (p := ⟨b, off + j * 4, none⟩) hbw).trans f0
  have n1 := (HB.out.cell (p := ⟨b, off + j * 4 + 1, none⟩) hbw).trans f1
  have n2 := (HB.out.cell (p := ⟨b, off + j * 4 + 2, none⟩) hbw).trans f2
  have n3 := (HB.out.cell (p := ⟨b, off + j * 4 + 3, none⟩) hbw).trans f3
  have hbr : b < u83.heap.size := Nat.lt_of_lt_of_le hbw HB.out.size
  have hk0 : ¬ (k : Int) < 0 := by omega
  have hk1 : decide ((k : Int) < 0) = false := decide_eq_false hk0
  have m0 := (HB.out.cell (p := ⟨b, off + k * 4, none⟩) hbw).trans e0
  have m1 := (HB.out.cell (p := ⟨b, off + k * 4 + 1, none⟩) hbw).trans e1
  have m2 := (HB.out.cell (p := ⟨b, off + k * 4 + 2, none⟩) hbw).trans e2
  have m3 := (HB.out.cell (p := ⟨b, off + k * 4 + 3, none⟩) hbw).trans e3
  go_wp2
  refine wp_region_plus (by kernel_rfl) (by kernel_rfl) ?_
  repeat (go_big_quiet_step (fail))
  refine wpQuiet_nil ?_
  rintro _ ⟨x1, rfl⟩
  go_wp2_with fail
  refine (cu _ (by
    have hHB := HB.out
    repeat (first | (with_reducible exact Below.refl _ _) | (with_reducible assumption) | (with_reducible refine below_to_plus ?_ ?_ _) | (with_reducible refine below_holds ?_ ?_ _ _) | (with_reducible refine Below.alloc ?_ ?_ _) | (with_reducible refine Below.drew ?_) | (with_reducible refine below_drewN ?_ _) | (with_reducible refine Below.setCell ?_ ?_ _))
    all_goals first | omega | (simp; done) | (simp [go_sem]; done) | (simp [go_sem]; omega))).mono ?_
  rintro e u84 ⟨a1, k1, a2, k2, rfl, o1, o2, hb⟩
  have Hi' : Aside (u84.heap[w.heap.size + 1]? = some (.cells #[.int .i64 id] 3 (0, 0))) := heap_later (by repeat (first | exact Hc.out | exact Hi.out | exact Ht.out | exact Hr.out | exact hp_new (by first | rfl | (simp [size_plus, size_holds]; done) | (simp [size_plus, size_holds]; omega)) | (with_reducible refine hp_old ?_) | (with_reducible refine hp_plus ?_) | (with_reducible refine hh_eq (by first | assumption | (simp only [size_holds]; assumption))) | (with_reducible refine hh_ne (by omega) ?_))) hb
  have Hr' : Aside (u84.heap[w.heap.size + 1 + 1 + 1]? = some (.cells #[.int .i64 0, .slice none 0 0, .slice none 0 0] 25 (0, 0))) := heap_later (by repeat (first | exact Hc.out | exact Hi.out | exact Ht.out | exact Hr.out | exact hp_new (by first | rfl | (simp [size_plus, size_holds]; done) | (simp [size_plus, size_holds]; omega)) | (with_reducible refine hp_old ?_) | (with_reducible refine hp_plus ?_) | (with_reducible refine hh_eq (by first | assumption | (simp only [size_holds]; assumption))) | (with_reducible refine hh_ne (by omega) ?_))) hb
  have Rbl' : Aside (u84.ownsRow w.heap.size 47 4 (.slice a1 ul.length k1) ul.length (flatE Pc.enc ul)) := own_lower o1 (by have := HB.out.size; simp [size_plus]; omega)
  have Rhs' : Aside (u84.ownsRow w.heap.size 36 3 (.slice a2 hs.length k2) hs.length (flatE Hd.enc hs)) := own_lower o2 (by have := HB.out.size; simp [size_plus]; omega)
  have HB' : Aside (Below w.heap.size w u84) := below_step (by
    have hHB := HB.out
    repeat (first | (with_reducible exact Below.refl _ _) | (with_reducible assumption) | (with_reducible refine below_to_plus ?_ ?_ _) | (with_reducible refine below_holds ?_ ?_ _ _) | (with_reducible refine Below.alloc ?_ ?_ _) | (with_reducible refine Below.drew ?_) | (with_reducible refine below_drewN ?_ _) | (with_reducible refine Below.setCell ?_ ?_ _))
    all_goals first | omega | (simp; done) | (simp [go_sem]; done) | (simp [go_sem]; omega)) hb
  clear Hc Hi Ht Hr HB hb cu o1 o2 bc0 bc1 bc2 bi0 bt0 ltc lti ltt n0 n1 n2 n3 hbr m0 m1 m2 m3
  have Hi := Hi'
  clear Hi'
  have Hr := Hr'
  clear Hr'
  have Rbl := Rbl'
  clear Rbl'
  have Rhs := Rhs'
  clear Rhs'
  have HB := HB'
  clear HB'
  have bi0 := cell_heap Hi.out 0 _ rfl
  have lti : w.heap.size + 1 < u84.heap.size := (Array.getElem?_eq_some_iff.1 Hi.out).1
  have oob : w.heap.size + 1 + 1 + 1 < u84.heap.size := by
    first | exact (Array.getElem?_eq_some_iff.1 Hr.out).1 | omega
  have Ho' : Aside ((u84.alloc (.cells #[.int .i64 cp, .slice a1 ul.length k1, .slice a2 hs.length k2] 25)).heap[u84.heap.size]? = some (.cells #[.int .i64 cp, .slice a1 ul.length k1, .slice a2 hs.length k2] 25 (0, 0))) := hp_new rfl
  have Hi' : Aside ((u84.alloc (.cells #[.int .i64 cp, .slice a1 ul.length k1, .slice a2 hs.length k2] 25)).heap[w.heap.size + 1]? = some (.cells #[.int .i64 id] 3 (0, 0))) := hp_old Hi.out
  have Hr' : Aside ((u84.alloc (.cells #[.int .i64 cp, .slice a1 ul.length k1, .slice a2 hs.length k2] 25)).heap[w.heap.size + 1 + 1 + 1]? = some (.cells #[.int .i64 0, .slice none 0 0, .slice none 0 0] 25 (0, 0))) := hp_old Hr.out
  have Rbl' : Aside ((u84.alloc (.cells #[.int .i64 cp, .slice a1 ul.length k1, .slice a2 hs.length k2] 25)).ownsRow w.heap.size 47 4 (.slice a1 ul.length k1) ul.length (flatE Pc.enc ul)) := own_alloc Rbl.out
  have Rhs' : Aside ((u84.alloc (.cells #[.int .i64 cp, .slice a1 ul.length k1, .slice a2 hs.length k2] 25)).ownsRow w.heap.size 36 3 (.slice a2 hs.length k2) hs.length (flatE Hd.enc hs)) := own_alloc Rhs.out
  have HB' : Aside (Below w.heap.size w (u84.alloc (.cells #[.int .i64 cp, .slice a1 ul.length k1, .slice a2 hs.length k2] 25))) := HB.out.alloc HB.out.size _
  clear Hi Hr Rbl Rhs HB
  go_wp2_with fail
  obtain ⟨ob, eob⟩ : ∃ b, u84.heap.size = b := ⟨_, rfl⟩
  obtain ⟨u85, eu9⟩ : ∃ u, (u84.alloc (.cells #[.int .i64 cp, .slice a1 ul.length k1, .slice a2 hs.length k2] 25)) = u := ⟨_, rfl⟩
  rw [eu9] at Hi' Hr' Rbl' Rhs' HB' Ho' ⊢
  clear eu9
  rw [eob] at Ho' oob ⊢
  have Hi := Hi'
  clear Hi'
  have Hr := Hr'
  clear Hr'
  have Ho := Ho'
  clear Ho'
  have Rbl := Rbl'
  clear Rbl'
  have Rhs := Rhs'
  clear Rhs'
  have HB := HB'
  clear HB'
  clear bi0 lti
  have ltr : w.heap.size + 1 + 1 + 1 < u85.heap.size := (Array.getElem?_eq_some_iff.1 Hr.out).1
  have nir : ¬ w.heap.size + 1 = w.heap.size + 1 + 1 + 1 := by omega
  have nor : ¬ ob = w.heap.size + 1 + 1 + 1 := by omega
  have nro : ¬ w.heap.size + 1 + 1 + 1 = ob := by omega
  have bi0 := cell_heap Hi.out 0 _ rfl
  have lti : w.heap.size + 1 < u85.heap.size := (Array.getElem?_eq_some_iff.1 Hi.out).1
  have bo0 := cell_heap Ho.out 0 _ rfl
  have bo1 := cell_heap Ho.out 1 _ rfl
  have bo2 := cell_heap Ho.out 2 _ rfl
  have lto : ob < u85.heap.size := (Array.getElem?_eq_some_iff.1 Ho.out).1
  have hHB0 := HB.out
  have eW : u85 = (holds u85 (w.heap.size + 1 + 1 + 1) #[.int .i64 0, .slice none 0 0, .slice none 0 0] 25) := holds_self Hr.out
  have S3 : Sl (holds u85 (w.heap.size + 1 + 1 + 1) #[.int .i64 0, .slice none 0 0, .slice none 0 0] 25) 4 a1 ul.length k1 (ul.map Pc.enc) := by rw [← eW]; exact own_slP Rbl.out
  have S4 : Sl (holds u85 (w.heap.size + 1 + 1 + 1) #[.int .i64 0, .slice none 0 0, .slice none 0 0] 25) 3 a2 hs.length k2 (hs.map Hd.enc) := by rw [← eW]; exact own_slH Rhs.out
  have cE := fun U (hU : Below (holds u85 (w.heap.size + 1 + 1 + 1) #[.int .i64 0, .slice none 0 0, .slice none 0 0] 25).heap.size (holds u85 (w.heap.size + 1 + 1 + 1) #[.int .i64 0, .slice none 0 0, .slice none 0 0] 25) U) => cE0 a1 k1 a2 k2 U (S3.stays hU)
  have cU := fun U (hU : Below (holds u85 (w.heap.size + 1 + 1 + 1) #[.int .i64 0, .slice none 0 0, .slice none 0 0] 25).heap.size (holds u85 (w.heap.size + 1 + 1 + 1) #[.int .i64 0, .slice none 0 0, .slice none 0 0] 25) U) => cU0 a1 k1 a2 k2 U (S3.stays hU) (S4.stays hU)
  rw [eW]
  clear eW S3 S4 cE0 cU0
  go_region_held3 (fun w' => w'.cell? ⟨ob, 0, none⟩ = some (.int .i64 cp) ∧ w'.cell? ⟨ob, 1, none⟩ = some (.slice a1 ul.length k1) ∧ w'.cell? ⟨ob, 2, none⟩ = some (.slice a2 hs.length k2) ∧ w'.cell? ⟨w.heap.size + 1, 0, none⟩ = some (.int .i64 id)) (first | (simp [go_sem, ↓IntWalk.iteOmega, *]; done)) ((first | (go_at_call 33; refine (cE _ (Below.drew (Below.refl _ _))).mono ?_; rintro e w2 ⟨rfl, hb⟩; obtain ⟨x3, hx⟩ := plus_of_below hb; subst hx; clear hb) | (go_at_call 34; refine (cU _ (below_to_plus (B := (holds u85 (w.heap.size + 1 + 1 + 1) #[.int .i64 0, .slice none 0 0, .slice none 0 0] 25).heap.size) (a := (holds u85 (w.heap.size + 1 + 1 + 1) #[.int .i64 0, .slice none 0 0, .slice none 0 0] 25)) (w := (holds u85 (w.heap.size + 1 + 1 + 1) #[.int .i64 0, .slice none 0 0, .slice none 0 0] 25).drew) (Below.drew (Below.refl _ _)) (Nat.le_refl _) _)).mono ?_; rintro e w2 ⟨a5, k5, a6, k6, rfl, o1, o2, hb⟩; have O1 : Aside _ := o1; have O2 : Aside _ := o2; clear o1 o2; obtain ⟨x4, hx⟩ := plus_next hb; subst hx; clear hb)))
  all_goals go_wp2
  all_goals refine bodyPost_ret (v := .tuple #[.agg #[.int .i64 cp, .slice a5 vl.length k5, .slice a6 hs.length k6], .string rs, .bool true]) (by simp [results, Try.results17, go_sem, ↓IntWalk.iteOmega, *]) rfl ⟨a5, k5, a6, k6, rfl, own_slP (own_past O1.out (by simp [size_plus, size_holds]) (by simp [size_holds])), own_slH (own_past O2.out (by simp [size_plus, size_holds]) (by simp [size_holds])), below_to_plus (below_holds (Below.drew hHB0) (by omega) _ _) (by simp [size_holds]; omega) _⟩

end Go.Proofs.Ytcgajlobbjoefaa
