/- This text proves the walk of Release of package cache. Conditions: those that each theorem names. -/
import Derived.Test.YtcgajlobbjoefaaCacheH
namespace Go.Proofs.Ytcgajlobbjoefaa
open Go.ChangeShapes Go.WideShapes Go.ChangeAt Go.RowKit
set_option linter.unusedVariables false
set_option linter.unusedSimpArgs false

/-- The list without its element k. -/
def dropH (k : Nat) (hs : List Hd) : List Hd := hs.take k ++ hs.drop (k + 1)
theorem dropH_len {k : Nat} {hs : List Hd} (hk : k < hs.length) : (dropH k hs).length = hs.length - 1 := by simp [dropH]; omega

set_option maxHeartbeats 8000000 in
theorem release_miss (cp : Int) (ao : Option Addr) (n c1 : Nat) (ao2 : Option Addr) (n2 c2 : Nat) (bl : List Pc) (hs : List Hd) (id : Int) (w : World) (h1 : Sl w 4 ao n c1 (bl.map Pc.enc)) (h2 : Sl w 3 ao2 n2 c2 (hs.map Hd.enc)) (hn : n ≤ 1000000) (hn2 : n2 ≤ 1000000) (ha : AscH hs) (he : ∀ j, j < hs.length → hs[j]!.hid ≠ id) :
    Calls Try.prog 24 #[.agg #[.int .i64 cp, .slice ao n c1, .slice ao2 n2 c2], .int .i64 id] w fun e w' => CopPost w cp bl hs e w' := by
  have hln : bl.length = n := Sl.lenE h1
  have hln2 : hs.length = n2 := Sl.lenE h2
  subst hln
  subst hln2
  have S1 : Aside (Sl w 4 ao bl.length c1 (bl.map Pc.enc)) := h1
  have S2 : Aside (Sl w 3 ao2 hs.length c2 (hs.map Hd.enc)) := h2
  have hb0 : Below w.heap.size w ((w.alloc (.cells #[.int .i64 cp, .slice ao bl.length c1, .slice ao2 hs.length c2] 25)).alloc (.cells #[.int .i64 0, .slice none 0 0, .slice none 0 0] 25)) := by
    repeat (first | (with_reducible exact Below.refl _ _) | (with_reducible assumption) | (with_reducible refine below_to_plus ?_ ?_ _) | (with_reducible refine below_holds ?_ ?_ _ _) | (with_reducible refine Below.alloc ?_ ?_ _) | (with_reducible refine Below.drew ?_) | (with_reducible refine below_drewN ?_ _) | (with_reducible refine Below.setCell ?_ ?_ _))
    all_goals first | omega | (simp; done) | (simp [go_sem]; done) | (simp [go_sem]; omega)
  have HB : Aside (Below w.heap.size w ((w.alloc (.cells #[.int .i64 cp, .slice ao bl.length c1, .slice ao2 hs.length c2] 25)).alloc (.cells #[.int .i64 0, .slice none 0 0, .slice none 0 0] 25))) := hb0
  have Hc : Aside (((w.alloc (.cells #[.int .i64 cp, .slice ao bl.length c1, .slice ao2 hs.length c2] 25)).alloc (.cells #[.int .i64 0, .slice none 0 0, .slice none 0 0] 25)).heap[w.heap.size]? = some (.cells #[.int .i64 cp, .slice ao bl.length c1, .slice ao2 hs.length c2] 25 (0, 0))) := by repeat (first | exact hp_new (by first | rfl | (simp; done) | (simp; omega)) | refine hp_old ?_)
  have Hr : Aside (((w.alloc (.cells #[.int .i64 cp, .slice ao bl.length c1, .slice ao2 hs.length c2] 25)).alloc (.cells #[.int .i64 0, .slice none 0 0, .slice none 0 0] 25)).heap[w.heap.size + 1]? = some (.cells #[.int .i64 0, .slice none 0 0, .slice none 0 0] 25 (0, 0))) := by repeat (first | exact hp_new (by first | rfl | (simp; done) | (simp; omega)) | refine hp_old ?_)
  have ck := hold_miss cp ao bl.length c1 ao2 hs.length c2 hs id ((w.alloc (.cells #[.int .i64 cp, .slice ao bl.length c1, .slice ao2 hs.length c2] 25)).alloc (.cells #[.int .i64 0, .slice none 0 0, .slice none 0 0] 25)) (h2.stays hb0) hn2 ha he
  generalize posH id hs = ps at ck
  clear h1 h2 ha he
  go_enter Try.func24, Try.ntmps24
  go_wp2_with fail
  refine (ck).mono ?_
  rintro e u9 ⟨rfl, hb⟩
  have Hc' : Aside (u9.heap[w.heap.size]? = some (.cells #[.int .i64 cp, .slice ao bl.length c1, .slice ao2 hs.length c2] 25 (0, 0))) := heap_later (by repeat (first | exact Hc.out | exact Hr.out | exact hp_new (by first | rfl | (simp [size_plus, size_holds]; done) | (simp [size_plus, size_holds]; omega)) | (with_reducible refine hp_old ?_) | (with_reducible refine hp_plus ?_) | (with_reducible refine hh_eq (by first | assumption | (simp only [size_holds]; assumption))) | (with_reducible refine hh_ne (by omega) ?_))) hb
  have Hr' : Aside (u9.heap[w.heap.size + 1]? = some (.cells #[.int .i64 0, .slice none 0 0, .slice none 0 0] 25 (0, 0))) := heap_later (by repeat (first | exact Hc.out | exact Hr.out | exact hp_new (by first | rfl | (simp [size_plus, size_holds]; done) | (simp [size_plus, size_holds]; omega)) | (with_reducible refine hp_old ?_) | (with_reducible refine hp_plus ?_) | (with_reducible refine hh_eq (by first | assumption | (simp only [size_holds]; assumption))) | (with_reducible refine hh_ne (by omega) ?_))) hb
  have HB' : Aside (Below w.heap.size w u9) := below_step (by
    have hHB := HB.out
    repeat (first | (with_reducible exact Below.refl _ _) | (with_reducible assumption) | (with_reducible refine below_to_plus ?_ ?_ _) | (with_reducible refine below_holds ?_ ?_ _ _) | (with_reducible refine Below.alloc ?_ ?_ _) | (with_reducible refine Below.drew ?_) | (with_reducible refine below_drewN ?_ _) | (with_reducible refine Below.setCell ?_ ?_ _))
    all_goals first | omega | (simp; done) | (simp [go_sem]; done) | (simp [go_sem]; omega)) hb
  clear Hc Hr HB hb ck hb0
  have Hc := Hc'
  clear Hc'
  have Hr := Hr'
  clear Hr'
  have HB := HB'
  clear HB'
  have ltc : w.heap.size < u9.heap.size := (Array.getElem?_eq_some_iff.1 Hc.out).1
  have ltr : w.heap.size + 1 < u9.heap.size := (Array.getElem?_eq_some_iff.1 Hr.out).1
  have necr : ¬ w.heap.size = w.heap.size + 1 := by omega
  have nerc : ¬ w.heap.size + 1 = w.heap.size := by omega
  rw [holds_add (holds_self Hc.out) Hr.out]
  go_wp2_with fail
  refine (copied_calls cp ao bl.length c1 ao2 hs.length c2 bl hs _ (S1.out.stays (by
    have hHB := HB.out
    repeat (first | (with_reducible exact Below.refl _ _) | (with_reducible assumption) | (with_reducible refine below_to_plus ?_ ?_ _) | (with_reducible refine below_holds ?_ ?_ _ _) | (with_reducible refine Below.alloc ?_ ?_ _) | (with_reducible refine Below.drew ?_) | (with_reducible refine below_drewN ?_ _) | (with_reducible refine Below.setCell ?_ ?_ _))
    all_goals first | omega | (simp; done) | (simp [go_sem]; done) | (simp [go_sem]; omega))) (S2.out.stays (by
    have hHB := HB.out
    repeat (first | (with_reducible exact Below.refl _ _) | (with_reducible assumption) | (with_reducible refine below_to_plus ?_ ?_ _) | (with_reducible refine below_holds ?_ ?_ _ _) | (with_reducible refine Below.alloc ?_ ?_ _) | (with_reducible refine Below.drew ?_) | (with_reducible refine below_drewN ?_ _) | (with_reducible refine Below.setCell ?_ ?_ _))
    all_goals first | omega | (simp; done) | (simp [go_sem]; done) | (simp [go_sem]; omega))) hn hn2).mono ?_
  rintro e u10 ⟨a1, k1, a2, k2, rfl, o1, o2, hb⟩
  have Hr' : Aside (u10.heap[w.heap.size + 1]? = some (.cells #[.int .i64 0, .slice none 0 0, .slice none 0 0] 25 (0, 0))) := heap_later (by repeat (first | exact Hc.out | exact Hr.out | exact hp_new (by first | rfl | (simp [size_plus, size_holds]; done) | (simp [size_plus, size_holds]; omega)) | (with_reducible refine hp_old ?_) | (with_reducible refine hp_plus ?_) | (with_reducible refine hh_eq (by first | assumption | (simp only [size_holds]; assumption))) | (with_reducible refine hh_ne (by omega) ?_))) hb
  have Rbl' : Aside (u10.ownsRow w.heap.size 47 4 (.slice a1 bl.length k1) bl.length (flatE Pc.enc bl)) := own_lower o1 (by have := HB.out.size; simp only [size_holds]; omega)
  have Rhs' : Aside (u10.ownsRow w.heap.size 36 3 (.slice a2 hs.length k2) hs.length (flatE Hd.enc hs)) := own_lower o2 (by have := HB.out.size; simp only [size_holds]; omega)
  have HB' : Aside (Below w.heap.size w u10) := below_step (by
    have hHB := HB.out
    repeat (first | (with_reducible exact Below.refl _ _) | (with_reducible assumption) | (with_reducible refine below_to_plus ?_ ?_ _) | (with_reducible refine below_holds ?_ ?_ _ _) | (with_reducible refine Below.alloc ?_ ?_ _) | (with_reducible refine Below.drew ?_) | (with_reducible refine below_drewN ?_ _) | (with_reducible refine Below.setCell ?_ ?_ _))
    all_goals first | omega | (simp; done) | (simp [go_sem]; done) | (simp [go_sem]; omega)) hb
  clear Hc Hr HB ltc ltr necr nerc hb o1 o2
  have Hr := Hr'
  clear Hr'
  have Rbl := Rbl'
  clear Rbl'
  have Rhs := Rhs'
  clear Rhs'
  have HB := HB'
  clear HB'
  have ltr : w.heap.size + 1 < u10.heap.size := (Array.getElem?_eq_some_iff.1 Hr.out).1
  have nblr : (.slice a1 bl.length k1 : Value).ownBlock ≠ some (w.heap.size + 1) := own_ne Rbl.out Hr.out (by decide)
  have nhsr : (.slice a2 hs.length k2 : Value).ownBlock ≠ some (w.heap.size + 1) := own_ne Rhs.out Hr.out (by decide)
  rw [holds_self Hr.out]
  go_wp2
  refine bodyPost_ret (v := .agg #[.int .i64 cp, .slice a1 bl.length k1, .slice a2 hs.length k2]) (by simp [results, Try.results24, go_sem, ↓IntWalk.iteOmega, *]) rfl ⟨_, _, _, _, rfl, (by repeat (first | exact Rbl.out | (with_reducible refine own_alloc ?_) | (with_reducible refine own_plus ?_) | (with_reducible refine own_holds ?_ ?_) | assumption)), (by repeat (first | exact Rhs.out | (with_reducible refine own_alloc ?_) | (with_reducible refine own_plus ?_) | (with_reducible refine own_holds ?_ ?_) | assumption)), (by
    have hHB := HB.out
    repeat (first | (with_reducible exact Below.refl _ _) | (with_reducible assumption) | (with_reducible refine below_to_plus ?_ ?_ _) | (with_reducible refine below_holds ?_ ?_ _ _) | (with_reducible refine Below.alloc ?_ ?_ _) | (with_reducible refine Below.drew ?_) | (with_reducible refine below_drewN ?_ _) | (with_reducible refine Below.setCell ?_ ?_ _))
    all_goals first | omega | (simp; done) | (simp [go_sem]; done) | (simp [go_sem]; omega))⟩

set_option maxHeartbeats 8000000 in
theorem release_hit (cp : Int) (ao : Option Addr) (n c1 : Nat) (ao2 : Option Addr) (n2 c2 : Nat) (bl : List Pc) (hs : List Hd) (id : Int) (w : World) (h1 : Sl w 4 ao n c1 (bl.map Pc.enc)) (h2 : Sl w 3 ao2 n2 c2 (hs.map Hd.enc)) (hn : n ≤ 1000000) (hn2 : n2 ≤ 1000000) (ha : AscH hs) {k : Nat} (hk : k < hs.length) (he : hs[k]!.hid = id) :
    Calls Try.prog 24 #[.agg #[.int .i64 cp, .slice ao n c1, .slice ao2 n2 c2], .int .i64 id] w fun e w' => CopPost w cp (bl.filter fun y => !decide (y.pid = id)) (dropH k hs) e w' := by
  have hln : bl.length = n := Sl.lenE h1
  have hln2 : hs.length = n2 := Sl.lenE h2
  subst hln
  subst hln2
  have S1 : Aside (Sl w 4 ao bl.length c1 (bl.map Pc.enc)) := h1
  have S2 : Aside (Sl w 3 ao2 hs.length c2 (hs.map Hd.enc)) := h2
  have hb0 : Below w.heap.size w ((w.alloc (.cells #[.int .i64 cp, .slice ao bl.length c1, .slice ao2 hs.length c2] 25)).alloc (.cells #[.int .i64 0, .slice none 0 0, .slice none 0 0] 25)) := by
    repeat (first | (with_reducible exact Below.refl _ _) | (with_reducible assumption) | (with_reducible refine below_to_plus ?_ ?_ _) | (with_reducible refine below_holds ?_ ?_ _ _) | (with_reducible refine Below.alloc ?_ ?_ _) | (with_reducible refine Below.drew ?_) | (with_reducible refine below_drewN ?_ _) | (with_reducible refine Below.setCell ?_ ?_ _))
    all_goals first | omega | (simp; done) | (simp [go_sem]; done) | (simp [go_sem]; omega)
  have HB : Aside (Below w.heap.size w ((w.alloc (.cells #[.int .i64 cp, .slice ao bl.length c1, .slice ao2 hs.length c2] 25)).alloc (.cells #[.int .i64 0, .slice none 0 0, .slice none 0 0] 25))) := hb0
  have Hc : Aside (((w.alloc (.cells #[.int .i64 cp, .slice ao bl.length c1, .slice ao2 hs.length c2] 25)).alloc (.cells #[.int .i64 0, .slice none 0 0, .slice none 0 0] 25)).heap[w.heap.size]? = some (.cells #[.int .i64 cp, .slice ao bl.length c1, .slice ao2 hs.length c2] 25 (0, 0))) := by repeat (first | exact hp_new (by first | rfl | (simp; done) | (simp; omega)) | refine hp_old ?_)
  have Hr : Aside (((w.alloc (.cells #[.int .i64 cp, .slice ao bl.length c1, .slice ao2 hs.length c2] 25)).alloc (.cells #[.int .i64 0, .slice none 0 0, .slice none 0 0] 25)).heap[w.heap.size + 1]? = some (.cells #[.int .i64 0, .slice none 0 0, .slice none 0 0] 25 (0, 0))) := by repeat (first | exact hp_new (by first | rfl | (simp; done) | (simp; omega)) | refine hp_old ?_)
  have ck := hold_hit cp ao bl.length c1 ao2 hs.length c2 hs id ((w.alloc (.cells #[.int .i64 cp, .slice ao bl.length c1, .slice ao2 hs.length c2] 25)).alloc (.cells #[.int .i64 0, .slice none 0 0, .slice none 0 0] 25)) (h2.stays hb0) hn2 ha hk he
  have DN := dropH_len hk
  have cw := fun U hU => without_calls cp ao bl.length c1 ao2 hs.length c2 bl hs id U (S1.out.stays hU) (S2.out.stays hU) hn hn2
  obtain ⟨fl, hfl⟩ : ∃ fl, (bl.filter fun y => !decide (y.pid = id)) = fl := ⟨_, rfl⟩
  rw [hfl] at cw ⊢
  obtain ⟨dh, hdh⟩ : ∃ dh, dropH k hs = dh := ⟨_, rfl⟩
  have DE : Aside (dropH k hs = dh) := hdh
  rw [hdh] at DN ⊢
  have hkz : (k : Int) < (hs.length : Int) := by omega
  have hk1 : (k : Int) + 1 ≤ (hs.length : Int) := by omega
  clear h1 h2 ha he hfl hdh
  go_enter Try.func24, Try.ntmps24
  go_wp2_with fail
  refine (ck).mono ?_
  rintro e u11 ⟨rfl, hb⟩
  have Hc' : Aside (u11.heap[w.heap.size]? = some (.cells #[.int .i64 cp, .slice ao bl.length c1, .slice ao2 hs.length c2] 25 (0, 0))) := heap_later (by repeat (first | exact Hc.out | exact Hr.out | exact hp_new (by first | rfl | (simp [size_plus, size_holds]; done) | (simp [size_plus, size_holds]; omega)) | (with_reducible refine hp_old ?_) | (with_reducible refine hp_plus ?_) | (with_reducible refine hh_eq (by first | assumption | (simp only [size_holds]; assumption))) | (with_reducible refine hh_ne (by omega) ?_))) hb
  have Hr' : Aside (u11.heap[w.heap.size + 1]? = some (.cells #[.int .i64 0, .slice none 0 0, .slice none 0 0] 25 (0, 0))) := heap_later (by repeat (first | exact Hc.out | exact Hr.out | exact hp_new (by first | rfl | (simp [size_plus, size_holds]; done) | (simp [size_plus, size_holds]; omega)) | (with_reducible refine hp_old ?_) | (with_reducible refine hp_plus ?_) | (with_reducible refine hh_eq (by first | assumption | (simp only [size_holds]; assumption))) | (with_reducible refine hh_ne (by omega) ?_))) hb
  have HB' : Aside (Below w.heap.size w u11) := below_step (by
    have hHB := HB.out
    repeat (first | (with_reducible exact Below.refl _ _) | (with_reducible assumption) | (with_reducible refine below_to_plus ?_ ?_ _) | (with_reducible refine below_holds ?_ ?_ _ _) | (with_reducible refine Below.alloc ?_ ?_ _) | (with_reducible refine Below.drew ?_) | (with_reducible refine below_drewN ?_ _) | (with_reducible refine Below.setCell ?_ ?_ _))
    all_goals first | omega | (simp; done) | (simp [go_sem]; done) | (simp [go_sem]; omega)) hb
  clear Hc Hr HB hb ck hb0
  have Hc := Hc'
  clear Hc'
  have Hr := Hr'
  clear Hr'
  have HB := HB'
  clear HB'
  have ltc : w.heap.size < u11.heap.size := (Array.getElem?_eq_some_iff.1 Hc.out).1
  have ltr : w.heap.size + 1 < u11.heap.size := (Array.getElem?_eq_some_iff.1 Hr.out).1
  have necr : ¬ w.heap.size = w.heap.size + 1 := by omega
  have nerc : ¬ w.heap.size + 1 = w.heap.size := by omega
  rw [holds_add (holds_self Hc.out) Hr.out]
  go_wp2_with fail
  refine (cw _ (by
    have hHB := HB.out
    repeat (first | (with_reducible exact Below.refl _ _) | (with_reducible assumption) | (with_reducible refine below_to_plus ?_ ?_ _) | (with_reducible refine below_holds ?_ ?_ _ _) | (with_reducible refine Below.alloc ?_ ?_ _) | (with_reducible refine Below.drew ?_) | (with_reducible refine below_drewN ?_ _) | (with_reducible refine Below.setCell ?_ ?_ _))
    all_goals first | omega | (simp; done) | (simp [go_sem]; done) | (simp [go_sem]; omega))).mono ?_
  rintro e u12 ⟨a1, k1, a2, k2, rfl, o1, o2, hb⟩
  have Hr' : Aside (u12.heap[w.heap.size + 1]? = some (.cells #[.int .i64 0, .slice none 0 0, .slice none 0 0] 25 (0, 0))) := heap_later (by repeat (first | exact Hc.out | exact Hr.out | exact hp_new (by first | rfl | (simp [size_plus, size_holds]; done) | (simp [size_plus, size_holds]; omega)) | (with_reducible refine hp_old ?_) | (with_reducible refine hp_plus ?_) | (with_reducible refine hh_eq (by first | assumption | (simp only [size_holds]; assumption))) | (with_reducible refine hh_ne (by omega) ?_))) hb
  have Rbl' : Aside (u12.ownsRow w.heap.size 47 4 (.slice a1 fl.length k1) fl.length (flatE Pc.enc fl)) := own_lower o1 (by have := HB.out.size; simp only [size_holds]; omega)
  have Rhs' : Aside (u12.ownsRow w.heap.size 36 3 (.slice a2 hs.length k2) hs.length (flatE Hd.enc hs)) := own_lower o2 (by have := HB.out.size; simp only [size_holds]; omega)
  have HB' : Aside (Below w.heap.size w u12) := below_step (by
    have hHB := HB.out
    repeat (first | (with_reducible exact Below.refl _ _) | (with_reducible assumption) | (with_reducible refine below_to_plus ?_ ?_ _) | (with_reducible refine below_holds ?_ ?_ _ _) | (with_reducible refine Below.alloc ?_ ?_ _) | (with_reducible refine Below.drew ?_) | (with_reducible refine below_drewN ?_ _) | (with_reducible refine Below.setCell ?_ ?_ _))
    all_goals first | omega | (simp; done) | (simp [go_sem]; done) | (simp [go_sem]; omega)) hb
  clear Hc Hr HB ltc ltr necr nerc hb cw o1 o2
  have Hr := Hr'
  clear Hr'
  have Rbl := Rbl'
  clear Rbl'
  have Rhs := Rhs'
  clear Rhs'
  have HB := HB'
  clear HB'
  have oob : w.heap.size + 1 < u12.heap.size := by
    first | exact (Array.getElem?_eq_some_iff.1 Hr.out).1 | omega
  have Ho' : Aside ((u12.alloc (.cells #[.int .i64 cp, .slice a1 fl.length k1, .slice a2 hs.length k2] 25)).heap[u12.heap.size]? = some (.cells #[.int .i64 cp, .slice a1 fl.length k1, .slice a2 hs.length k2] 25 (0, 0))) := hp_new rfl
  have Hr' : Aside ((u12.alloc (.cells #[.int .i64 cp, .slice a1 fl.length k1, .slice a2 hs.length k2] 25)).heap[w.heap.size + 1]? = some (.cells #[.int .i64 0, .slice none 0 0, .slice none 0 0] 25 (0, 0))) := hp_old Hr.out
  have Rbl' : Aside ((u12.alloc (.cells #[.int .i64 cp, .slice a1 fl.length k1, .slice a2 hs.length k2] 25)).ownsRow w.heap.size 47 4 (.slice a1 fl.length k1) fl.length (flatE Pc.enc fl)) := own_alloc Rbl.out
  have Rhs' : Aside ((u12.alloc (.cells #[.int .i64 cp, .slice a1 fl.length k1, .slice a2 hs.length k2] 25)).ownsRow w.heap.size 36 3 (.slice a2 hs.length k2) hs.length (flatE Hd.enc hs)) := own_alloc Rhs.out
  have HB' : Aside (Below w.heap.size w (u12.alloc (.cells #[.int .i64 cp, .slice a1 fl.length k1, .slice a2 hs.length k2] 25))) := HB.out.alloc HB.out.size _
  clear Hr Rbl Rhs HB
  go_wp2_with fail
  obtain ⟨ob, eob⟩ : ∃ b, u12.heap.size = b := ⟨_, rfl⟩
  generalize (u12.alloc (.cells #[.int .i64 cp, .slice a1 fl.length k1, .slice a2 hs.length k2] 25)) = u13 at Hr' Rbl' Rhs' HB' Ho' ⊢
  rw [eob] at Ho' oob ⊢
  have Hr := Hr'
  clear Hr'
  have Ho := Ho'
  clear Ho'
  have Rbl := Rbl'
  clear Rbl'
  have Rhs := Rhs'
  clear Rhs'
  have HB := HB'
  clear HB'
  have hg0 : ∀ j, (Value.slice a2 hs.length k2).ownBlock = some j → w.heap.size ≤ j := fun j hj => (Rhs.out.lt j hj).1
  have nh := own_ne_own Rbl.out Rhs.out (by decide)
  have nhsr : (.slice a2 hs.length k2 : Value).ownBlock ≠ some (w.heap.size + 1) := own_ne Rhs.out Hr.out (by decide)
  have nhso : (.slice a2 hs.length k2 : Value).ownBlock ≠ some ob := own_ne Rhs.out Ho.out (by decide)
  refine (hdDelete_calls (.slice a2 hs.length k2) hs.length k w.heap.size hs _ Rhs.out hk hn2).mono ?_
  rintro e u14 ⟨v', rfl, o1, hg, hv'⟩
  have Hr' : Aside (u14.heap[w.heap.size + 1]? = some (.cells #[.int .i64 0, .slice none 0 0, .slice none 0 0] 25 (0, 0))) := heap_grown hg (by repeat (first | exact Hr.out | exact Ho.out | exact hp_new (by first | rfl | (simp [size_plus, size_holds]; done) | (simp [size_plus, size_holds]; omega)) | (with_reducible refine hp_old ?_) | (with_reducible refine hp_plus ?_) | (with_reducible refine hh_eq (by first | assumption | (simp only [size_holds]; assumption))) | (with_reducible refine hh_ne (by omega) ?_))) (by assumption)
  have Ho' : Aside (u14.heap[ob]? = some (.cells #[.int .i64 cp, .slice a1 fl.length k1, .slice a2 hs.length k2] 25 (0, 0))) := heap_grown hg (by repeat (first | exact Hr.out | exact Ho.out | exact hp_new (by first | rfl | (simp [size_plus, size_holds]; done) | (simp [size_plus, size_holds]; omega)) | (with_reducible refine hp_old ?_) | (with_reducible refine hp_plus ?_) | (with_reducible refine hh_eq (by first | assumption | (simp only [size_holds]; assumption))) | (with_reducible refine hh_ne (by omega) ?_))) (by assumption)
  have Rbl' : Aside (u14.ownsRow w.heap.size 47 4 (.slice a1 fl.length k1) fl.length (flatE Pc.enc fl)) := World.ownsRow.kept (by repeat (first | exact Rbl.out | (with_reducible refine own_alloc ?_) | (with_reducible refine own_plus ?_) | (with_reducible refine own_holds ?_ ?_) | assumption)) hg (by assumption)
  have Rhs' : Aside (u14.ownsRow w.heap.size 36 3 (v') (hs.length - 1) (flatE Hd.enc (hs.take k ++ hs.drop (k + 1)))) := o1
  have HB' : Aside (Below w.heap.size w u14) := below_grown (by
    have hHB := HB.out
    repeat (first | (with_reducible exact Below.refl _ _) | (with_reducible assumption) | (with_reducible refine below_to_plus ?_ ?_ _) | (with_reducible refine below_holds ?_ ?_ _ _) | (with_reducible refine Below.alloc ?_ ?_ _) | (with_reducible refine Below.drew ?_) | (with_reducible refine below_drewN ?_ _) | (with_reducible refine Below.setCell ?_ ?_ _))
    all_goals first | omega | (simp; done) | (simp [go_sem]; done) | (simp [go_sem]; omega)) hg (by assumption)
  clear Hr Ho Rbl Rhs HB hg nhsr nhso o1 nh hg0 hv'
  have Hr := Hr'
  clear Hr'
  have Ho := Ho'
  clear Ho'
  have Rbl := Rbl'
  clear Rbl'
  have Rhs := Rhs'
  clear Rhs'
  have HB := HB'
  clear HB'
  obtain ⟨a3, k3, ev, _⟩ := ownE_sl hd_len (by omega) Rhs.out
  subst ev
  rw [show hs.take k ++ hs.drop (k + 1) = dh from DE.out, ← DN] at Rhs
  rw [← DN]
  clear DE DN
  have ltr : w.heap.size + 1 < u14.heap.size := (Array.getElem?_eq_some_iff.1 Hr.out).1
  have lto : ob < u14.heap.size := (Array.getElem?_eq_some_iff.1 Ho.out).1
  have nero : ¬ w.heap.size + 1 = ob := by omega
  have neor : ¬ ob = w.heap.size + 1 := by omega
  have nblr : (.slice a1 fl.length k1 : Value).ownBlock ≠ some (w.heap.size + 1) := own_ne Rbl.out Hr.out (by decide)
  have nblo : (.slice a1 fl.length k1 : Value).ownBlock ≠ some ob := own_ne Rbl.out Ho.out (by decide)
  have nhsr : (.slice a3 dh.length k3 : Value).ownBlock ≠ some (w.heap.size + 1) := own_ne Rhs.out Hr.out (by decide)
  have nhso : (.slice a3 dh.length k3 : Value).ownBlock ≠ some ob := own_ne Rhs.out Ho.out (by decide)
  rw [holds_add (holds_self Hr.out) Ho.out]
  go_wp2
  refine bodyPost_ret (v := .agg #[.int .i64 cp, .slice a1 fl.length k1, .slice a3 dh.length k3]) (by simp [results, Try.results24, go_sem, ↓IntWalk.iteOmega, *]) rfl ⟨_, _, _, _, rfl, (by repeat (first | exact Rbl.out | (with_reducible refine own_alloc ?_) | (with_reducible refine own_plus ?_) | (with_reducible refine own_holds ?_ ?_) | assumption)), (by repeat (first | exact Rhs.out | (with_reducible refine own_alloc ?_) | (with_reducible refine own_plus ?_) | (with_reducible refine own_holds ?_ ?_) | assumption)), (by
    have hHB := HB.out
    repeat (first | (with_reducible exact Below.refl _ _) | (with_reducible assumption) | (with_reducible refine below_to_plus ?_ ?_ _) | (with_reducible refine below_holds ?_ ?_ _ _) | (with_reducible refine Below.alloc ?_ ?_ _) | (with_reducible refine Below.drew ?_) | (with_reducible refine below_drewN ?_ _) | (with_reducible refine Below.setCell ?_ ?_ _))
    all_goals first | omega | (simp; done) | (simp [go_sem]; done) | (simp [go_sem]; omega))⟩

end Go.Proofs.Ytcgajlobbjoefaa
