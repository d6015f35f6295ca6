/- This text proves the walk of Put of package cache. Conditions: those that each theorem names. -/
import Derived.Test.YtcgajlobbjoefaaCacheI
namespace Go.Proofs.Ytcgajlobbjoefaa
open Go.ChangeShapes Go.WideShapes Go.ChangeAt Go.RowKit
set_option linter.unusedVariables false
set_option linter.unusedSimpArgs false

/-- The list with a piece put, in a cache of capacity cp. -/
def putL (cp : Int) (p : Pc) (bl : List Pc) : List Pc :=
  if cp < (((bl.filter fun y => !clashB p y).length : Int) + 1) then ((bl.filter fun y => !clashB p y) ++ [p]).drop 1 else (bl.filter fun y => !clashB p y) ++ [p]

set_option maxHeartbeats 8000000 in
theorem put_miss (cp : Int) (ao : Option Addr) (n c1 : Nat) (ao2 : Option Addr) (n2 c2 : Nat) (bl : List Pc) (hs : List Hd) (id vers at' : Int) (data : ByteArray) (w : World) (h1 : Sl w 4 ao n c1 (bl.map Pc.enc)) (h2 : Sl w 3 ao2 n2 c2 (hs.map Hd.enc)) (hn : n ≤ 1000000) (hn2 : n2 ≤ 1000000) (ha : AscH hs) (he : ∀ j, j < hs.length → hs[j]!.hid ≠ id) :
    Calls Try.prog 18 #[.agg #[.int .i64 cp, .slice ao n c1, .slice ao2 n2 c2], .int .i64 id, .int .i64 vers, .int .i64 at', .string data] w fun e w' => CopPost w cp bl hs e w' := by
  have hln : bl.length = n := Sl.lenE h1
  have hln2 : hs.length = n2 := Sl.lenE h2
  subst hln
  subst hln2
  have S1 : Aside (Sl w 4 ao bl.length c1 (bl.map Pc.enc)) := h1
  have S2 : Aside (Sl w 3 ao2 hs.length c2 (hs.map Hd.enc)) := h2
  have hb0 : Below w.heap.size w ((w.alloc (.cells #[.int .i64 cp, .slice ao bl.length c1, .slice ao2 hs.length c2] 25)).alloc (.cells #[.int .i64 0, .slice none 0 0, .slice none 0 0] 25)) := by
    repeat (first | (with_reducible exact Below.refl _ _) | (with_reducible assumption) | (with_reducible refine below_to_plus ?_ ?_ _) | (with_reducible refine below_holds ?_ ?_ _ _) | (with_reducible refine Below.alloc ?_ ?_ _) | (with_reducible refine Below.drew ?_) | (with_reducible refine below_drewN ?_ _) | (with_reducible refine Below.setCell ?_ ?_ _))
    all_goals first | omega | (simp; done) | (simp [go_sem]; done) | (simp [go_sem]; omega)
  have HB : Aside (Below w.heap.size w ((w.alloc (.cells #[.int .i64 cp, .slice ao bl.length c1, .slice ao2 hs.length c2] 25)).alloc (.cells #[.int .i64 0, .slice none 0 0, .slice none 0 0] 25))) := hb0
  have Hc : Aside (((w.alloc (.cells #[.int .i64 cp, .slice ao bl.length c1, .slice ao2 hs.length c2] 25)).alloc (.cells #[.int .i64 0, .slice none 0 0, .slice none 0 0] 25)).heap[w.heap.size]? = some (.cells #[.int .i64 cp, .slice ao bl.length c1, .slice ao2 hs.length c2] 25 (0, 0))) := by repeat (first | exact hp_new (by first | rfl | (simp; done) | (simp; omega)) | refine hp_old ?_)
  have Hr : Aside (((w.alloc (.cells #[.int .i64 cp, .slice ao bl.length c1, .slice ao2 hs.length c2] 25)).alloc (.cells #[.int .i64 0, .slice none 0 0, .slice none 0 0] 25)).heap[w.heap.size + 1]? = some (.cells #[.int .i64 0, .slice none 0 0, .slice none 0 0] 25 (0, 0))) := by repeat (first | exact hp_new (by first | rfl | (simp; done) | (simp; omega)) | refine hp_old ?_)
  have ck := copied_calls cp ao bl.length c1 ao2 hs.length c2 bl hs ((w.alloc (.cells #[.int .i64 cp, .slice ao bl.length c1, .slice ao2 hs.length c2] 25)).alloc (.cells #[.int .i64 0, .slice none 0 0, .slice none 0 0] 25)) (h1.stays hb0) (h2.stays hb0) (by omega) hn2
  have ch := fun U hU => hold_miss cp ao bl.length c1 ao2 hs.length c2 hs id U (S2.out.stays hU) hn2 ha he
  generalize posH id hs = ps at ch
  clear h1 h2 ha he
  go_enter Try.func18, Try.ntmps18
  go_wp2_with fail
  refine (ck).mono ?_
  rintro e u15 ⟨a1, k1, a2, k2, rfl, o1, o2, hb⟩
  have Hc' : Aside (u15.heap[w.heap.size]? = some (.cells #[.int .i64 cp, .slice ao bl.length c1, .slice ao2 hs.length c2] 25 (0, 0))) := heap_later (by repeat (first | exact Hc.out | exact Hr.out | exact hp_new (by first | rfl | (simp [size_plus, size_holds]; done) | (simp [size_plus, size_holds]; omega)) | (with_reducible refine hp_old ?_) | (with_reducible refine hp_plus ?_) | (with_reducible refine hh_eq (by first | assumption | (simp only [size_holds]; assumption))) | (with_reducible refine hh_ne (by omega) ?_))) hb
  have Hr' : Aside (u15.heap[w.heap.size + 1]? = some (.cells #[.int .i64 0, .slice none 0 0, .slice none 0 0] 25 (0, 0))) := heap_later (by repeat (first | exact Hc.out | exact Hr.out | exact hp_new (by first | rfl | (simp [size_plus, size_holds]; done) | (simp [size_plus, size_holds]; omega)) | (with_reducible refine hp_old ?_) | (with_reducible refine hp_plus ?_) | (with_reducible refine hh_eq (by first | assumption | (simp only [size_holds]; assumption))) | (with_reducible refine hh_ne (by omega) ?_))) hb
  have Rbl' : Aside (u15.ownsRow w.heap.size 47 4 (.slice a1 bl.length k1) bl.length (flatE Pc.enc bl)) := own_lower o1 (by simp; omega)
  have Rhs' : Aside (u15.ownsRow w.heap.size 36 3 (.slice a2 hs.length k2) hs.length (flatE Hd.enc hs)) := own_lower o2 (by simp; omega)
  have HB' : Aside (Below w.heap.size w u15) := below_step (by
    have hHB := HB.out
    repeat (first | (with_reducible exact Below.refl _ _) | (with_reducible assumption) | (with_reducible refine below_to_plus ?_ ?_ _) | (with_reducible refine below_holds ?_ ?_ _ _) | (with_reducible refine Below.alloc ?_ ?_ _) | (with_reducible refine Below.drew ?_) | (with_reducible refine below_drewN ?_ _) | (with_reducible refine Below.setCell ?_ ?_ _))
    all_goals first | omega | (simp; done) | (simp [go_sem]; done) | (simp [go_sem]; omega)) hb
  clear Hc Hr HB hb ck o1 o2 hb0
  have Hc := Hc'
  clear Hc'
  have Hr := Hr'
  clear Hr'
  have Rbl := Rbl'
  clear Rbl'
  have Rhs := Rhs'
  clear Rhs'
  have HB := HB'
  clear HB'
  have hltb : ∀ j, (Value.slice a1 bl.length k1).ownBlock = some j → j < u15.heap.size := fun j hj => (Rbl.out.lt j hj).2
  have bc0 := cell_heap Hc.out 0 _ rfl
  have bc1 := cell_heap Hc.out 1 _ rfl
  have bc2 := cell_heap Hc.out 2 _ rfl
  have ltc : w.heap.size < u15.heap.size := (Array.getElem?_eq_some_iff.1 Hc.out).1
  have oob : w.heap.size + 1 < u15.heap.size := by
    first | exact (Array.getElem?_eq_some_iff.1 Hr.out).1 | omega
  have Ho' : Aside ((u15.alloc (.cells #[.int .i64 cp, .slice a1 bl.length k1, .slice a2 hs.length k2] 25)).heap[u15.heap.size]? = some (.cells #[.int .i64 cp, .slice a1 bl.length k1, .slice a2 hs.length k2] 25 (0, 0))) := hp_new rfl
  have Hc' : Aside ((u15.alloc (.cells #[.int .i64 cp, .slice a1 bl.length k1, .slice a2 hs.length k2] 25)).heap[w.heap.size]? = some (.cells #[.int .i64 cp, .slice ao bl.length c1, .slice ao2 hs.length c2] 25 (0, 0))) := hp_old Hc.out
  have Hr' : Aside ((u15.alloc (.cells #[.int .i64 cp, .slice a1 bl.length k1, .slice a2 hs.length k2] 25)).heap[w.heap.size + 1]? = some (.cells #[.int .i64 0, .slice none 0 0, .slice none 0 0] 25 (0, 0))) := hp_old Hr.out
  have Rbl' : Aside ((u15.alloc (.cells #[.int .i64 cp, .slice a1 bl.length k1, .slice a2 hs.length k2] 25)).ownsRow w.heap.size 47 4 (.slice a1 bl.length k1) bl.length (flatE Pc.enc bl)) := own_alloc Rbl.out
  have Rhs' : Aside ((u15.alloc (.cells #[.int .i64 cp, .slice a1 bl.length k1, .slice a2 hs.length k2] 25)).ownsRow w.heap.size 36 3 (.slice a2 hs.length k2) hs.length (flatE Hd.enc hs)) := own_alloc Rhs.out
  have HB' : Aside (Below w.heap.size w (u15.alloc (.cells #[.int .i64 cp, .slice a1 bl.length k1, .slice a2 hs.length k2] 25))) := HB.out.alloc HB.out.size _
  clear Hc Hr Rbl Rhs HB
  go_wp2_with fail
  obtain ⟨ob, eob⟩ : ∃ b, u15.heap.size = b := ⟨_, rfl⟩
  generalize (u15.alloc (.cells #[.int .i64 cp, .slice a1 bl.length k1, .slice a2 hs.length k2] 25)) = u16 at Hc' Hr' Rbl' Rhs' HB' Ho' ⊢
  rw [eob] at Ho' oob ⊢
  have Hc := Hc'
  clear Hc'
  have Hr := Hr'
  clear Hr'
  have Ho := Ho'
  clear Ho'
  have Rbl := Rbl'
  clear Rbl'
  have Rhs := Rhs'
  clear Rhs'
  have HB := HB'
  clear HB'
  clear bc0 bc1 bc2 ltc
  refine (ch _ HB.out).mono ?_
  rintro e u17 ⟨rfl, hb⟩
  have Hc' : Aside (u17.heap[w.heap.size]? = some (.cells #[.int .i64 cp, .slice ao bl.length c1, .slice ao2 hs.length c2] 25 (0, 0))) := heap_later (by repeat (first | exact Hc.out | exact Hr.out | exact Ho.out | exact hp_new (by first | rfl | (simp [size_plus, size_holds]; done) | (simp [size_plus, size_holds]; omega)) | (with_reducible refine hp_old ?_) | (with_reducible refine hp_plus ?_) | (with_reducible refine hh_eq (by first | assumption | (simp only [size_holds]; assumption))) | (with_reducible refine hh_ne (by omega) ?_))) hb
  have Hr' : Aside (u17.heap[w.heap.size + 1]? = some (.cells #[.int .i64 0, .slice none 0 0, .slice none 0 0] 25 (0, 0))) := heap_later (by repeat (first | exact Hc.out | exact Hr.out | exact Ho.out | exact hp_new (by first | rfl | (simp [size_plus, size_holds]; done) | (simp [size_plus, size_holds]; omega)) | (with_reducible refine hp_old ?_) | (with_reducible refine hp_plus ?_) | (with_reducible refine hh_eq (by first | assumption | (simp only [size_holds]; assumption))) | (with_reducible refine hh_ne (by omega) ?_))) hb
  have Ho' : Aside (u17.heap[ob]? = some (.cells #[.int .i64 cp, .slice a1 bl.length k1, .slice a2 hs.length k2] 25 (0, 0))) := heap_later (by repeat (first | exact Hc.out | exact Hr.out | exact Ho.out | exact hp_new (by first | rfl | (simp [size_plus, size_holds]; done) | (simp [size_plus, size_holds]; omega)) | (with_reducible refine hp_old ?_) | (with_reducible refine hp_plus ?_) | (with_reducible refine hh_eq (by first | assumption | (simp only [size_holds]; assumption))) | (with_reducible refine hh_ne (by omega) ?_))) hb
  have Rbl' : Aside (u17.ownsRow w.heap.size 47 4 (.slice a1 bl.length k1) bl.length (flatE Pc.enc bl)) := own_from (by repeat (first | exact Rbl.out | (with_reducible refine own_alloc ?_) | (with_reducible refine own_plus ?_) | (with_reducible refine own_holds ?_ ?_) | assumption)) hb
  have Rhs' : Aside (u17.ownsRow w.heap.size 36 3 (.slice a2 hs.length k2) hs.length (flatE Hd.enc hs)) := own_from (by repeat (first | exact Rhs.out | (with_reducible refine own_alloc ?_) | (with_reducible refine own_plus ?_) | (with_reducible refine own_holds ?_ ?_) | assumption)) hb
  have HB' : Aside (Below w.heap.size w u17) := below_step (by
    have hHB := HB.out
    repeat (first | (with_reducible exact Below.refl _ _) | (with_reducible assumption) | (with_reducible refine below_to_plus ?_ ?_ _) | (with_reducible refine below_holds ?_ ?_ _ _) | (with_reducible refine Below.alloc ?_ ?_ _) | (with_reducible refine Below.drew ?_) | (with_reducible refine below_drewN ?_ _) | (with_reducible refine Below.setCell ?_ ?_ _))
    all_goals first | omega | (simp; done) | (simp [go_sem]; done) | (simp [go_sem]; omega)) hb
  clear Hc Hr Ho Rbl Rhs HB hb ch
  have Hc := Hc'
  clear Hc'
  have Hr := Hr'
  clear Hr'
  have Ho := Ho'
  clear Ho'
  have Rbl := Rbl'
  clear Rbl'
  have Rhs := Rhs'
  clear Rhs'
  have HB := HB'
  clear HB'
  have ltc : w.heap.size < u17.heap.size := (Array.getElem?_eq_some_iff.1 Hc.out).1
  have ltr : w.heap.size + 1 < u17.heap.size := (Array.getElem?_eq_some_iff.1 Hr.out).1
  have lto : ob < u17.heap.size := (Array.getElem?_eq_some_iff.1 Ho.out).1
  have necr : ¬ w.heap.size = w.heap.size + 1 := by omega
  have nerc : ¬ w.heap.size + 1 = w.heap.size := by omega
  have neco : ¬ w.heap.size = ob := by omega
  have neoc : ¬ ob = w.heap.size := by omega
  have nero : ¬ w.heap.size + 1 = ob := by omega
  have neor : ¬ ob = w.heap.size + 1 := by omega
  have nblc : (.slice a1 bl.length k1 : Value).ownBlock ≠ some w.heap.size := own_ne Rbl.out Hc.out (by decide)
  have nblr : (.slice a1 bl.length k1 : Value).ownBlock ≠ some (w.heap.size + 1) := own_ne Rbl.out Hr.out (by decide)
  have nblo : (.slice a1 bl.length k1 : Value).ownBlock ≠ some ob := own_ne Rbl.out Ho.out (by decide)
  have nhsc : (.slice a2 hs.length k2 : Value).ownBlock ≠ some w.heap.size := own_ne Rhs.out Hc.out (by decide)
  have nhsr : (.slice a2 hs.length k2 : Value).ownBlock ≠ some (w.heap.size + 1) := own_ne Rhs.out Hr.out (by decide)
  have nhso : (.slice a2 hs.length k2 : Value).ownBlock ≠ some ob := own_ne Rhs.out Ho.out (by decide)
  rw [holds_add (holds_add (holds_self Hc.out) Hr.out) Ho.out]
  go_wp2
  refine bodyPost_ret (v := .agg #[.int .i64 cp, .slice a1 bl.length k1, .slice a2 hs.length k2]) (by simp [results, Try.results18, go_sem, ↓IntWalk.iteOmega, *]) rfl ⟨_, _, _, _, rfl, (by repeat (first | exact Rbl.out | (with_reducible refine own_alloc ?_) | (with_reducible refine own_plus ?_) | (with_reducible refine own_holds ?_ ?_) | assumption)), (by repeat (first | exact Rhs.out | (with_reducible refine own_alloc ?_) | (with_reducible refine own_plus ?_) | (with_reducible refine own_holds ?_ ?_) | assumption)), (by
    have hHB := HB.out
    repeat (first | (with_reducible exact Below.refl _ _) | (with_reducible assumption) | (with_reducible refine below_to_plus ?_ ?_ _) | (with_reducible refine below_holds ?_ ?_ _ _) | (with_reducible refine Below.alloc ?_ ?_ _) | (with_reducible refine Below.drew ?_) | (with_reducible refine below_drewN ?_ _) | (with_reducible refine Below.setCell ?_ ?_ _))
    all_goals first | omega | (simp; done) | (simp [go_sem]; done) | (simp [go_sem]; omega))⟩

set_option maxHeartbeats 8000000 in
theorem put_denied (cp : Int) (ao : Option Addr) (n c1 : Nat) (ao2 : Option Addr) (n2 c2 : Nat) (bl : List Pc) (hs : List Hd) (id vers at' : Int) (data : ByteArray) (w : World) (h1 : Sl w 4 ao n c1 (bl.map Pc.enc)) (h2 : Sl w 3 ao2 n2 c2 (hs.map Hd.enc)) (hn : n ≤ 1000000) (hn2 : n2 ≤ 1000000) (ha : AscH hs) {k : Nat} (hk : k < hs.length) (he : hs[k]!.hid = id) (hd : hs[k]!.vers ≠ vers ∨ at' < 0 ∨ 9007199254740991 < at' ∨ 65536 < data.size ∨ cp = 0) :
    Calls Try.prog 18 #[.agg #[.int .i64 cp, .slice ao n c1, .slice ao2 n2 c2], .int .i64 id, .int .i64 vers, .int .i64 at', .string data] w fun e w' => CopPost w cp bl hs e w' := by
  have hln : bl.length = n := Sl.lenE h1
  have hln2 : hs.length = n2 := Sl.lenE h2
  subst hln
  subst hln2
  have S1 : Aside (Sl w 4 ao bl.length c1 (bl.map Pc.enc)) := h1
  have S2 : Aside (Sl w 3 ao2 hs.length c2 (hs.map Hd.enc)) := h2
  have hb0 : Below w.heap.size w ((w.alloc (.cells #[.int .i64 cp, .slice ao bl.length c1, .slice ao2 hs.length c2] 25)).alloc (.cells #[.int .i64 0, .slice none 0 0, .slice none 0 0] 25)) := by
    repeat (first | (with_reducible exact Below.refl _ _) | (with_reducible assumption) | (with_reducible refine below_to_plus ?_ ?_ _) | (with_reducible refine below_holds ?_ ?_ _ _) | (with_reducible refine Below.alloc ?_ ?_ _) | (with_reducible refine Below.drew ?_) | (with_reducible refine below_drewN ?_ _) | (with_reducible refine Below.setCell ?_ ?_ _))
    all_goals first | omega | (simp; done) | (simp [go_sem]; done) | (simp [go_sem]; omega)
  have HB : Aside (Below w.heap.size w ((w.alloc (.cells #[.int .i64 cp, .slice ao bl.length c1, .slice ao2 hs.length c2] 25)).alloc (.cells #[.int .i64 0, .slice none 0 0, .slice none 0 0] 25))) := hb0
  have Hc : Aside (((w.alloc (.cells #[.int .i64 cp, .slice ao bl.length c1, .slice ao2 hs.length c2] 25)).alloc (.cells #[.int .i64 0, .slice none 0 0, .slice none 0 0] 25)).heap[w.heap.size]? = some (.cells #[.int .i64 cp, .slice ao bl.length c1, .slice ao2 hs.length c2] 25 (0, 0))) := by repeat (first | exact hp_new (by first | rfl | (simp; done) | (simp; omega)) | refine hp_old ?_)
  have Hr : Aside (((w.alloc (.cells #[.int .i64 cp, .slice ao bl.length c1, .slice ao2 hs.length c2] 25)).alloc (.cells #[.int .i64 0, .slice none 0 0, .slice none 0 0] 25)).heap[w.heap.size + 1]? = some (.cells #[.int .i64 0, .slice none 0 0, .slice none 0 0] 25 (0, 0))) := by repeat (first | exact hp_new (by first | rfl | (simp; done) | (simp; omega)) | refine hp_old ?_)
  have ck := copied_calls cp ao bl.length c1 ao2 hs.length c2 bl hs ((w.alloc (.cells #[.int .i64 cp, .slice ao bl.length c1, .slice ao2 hs.length c2] 25)).alloc (.cells #[.int .i64 0, .slice none 0 0, .slice none 0 0] 25)) (h1.stays hb0) (h2.stays hb0) (by omega) hn2
  have ch := fun U hU => hold_hit cp ao bl.length c1 ao2 hs.length c2 hs id U (S2.out.stays hU) hn2 ha hk he
  obtain ⟨b, off, eao, hbw, q0, q1, q2⟩ := (cellsHd h2) k hk
  subst eao
  have hkz : (k : Int) < (hs.length : Int) := by omega
  have hbig2 : hs.length ≤ 9223372036854775807 := by omega
  clear h1 h2 ha he
  generalize hs[k]! = y at q0 q1 q2 hd
  obtain ⟨y1, y2, y3⟩ := y
  simp only [] at q0 q1 q2 hd
  go_enter Try.func18, Try.ntmps18
  go_wp2_with fail
  refine (ck).mono ?_
  rintro e u18 ⟨a1, k1, a2, k2, rfl, o1, o2, hb⟩
  have Hc' : Aside (u18.heap[w.heap.size]? = some (.cells #[.int .i64 cp, .slice ao bl.length c1, .slice (some ⟨b, off, none⟩) hs.length c2] 25 (0, 0))) := heap_later (by repeat (first | exact Hc.out | exact Hr.out | exact hp_new (by first | rfl | (simp [size_plus, size_holds]; done) | (simp [size_plus, size_holds]; omega)) | (with_reducible refine hp_old ?_) | (with_reducible refine hp_plus ?_) | (with_reducible refine hh_eq (by first | assumption | (simp only [size_holds]; assumption))) | (with_reducible refine hh_ne (by omega) ?_))) hb
  have Hr' : Aside (u18.heap[w.heap.size + 1]? = some (.cells #[.int .i64 0, .slice none 0 0, .slice none 0 0] 25 (0, 0))) := heap_later (by repeat (first | exact Hc.out | exact Hr.out | exact hp_new (by first | rfl | (simp [size_plus, size_holds]; done) | (simp [size_plus, size_holds]; omega)) | (with_reducible refine hp_old ?_) | (with_reducible refine hp_plus ?_) | (with_reducible refine hh_eq (by first | assumption | (simp only [size_holds]; assumption))) | (with_reducible refine hh_ne (by omega) ?_))) hb
  have Rbl' : Aside (u18.ownsRow w.heap.size 47 4 (.slice a1 bl.length k1) bl.length (flatE Pc.enc bl)) := own_lower o1 (by simp; omega)
  have Rhs' : Aside (u18.ownsRow w.heap.size 36 3 (.slice a2 hs.length k2) hs.length (flatE Hd.enc hs)) := own_lower o2 (by simp; omega)
  have HB' : Aside (Below w.heap.size w u18) := below_step (by
    have hHB := HB.out
    repeat (first | (with_reducible exact Below.refl _ _) | (with_reducible assumption) | (with_reducible refine below_to_plus ?_ ?_ _) | (with_reducible refine below_holds ?_ ?_ _ _) | (with_reducible refine Below.alloc ?_ ?_ _) | (with_reducible refine Below.drew ?_) | (with_reducible refine below_drewN ?_ _) | (with_reducible refine Below.setCell ?_ ?_ _))
    all_goals first | omega | (simp; done) | (simp [go_sem]; done) | (simp [go_sem]; omega)) hb
  clear Hc Hr HB hb ck o1 o2 hb0
  have Hc := Hc'
  clear Hc'
  have Hr := Hr'
  clear Hr'
  have Rbl := Rbl'
  clear Rbl'
  have Rhs := Rhs'
  clear Rhs'
  have HB := HB'
  clear HB'
  have hltb : ∀ j, (Value.slice a1 bl.length k1).ownBlock = some j → j < u18.heap.size := fun j hj => (Rbl.out.lt j hj).2
  have bc0 := cell_heap Hc.out 0 _ rfl
  have bc1 := cell_heap Hc.out 1 _ rfl
  have bc2 := cell_heap Hc.out 2 _ rfl
  have ltc : w.heap.size < u18.heap.size := (Array.getElem?_eq_some_iff.1 Hc.out).1
  have oob : w.heap.size + 1 < u18.heap.size := by
    first | exact (Array.getElem?_eq_some_iff.1 Hr.out).1 | omega
  have Ho' : Aside ((u18.alloc (.cells #[.int .i64 cp, .slice a1 bl.length k1, .slice a2 hs.length k2] 25)).heap[u18.heap.size]? = some (.cells #[.int .i64 cp, .slice a1 bl.length k1, .slice a2 hs.length k2] 25 (0, 0))) := hp_new rfl
  have Hc' : Aside ((u18.alloc (.cells #[.int .i64 cp, .slice a1 bl.length k1, .slice a2 hs.length k2] 25)).heap[w.heap.size]? = some (.cells #[.int .i64 cp, .slice ao bl.length c1, .slice (some ⟨b, off, none⟩) hs.length c2] 25 (0, 0))) := hp_old Hc.out
  have Hr' : Aside ((u18.alloc (.cells #[.int .i64 cp, .slice a1 bl.length k1, .slice a2 hs.length k2] 25)).heap[w.heap.size + 1]? = some (.cells #[.int .i64 0, .slice none 0 0, .slice none 0 0] 25 (0, 0))) := hp_old Hr.out
  have Rbl' : Aside ((u18.alloc (.cells #[.int .i64 cp, .slice a1 bl.length k1, .slice a2 hs.length k2] 25)).ownsRow w.heap.size 47 4 (.slice a1 bl.length k1) bl.length (flatE Pc.enc bl)) := own_alloc Rbl.out
  have Rhs' : Aside ((u18.alloc (.cells #[.int .i64 cp, .slice a1 bl.length k1, .slice a2 hs.length k2] 25)).ownsRow w.heap.size 36 3 (.slice a2 hs.length k2) hs.length (flatE Hd.enc hs)) := own_alloc Rhs.out
  have HB' : Aside (Below w.heap.size w (u18.alloc (.cells #[.int .i64 cp, .slice a1 bl.length k1, .slice a2 hs.length k2] 25))) := HB.out.alloc HB.out.size _
  clear Hc Hr Rbl Rhs HB
  go_wp2_with fail
  obtain ⟨ob, eob⟩ : ∃ b, u18.heap.size = b := ⟨_, rfl⟩
  generalize (u18.alloc (.cells #[.int .i64 cp, .slice a1 bl.length k1, .slice a2 hs.length k2] 25)) = u19 at Hc' Hr' Rbl' Rhs' HB' Ho' ⊢
  rw [eob] at Ho' oob ⊢
  have Hc := Hc'
  clear Hc'
  have Hr := Hr'
  clear Hr'
  have Ho := Ho'
  clear Ho'
  have Rbl := Rbl'
  clear Rbl'
  have Rhs := Rhs'
  clear Rhs'
  have HB := HB'
  clear HB'
  clear bc0 bc1 bc2 ltc
  refine (ch _ HB.out).mono ?_
  rintro e u20 ⟨rfl, hb⟩
  have Hc' : Aside (u20.heap[w.heap.size]? = some (.cells #[.int .i64 cp, .slice ao bl.length c1, .slice (some ⟨b, off, none⟩) hs.length c2] 25 (0, 0))) := heap_later (by repeat (first | exact Hc.out | exact Hr.out | exact Ho.out | exact hp_new (by first | rfl | (simp [size_plus, size_holds]; done) | (simp [size_plus, size_holds]; omega)) | (with_reducible refine hp_old ?_) | (with_reducible refine hp_plus ?_) | (with_reducible refine hh_eq (by first | assumption | (simp only [size_holds]; assumption))) | (with_reducible refine hh_ne (by omega) ?_))) hb
  have Hr' : Aside (u20.heap[w.heap.size + 1]? = some (.cells #[.int .i64 0, .slice none 0 0, .slice none 0 0] 25 (0, 0))) := heap_later (by repeat (first | exact Hc.out | exact Hr.out | exact Ho.out | exact hp_new (by first | rfl | (simp [size_plus, size_holds]; done) | (simp [size_plus, size_holds]; omega)) | (with_reducible refine hp_old ?_) | (with_reducible refine hp_plus ?_) | (with_reducible refine hh_eq (by first | assumption | (simp only [size_holds]; assumption))) | (with_reducible refine hh_ne (by omega) ?_))) hb
  have Ho' : Aside (u20.heap[ob]? = some (.cells #[.int .i64 cp, .slice a1 bl.length k1, .slice a2 hs.length k2] 25 (0, 0))) := heap_later (by repeat (first | exact Hc.out | exact Hr.out | exact Ho.out | exact hp_new (by first | rfl | (simp [size_plus, size_holds]; done) | (simp [size_plus, size_holds]; omega)) | (with_reducible refine hp_old ?_) | (with_reducible refine hp_plus ?_) | (with_reducible refine hh_eq (by first | assumption | (simp only [size_holds]; assumption))) | (with_reducible refine hh_ne (by omega) ?_))) hb
  have Rbl' : Aside (u20.ownsRow w.heap.size 47 4 (.slice a1 bl.length k1) bl.length (flatE Pc.enc bl)) := own_from (by repeat (first | exact Rbl.out | (with_reducible refine own_alloc ?_) | (with_reducible refine own_plus ?_) | (with_reducible refine own_holds ?_ ?_) | assumption)) hb
  have Rhs' : Aside (u20.ownsRow w.heap.size 36 3 (.slice a2 hs.length k2) hs.length (flatE Hd.enc hs)) := own_from (by repeat (first | exact Rhs.out | (with_reducible refine own_alloc ?_) | (with_reducible refine own_plus ?_) | (with_reducible refine own_holds ?_ ?_) | assumption)) hb
  have HB' : Aside (Below w.heap.size w u20) := below_step (by
    have hHB := HB.out
    repeat (first | (with_reducible exact Below.refl _ _) | (with_reducible assumption) | (with_reducible refine below_to_plus ?_ ?_ _) | (with_reducible refine below_holds ?_ ?_ _ _) | (with_reducible refine Below.alloc ?_ ?_ _) | (with_reducible refine Below.drew ?_) | (with_reducible refine below_drewN ?_ _) | (with_reducible refine Below.setCell ?_ ?_ _))
    all_goals first | omega | (simp; done) | (simp [go_sem]; done) | (simp [go_sem]; omega)) hb
  clear Hc Hr Ho Rbl Rhs HB hb ch
  have Hc := Hc'
  clear Hc'
  have Hr := Hr'
  clear Hr'
  have Ho := Ho'
  clear Ho'
  have Rbl := Rbl'
  clear Rbl'
  have Rhs := Rhs'
  clear Rhs'
  have HB := HB'
  clear HB'
  have m0 := (HB.out.cell (p := ⟨b, off + k * 3, none⟩) hbw).trans q0
  have m1 := (HB.out.cell (p := ⟨b, off + k * 3 + 1, none⟩) hbw).trans q1
  have m2 := (HB.out.cell (p := ⟨b, off + k * 3 + 2, none⟩) hbw).trans q2
  have hbr : b < u20.heap.size := Nat.lt_of_lt_of_le hbw HB.out.size
  have ltc : w.heap.size < u20.heap.size := (Array.getElem?_eq_some_iff.1 Hc.out).1
  have ltr : w.heap.size + 1 < u20.heap.size := (Array.getElem?_eq_some_iff.1 Hr.out).1
  have lto : ob < u20.heap.size := (Array.getElem?_eq_some_iff.1 Ho.out).1
  have necr : ¬ w.heap.size = w.heap.size + 1 := by omega
  have nerc : ¬ w.heap.size + 1 = w.heap.size := by omega
  have neco : ¬ w.heap.size = ob := by omega
  have neoc : ¬ ob = w.heap.size := by omega
  have nero : ¬ w.heap.size + 1 = ob := by omega
  have neor : ¬ ob = w.heap.size + 1 := by omega
  have nblc : (.slice a1 bl.length k1 : Value).ownBlock ≠ some w.heap.size := own_ne Rbl.out Hc.out (by decide)
  have nblr : (.slice a1 bl.length k1 : Value).ownBlock ≠ some (w.heap.size + 1) := own_ne Rbl.out Hr.out (by decide)
  have nblo : (.slice a1 bl.length k1 : Value).ownBlock ≠ some ob := own_ne Rbl.out Ho.out (by decide)
  have nhsc : (.slice a2 hs.length k2 : Value).ownBlock ≠ some w.heap.size := own_ne Rhs.out Hc.out (by decide)
  have nhsr : (.slice a2 hs.length k2 : Value).ownBlock ≠ some (w.heap.size + 1) := own_ne Rhs.out Hr.out (by decide)
  have nhso : (.slice a2 hs.length k2 : Value).ownBlock ≠ some ob := own_ne Rhs.out Ho.out (by decide)
  rw [holds_add (holds_add (holds_self Hc.out) Hr.out) Ho.out]
  have nbc : ¬ b = w.heap.size := by omega
  have nbr : ¬ b = w.heap.size + 1 := by omega
  have nbo : ¬ b = ob := by omega
  by_cases d1 : y2 = vers
  · have d1' : (y2 != vers) = false := by simp [d1]
    have hd1 : at' < 0 ∨ 9007199254740991 < at' ∨ 65536 < data.size ∨ cp = 0 := hd.resolve_left (fun h => h d1)
    clear hd d1
    by_cases d2 : at' < 0
    · clear hd1
      go_wp2
      refine bodyPost_ret (v := .agg #[.int .i64 cp, .slice a1 bl.length k1, .slice a2 hs.length k2]) (by simp [results, Try.results18, go_sem, ↓IntWalk.iteOmega, *]) rfl ⟨_, _, _, _, rfl, (by repeat (first | exact Rbl.out | (with_reducible refine own_alloc ?_) | (with_reducible refine own_plus ?_) | (with_reducible refine own_holds ?_ ?_) | assumption)), (by repeat (first | exact Rhs.out | (with_reducible refine own_alloc ?_) | (with_reducible refine own_plus ?_) | (with_reducible refine own_holds ?_ ?_) | assumption)), (by
        have hHB := HB.out
        repeat (first | (with_reducible exact Below.refl _ _) | (with_reducible assumption) | (with_reducible refine below_to_plus ?_ ?_ _) | (with_reducible refine below_holds ?_ ?_ _ _) | (with_reducible refine Below.alloc ?_ ?_ _) | (with_reducible refine Below.drew ?_) | (with_reducible refine below_drewN ?_ _) | (with_reducible refine Below.setCell ?_ ?_ _))
        all_goals first | omega | (simp; done) | (simp [go_sem]; done) | (simp [go_sem]; omega))⟩
    · have hd2 : 9007199254740991 < at' ∨ 65536 < data.size ∨ cp = 0 := hd1.resolve_left d2
      clear hd1
      by_cases d3 : 9007199254740991 < at'
      · clear hd2
        go_wp2
        refine bodyPost_ret (v := .agg #[.int .i64 cp, .slice a1 bl.length k1, .slice a2 hs.length k2]) (by simp [results, Try.results18, go_sem, ↓IntWalk.iteOmega, *]) rfl ⟨_, _, _, _, rfl, (by repeat (first | exact Rbl.out | (with_reducible refine own_alloc ?_) | (with_reducible refine own_plus ?_) | (with_reducible refine own_holds ?_ ?_) | assumption)), (by repeat (first | exact Rhs.out | (with_reducible refine own_alloc ?_) | (with_reducible refine own_plus ?_) | (with_reducible refine own_holds ?_ ?_) | assumption)), (by
          have hHB := HB.out
          repeat (first | (with_reducible exact Below.refl _ _) | (with_reducible assumption) | (with_reducible refine below_to_plus ?_ ?_ _) | (with_reducible refine below_holds ?_ ?_ _ _) | (with_reducible refine Below.alloc ?_ ?_ _) | (with_reducible refine Below.drew ?_) | (with_reducible refine below_drewN ?_ _) | (with_reducible refine Below.setCell ?_ ?_ _))
          all_goals first | omega | (simp; done) | (simp [go_sem]; done) | (simp [go_sem]; omega))⟩
      · have hd3 : 65536 < data.size ∨ cp = 0 := hd2.resolve_left d3
        clear hd2
        by_cases d4 : 65536 < data.size
        · have d4z : (65536 : Int) < (data.size : Int) := by omega
          clear hd3
          go_wp2
          refine bodyPost_ret (v := .agg #[.int .i64 cp, .slice a1 bl.length k1, .slice a2 hs.length k2]) (by simp [results, Try.results18, go_sem, ↓IntWalk.iteOmega, *]) rfl ⟨_, _, _, _, rfl, (by repeat (first | exact Rbl.out | (with_reducible refine own_alloc ?_) | (with_reducible refine own_plus ?_) | (with_reducible refine own_holds ?_ ?_) | assumption)), (by repeat (first | exact Rhs.out | (with_reducible refine own_alloc ?_) | (with_reducible refine own_plus ?_) | (with_reducible refine own_holds ?_ ?_) | assumption)), (by
            have hHB := HB.out
            repeat (first | (with_reducible exact Below.refl _ _) | (with_reducible assumption) | (with_reducible refine below_to_plus ?_ ?_ _) | (with_reducible refine below_holds ?_ ?_ _ _) | (with_reducible refine Below.alloc ?_ ?_ _) | (with_reducible refine Below.drew ?_) | (with_reducible refine below_drewN ?_ _) | (with_reducible refine Below.setCell ?_ ?_ _))
            all_goals first | omega | (simp; done) | (simp [go_sem]; done) | (simp [go_sem]; omega))⟩
        · have d4z : ¬ (65536 : Int) < (data.size : Int) := by omega
          have d5 : cp = 0 := hd3.resolve_left d4
          have d5' : (cp == 0) = true := by simp [d5]
          clear hd3 d5
          go_wp2
          refine bodyPost_ret (v := .agg #[.int .i64 cp, .slice a1 bl.length k1, .slice a2 hs.length k2]) (by simp [results, Try.results18, go_sem, ↓IntWalk.iteOmega, *]) rfl ⟨_, _, _, _, rfl, (by repeat (first | exact Rbl.out | (with_reducible refine own_alloc ?_) | (with_reducible refine own_plus ?_) | (with_reducible refine own_holds ?_ ?_) | assumption)), (by repeat (first | exact Rhs.out | (with_reducible refine own_alloc ?_) | (with_reducible refine own_plus ?_) | (with_reducible refine own_holds ?_ ?_) | assumption)), (by
            have hHB := HB.out
            repeat (first | (with_reducible exact Below.refl _ _) | (with_reducible assumption) | (with_reducible refine below_to_plus ?_ ?_ _) | (with_reducible refine below_holds ?_ ?_ _ _) | (with_reducible refine Below.alloc ?_ ?_ _) | (with_reducible refine Below.drew ?_) | (with_reducible refine below_drewN ?_ _) | (with_reducible refine Below.setCell ?_ ?_ _))
            all_goals first | omega | (simp; done) | (simp [go_sem]; done) | (simp [go_sem]; omega))⟩
  · have d1' : (y2 != vers) = true := by simp [d1]
    clear hd d1
    go_wp2
    refine bodyPost_ret (v := .agg #[.int .i64 cp, .slice a1 bl.length k1, .slice a2 hs.length k2]) (by simp [results, Try.results18, go_sem, ↓IntWalk.iteOmega, *]) rfl ⟨_, _, _, _, rfl, (by repeat (first | exact Rbl.out | (with_reducible refine own_alloc ?_) | (with_reducible refine own_plus ?_) | (with_reducible refine own_holds ?_ ?_) | assumption)), (by repeat (first | exact Rhs.out | (with_reducible refine own_alloc ?_) | (with_reducible refine own_plus ?_) | (with_reducible refine own_holds ?_ ?_) | assumption)), (by
      have hHB := HB.out
      repeat (first | (with_reducible exact Below.refl _ _) | (with_reducible assumption) | (with_reducible refine below_to_plus ?_ ?_ _) | (with_reducible refine below_holds ?_ ?_ _ _) | (with_reducible refine Below.alloc ?_ ?_ _) | (with_reducible refine Below.drew ?_) | (with_reducible refine below_drewN ?_ _) | (with_reducible refine Below.setCell ?_ ?_ _))
      all_goals first | omega | (simp; done) | (simp [go_sem]; done) | (simp [go_sem]; omega))⟩

set_option maxHeartbeats 16000000 in
theorem put_ok (cp : Int) (ao : Option Addr) (n c1 : Nat) (ao2 : Option Addr) (n2 c2 : Nat) (bl : List Pc) (hs : List Hd) (id vers at' : Int) (data : ByteArray) (w : World) (h1 : Sl w 4 ao n c1 (bl.map Pc.enc)) (h2 : Sl w 3 ao2 n2 c2 (hs.map Hd.enc)) (hn : n ≤ 100000) (hn2 : n2 ≤ 1000000) (ha : AscH hs) {k : Nat} (hk : k < hs.length) (he : hs[k]!.hid = id) (hv : hs[k]!.vers = vers) (ha1 : 0 ≤ at') (ha2 : at' ≤ 9007199254740991) (hsz : data.size ≤ 65536) (hc0 : cp ≠ 0) (ok : ∀ y ∈ bl, OkP y) (hc9 : 0 ≤ cp) :
    Calls Try.prog 18 #[.agg #[.int .i64 cp, .slice ao n c1, .slice ao2 n2 c2], .int .i64 id, .int .i64 vers, .int .i64 at', .string data] w fun e w' => CopPost w cp (putL cp (⟨id, vers, at', data⟩ : Pc) bl) hs e w' := by
  obtain ⟨i0, hi0, hz0, hs0, hbyte⟩ := pcInfo
  have eg : ∀ args w, (callFunc 38 args).run Try.prog w = .ok (.enter 38 args) w := enters_of Try.func38 (by kernel_rfl) rfl
  have oa : OkP (⟨id, vers, at', data⟩ : Pc) := ⟨⟨ha1, ha2⟩, by show data.size ≤ _; omega⟩
  have OK : Aside (∀ y ∈ bl, OkP y) := ok
  have OA : Aside (OkP (⟨id, vers, at', data⟩ : Pc)) := oa
  have FN : Aside ((bl.filter fun y => !clashB (⟨id, vers, at', data⟩ : Pc) y).length ≤ bl.length) := List.length_filter_le _ _
  have PD : Aside (putL cp (⟨id, vers, at', data⟩ : Pc) bl = if cp < (((bl.filter fun y => !clashB (⟨id, vers, at', data⟩ : Pc) y).length : Int) + 1) then ((bl.filter fun y => !clashB (⟨id, vers, at', data⟩ : Pc) y) ++ [(⟨id, vers, at', data⟩ : Pc)]).drop 1 else (bl.filter fun y => !clashB (⟨id, vers, at', data⟩ : Pc) y) ++ [(⟨id, vers, at', data⟩ : Pc)]) := rfl
  obtain ⟨rl, hrl⟩ : ∃ rl, putL cp (⟨id, vers, at', data⟩ : Pc) bl = rl := ⟨_, rfl⟩
  rw [hrl] at PD ⊢
  clear hrl ok oa
  have hln : bl.length = n := Sl.lenE h1
  have hln2 : hs.length = n2 := Sl.lenE h2
  subst hln
  subst hln2
  have S1 : Aside (Sl w 4 ao bl.length c1 (bl.map Pc.enc)) := h1
  have S2 : Aside (Sl w 3 ao2 hs.length c2 (hs.map Hd.enc)) := h2
  have hb0 : Below w.heap.size w ((w.alloc (.cells #[.int .i64 cp, .slice ao bl.length c1, .slice ao2 hs.length c2] 25)).alloc (.cells #[.int .i64 0, .slice none 0 0, .slice none 0 0] 25)) := by
    repeat (first | (with_reducible exact Below.refl _ _) | (with_reducible assumption) | (with_reducible refine below_to_plus ?_ ?_ _) | (with_reducible refine below_holds ?_ ?_ _ _) | (with_reducible refine Below.alloc ?_ ?_ _) | (with_reducible refine Below.drew ?_) | (with_reducible refine below_drewN ?_ _) | (with_reducible refine Below.setCell ?_ ?_ _))
    all_goals first | omega | (simp; done) | (simp [go_sem]; done) | (simp [go_sem]; omega)
  have HB : Aside (Below w.heap.size w ((w.alloc (.cells #[.int .i64 cp, .slice ao bl.length c1, .slice ao2 hs.length c2] 25)).alloc (.cells #[.int .i64 0, .slice none 0 0, .slice none 0 0] 25))) := hb0
  have Hc : Aside (((w.alloc (.cells #[.int .i64 cp, .slice ao bl.length c1, .slice ao2 hs.length c2] 25)).alloc (.cells #[.int .i64 0, .slice none 0 0, .slice none 0 0] 25)).heap[w.heap.size]? = some (.cells #[.int .i64 cp, .slice ao bl.length c1, .slice ao2 hs.length c2] 25 (0, 0))) := by repeat (first | exact hp_new (by first | rfl | (simp; done) | (simp; omega)) | refine hp_old ?_)
  have Hr : Aside (((w.alloc (.cells #[.int .i64 cp, .slice ao bl.length c1, .slice ao2 hs.length c2] 25)).alloc (.cells #[.int .i64 0, .slice none 0 0, .slice none 0 0] 25)).heap[w.heap.size + 1]? = some (.cells #[.int .i64 0, .slice none 0 0, .slice none 0 0] 25 (0, 0))) := by repeat (first | exact hp_new (by first | rfl | (simp; done) | (simp; omega)) | refine hp_old ?_)
  have ck := copied_calls cp ao bl.length c1 ao2 hs.length c2 bl hs ((w.alloc (.cells #[.int .i64 cp, .slice ao bl.length c1, .slice ao2 hs.length c2] 25)).alloc (.cells #[.int .i64 0, .slice none 0 0, .slice none 0 0] 25)) (h1.stays hb0) (h2.stays hb0) (by omega) hn2
  have ch := fun U hU => hold_hit cp ao bl.length c1 ao2 hs.length c2 hs id U (S2.out.stays hU) hn2 ha hk he
  obtain ⟨b, off, eao, hbw, q0, q1, q2⟩ := (cellsHd h2) k hk
  subst eao
  have hkz : (k : Int) < (hs.length : Int) := by omega
  have hbig2 : hs.length ≤ 9223372036854775807 := by omega
  clear h1 h2 ha he
  generalize hs[k]! = y at q0 q1 q2 hv
  obtain ⟨y1, y2, y3⟩ := y
  simp only [] at q0 q1 q2 hv
  go_enter Try.func18, Try.ntmps18
  go_wp2_with fail
  refine (ck).mono ?_
  rintro e u21 ⟨a1, k1, a2, k2, rfl, o1, o2, hb⟩
  have Hc' : Aside (u21.heap[w.heap.size]? = some (.cells #[.int .i64 cp, .slice ao bl.length c1, .slice (some ⟨b, off, none⟩) hs.length c2] 25 (0, 0))) := heap_later (by repeat (first | exact Hc.out | exact Hr.out | exact hp_new (by first | rfl | (simp [size_plus, size_holds]; done) | (simp [size_plus, size_holds]; omega)) | (with_reducible refine hp_old ?_) | (with_reducible refine hp_plus ?_) | (with_reducible refine hh_eq (by first | assumption | (simp only [size_holds]; assumption))) | (with_reducible refine hh_ne (by omega) ?_))) hb
  have Hr' : Aside (u21.heap[w.heap.size + 1]? = some (.cells #[.int .i64 0, .slice none 0 0, .slice none 0 0] 25 (0, 0))) := heap_later (by repeat (first | exact Hc.out | exact Hr.out | exact hp_new (by first | rfl | (simp [size_plus, size_holds]; done) | (simp [size_plus, size_holds]; omega)) | (with_reducible refine hp_old ?_) | (with_reducible refine hp_plus ?_) | (with_reducible refine hh_eq (by first | assumption | (simp only [size_holds]; assumption))) | (with_reducible refine hh_ne (by omega) ?_))) hb
  have Rbl' : Aside (u21.ownsRow w.heap.size 47 4 (.slice a1 bl.length k1) bl.length (flatE Pc.enc bl)) := own_lower o1 (by simp; omega)
  have Rhs' : Aside (u21.ownsRow w.heap.size 36 3 (.slice a2 hs.length k2) hs.length (flatE Hd.enc hs)) := own_lower o2 (by simp; omega)
  have HB' : Aside (Below w.heap.size w u21) := below_step (by
    have hHB := HB.out
    repeat (first | (with_reducible exact Below.refl _ _) | (with_reducible assumption) | (with_reducible refine below_to_plus ?_ ?_ _) | (with_reducible refine below_holds ?_ ?_ _ _) | (with_reducible refine Below.alloc ?_ ?_ _) | (with_reducible refine Below.drew ?_) | (with_reducible refine below_drewN ?_ _) | (with_reducible refine Below.setCell ?_ ?_ _))
    all_goals first | omega | (simp; done) | (simp [go_sem]; done) | (simp [go_sem]; omega)) hb
  clear Hc Hr HB hb ck o1 o2 hb0
  have Hc := Hc'
  clear Hc'
  have Hr := Hr'
  clear Hr'
  have Rbl := Rbl'
  clear Rbl'
  have Rhs := Rhs'
  clear Rhs'
  have HB := HB'
  clear HB'
  have hltb : ∀ j, (Value.slice a1 bl.length k1).ownBlock = some j → j < u21.heap.size := fun j hj => (Rbl.out.lt j hj).2
  have bc0 := cell_heap Hc.out 0 _ rfl
  have bc1 := cell_heap Hc.out 1 _ rfl
  have bc2 := cell_heap Hc.out 2 _ rfl
  have ltc : w.heap.size < u21.heap.size := (Array.getElem?_eq_some_iff.1 Hc.out).1
  have oob : w.heap.size + 1 < u21.heap.size := by
    first | exact (Array.getElem?_eq_some_iff.1 Hr.out).1 | omega
  have Ho' : Aside ((u21.alloc (.cells #[.int .i64 cp, .slice a1 bl.length k1, .slice a2 hs.length k2] 25)).heap[u21.heap.size]? = some (.cells #[.int .i64 cp, .slice a1 bl.length k1, .slice a2 hs.length k2] 25 (0, 0))) := hp_new rfl
  have Hc' : Aside ((u21.alloc (.cells #[.int .i64 cp, .slice a1 bl.length k1, .slice a2 hs.length k2] 25)).heap[w.heap.size]? = some (.cells #[.int .i64 cp, .slice ao bl.length c1, .slice (some ⟨b, off, none⟩) hs.length c2] 25 (0, 0))) := hp_old Hc.out
  have Hr' : Aside ((u21.alloc (.cells #[.int .i64 cp, .slice a1 bl.length k1, .slice a2 hs.length k2] 25)).heap[w.heap.size + 1]? = some (.cells #[.int .i64 0, .slice none 0 0, .slice none 0 0] 25 (0, 0))) := hp_old Hr.out
  have Rbl' : Aside ((u21.alloc (.cells #[.int .i64 cp, .slice a1 bl.length k1, .slice a2 hs.length k2] 25)).ownsRow w.heap.size 47 4 (.slice a1 bl.length k1) bl.length (flatE Pc.enc bl)) := own_alloc Rbl.out
  have Rhs' : Aside ((u21.alloc (.cells #[.int .i64 cp, .slice a1 bl.length k1, .slice a2 hs.length k2] 25)).ownsRow w.heap.size 36 3 (.slice a2 hs.length k2) hs.length (flatE Hd.enc hs)) := own_alloc Rhs.out
  have HB' : Aside (Below w.heap.size w (u21.alloc (.cells #[.int .i64 cp, .slice a1 bl.length k1, .slice a2 hs.length k2] 25))) := HB.out.alloc HB.out.size _
  clear Hc Hr Rbl Rhs HB
  go_wp2_with fail
  obtain ⟨ob, eob⟩ : ∃ b, u21.heap.size = b := ⟨_, rfl⟩
  generalize (u21.alloc (.cells #[.int .i64 cp, .slice a1 bl.length k1, .slice a2 hs.length k2] 25)) = u22 at Hc' Hr' Rbl' Rhs' HB' Ho' ⊢
  rw [eob] at Ho' oob ⊢
  have Hc := Hc'
  clear Hc'
  have Hr := Hr'
  clear Hr'
  have Ho := Ho'
  clear Ho'
  have Rbl := Rbl'
  clear Rbl'
  have Rhs := Rhs'
  clear Rhs'
  have HB := HB'
  clear HB'
  clear bc0 bc1 bc2 ltc
  refine (ch _ HB.out).mono ?_
  rintro e u23 ⟨rfl, hb⟩
  have Hc' : Aside (u23.heap[w.heap.size]? = some (.cells #[.int .i64 cp, .slice ao bl.length c1, .slice (some ⟨b, off, none⟩) hs.length c2] 25 (0, 0))) := heap_later (by repeat (first | exact Hc.out | exact Hr.out | exact Ho.out | exact hp_new (by first | rfl | (simp [size_plus, size_holds]; done) | (simp [size_plus, size_holds]; omega)) | (with_reducible refine hp_old ?_) | (with_reducible refine hp_plus ?_) | (with_reducible refine hh_eq (by first | assumption | (simp only [size_holds]; assumption))) | (with_reducible refine hh_ne (by omega) ?_))) hb
  have Hr' : Aside (u23.heap[w.heap.size + 1]? = some (.cells #[.int .i64 0, .slice none 0 0, .slice none 0 0] 25 (0, 0))) := heap_later (by repeat (first | exact Hc.out | exact Hr.out | exact Ho.out | exact hp_new (by first | rfl | (simp [size_plus, size_holds]; done) | (simp [size_plus, size_holds]; omega)) | (with_reducible refine hp_old ?_) | (with_reducible refine hp_plus ?_) | (with_reducible refine hh_eq (by first | assumption | (simp only [size_holds]; assumption))) | (with_reducible refine hh_ne (by omega) ?_))) hb
  have Ho' : Aside (u23.heap[ob]? = some (.cells #[.int .i64 cp, .slice a1 bl.length k1, .slice a2 hs.length k2] 25 (0, 0))) := heap_later (by repeat (first | exact Hc.out | exact Hr.out | exact Ho.out | exact hp_new (by first | rfl | (simp [size_plus, size_holds]; done) | (simp [size_plus, size_holds]; omega)) | (with_reducible refine hp_old ?_) | (with_reducible refine hp_plus ?_) | (with_reducible refine hh_eq (by first | assumption | (simp only [size_holds]; assumption))) | (with_reducible refine hh_ne (by omega) ?_))) hb
  have Rbl' : Aside (u23.ownsRow w.heap.size 47 4 (.slice a1 bl.length k1) bl.length (flatE Pc.enc bl)) := own_from (by repeat (first | exact Rbl.out | (with_reducible refine own_alloc ?_) | (with_reducible refine own_plus ?_) | (with_reducible refine own_holds ?_ ?_) | assumption)) hb
  have Rhs' : Aside (u23.ownsRow w.heap.size 36 3 (.slice a2 hs.length k2) hs.length (flatE Hd.enc hs)) := own_from (by repeat (first | exact Rhs.out | (with_reducible refine own_alloc ?_) | (with_reducible refine own_plus ?_) | (with_reducible refine own_holds ?_ ?_) | assumption)) hb
  have HB' : Aside (Below w.heap.size w u23) := below_step (by
    have hHB := HB.out
    repeat (first | (with_reducible exact Below.refl _ _) | (with_reducible assumption) | (with_reducible refine below_to_plus ?_ ?_ _) | (with_reducible refine below_holds ?_ ?_ _ _) | (with_reducible refine Below.alloc ?_ ?_ _) | (with_reducible refine Below.drew ?_) | (with_reducible refine below_drewN ?_ _) | (with_reducible refine Below.setCell ?_ ?_ _))
    all_goals first | omega | (simp; done) | (simp [go_sem]; done) | (simp [go_sem]; omega)) hb
  clear Hc Hr Ho Rbl Rhs HB hb ch
  have Hc := Hc'
  clear Hc'
  have Hr := Hr'
  clear Hr'
  have Ho := Ho'
  clear Ho'
  have Rbl := Rbl'
  clear Rbl'
  have Rhs := Rhs'
  clear Rhs'
  have HB := HB'
  clear HB'
  have m0 := (HB.out.cell (p := ⟨b, off + k * 3, none⟩) hbw).trans q0
  have m1 := (HB.out.cell (p := ⟨b, off + k * 3 + 1, none⟩) hbw).trans q1
  have m2 := (HB.out.cell (p := ⟨b, off + k * 3 + 2, none⟩) hbw).trans q2
  have hbr : b < u23.heap.size := Nat.lt_of_lt_of_le hbw HB.out.size
  have bc0 := cell_heap Hc.out 0 _ rfl
  have bc1 := cell_heap Hc.out 1 _ rfl
  have bc2 := cell_heap Hc.out 2 _ rfl
  have ltc : w.heap.size < u23.heap.size := (Array.getElem?_eq_some_iff.1 Hc.out).1
  have bo0 := cell_heap Ho.out 0 _ rfl
  have bo1 := cell_heap Ho.out 1 _ rfl
  have bo2 := cell_heap Ho.out 2 _ rfl
  have lto : ob < u23.heap.size := (Array.getElem?_eq_some_iff.1 Ho.out).1
  have d1' : (y2 != vers) = false := by simp [hv]
  have d2 : ¬ at' < 0 := by omega
  have d3 : ¬ 9007199254740991 < at' := by omega
  have d4 : ¬ (65536 : Int) < (data.size : Int) := by omega
  have d5 : (cp == 0) = false := by simp [hc0]
  clear hv hc0
  have opb : ob < u23.heap.size := by
    first | exact (Array.getElem?_eq_some_iff.1 Ho.out).1 | omega
  have Hp' : Aside ((u23.alloc (.cells #[.int .i64 id, .int .i64 vers, .int .i64 at', .string data] 47)).heap[u23.heap.size]? = some (.cells #[.int .i64 id, .int .i64 vers, .int .i64 at', .string data] 47 (0, 0))) := hp_new rfl
  have Hc' : Aside ((u23.alloc (.cells #[.int .i64 id, .int .i64 vers, .int .i64 at', .string data] 47)).heap[w.heap.size]? = some (.cells #[.int .i64 cp, .slice ao bl.length c1, .slice (some ⟨b, off, none⟩) hs.length c2] 25 (0, 0))) := hp_old Hc.out
  have Hr' : Aside ((u23.alloc (.cells #[.int .i64 id, .int .i64 vers, .int .i64 at', .string data] 47)).heap[w.heap.size + 1]? = some (.cells #[.int .i64 0, .slice none 0 0, .slice none 0 0] 25 (0, 0))) := hp_old Hr.out
  have Ho' : Aside ((u23.alloc (.cells #[.int .i64 id, .int .i64 vers, .int .i64 at', .string data] 47)).heap[ob]? = some (.cells #[.int .i64 cp, .slice a1 bl.length k1, .slice a2 hs.length k2] 25 (0, 0))) := hp_old Ho.out
  have Rbl' : Aside ((u23.alloc (.cells #[.int .i64 id, .int .i64 vers, .int .i64 at', .string data] 47)).ownsRow w.heap.size 47 4 (.slice a1 bl.length k1) bl.length (flatE Pc.enc bl)) := own_alloc Rbl.out
  have Rhs' : Aside ((u23.alloc (.cells #[.int .i64 id, .int .i64 vers, .int .i64 at', .string data] 47)).ownsRow w.heap.size 36 3 (.slice a2 hs.length k2) hs.length (flatE Hd.enc hs)) := own_alloc Rhs.out
  have HB' : Aside (Below w.heap.size w (u23.alloc (.cells #[.int .i64 id, .int .i64 vers, .int .i64 at', .string data] 47))) := HB.out.alloc HB.out.size _
  clear Hc Hr Ho Rbl Rhs HB
  go_wp2_with fail
  obtain ⟨pb, epb⟩ : ∃ b, u23.heap.size = b := ⟨_, rfl⟩
  generalize (u23.alloc (.cells #[.int .i64 id, .int .i64 vers, .int .i64 at', .string data] 47)) = u24 at Hc' Hr' Ho' Rbl' Rhs' HB' Hp' ⊢
  rw [epb] at Hp' opb ⊢
  have Hc := Hc'
  clear Hc'
  have Hr := Hr'
  clear Hr'
  have Ho := Ho'
  clear Ho'
  have Hp := Hp'
  clear Hp'
  have Rbl := Rbl'
  clear Rbl'
  have Rhs := Rhs'
  clear Rhs'
  have HB := HB'
  clear HB'
  clear bc0 bc1 bc2 bo0 bo1 bo2 ltc lto m0 m1 m2 d1' d2 d3 d4 d5 hbr
  have nblp : (Value.slice a1 bl.length k1).ownBlock ≠ some pb := fun e => by
    have := hltb _ e
    omega
  have hg0 : ∀ j, (Value.slice a1 bl.length k1).ownBlock = some j → w.heap.size ≤ j := fun j hj => (Rbl.out.lt j hj).1
  have nh := own_ne_own Rhs.out Rbl.out (by decide)
  have nblc : (.slice a1 bl.length k1 : Value).ownBlock ≠ some w.heap.size := own_ne Rbl.out Hc.out (by decide)
  have nblr : (.slice a1 bl.length k1 : Value).ownBlock ≠ some (w.heap.size + 1) := own_ne Rbl.out Hr.out (by decide)
  have nblo : (.slice a1 bl.length k1 : Value).ownBlock ≠ some ob := own_ne Rbl.out Ho.out (by decide)
  refine (pcDeleteFunc_calls (fun y => clashB (⟨id, vers, at', data⟩ : Pc) y) 38 #[.pointer (some ⟨pb, 0, none⟩)] eg (.slice a1 bl.length k1) bl.length w.heap.size bl _ Rbl.out (pred_put id vers at' data bl OA.out OK.out pb _ _ (Array.getElem?_eq_some_iff.1 Hp.out).1 nblp Hp.out) (by omega)).mono ?_
  rintro e u25 ⟨v', rfl, o1, hg, hv'⟩
  have Hc' : Aside (u25.heap[w.heap.size]? = some (.cells #[.int .i64 cp, .slice ao bl.length c1, .slice (some ⟨b, off, none⟩) hs.length c2] 25 (0, 0))) := heap_grown hg (by repeat (first | exact Hc.out | exact Hr.out | exact Ho.out | exact Hp.out | exact hp_new (by first | rfl | (simp [size_plus, size_holds]; done) | (simp [size_plus, size_holds]; omega)) | (with_reducible refine hp_old ?_) | (with_reducible refine hp_plus ?_) | (with_reducible refine hh_eq (by first | assumption | (simp only [size_holds]; assumption))) | (with_reducible refine hh_ne (by omega) ?_))) (by assumption)
  have Hr' : Aside (u25.heap[w.heap.size + 1]? = some (.cells #[.int .i64 0, .slice none 0 0, .slice none 0 0] 25 (0, 0))) := heap_grown hg (by repeat (first | exact Hc.out | exact Hr.out | exact Ho.out | exact Hp.out | exact hp_new (by first | rfl | (simp [size_plus, size_holds]; done) | (simp [size_plus, size_holds]; omega)) | (with_reducible refine hp_old ?_) | (with_reducible refine hp_plus ?_) | (with_reducible refine hh_eq (by first | assumption | (simp only [size_holds]; assumption))) | (with_reducible refine hh_ne (by omega) ?_))) (by assumption)
  have Ho' : Aside (u25.heap[ob]? = some (.cells #[.int .i64 cp, .slice a1 bl.length k1, .slice a2 hs.length k2] 25 (0, 0))) := heap_grown hg (by repeat (first | exact Hc.out | exact Hr.out | exact Ho.out | exact Hp.out | exact hp_new (by first | rfl | (simp [size_plus, size_holds]; done) | (simp [size_plus, size_holds]; omega)) | (with_reducible refine hp_old ?_) | (with_reducible refine hp_plus ?_) | (with_reducible refine hh_eq (by first | assumption | (simp only [size_holds]; assumption))) | (with_reducible refine hh_ne (by omega) ?_))) (by assumption)
  have Hp' : Aside (u25.heap[pb]? = some (.cells #[.int .i64 id, .int .i64 vers, .int .i64 at', .string data] 47 (0, 0))) := heap_grown hg (by repeat (first | exact Hc.out | exact Hr.out | exact Ho.out | exact Hp.out | exact hp_new (by first | rfl | (simp [size_plus, size_holds]; done) | (simp [size_plus, size_holds]; omega)) | (with_reducible refine hp_old ?_) | (with_reducible refine hp_plus ?_) | (with_reducible refine hh_eq (by first | assumption | (simp only [size_holds]; assumption))) | (with_reducible refine hh_ne (by omega) ?_))) (by assumption)
  have Rhs' : Aside (u25.ownsRow w.heap.size 36 3 (.slice a2 hs.length k2) hs.length (flatE Hd.enc hs)) := World.ownsRow.kept (by repeat (first | exact Rhs.out | (with_reducible refine own_alloc ?_) | (with_reducible refine own_plus ?_) | (with_reducible refine own_holds ?_ ?_) | assumption)) hg (by assumption)
  have Rbl' : Aside (u25.ownsRow w.heap.size 47 4 (v') (bl.filter fun y => !clashB (⟨id, vers, at', data⟩ : Pc) y).length (flatE Pc.enc (bl.filter fun y => !clashB (⟨id, vers, at', data⟩ : Pc) y))) := o1
  have HB' : Aside (Below w.heap.size w u25) := below_grown (by
    have hHB := HB.out
    repeat (first | (with_reducible exact Below.refl _ _) | (with_reducible assumption) | (with_reducible refine below_to_plus ?_ ?_ _) | (with_reducible refine below_holds ?_ ?_ _ _) | (with_reducible refine Below.alloc ?_ ?_ _) | (with_reducible refine Below.drew ?_) | (with_reducible refine below_drewN ?_ _) | (with_reducible refine Below.setCell ?_ ?_ _))
    all_goals first | omega | (simp; done) | (simp [go_sem]; done) | (simp [go_sem]; omega)) hg (by assumption)
  clear Hc Hr Ho Hp Rbl Rhs HB hg nblc nblr nblo o1 nh hg0
  have Hc := Hc'
  clear Hc'
  have Hr := Hr'
  clear Hr'
  have Ho := Ho'
  clear Ho'
  have Hp := Hp'
  clear Hp'
  have Rbl := Rbl'
  clear Rbl'
  have Rhs := Rhs'
  clear Rhs'
  have HB := HB'
  clear HB'
  obtain ⟨a3, k3, ev, _⟩ := ownE_sl pc_len (by omega) Rbl.out
  subst ev
  have nblp2 : (Value.slice a3 (bl.filter fun y => !clashB (⟨id, vers, at', data⟩ : Pc) y).length k3).ownBlock ≠ some pb := by rw [hv']; exact nblp
  clear nblp hv' hltb
  generalize (bl.filter fun y => !clashB (⟨id, vers, at', data⟩ : Pc) y) = fl at Rbl nblp2 FN PD ⊢
  have hg0 : ∀ j, (Value.slice a3 fl.length k3).ownBlock = some j → w.heap.size ≤ j := fun j hj => (Rbl.out.lt j hj).1
  have hfn := FN.out
  have nh := own_ne_own Rhs.out Rbl.out (by decide)
  have ltc : w.heap.size < u25.heap.size := (Array.getElem?_eq_some_iff.1 Hc.out).1
  have bc0 := cell_heap Hc.out 0 _ rfl
  have bc1 := cell_heap Hc.out 1 _ rfl
  have bc2 := cell_heap Hc.out 2 _ rfl
  have ltr : w.heap.size + 1 < u25.heap.size := (Array.getElem?_eq_some_iff.1 Hr.out).1
  have br0 := cell_heap Hr.out 0 _ rfl
  have br1 := cell_heap Hr.out 1 _ rfl
  have br2 := cell_heap Hr.out 2 _ rfl
  have lto : ob < u25.heap.size := (Array.getElem?_eq_some_iff.1 Ho.out).1
  have ltp : pb < u25.heap.size := (Array.getElem?_eq_some_iff.1 Hp.out).1
  have bp0 := cell_heap Hp.out 0 _ rfl
  have bp1 := cell_heap Hp.out 1 _ rfl
  have bp2 := cell_heap Hp.out 2 _ rfl
  have bp3 := cell_heap Hp.out 3 _ rfl
  have necr : ¬ w.heap.size = w.heap.size + 1 := by omega
  have nerc : ¬ w.heap.size + 1 = w.heap.size := by omega
  have neco : ¬ w.heap.size = ob := by omega
  have neoc : ¬ ob = w.heap.size := by omega
  have necp : ¬ w.heap.size = pb := by omega
  have nepc : ¬ pb = w.heap.size := by omega
  have nero : ¬ w.heap.size + 1 = ob := by omega
  have neor : ¬ ob = w.heap.size + 1 := by omega
  have nerp : ¬ w.heap.size + 1 = pb := by omega
  have nepr : ¬ pb = w.heap.size + 1 := by omega
  have neop : ¬ ob = pb := by omega
  have nepo : ¬ pb = ob := by omega
  have nblc : (.slice a3 fl.length k3 : Value).ownBlock ≠ some w.heap.size := own_ne Rbl.out Hc.out (by decide)
  have nblr : (.slice a3 fl.length k3 : Value).ownBlock ≠ some (w.heap.size + 1) := own_ne Rbl.out Hr.out (by decide)
  have nblo : (.slice a3 fl.length k3 : Value).ownBlock ≠ some ob := own_ne Rbl.out Ho.out (by decide)
  have nhsc : (.slice a2 hs.length k2 : Value).ownBlock ≠ some w.heap.size := own_ne Rhs.out Hc.out (by decide)
  have nhsr : (.slice a2 hs.length k2 : Value).ownBlock ≠ some (w.heap.size + 1) := own_ne Rhs.out Hr.out (by decide)
  have nhso : (.slice a2 hs.length k2 : Value).ownBlock ≠ some ob := own_ne Rhs.out Ho.out (by decide)
  have nhsp : (.slice a2 hs.length k2 : Value).ownBlock ≠ some pb := own_ne Rhs.out Hp.out (by decide)
  rw [holds_self Ho.out]
  have hb0 := hbyte
  have hsz := HB.out.size
  go_wp2_with (at_builtin; refine wpList_append_own _ rfl _ _ 22 rfl w.heap.size 47 i0 _ 4 40 Try.underlying22 hi0 hz0 hs0 hb0 rfl (by omega) (.slice a3 fl.length k3) fl.length (flatE Pc.enc fl) rfl (own_alloc (by repeat (first | exact Rbl.out | (with_reducible refine own_alloc ?_) | (with_reducible refine own_plus ?_) | (with_reducible refine own_holds ?_ ?_) | assumption))) ⟨u25.heap.size, 0, none⟩ 1 1 [.int .i64 id, .int .i64 vers, .int .i64 at', .string data] rfl rfl (cells_new _ _ _ _ (by first | rfl | simp [size_holds])) (pc_one (⟨id, vers, at', data⟩ : Pc)) (by unfold maxLen; omega) (by omega) (by first | (simp [size_holds]; omega) | omega) ?_)
  intro v' u26 hown' hgrow _
  have Hc' : Aside (u26.heap[w.heap.size]? = some (.cells #[.int .i64 cp, .slice ao bl.length c1, .slice (some ⟨b, off, none⟩) hs.length c2] 25 (0, 0))) := heap_grown hgrow (hp_old (by repeat (first | exact Hc.out | exact Hr.out | exact Ho.out | exact Hp.out | exact hp_new (by first | rfl | (simp [size_plus, size_holds]; done) | (simp [size_plus, size_holds]; omega)) | (with_reducible refine hp_old ?_) | (with_reducible refine hp_plus ?_) | (with_reducible refine hh_eq (by first | assumption | (simp only [size_holds]; assumption))) | (with_reducible refine hh_ne (by omega) ?_)))) (by assumption)
  have Hr' : Aside (u26.heap[w.heap.size + 1]? = some (.cells #[.int .i64 0, .slice none 0 0, .slice none 0 0] 25 (0, 0))) := heap_grown hgrow (hp_old (by repeat (first | exact Hc.out | exact Hr.out | exact Ho.out | exact Hp.out | exact hp_new (by first | rfl | (simp [size_plus, size_holds]; done) | (simp [size_plus, size_holds]; omega)) | (with_reducible refine hp_old ?_) | (with_reducible refine hp_plus ?_) | (with_reducible refine hh_eq (by first | assumption | (simp only [size_holds]; assumption))) | (with_reducible refine hh_ne (by omega) ?_)))) (by assumption)
  have Ho' : Aside (u26.heap[ob]? = some (.cells #[.int .i64 cp, .slice a3 fl.length k3, .slice a2 hs.length k2] 25 (0, 0))) := heap_grown hgrow (hp_old (by repeat (first | exact Hc.out | exact Hr.out | exact Ho.out | exact Hp.out | exact hp_new (by first | rfl | (simp [size_plus, size_holds]; done) | (simp [size_plus, size_holds]; omega)) | (with_reducible refine hp_old ?_) | (with_reducible refine hp_plus ?_) | (with_reducible refine hh_eq (by first | assumption | (simp only [size_holds]; assumption))) | (with_reducible refine hh_ne (by omega) ?_)))) (by assumption)
  have Rhs' : Aside (u26.ownsRow w.heap.size 36 3 (.slice a2 hs.length k2) hs.length (flatE Hd.enc hs)) := World.ownsRow.kept (own_alloc (by repeat (first | exact Rhs.out | (with_reducible refine own_alloc ?_) | (with_reducible refine own_plus ?_) | (with_reducible refine own_holds ?_ ?_) | assumption))) hgrow (by assumption)
  have Rbl' : Aside (u26.ownsRow w.heap.size 47 4 (v') (fl.length + 1) (flatE Pc.enc (fl ++ [(⟨id, vers, at', data⟩ : Pc)]))) := by rw [flatE_snoc]; exact hown'
  have HB' : Aside (Below w.heap.size w u26) := below_grown (by
    have hHB := HB.out
    repeat (first | (with_reducible exact Below.refl _ _) | (with_reducible assumption) | (with_reducible refine below_to_plus ?_ ?_ _) | (with_reducible refine below_holds ?_ ?_ _ _) | (with_reducible refine Below.alloc ?_ ?_ _) | (with_reducible refine Below.drew ?_) | (with_reducible refine below_drewN ?_ _) | (with_reducible refine Below.setCell ?_ ?_ _))
    all_goals first | omega | (simp; done) | (simp [go_sem]; done) | (simp [go_sem]; omega)) hgrow (by assumption)
  clear Hc Hr Ho Hp Rbl Rhs HB ltc ltr lto ltp necr neco necp nerc nero nerp neoc neor neop nepc nepr nepo nblc nblr nblo nhsc nhsr nhso nhsp bc0 bc1 bc2 br0 br1 br2 bp0 bp1 bp2 bp3 hgrow hown' hsz
  have Hc := Hc'
  clear Hc'
  have Hr := Hr'
  clear Hr'
  have Ho := Ho'
  clear Ho'
  have Rbl := Rbl'
  clear Rbl'
  have Rhs := Rhs'
  clear Rhs'
  have HB := HB'
  clear HB'
  obtain ⟨a5, k5, ev, _⟩ := ownE_sl pc_len (by omega) Rbl.out
  subst ev
  clear nblp2 hg0 nh hb0
  have ltc : w.heap.size < u26.heap.size := (Array.getElem?_eq_some_iff.1 Hc.out).1
  have bc0 := cell_heap Hc.out 0 _ rfl
  have bc1 := cell_heap Hc.out 1 _ rfl
  have bc2 := cell_heap Hc.out 2 _ rfl
  have ltr : w.heap.size + 1 < u26.heap.size := (Array.getElem?_eq_some_iff.1 Hr.out).1
  have lto : ob < u26.heap.size := (Array.getElem?_eq_some_iff.1 Ho.out).1
  have necr : ¬ w.heap.size = w.heap.size + 1 := by omega
  have nerc : ¬ w.heap.size + 1 = w.heap.size := by omega
  have neco : ¬ w.heap.size = ob := by omega
  have neoc : ¬ ob = w.heap.size := by omega
  have nero : ¬ w.heap.size + 1 = ob := by omega
  have neor : ¬ ob = w.heap.size + 1 := by omega
  have nblc : (.slice a5 (fl.length + 1) k5 : Value).ownBlock ≠ some w.heap.size := own_ne Rbl.out Hc.out (by decide)
  have nblr : (.slice a5 (fl.length + 1) k5 : Value).ownBlock ≠ some (w.heap.size + 1) := own_ne Rbl.out Hr.out (by decide)
  have nblo : (.slice a5 (fl.length + 1) k5 : Value).ownBlock ≠ some ob := own_ne Rbl.out Ho.out (by decide)
  have nhsc : (.slice a2 hs.length k2 : Value).ownBlock ≠ some w.heap.size := own_ne Rhs.out Hc.out (by decide)
  have nhsr : (.slice a2 hs.length k2 : Value).ownBlock ≠ some (w.heap.size + 1) := own_ne Rhs.out Hr.out (by decide)
  have nhso : (.slice a2 hs.length k2 : Value).ownBlock ≠ some ob := own_ne Rhs.out Ho.out (by decide)
  rw [holds_add (holds_self Ho.out) Hr.out]
  by_cases hcap : cp < ((fl.length : Int) + 1)
  · have er : rl = (fl ++ [(⟨id, vers, at', data⟩ : Pc)]).drop 1 := by rw [PD.out, if_pos hcap]
    have el : rl.length = fl.length := by rw [er]; simp
    have ER : Aside (rl = (fl ++ [(⟨id, vers, at', data⟩ : Pc)]).drop 1 ∧ rl.length = fl.length) := ⟨er, el⟩
    clear er el PD
    have cd : ∀ U, U.ownsRow w.heap.size 47 4 (.slice a5 (fl.length + 1) k5) (fl.length + 1) (flatE Pc.enc (fl ++ [(⟨id, vers, at', data⟩ : Pc)])) → Calls Try.prog 39 #[.slice a5 (fl.length + 1) k5, .int .i64 0, .int .i64 1] U fun e w' => ∃ v', e = .returned v' ∧ w'.ownsRow w.heap.size 47 4 v' (fl.length + 1 - 1) (flatE Pc.enc ((fl ++ [(⟨id, vers, at', data⟩ : Pc)]).take 0 ++ (fl ++ [(⟨id, vers, at', data⟩ : Pc)]).drop (0 + 1))) ∧ U.grownBy w' (Value.slice a5 (fl.length + 1) k5).ownBlock ∧ v'.ownBlock = (Value.slice a5 (fl.length + 1) k5).ownBlock := fun U hU => pcDelete_calls _ (fl.length + 1) 0 w.heap.size (fl ++ [(⟨id, vers, at', data⟩ : Pc)]) U hU (by omega) (by omega)
    have hg0 : ∀ j, (Value.slice a5 (fl.length + 1) k5).ownBlock = some j → w.heap.size ≤ j := fun j hj => (Rbl.out.lt j hj).1
    have nh := own_ne_own Rhs.out Rbl.out (by decide)
    go_wp2_with fail
    refine (cd _ (by repeat (first | exact Rbl.out | (with_reducible refine own_alloc ?_) | (with_reducible refine own_plus ?_) | (with_reducible refine own_holds ?_ ?_) | assumption))).mono ?_
    rintro e u27 ⟨v', rfl, o1, hg, hv'⟩
    have Hr' : Aside (u27.heap[w.heap.size + 1]? = some (.cells #[.int .i64 0, .slice none 0 0, .slice none 0 0] 25 (0, 0))) := heap_grown hg (by repeat (first | exact Hc.out | exact Hr.out | exact Ho.out | exact hp_new (by first | rfl | (simp [size_plus, size_holds]; done) | (simp [size_plus, size_holds]; omega)) | (with_reducible refine hp_old ?_) | (with_reducible refine hp_plus ?_) | (with_reducible refine hh_eq (by first | assumption | (simp only [size_holds]; assumption))) | (with_reducible refine hh_ne (by omega) ?_))) (by assumption)
    have Ho' : Aside (u27.heap[ob]? = some (.cells #[.int .i64 cp, .slice a5 (fl.length + 1) k5, .slice a2 hs.length k2] 25 (0, 0))) := heap_grown hg (by repeat (first | exact Hc.out | exact Hr.out | exact Ho.out | exact hp_new (by first | rfl | (simp [size_plus, size_holds]; done) | (simp [size_plus, size_holds]; omega)) | (with_reducible refine hp_old ?_) | (with_reducible refine hp_plus ?_) | (with_reducible refine hh_eq (by first | assumption | (simp only [size_holds]; assumption))) | (with_reducible refine hh_ne (by omega) ?_))) (by assumption)
    have Rhs' : Aside (u27.ownsRow w.heap.size 36 3 (.slice a2 hs.length k2) hs.length (flatE Hd.enc hs)) := World.ownsRow.kept (by repeat (first | exact Rhs.out | (with_reducible refine own_alloc ?_) | (with_reducible refine own_plus ?_) | (with_reducible refine own_holds ?_ ?_) | assumption)) hg (by assumption)
    have Rbl' : Aside (u27.ownsRow w.heap.size 47 4 (v') rl.length (flatE Pc.enc rl)) := by
      have h := o1
      rw [List.take_zero, List.nil_append, ← ER.out.1, show fl.length + 1 - 1 = rl.length from by rw [ER.out.2]; omega] at h
      exact h
    have HB' : Aside (Below w.heap.size w u27) := below_grown (by
      have hHB := HB.out
      repeat (first | (with_reducible exact Below.refl _ _) | (with_reducible assumption) | (with_reducible refine below_to_plus ?_ ?_ _) | (with_reducible refine below_holds ?_ ?_ _ _) | (with_reducible refine Below.alloc ?_ ?_ _) | (with_reducible refine Below.drew ?_) | (with_reducible refine below_drewN ?_ _) | (with_reducible refine Below.setCell ?_ ?_ _))
      all_goals first | omega | (simp; done) | (simp [go_sem]; done) | (simp [go_sem]; omega)) hg (by assumption)
    clear Hc Hr Ho Rbl Rhs HB ltc ltr lto necr neco nerc nero neoc neor nblc nblr nblo nhsc nhsr nhso bc0 bc1 bc2 hg o1 nh hg0 hv' cd
    have Hr := Hr'
    clear Hr'
    have Ho := Ho'
    clear Ho'
    have Rbl := Rbl'
    clear Rbl'
    have Rhs := Rhs'
    clear Rhs'
    have HB := HB'
    clear HB'
    obtain ⟨a6, k6, ev, _⟩ := ownE_sl pc_len (by omega) Rbl.out
    subst ev
    have ltr : w.heap.size + 1 < u27.heap.size := (Array.getElem?_eq_some_iff.1 Hr.out).1
    have lto : ob < u27.heap.size := (Array.getElem?_eq_some_iff.1 Ho.out).1
    have nero : ¬ w.heap.size + 1 = ob := by omega
    have neor : ¬ ob = w.heap.size + 1 := by omega
    have nblr : (.slice a6 rl.length k6 : Value).ownBlock ≠ some (w.heap.size + 1) := own_ne Rbl.out Hr.out (by decide)
    have nblo : (.slice a6 rl.length k6 : Value).ownBlock ≠ some ob := own_ne Rbl.out Ho.out (by decide)
    have nhsr : (.slice a2 hs.length k2 : Value).ownBlock ≠ some (w.heap.size + 1) := own_ne Rhs.out Hr.out (by decide)
    have nhso : (.slice a2 hs.length k2 : Value).ownBlock ≠ some ob := own_ne Rhs.out Ho.out (by decide)
    rw [holds_add (holds_self Hr.out) Ho.out]
    go_wp2
    refine bodyPost_ret (v := .agg #[.int .i64 cp, .slice a6 rl.length k6, .slice a2 hs.length k2]) (by simp [results, Try.results18, go_sem, ↓IntWalk.iteOmega, *]) rfl ⟨_, _, _, _, rfl, (by repeat (first | exact Rbl.out | (with_reducible refine own_alloc ?_) | (with_reducible refine own_plus ?_) | (with_reducible refine own_holds ?_ ?_) | assumption)), (by repeat (first | exact Rhs.out | (with_reducible refine own_alloc ?_) | (with_reducible refine own_plus ?_) | (with_reducible refine own_holds ?_ ?_) | assumption)), (by
      have hHB := HB.out
      repeat (first | (with_reducible exact Below.refl _ _) | (with_reducible assumption) | (with_reducible refine below_to_plus ?_ ?_ _) | (with_reducible refine below_holds ?_ ?_ _ _) | (with_reducible refine Below.alloc ?_ ?_ _) | (with_reducible refine Below.drew ?_) | (with_reducible refine below_drewN ?_ _) | (with_reducible refine Below.setCell ?_ ?_ _))
      all_goals first | omega | (simp; done) | (simp [go_sem]; done) | (simp [go_sem]; omega))⟩
  · have er : rl = fl ++ [(⟨id, vers, at', data⟩ : Pc)] := by rw [PD.out, if_neg hcap]
    have ER : Aside (rl = fl ++ [(⟨id, vers, at', data⟩ : Pc)]) := er
    clear PD er
    go_wp2
    have er := ER.out
    subst er
    have el : (fl ++ [(⟨id, vers, at', data⟩ : Pc)]).length = fl.length + 1 := by simp
    rw [← el] at Rbl nblc nblr nblo ⊢
    refine bodyPost_ret (v := .agg #[.int .i64 cp, .slice a5 (fl ++ [(⟨id, vers, at', data⟩ : Pc)]).length k5, .slice a2 hs.length k2]) (by simp [results, Try.results18, go_sem, ↓IntWalk.iteOmega, *]) rfl ⟨_, _, _, _, rfl, (by repeat (first | exact Rbl.out | (with_reducible refine own_alloc ?_) | (with_reducible refine own_plus ?_) | (with_reducible refine own_holds ?_ ?_) | assumption)), (by repeat (first | exact Rhs.out | (with_reducible refine own_alloc ?_) | (with_reducible refine own_plus ?_) | (with_reducible refine own_holds ?_ ?_) | assumption)), (by
      have hHB := HB.out
      repeat (first | (with_reducible exact Below.refl _ _) | (with_reducible assumption) | (with_reducible refine below_to_plus ?_ ?_ _) | (with_reducible refine below_holds ?_ ?_ _ _) | (with_reducible refine Below.alloc ?_ ?_ _) | (with_reducible refine Below.drew ?_) | (with_reducible refine below_drewN ?_ _) | (with_reducible refine Below.setCell ?_ ?_ _))
      all_goals first | omega | (simp; done) | (simp [go_sem]; done) | (simp [go_sem]; omega))⟩

end Go.Proofs.Ytcgajlobbjoefaa
