/- This text proves the walk of Get of package cache. Conditions: those that each theorem names. -/
import Derived.Test.YtcgajlobbjoefaaCacheK
import Derived.Test.YtcgajlobbjoefaaLook
namespace Go.Proofs.Ytcgajlobbjoefaa
open Go.ChangeShapes Go.WideShapes Go.ChangeAt Go.RowKit
set_option linter.unusedVariables false
set_option linter.unusedSimpArgs false

/-- What Get returns, as a later call reads it. -/
def GetPost (w : World) (cp : Int) (hs : List Hd) (r : List Pc × ByteArray × Bool) (e : Ending) (w' : World) : Prop :=
  ∃ a1 k1 a2 k2, e = .returned (.tuple #[.agg #[.int .i64 cp, .slice a1 r.1.length k1, .slice a2 hs.length k2], .string r.2.1, .bool r.2.2]) ∧ Sl w' 4 a1 r.1.length k1 (r.1.map Pc.enc) ∧ Sl w' 3 a2 hs.length k2 (hs.map Hd.enc) ∧ Below w.heap.size w w'
theorem own_slP {w : World} {B : Nat} {a : Option Addr} {k : Nat} {bl : List Pc} (h : w.ownsRow B 47 4 (.slice a bl.length k) bl.length (flatE Pc.enc bl)) : Sl w 4 a bl.length k (bl.map Pc.enc) := by
  obtain ⟨_, _, hv, hs⟩ := ownE_sl pc_len (by omega) h
  cases hv
  exact hs
theorem own_slH {w : World} {B : Nat} {a : Option Addr} {k : Nat} {bl : List Hd} (h : w.ownsRow B 36 3 (.slice a bl.length k) bl.length (flatE Hd.enc bl)) : Sl w 3 a bl.length k (bl.map Hd.enc) := by
  obtain ⟨_, _, hv, hs⟩ := ownE_sl hd_len (by omega) h
  cases hv
  exact hs
/-- A cache that a call returns: rows of its own, from block B on. -/
def caV (B : Nat) (cp : Int) (bl : List Pc) (hs : List Hd) : SpecV := fun v _ _ w => ∃ a1 k1 a2 k2, v = .agg #[.int .i64 cp, .slice a1 bl.length k1, .slice a2 hs.length k2] ∧ w.ownsRow B 47 4 (.slice a1 bl.length k1) bl.length (flatE Pc.enc bl) ∧ w.ownsRow B 36 3 (.slice a2 hs.length k2) hs.length (flatE Hd.enc hs)
theorem caV_mono (B : Nat) (cp : Int) (bl : List Pc) (hs : List Hd) : (caV B cp bl hs).Mono := fun v lo hi w w' ⟨a1, k1, a2, k2, h0, h1, h2⟩ hb => ⟨a1, k1, a2, k2, h0, own_from h1 hb, own_from h2 hb⟩
theorem specEnd_ca {P : Program} {ops : Array Oper} {Q' : Exit → Act → World → Prop} {tail : List Oper} {B : Nat} {cp : Int} {bl : List Pc} {hs : List Hd} {d : Option Tmp} {rest : List (Option Tmp × SpecV)} {ivs : List (Nat × Nat)} {a : Act} {w : World}
    (h : ∀ a1 k1 a2 k2 ivs', w.ownsRow B 47 4 (.slice a1 bl.length k1) bl.length (flatE Pc.enc bl) → w.ownsRow B 36 3 (.slice a2 hs.length k2) hs.length (flatE Hd.enc hs) → SpecEnd P ops Q' tail rest ivs' (a.put d (.agg #[.int .i64 cp, .slice a1 bl.length k1, .slice a2 hs.length k2])) w) :
    SpecEnd P ops Q' tail ((d, caV B cp bl hs) :: rest) ivs a w := by
  rintro v lo hi ⟨a1, k1, a2, k2, rfl, h1, h2⟩ _ _ _
  exact h a1 k1 a2 k2 _ h1 h2
theorem cop_ca {W x : World} {cp : Int} {bl : List Pc} {hs : List Hd} {e : Ending} {w' : World} (h : CopPost (plus W x) cp bl hs e w') : ∃ v, e = .returned v ∧ Below (plus W x).heap.size (plus W x) w' ∧ caV W.heap.size cp bl hs v (plus W x).heap.size w'.heap.size w' := by
  obtain ⟨a1, k1, a2, k2, he, o1, o2, hb⟩ := h
  exact ⟨_, he, hb, a1, k1, a2, k2, rfl, own_lower o1 (below_plus W x).size, own_lower o2 (below_plus W x).size⟩

set_option maxHeartbeats 16000000 in
theorem get_no (cp : Int) (ao : Option Addr) (n c1 : Nat) (ao2 : Option Addr) (n2 c2 : Nat) (bl : List Pc) (hs : List Hd) (id at' cnt now : Int) (w : World) (h1 : Sl w 4 ao n c1 (bl.map Pc.enc)) (h2 : Sl w 3 ao2 n2 c2 (hs.map Hd.enc)) (hn : n ≤ 1000000) (hn2 : n2 ≤ 1000000) (ha : AscH hs) (hd : heldB id now hs = false ∨ at' < 0 ∨ cnt < 0) :
    Calls Try.prog 17 #[.agg #[.int .i64 cp, .slice ao n c1, .slice ao2 n2 c2], .int .i64 id, .int .i64 at', .int .i64 cnt, .int .i64 now] w fun e w' => GetPost w cp hs (bl, ⟨#[]⟩, false) e w' := by
  have hln : bl.length = n := Sl.lenE h1
  have hln2 : hs.length = n2 := Sl.lenE h2
  subst hln
  subst hln2
  have S1 : Aside (Sl w 4 ao bl.length c1 (bl.map Pc.enc)) := h1
  have S2 : Aside (Sl w 3 ao2 hs.length c2 (hs.map Hd.enc)) := h2
  have hb0 : Below w.heap.size w ((((w.alloc (.cells #[.int .i64 cp, .slice ao bl.length c1, .slice ao2 hs.length c2] 25)).alloc (.cells #[.int .i64 id] 3)).alloc (.cells #[.int .i64 at'] 3)).alloc (.cells #[.int .i64 0, .slice none 0 0, .slice none 0 0] 25)) := by
    repeat (first | (with_reducible exact Below.refl _ _) | (with_reducible assumption) | (with_reducible refine below_to_plus ?_ ?_ _) | (with_reducible refine below_holds ?_ ?_ _ _) | (with_reducible refine Below.alloc ?_ ?_ _) | (with_reducible refine Below.drew ?_) | (with_reducible refine below_drewN ?_ _) | (with_reducible refine Below.setCell ?_ ?_ _))
    all_goals first | omega | (simp; done) | (simp [go_sem]; done) | (simp [go_sem]; omega)
  have HB : Aside (Below w.heap.size w ((((w.alloc (.cells #[.int .i64 cp, .slice ao bl.length c1, .slice ao2 hs.length c2] 25)).alloc (.cells #[.int .i64 id] 3)).alloc (.cells #[.int .i64 at'] 3)).alloc (.cells #[.int .i64 0, .slice none 0 0, .slice none 0 0] 25))) := hb0
  have Hc : Aside (((((w.alloc (.cells #[.int .i64 cp, .slice ao bl.length c1, .slice ao2 hs.length c2] 25)).alloc (.cells #[.int .i64 id] 3)).alloc (.cells #[.int .i64 at'] 3)).alloc (.cells #[.int .i64 0, .slice none 0 0, .slice none 0 0] 25)).heap[w.heap.size]? = some (.cells #[.int .i64 cp, .slice ao bl.length c1, .slice ao2 hs.length c2] 25 (0, 0))) := by repeat (first | exact hp_new (by first | rfl | (simp; done) | (simp; omega)) | refine hp_old ?_)
  have Hi : Aside (((((w.alloc (.cells #[.int .i64 cp, .slice ao bl.length c1, .slice ao2 hs.length c2] 25)).alloc (.cells #[.int .i64 id] 3)).alloc (.cells #[.int .i64 at'] 3)).alloc (.cells #[.int .i64 0, .slice none 0 0, .slice none 0 0] 25)).heap[w.heap.size + 1]? = some (.cells #[.int .i64 id] 3 (0, 0))) := by repeat (first | exact hp_new (by first | rfl | (simp; done) | (simp; omega)) | refine hp_old ?_)
  have Ht : Aside (((((w.alloc (.cells #[.int .i64 cp, .slice ao bl.length c1, .slice ao2 hs.length c2] 25)).alloc (.cells #[.int .i64 id] 3)).alloc (.cells #[.int .i64 at'] 3)).alloc (.cells #[.int .i64 0, .slice none 0 0, .slice none 0 0] 25)).heap[w.heap.size + 1 + 1]? = some (.cells #[.int .i64 at'] 3 (0, 0))) := by repeat (first | exact hp_new (by first | rfl | (simp; done) | (simp; omega)) | refine hp_old ?_)
  have Hr : Aside (((((w.alloc (.cells #[.int .i64 cp, .slice ao bl.length c1, .slice ao2 hs.length c2] 25)).alloc (.cells #[.int .i64 id] 3)).alloc (.cells #[.int .i64 at'] 3)).alloc (.cells #[.int .i64 0, .slice none 0 0, .slice none 0 0] 25)).heap[w.heap.size + 1 + 1 + 1]? = some (.cells #[.int .i64 0, .slice none 0 0, .slice none 0 0] 25 (0, 0))) := by repeat (first | exact hp_new (by first | rfl | (simp; done) | (simp; omega)) | refine hp_old ?_)
  have ck := held_calls cp ao bl.length c1 ao2 hs.length c2 hs id now ((((w.alloc (.cells #[.int .i64 cp, .slice ao bl.length c1, .slice ao2 hs.length c2] 25)).alloc (.cells #[.int .i64 id] 3)).alloc (.cells #[.int .i64 at'] 3)).alloc (.cells #[.int .i64 0, .slice none 0 0, .slice none 0 0] 25)) (h2.stays hb0) hn2 ha
  clear h1 h2
  cases hh : heldB id now hs with
  | false =>
    rw [hh] at ck
    clear hh hd
    go_enter Try.func17, Try.ntmps17
    go_wp2_with fail
    refine (ck).mono ?_
    rintro e u50 ⟨rfl, hb⟩
    have Hc' : Aside (u50.heap[w.heap.size]? = some (.cells #[.int .i64 cp, .slice ao bl.length c1, .slice ao2 hs.length c2] 25 (0, 0))) := heap_later (by repeat (first | exact Hc.out | exact Hi.out | exact Ht.out | exact Hr.out | exact hp_new (by first | rfl | (simp [size_plus, size_holds]; done) | (simp [size_plus, size_holds]; omega)) | (with_reducible refine hp_old ?_) | (with_reducible refine hp_plus ?_) | (with_reducible refine hh_eq (by first | assumption | (simp only [size_holds]; assumption))) | (with_reducible refine hh_ne (by omega) ?_))) hb
    have Hi' : Aside (u50.heap[w.heap.size + 1]? = some (.cells #[.int .i64 id] 3 (0, 0))) := heap_later (by repeat (first | exact Hc.out | exact Hi.out | exact Ht.out | exact Hr.out | exact hp_new (by first | rfl | (simp [size_plus, size_holds]; done) | (simp [size_plus, size_holds]; omega)) | (with_reducible refine hp_old ?_) | (with_reducible refine hp_plus ?_) | (with_reducible refine hh_eq (by first | assumption | (simp only [size_holds]; assumption))) | (with_reducible refine hh_ne (by omega) ?_))) hb
    have Ht' : Aside (u50.heap[w.heap.size + 1 + 1]? = some (.cells #[.int .i64 at'] 3 (0, 0))) := heap_later (by repeat (first | exact Hc.out | exact Hi.out | exact Ht.out | exact Hr.out | exact hp_new (by first | rfl | (simp [size_plus, size_holds]; done) | (simp [size_plus, size_holds]; omega)) | (with_reducible refine hp_old ?_) | (with_reducible refine hp_plus ?_) | (with_reducible refine hh_eq (by first | assumption | (simp only [size_holds]; assumption))) | (with_reducible refine hh_ne (by omega) ?_))) hb
    have Hr' : Aside (u50.heap[w.heap.size + 1 + 1 + 1]? = some (.cells #[.int .i64 0, .slice none 0 0, .slice none 0 0] 25 (0, 0))) := heap_later (by repeat (first | exact Hc.out | exact Hi.out | exact Ht.out | exact Hr.out | exact hp_new (by first | rfl | (simp [size_plus, size_holds]; done) | (simp [size_plus, size_holds]; omega)) | (with_reducible refine hp_old ?_) | (with_reducible refine hp_plus ?_) | (with_reducible refine hh_eq (by first | assumption | (simp only [size_holds]; assumption))) | (with_reducible refine hh_ne (by omega) ?_))) hb
    have HB' : Aside (Below w.heap.size w u50) := below_step (by
      have hHB := HB.out
      repeat (first | (with_reducible exact Below.refl _ _) | (with_reducible assumption) | (with_reducible refine below_to_plus ?_ ?_ _) | (with_reducible refine below_holds ?_ ?_ _ _) | (with_reducible refine Below.alloc ?_ ?_ _) | (with_reducible refine Below.drew ?_) | (with_reducible refine below_drewN ?_ _) | (with_reducible refine Below.setCell ?_ ?_ _))
      all_goals first | omega | (simp; done) | (simp [go_sem]; done) | (simp [go_sem]; omega)) hb
    clear Hc Hi Ht Hr HB hb ck hb0
    have Hc := Hc'
    clear Hc'
    have Hi := Hi'
    clear Hi'
    have Ht := Ht'
    clear Ht'
    have Hr := Hr'
    clear Hr'
    have HB := HB'
    clear HB'
    have bc0 := cell_heap Hc.out 0 _ rfl
    have bc1 := cell_heap Hc.out 1 _ rfl
    have bc2 := cell_heap Hc.out 2 _ rfl
    have ltc : w.heap.size < u50.heap.size := (Array.getElem?_eq_some_iff.1 Hc.out).1
    have bi0 := cell_heap Hi.out 0 _ rfl
    have lti : w.heap.size + 1 < u50.heap.size := (Array.getElem?_eq_some_iff.1 Hi.out).1
    have bt0 := cell_heap Ht.out 0 _ rfl
    have ltt : w.heap.size + 1 + 1 < u50.heap.size := (Array.getElem?_eq_some_iff.1 Ht.out).1
    go_wp2_with fail
    refine (copied_calls cp ao bl.length c1 ao2 hs.length c2 bl hs _ (S1.out.stays (by
      have hHB := HB.out
      repeat (first | (with_reducible exact Below.refl _ _) | (with_reducible assumption) | (with_reducible refine below_to_plus ?_ ?_ _) | (with_reducible refine below_holds ?_ ?_ _ _) | (with_reducible refine Below.alloc ?_ ?_ _) | (with_reducible refine Below.drew ?_) | (with_reducible refine below_drewN ?_ _) | (with_reducible refine Below.setCell ?_ ?_ _))
      all_goals first | omega | (simp; done) | (simp [go_sem]; done) | (simp [go_sem]; omega))) (S2.out.stays (by
      have hHB := HB.out
      repeat (first | (with_reducible exact Below.refl _ _) | (with_reducible assumption) | (with_reducible refine below_to_plus ?_ ?_ _) | (with_reducible refine below_holds ?_ ?_ _ _) | (with_reducible refine Below.alloc ?_ ?_ _) | (with_reducible refine Below.drew ?_) | (with_reducible refine below_drewN ?_ _) | (with_reducible refine Below.setCell ?_ ?_ _))
      all_goals first | omega | (simp; done) | (simp [go_sem]; done) | (simp [go_sem]; omega))) hn hn2).mono ?_
    rintro e u51 ⟨a1, k1, a2, k2, rfl, o1, o2, hb⟩
    have Hr' : Aside (u51.heap[w.heap.size + 1 + 1 + 1]? = some (.cells #[.int .i64 0, .slice none 0 0, .slice none 0 0] 25 (0, 0))) := heap_later (by repeat (first | exact Hc.out | exact Hi.out | exact Ht.out | exact Hr.out | exact hp_new (by first | rfl | (simp [size_plus, size_holds]; done) | (simp [size_plus, size_holds]; omega)) | (with_reducible refine hp_old ?_) | (with_reducible refine hp_plus ?_) | (with_reducible refine hh_eq (by first | assumption | (simp only [size_holds]; assumption))) | (with_reducible refine hh_ne (by omega) ?_))) hb
    have Rbl' : Aside (u51.ownsRow w.heap.size 47 4 (.slice a1 bl.length k1) bl.length (flatE Pc.enc bl)) := own_lower o1 HB.out.size
    have Rhs' : Aside (u51.ownsRow w.heap.size 36 3 (.slice a2 hs.length k2) hs.length (flatE Hd.enc hs)) := own_lower o2 HB.out.size
    have HB' : Aside (Below w.heap.size w u51) := below_step (by
      have hHB := HB.out
      repeat (first | (with_reducible exact Below.refl _ _) | (with_reducible assumption) | (with_reducible refine below_to_plus ?_ ?_ _) | (with_reducible refine below_holds ?_ ?_ _ _) | (with_reducible refine Below.alloc ?_ ?_ _) | (with_reducible refine Below.drew ?_) | (with_reducible refine below_drewN ?_ _) | (with_reducible refine Below.setCell ?_ ?_ _))
      all_goals first | omega | (simp; done) | (simp [go_sem]; done) | (simp [go_sem]; omega)) hb
    clear Hc Hi Ht Hr HB hb o1 o2 bc0 bc1 bc2 bi0 bt0 ltc lti ltt
    have Hr := Hr'
    clear Hr'
    have Rbl := Rbl'
    clear Rbl'
    have Rhs := Rhs'
    clear Rhs'
    have HB := HB'
    clear HB'
    have ltr : w.heap.size + 1 + 1 + 1 < u51.heap.size := (Array.getElem?_eq_some_iff.1 Hr.out).1
    have nblr : (.slice a1 bl.length k1 : Value).ownBlock ≠ some (w.heap.size + 1 + 1 + 1) := own_ne Rbl.out Hr.out (by decide)
    have nhsr : (.slice a2 hs.length k2 : Value).ownBlock ≠ some (w.heap.size + 1 + 1 + 1) := own_ne Rhs.out Hr.out (by decide)
    rw [holds_self Hr.out]
    go_wp2
    refine bodyPost_ret (v := .tuple #[.agg #[.int .i64 cp, .slice a1 bl.length k1, .slice a2 hs.length k2], .string ⟨#[]⟩, .bool false]) (by simp [results, Try.results17, go_sem, ↓IntWalk.iteOmega, *]) rfl ⟨_, _, _, _, rfl, own_slP (B := w.heap.size) (by repeat (first | exact Rbl.out | (with_reducible refine own_alloc ?_) | (with_reducible refine own_plus ?_) | (with_reducible refine own_holds ?_ ?_) | assumption)), own_slH (B := w.heap.size) (by repeat (first | exact Rhs.out | (with_reducible refine own_alloc ?_) | (with_reducible refine own_plus ?_) | (with_reducible refine own_holds ?_ ?_) | assumption)), (by
      have hHB := HB.out
      repeat (first | (with_reducible exact Below.refl _ _) | (with_reducible assumption) | (with_reducible refine below_to_plus ?_ ?_ _) | (with_reducible refine below_holds ?_ ?_ _ _) | (with_reducible refine Below.alloc ?_ ?_ _) | (with_reducible refine Below.drew ?_) | (with_reducible refine below_drewN ?_ _) | (with_reducible refine Below.setCell ?_ ?_ _))
      all_goals first | omega | (simp; done) | (simp [go_sem]; done) | (simp [go_sem]; omega))⟩
  | true =>
    rw [hh] at ck hd
    have hd1 : at' < 0 ∨ cnt < 0 := hd.resolve_left (by simp)
    clear hh hd
    by_cases d1 : at' < 0
    · clear hd1
      go_enter Try.func17, Try.ntmps17
      go_wp2_with fail
      refine (ck).mono ?_
      rintro e u52 ⟨rfl, hb⟩
      have Hc' : Aside (u52.heap[w.heap.size]? = some (.cells #[.int .i64 cp, .slice ao bl.length c1, .slice ao2 hs.length c2] 25 (0, 0))) := heap_later (by repeat (first | exact Hc.out | exact Hi.out | exact Ht.out | exact Hr.out | exact hp_new (by first | rfl | (simp [size_plus, size_holds]; done) | (simp [size_plus, size_holds]; omega)) | (with_reducible refine hp_old ?_) | (with_reducible refine hp_plus ?_) | (with_reducible refine hh_eq (by first | assumption | (simp only [size_holds]; assumption))) | (with_reducible refine hh_ne (by omega) ?_))) hb
      have Hi' : Aside (u52.heap[w.heap.size + 1]? = some (.cells #[.int .i64 id] 3 (0, 0))) := heap_later (by repeat (first | exact Hc.out | exact Hi.out | exact Ht.out | exact Hr.out | exact hp_new (by first | rfl | (simp [size_plus, size_holds]; done) | (simp [size_plus, size_holds]; omega)) | (with_reducible refine hp_old ?_) | (with_reducible refine hp_plus ?_) | (with_reducible refine hh_eq (by first | assumption | (simp only [size_holds]; assumption))) | (with_reducible refine hh_ne (by omega) ?_))) hb
      have Ht' : Aside (u52.heap[w.heap.size + 1 + 1]? = some (.cells #[.int .i64 at'] 3 (0, 0))) := heap_later (by repeat (first | exact Hc.out | exact Hi.out | exact Ht.out | exact Hr.out | exact hp_new (by first | rfl | (simp [size_plus, size_holds]; done) | (simp [size_plus, size_holds]; omega)) | (with_reducible refine hp_old ?_) | (with_reducible refine hp_plus ?_) | (with_reducible refine hh_eq (by first | assumption | (simp only [size_holds]; assumption))) | (with_reducible refine hh_ne (by omega) ?_))) hb
      have Hr' : Aside (u52.heap[w.heap.size + 1 + 1 + 1]? = some (.cells #[.int .i64 0, .slice none 0 0, .slice none 0 0] 25 (0, 0))) := heap_later (by repeat (first | exact Hc.out | exact Hi.out | exact Ht.out | exact Hr.out | exact hp_new (by first | rfl | (simp [size_plus, size_holds]; done) | (simp [size_plus, size_holds]; omega)) | (with_reducible refine hp_old ?_) | (with_reducible refine hp_plus ?_) | (with_reducible refine hh_eq (by first | assumption | (simp only [size_holds]; assumption))) | (with_reducible refine hh_ne (by omega) ?_))) hb
      have HB' : Aside (Below w.heap.size w u52) := below_step (by
        have hHB := HB.out
        repeat (first | (with_reducible exact Below.refl _ _) | (with_reducible assumption) | (with_reducible refine below_to_plus ?_ ?_ _) | (with_reducible refine below_holds ?_ ?_ _ _) | (with_reducible refine Below.alloc ?_ ?_ _) | (with_reducible refine Below.drew ?_) | (with_reducible refine below_drewN ?_ _) | (with_reducible refine Below.setCell ?_ ?_ _))
        all_goals first | omega | (simp; done) | (simp [go_sem]; done) | (simp [go_sem]; omega)) hb
      clear Hc Hi Ht Hr HB hb ck hb0
      have Hc := Hc'
      clear Hc'
      have Hi := Hi'
      clear Hi'
      have Ht := Ht'
      clear Ht'
      have Hr := Hr'
      clear Hr'
      have HB := HB'
      clear HB'
      have bc0 := cell_heap Hc.out 0 _ rfl
      have bc1 := cell_heap Hc.out 1 _ rfl
      have bc2 := cell_heap Hc.out 2 _ rfl
      have ltc : w.heap.size < u52.heap.size := (Array.getElem?_eq_some_iff.1 Hc.out).1
      have bi0 := cell_heap Hi.out 0 _ rfl
      have lti : w.heap.size + 1 < u52.heap.size := (Array.getElem?_eq_some_iff.1 Hi.out).1
      have bt0 := cell_heap Ht.out 0 _ rfl
      have ltt : w.heap.size + 1 + 1 < u52.heap.size := (Array.getElem?_eq_some_iff.1 Ht.out).1
      go_wp2_with fail
      refine (copied_calls cp ao bl.length c1 ao2 hs.length c2 bl hs _ (S1.out.stays (by
        have hHB := HB.out
        repeat (first | (with_reducible exact Below.refl _ _) | (with_reducible assumption) | (with_reducible refine below_to_plus ?_ ?_ _) | (with_reducible refine below_holds ?_ ?_ _ _) | (with_reducible refine Below.alloc ?_ ?_ _) | (with_reducible refine Below.drew ?_) | (with_reducible refine below_drewN ?_ _) | (with_reducible refine Below.setCell ?_ ?_ _))
        all_goals first | omega | (simp; done) | (simp [go_sem]; done) | (simp [go_sem]; omega))) (S2.out.stays (by
        have hHB := HB.out
        repeat (first | (with_reducible exact Below.refl _ _) | (with_reducible assumption) | (with_reducible refine below_to_plus ?_ ?_ _) | (with_reducible refine below_holds ?_ ?_ _ _) | (with_reducible refine Below.alloc ?_ ?_ _) | (with_reducible refine Below.drew ?_) | (with_reducible refine below_drewN ?_ _) | (with_reducible refine Below.setCell ?_ ?_ _))
        all_goals first | omega | (simp; done) | (simp [go_sem]; done) | (simp [go_sem]; omega))) hn hn2).mono ?_
      rintro e u53 ⟨a1, k1, a2, k2, rfl, o1, o2, hb⟩
      have Hr' : Aside (u53.heap[w.heap.size + 1 + 1 + 1]? = some (.cells #[.int .i64 0, .slice none 0 0, .slice none 0 0] 25 (0, 0))) := heap_later (by repeat (first | exact Hc.out | exact Hi.out | exact Ht.out | exact Hr.out | exact hp_new (by first | rfl | (simp [size_plus, size_holds]; done) | (simp [size_plus, size_holds]; omega)) | (with_reducible refine hp_old ?_) | (with_reducible refine hp_plus ?_) | (with_reducible refine hh_eq (by first | assumption | (simp only [size_holds]; assumption))) | (with_reducible refine hh_ne (by omega) ?_))) hb
      have Rbl' : Aside (u53.ownsRow w.heap.size 47 4 (.slice a1 bl.length k1) bl.length (flatE Pc.enc bl)) := own_lower o1 HB.out.size
      have Rhs' : Aside (u53.ownsRow w.heap.size 36 3 (.slice a2 hs.length k2) hs.length (flatE Hd.enc hs)) := own_lower o2 HB.out.size
      have HB' : Aside (Below w.heap.size w u53) := below_step (by
        have hHB := HB.out
        repeat (first | (with_reducible exact Below.refl _ _) | (with_reducible assumption) | (with_reducible refine below_to_plus ?_ ?_ _) | (with_reducible refine below_holds ?_ ?_ _ _) | (with_reducible refine Below.alloc ?_ ?_ _) | (with_reducible refine Below.drew ?_) | (with_reducible refine below_drewN ?_ _) | (with_reducible refine Below.setCell ?_ ?_ _))
        all_goals first | omega | (simp; done) | (simp [go_sem]; done) | (simp [go_sem]; omega)) hb
      clear Hc Hi Ht Hr HB hb o1 o2 bc0 bc1 bc2 bi0 bt0 ltc lti ltt
      have Hr := Hr'
      clear Hr'
      have Rbl := Rbl'
      clear Rbl'
      have Rhs := Rhs'
      clear Rhs'
      have HB := HB'
      clear HB'
      have ltr : w.heap.size + 1 + 1 + 1 < u53.heap.size := (Array.getElem?_eq_some_iff.1 Hr.out).1
      have nblr : (.slice a1 bl.length k1 : Value).ownBlock ≠ some (w.heap.size + 1 + 1 + 1) := own_ne Rbl.out Hr.out (by decide)
      have nhsr : (.slice a2 hs.length k2 : Value).ownBlock ≠ some (w.heap.size + 1 + 1 + 1) := own_ne Rhs.out Hr.out (by decide)
      rw [holds_self Hr.out]
      go_wp2
      refine bodyPost_ret (v := .tuple #[.agg #[.int .i64 cp, .slice a1 bl.length k1, .slice a2 hs.length k2], .string ⟨#[]⟩, .bool false]) (by simp [results, Try.results17, go_sem, ↓IntWalk.iteOmega, *]) rfl ⟨_, _, _, _, rfl, own_slP (B := w.heap.size) (by repeat (first | exact Rbl.out | (with_reducible refine own_alloc ?_) | (with_reducible refine own_plus ?_) | (with_reducible refine own_holds ?_ ?_) | assumption)), own_slH (B := w.heap.size) (by repeat (first | exact Rhs.out | (with_reducible refine own_alloc ?_) | (with_reducible refine own_plus ?_) | (with_reducible refine own_holds ?_ ?_) | assumption)), (by
        have hHB := HB.out
        repeat (first | (with_reducible exact Below.refl _ _) | (with_reducible assumption) | (with_reducible refine below_to_plus ?_ ?_ _) | (with_reducible refine below_holds ?_ ?_ _ _) | (with_reducible refine Below.alloc ?_ ?_ _) | (with_reducible refine Below.drew ?_) | (with_reducible refine below_drewN ?_ _) | (with_reducible refine Below.setCell ?_ ?_ _))
        all_goals first | omega | (simp; done) | (simp [go_sem]; done) | (simp [go_sem]; omega))⟩
    · have d2 : cnt < 0 := hd1.resolve_left d1
      clear hd1
      go_enter Try.func17, Try.ntmps17
      go_wp2_with fail
      refine (ck).mono ?_
      rintro e u54 ⟨rfl, hb⟩
      have Hc' : Aside (u54.heap[w.heap.size]? = some (.cells #[.int .i64 cp, .slice ao bl.length c1, .slice ao2 hs.length c2] 25 (0, 0))) := heap_later (by repeat (first | exact Hc.out | exact Hi.out | exact Ht.out | exact Hr.out | exact hp_new (by first | rfl | (simp [size_plus, size_holds]; done) | (simp [size_plus, size_holds]; omega)) | (with_reducible refine hp_old ?_) | (with_reducible refine hp_plus ?_) | (with_reducible refine hh_eq (by first | assumption | (simp only [size_holds]; assumption))) | (with_reducible refine hh_ne (by omega) ?_))) hb
      have Hi' : Aside (u54.heap[w.heap.size + 1]? = some (.cells #[.int .i64 id] 3 (0, 0))) := heap_later (by repeat (first | exact Hc.out | exact Hi.out | exact Ht.out | exact Hr.out | exact hp_new (by first | rfl | (simp [size_plus, size_holds]; done) | (simp [size_plus, size_holds]; omega)) | (with_reducible refine hp_old ?_) | (with_reducible refine hp_plus ?_) | (with_reducible refine hh_eq (by first | assumption | (simp only [size_holds]; assumption))) | (with_reducible refine hh_ne (by omega) ?_))) hb
      have Ht' : Aside (u54.heap[w.heap.size + 1 + 1]? = some (.cells #[.int .i64 at'] 3 (0, 0))) := heap_later (by repeat (first | exact Hc.out | exact Hi.out | exact Ht.out | exact Hr.out | exact hp_new (by first | rfl | (simp [size_plus, size_holds]; done) | (simp [size_plus, size_holds]; omega)) | (with_reducible refine hp_old ?_) | (with_reducible refine hp_plus ?_) | (with_reducible refine hh_eq (by first | assumption | (simp only [size_holds]; assumption))) | (with_reducible refine hh_ne (by omega) ?_))) hb
      have Hr' : Aside (u54.heap[w.heap.size + 1 + 1 + 1]? = some (.cells #[.int .i64 0, .slice none 0 0, .slice none 0 0] 25 (0, 0))) := heap_later (by repeat (first | exact Hc.out | exact Hi.out | exact Ht.out | exact Hr.out | exact hp_new (by first | rfl | (simp [size_plus, size_holds]; done) | (simp [size_plus, size_holds]; omega)) | (with_reducible refine hp_old ?_) | (with_reducible refine hp_plus ?_) | (with_reducible refine hh_eq (by first | assumption | (simp only [size_holds]; assumption))) | (with_reducible refine hh_ne (by omega) ?_))) hb
      have HB' : Aside (Below w.heap.size w u54) := below_step (by
        have hHB := HB.out
        repeat (first | (with_reducible exact Below.refl _ _) | (with_reducible assumption) | (with_reducible refine below_to_plus ?_ ?_ _) | (with_reducible refine below_holds ?_ ?_ _ _) | (with_reducible refine Below.alloc ?_ ?_ _) | (with_reducible refine Below.drew ?_) | (with_reducible refine below_drewN ?_ _) | (with_reducible refine Below.setCell ?_ ?_ _))
        all_goals first | omega | (simp; done) | (simp [go_sem]; done) | (simp [go_sem]; omega)) hb
      clear Hc Hi Ht Hr HB hb ck hb0
      have Hc := Hc'
      clear Hc'
      have Hi := Hi'
      clear Hi'
      have Ht := Ht'
      clear Ht'
      have Hr := Hr'
      clear Hr'
      have HB := HB'
      clear HB'
      have bc0 := cell_heap Hc.out 0 _ rfl
      have bc1 := cell_heap Hc.out 1 _ rfl
      have bc2 := cell_heap Hc.out 2 _ rfl
      have ltc : w.heap.size < u54.heap.size := (Array.getElem?_eq_some_iff.1 Hc.out).1
      have bi0 := cell_heap Hi.out 0 _ rfl
      have lti : w.heap.size + 1 < u54.heap.size := (Array.getElem?_eq_some_iff.1 Hi.out).1
      have bt0 := cell_heap Ht.out 0 _ rfl
      have ltt : w.heap.size + 1 + 1 < u54.heap.size := (Array.getElem?_eq_some_iff.1 Ht.out).1
      go_wp2_with fail
      refine (copied_calls cp ao bl.length c1 ao2 hs.length c2 bl hs _ (S1.out.stays (by
        have hHB := HB.out
        repeat (first | (with_reducible exact Below.refl _ _) | (with_reducible assumption) | (with_reducible refine below_to_plus ?_ ?_ _) | (with_reducible refine below_holds ?_ ?_ _ _) | (with_reducible refine Below.alloc ?_ ?_ _) | (with_reducible refine Below.drew ?_) | (with_reducible refine below_drewN ?_ _) | (with_reducible refine Below.setCell ?_ ?_ _))
        all_goals first | omega | (simp; done) | (simp [go_sem]; done) | (simp [go_sem]; omega))) (S2.out.stays (by
        have hHB := HB.out
        repeat (first | (with_reducible exact Below.refl _ _) | (with_reducible assumption) | (with_reducible refine below_to_plus ?_ ?_ _) | (with_reducible refine below_holds ?_ ?_ _ _) | (with_reducible refine Below.alloc ?_ ?_ _) | (with_reducible refine Below.drew ?_) | (with_reducible refine below_drewN ?_ _) | (with_reducible refine Below.setCell ?_ ?_ _))
        all_goals first | omega | (simp; done) | (simp [go_sem]; done) | (simp [go_sem]; omega))) hn hn2).mono ?_
      rintro e u55 ⟨a1, k1, a2, k2, rfl, o1, o2, hb⟩
      have Hr' : Aside (u55.heap[w.heap.size + 1 + 1 + 1]? = some (.cells #[.int .i64 0, .slice none 0 0, .slice none 0 0] 25 (0, 0))) := heap_later (by repeat (first | exact Hc.out | exact Hi.out | exact Ht.out | exact Hr.out | exact hp_new (by first | rfl | (simp [size_plus, size_holds]; done) | (simp [size_plus, size_holds]; omega)) | (with_reducible refine hp_old ?_) | (with_reducible refine hp_plus ?_) | (with_reducible refine hh_eq (by first | assumption | (simp only [size_holds]; assumption))) | (with_reducible refine hh_ne (by omega) ?_))) hb
      have Rbl' : Aside (u55.ownsRow w.heap.size 47 4 (.slice a1 bl.length k1) bl.length (flatE Pc.enc bl)) := own_lower o1 HB.out.size
      have Rhs' : Aside (u55.ownsRow w.heap.size 36 3 (.slice a2 hs.length k2) hs.length (flatE Hd.enc hs)) := own_lower o2 HB.out.size
      have HB' : Aside (Below w.heap.size w u55) := below_step (by
        have hHB := HB.out
        repeat (first | (with_reducible exact Below.refl _ _) | (with_reducible assumption) | (with_reducible refine below_to_plus ?_ ?_ _) | (with_reducible refine below_holds ?_ ?_ _ _) | (with_reducible refine Below.alloc ?_ ?_ _) | (with_reducible refine Below.drew ?_) | (with_reducible refine below_drewN ?_ _) | (with_reducible refine Below.setCell ?_ ?_ _))
        all_goals first | omega | (simp; done) | (simp [go_sem]; done) | (simp [go_sem]; omega)) hb
      clear Hc Hi Ht Hr HB hb o1 o2 bc0 bc1 bc2 bi0 bt0 ltc lti ltt
      have Hr := Hr'
      clear Hr'
      have Rbl := Rbl'
      clear Rbl'
      have Rhs := Rhs'
      clear Rhs'
      have HB := HB'
      clear HB'
      have ltr : w.heap.size + 1 + 1 + 1 < u55.heap.size := (Array.getElem?_eq_some_iff.1 Hr.out).1
      have nblr : (.slice a1 bl.length k1 : Value).ownBlock ≠ some (w.heap.size + 1 + 1 + 1) := own_ne Rbl.out Hr.out (by decide)
      have nhsr : (.slice a2 hs.length k2 : Value).ownBlock ≠ some (w.heap.size + 1 + 1 + 1) := own_ne Rhs.out Hr.out (by decide)
      rw [holds_self Hr.out]
      go_wp2
      refine bodyPost_ret (v := .tuple #[.agg #[.int .i64 cp, .slice a1 bl.length k1, .slice a2 hs.length k2], .string ⟨#[]⟩, .bool false]) (by simp [results, Try.results17, go_sem, ↓IntWalk.iteOmega, *]) rfl ⟨_, _, _, _, rfl, own_slP (B := w.heap.size) (by repeat (first | exact Rbl.out | (with_reducible refine own_alloc ?_) | (with_reducible refine own_plus ?_) | (with_reducible refine own_holds ?_ ?_) | assumption)), own_slH (B := w.heap.size) (by repeat (first | exact Rhs.out | (with_reducible refine own_alloc ?_) | (with_reducible refine own_plus ?_) | (with_reducible refine own_holds ?_ ?_) | assumption)), (by
        have hHB := HB.out
        repeat (first | (with_reducible exact Below.refl _ _) | (with_reducible assumption) | (with_reducible refine below_to_plus ?_ ?_ _) | (with_reducible refine below_holds ?_ ?_ _ _) | (with_reducible refine Below.alloc ?_ ?_ _) | (with_reducible refine Below.drew ?_) | (with_reducible refine below_drewN ?_ _) | (with_reducible refine Below.setCell ?_ ?_ _))
        all_goals first | omega | (simp; done) | (simp [go_sem]; done) | (simp [go_sem]; omega))⟩

set_option maxHeartbeats 16000000 in
theorem get_end (cp : Int) (ao : Option Addr) (n c1 : Nat) (ao2 : Option Addr) (n2 c2 : Nat) (bl : List Pc) (hs : List Hd) (id at' cnt now : Int) (w : World) (h1 : Sl w 4 ao n c1 (bl.map Pc.enc)) (h2 : Sl w 3 ao2 n2 c2 (hs.map Hd.enc)) (hn : n ≤ 1000000) (hn2 : n2 ≤ 1000000) (ha : AscH hs) (hh : heldB id now hs = true) (h0 : 0 ≤ at') (hc : 0 ≤ cnt) {k : Nat} (hk : k < bl.length) (he : endI id bl = (k : Int)) (hp : bl[k]!.pos ≤ at') :
    Calls Try.prog 17 #[.agg #[.int .i64 cp, .slice ao n c1, .slice ao2 n2 c2], .int .i64 id, .int .i64 at', .int .i64 cnt, .int .i64 now] w fun e w' => GetPost w cp hs (useL k bl, ⟨#[]⟩, true) e w' := by
  have hln : bl.length = n := Sl.lenE h1
  have hln2 : hs.length = n2 := Sl.lenE h2
  subst hln
  subst hln2
  have S1 : Aside (Sl w 4 ao bl.length c1 (bl.map Pc.enc)) := h1
  have S2 : Aside (Sl w 3 ao2 hs.length c2 (hs.map Hd.enc)) := h2
  have hb0 : Below w.heap.size w ((((w.alloc (.cells #[.int .i64 cp, .slice ao bl.length c1, .slice ao2 hs.length c2] 25)).alloc (.cells #[.int .i64 id] 3)).alloc (.cells #[.int .i64 at'] 3)).alloc (.cells #[.int .i64 0, .slice none 0 0, .slice none 0 0] 25)) := by
    repeat (first | (with_reducible exact Below.refl _ _) | (with_reducible assumption) | (with_reducible refine below_to_plus ?_ ?_ _) | (with_reducible refine below_holds ?_ ?_ _ _) | (with_reducible refine Below.alloc ?_ ?_ _) | (with_reducible refine Below.drew ?_) | (with_reducible refine below_drewN ?_ _) | (with_reducible refine Below.setCell ?_ ?_ _))
    all_goals first | omega | (simp; done) | (simp [go_sem]; done) | (simp [go_sem]; omega)
  have HB : Aside (Below w.heap.size w ((((w.alloc (.cells #[.int .i64 cp, .slice ao bl.length c1, .slice ao2 hs.length c2] 25)).alloc (.cells #[.int .i64 id] 3)).alloc (.cells #[.int .i64 at'] 3)).alloc (.cells #[.int .i64 0, .slice none 0 0, .slice none 0 0] 25))) := hb0
  have Hc : Aside (((((w.alloc (.cells #[.int .i64 cp, .slice ao bl.length c1, .slice ao2 hs.length c2] 25)).alloc (.cells #[.int .i64 id] 3)).alloc (.cells #[.int .i64 at'] 3)).alloc (.cells #[.int .i64 0, .slice none 0 0, .slice none 0 0] 25)).heap[w.heap.size]? = some (.cells #[.int .i64 cp, .slice ao bl.length c1, .slice ao2 hs.length c2] 25 (0, 0))) := by repeat (first | exact hp_new (by first | rfl | (simp; done) | (simp; omega)) | refine hp_old ?_)
  have Hi : Aside (((((w.alloc (.cells #[.int .i64 cp, .slice ao bl.length c1, .slice ao2 hs.length c2] 25)).alloc (.cells #[.int .i64 id] 3)).alloc (.cells #[.int .i64 at'] 3)).alloc (.cells #[.int .i64 0, .slice none 0 0, .slice none 0 0] 25)).heap[w.heap.size + 1]? = some (.cells #[.int .i64 id] 3 (0, 0))) := by repeat (first | exact hp_new (by first | rfl | (simp; done) | (simp; omega)) | refine hp_old ?_)
  have Ht : Aside (((((w.alloc (.cells #[.int .i64 cp, .slice ao bl.length c1, .slice ao2 hs.length c2] 25)).alloc (.cells #[.int .i64 id] 3)).alloc (.cells #[.int .i64 at'] 3)).alloc (.cells #[.int .i64 0, .slice none 0 0, .slice none 0 0] 25)).heap[w.heap.size + 1 + 1]? = some (.cells #[.int .i64 at'] 3 (0, 0))) := by repeat (first | exact hp_new (by first | rfl | (simp; done) | (simp; omega)) | refine hp_old ?_)
  have Hr : Aside (((((w.alloc (.cells #[.int .i64 cp, .slice ao bl.length c1, .slice ao2 hs.length c2] 25)).alloc (.cells #[.int .i64 id] 3)).alloc (.cells #[.int .i64 at'] 3)).alloc (.cells #[.int .i64 0, .slice none 0 0, .slice none 0 0] 25)).heap[w.heap.size + 1 + 1 + 1]? = some (.cells #[.int .i64 0, .slice none 0 0, .slice none 0 0] 25 (0, 0))) := by repeat (first | exact hp_new (by first | rfl | (simp; done) | (simp; omega)) | refine hp_old ?_)
  have ck := held_calls cp ao bl.length c1 ao2 hs.length c2 hs id now ((((w.alloc (.cells #[.int .i64 cp, .slice ao bl.length c1, .slice ao2 hs.length c2] 25)).alloc (.cells #[.int .i64 id] 3)).alloc (.cells #[.int .i64 at'] 3)).alloc (.cells #[.int .i64 0, .slice none 0 0, .slice none 0 0] 25)) (h2.stays hb0) hn2 ha
  rw [hh] at ck
  have ce := fun U hU => end_calls cp ao bl.length c1 ao2 hs.length c2 bl id U (S1.out.stays hU)
  rw [he] at ce
  have x0 : ¬ at' < 0 := by omega
  have xc : ¬ cnt < 0 := by omega
  have hbig : bl.length ≤ 9223372036854775807 := by omega
  obtain ⟨b, off, eao, hbw, e0, e1, e2, e3⟩ := (cellsPc h1) k hk
  subst eao
  have hkz : (k : Int) < (bl.length : Int) := by omega
  have hpd : decide (bl[k]!.pos ≤ at') = true := decide_eq_true hp
  have cu := fun U hU => use_calls cp (some ⟨b, off, none⟩) bl.length c1 ao2 hs.length c2 bl hs k U (S1.out.stays hU) (S2.out.stays hU) hn hn2 hk
  obtain ⟨ul, hul⟩ : ∃ ul, useL k bl = ul := ⟨_, rfl⟩
  rw [hul] at cu ⊢
  clear hul h1 h2 hh he hp
  generalize bl[k]! = z at e0 e1 e2 e3 hpd
  obtain ⟨z1, z2, z3, z4⟩ := z
  simp only [] at e0 e1 e2 e3 hpd
  go_enter Try.func17, Try.ntmps17
  go_wp2_with fail
  refine (ck).mono ?_
  rintro e u56 ⟨rfl, hb⟩
  have Hc' : Aside (u56.heap[w.heap.size]? = some (.cells #[.int .i64 cp, .slice (some ⟨b, off, none⟩) bl.length c1, .slice ao2 hs.length c2] 25 (0, 0))) := heap_later (by repeat (first | exact Hc.out | exact Hi.out | exact Ht.out | exact Hr.out | exact hp_new (by first | rfl | (simp [size_plus, size_holds]; done) | (simp [size_plus, size_holds]; omega)) | (with_reducible refine hp_old ?_) | (with_reducible refine hp_plus ?_) | (with_reducible refine hh_eq (by first | assumption | (simp only [size_holds]; assumption))) | (with_reducible refine hh_ne (by omega) ?_))) hb
  have Hi' : Aside (u56.heap[w.heap.size + 1]? = some (.cells #[.int .i64 id] 3 (0, 0))) := heap_later (by repeat (first | exact Hc.out | exact Hi.out | exact Ht.out | exact Hr.out | exact hp_new (by first | rfl | (simp [size_plus, size_holds]; done) | (simp [size_plus, size_holds]; omega)) | (with_reducible refine hp_old ?_) | (with_reducible refine hp_plus ?_) | (with_reducible refine hh_eq (by first | assumption | (simp only [size_holds]; assumption))) | (with_reducible refine hh_ne (by omega) ?_))) hb
  have Ht' : Aside (u56.heap[w.heap.size + 1 + 1]? = some (.cells #[.int .i64 at'] 3 (0, 0))) := heap_later (by repeat (first | exact Hc.out | exact Hi.out | exact Ht.out | exact Hr.out | exact hp_new (by first | rfl | (simp [size_plus, size_holds]; done) | (simp [size_plus, size_holds]; omega)) | (with_reducible refine hp_old ?_) | (with_reducible refine hp_plus ?_) | (with_reducible refine hh_eq (by first | assumption | (simp only [size_holds]; assumption))) | (with_reducible refine hh_ne (by omega) ?_))) hb
  have Hr' : Aside (u56.heap[w.heap.size + 1 + 1 + 1]? = some (.cells #[.int .i64 0, .slice none 0 0, .slice none 0 0] 25 (0, 0))) := heap_later (by repeat (first | exact Hc.out | exact Hi.out | exact Ht.out | exact Hr.out | exact hp_new (by first | rfl | (simp [size_plus, size_holds]; done) | (simp [size_plus, size_holds]; omega)) | (with_reducible refine hp_old ?_) | (with_reducible refine hp_plus ?_) | (with_reducible refine hh_eq (by first | assumption | (simp only [size_holds]; assumption))) | (with_reducible refine hh_ne (by omega) ?_))) hb
  have HB' : Aside (Below w.heap.size w u56) := below_step (by
    have hHB := HB.out
    repeat (first | (with_reducible exact Below.refl _ _) | (with_reducible assumption) | (with_reducible refine below_to_plus ?_ ?_ _) | (with_reducible refine below_holds ?_ ?_ _ _) | (with_reducible refine Below.alloc ?_ ?_ _) | (with_reducible refine Below.drew ?_) | (with_reducible refine below_drewN ?_ _) | (with_reducible refine Below.setCell ?_ ?_ _))
    all_goals first | omega | (simp; done) | (simp [go_sem]; done) | (simp [go_sem]; omega)) hb
  clear Hc Hi Ht Hr HB hb ck hb0
  have Hc := Hc'
  clear Hc'
  have Hi := Hi'
  clear Hi'
  have Ht := Ht'
  clear Ht'
  have Hr := Hr'
  clear Hr'
  have HB := HB'
  clear HB'
  have bc0 := cell_heap Hc.out 0 _ rfl
  have bc1 := cell_heap Hc.out 1 _ rfl
  have bc2 := cell_heap Hc.out 2 _ rfl
  have ltc : w.heap.size < u56.heap.size := (Array.getElem?_eq_some_iff.1 Hc.out).1
  have bi0 := cell_heap Hi.out 0 _ rfl
  have lti : w.heap.size + 1 < u56.heap.size := (Array.getElem?_eq_some_iff.1 Hi.out).1
  have bt0 := cell_heap Ht.out 0 _ rfl
  have ltt : w.heap.size + 1 + 1 < u56.heap.size := (Array.getElem?_eq_some_iff.1 Ht.out).1
  go_wp2_with fail
  refine (ce _ HB.out).mono ?_
  rintro e u57 ⟨rfl, hb⟩
  have Hc' : Aside (u57.heap[w.heap.size]? = some (.cells #[.int .i64 cp, .slice (some ⟨b, off, none⟩) bl.length c1, .slice ao2 hs.length c2] 25 (0, 0))) := heap_later (by repeat (first | exact Hc.out | exact Hi.out | exact Ht.out | exact Hr.out | exact hp_new (by first | rfl | (simp [size_plus, size_holds]; done) | (simp [size_plus, size_holds]; omega)) | (with_reducible refine hp_old ?_) | (with_reducible refine hp_plus ?_) | (with_reducible refine hh_eq (by first | assumption | (simp only [size_holds]; assumption))) | (with_reducible refine hh_ne (by omega) ?_))) hb
  have Hi' : Aside (u57.heap[w.heap.size + 1]? = some (.cells #[.int .i64 id] 3 (0, 0))) := heap_later (by repeat (first | exact Hc.out | exact Hi.out | exact Ht.out | exact Hr.out | exact hp_new (by first | rfl | (simp [size_plus, size_holds]; done) | (simp [size_plus, size_holds]; omega)) | (with_reducible refine hp_old ?_) | (with_reducible refine hp_plus ?_) | (with_reducible refine hh_eq (by first | assumption | (simp only [size_holds]; assumption))) | (with_reducible refine hh_ne (by omega) ?_))) hb
  have Ht' : Aside (u57.heap[w.heap.size + 1 + 1]? = some (.cells #[.int .i64 at'] 3 (0, 0))) := heap_later (by repeat (first | exact Hc.out | exact Hi.out | exact Ht.out | exact Hr.out | exact hp_new (by first | rfl | (simp [size_plus, size_holds]; done) | (simp [size_plus, size_holds]; omega)) | (with_reducible refine hp_old ?_) | (with_reducible refine hp_plus ?_) | (with_reducible refine hh_eq (by first | assumption | (simp only [size_holds]; assumption))) | (with_reducible refine hh_ne (by omega) ?_))) hb
  have Hr' : Aside (u57.heap[w.heap.size + 1 + 1 + 1]? = some (.cells #[.int .i64 0, .slice none 0 0, .slice none 0 0] 25 (0, 0))) := heap_later (by repeat (first | exact Hc.out | exact Hi.out | exact Ht.out | exact Hr.out | exact hp_new (by first | rfl | (simp [size_plus, size_holds]; done) | (simp [size_plus, size_holds]; omega)) | (with_reducible refine hp_old ?_) | (with_reducible refine hp_plus ?_) | (with_reducible refine hh_eq (by first | assumption | (simp only [size_holds]; assumption))) | (with_reducible refine hh_ne (by omega) ?_))) hb
  have HB' : Aside (Below w.heap.size w u57) := below_step (by
    have hHB := HB.out
    repeat (first | (with_reducible exact Below.refl _ _) | (with_reducible assumption) | (with_reducible refine below_to_plus ?_ ?_ _) | (with_reducible refine below_holds ?_ ?_ _ _) | (with_reducible refine Below.alloc ?_ ?_ _) | (with_reducible refine Below.drew ?_) | (with_reducible refine below_drewN ?_ _) | (with_reducible refine Below.setCell ?_ ?_ _))
    all_goals first | omega | (simp; done) | (simp [go_sem]; done) | (simp [go_sem]; omega)) hb
  clear Hc Hi Ht Hr HB hb ce bc0 bc1 bc2 bi0 bt0 ltc lti ltt
  have Hc := Hc'
  clear Hc'
  have Hi := Hi'
  clear Hi'
  have Ht := Ht'
  clear Ht'
  have Hr := Hr'
  clear Hr'
  have HB := HB'
  clear HB'
  have bc0 := cell_heap Hc.out 0 _ rfl
  have bc1 := cell_heap Hc.out 1 _ rfl
  have bc2 := cell_heap Hc.out 2 _ rfl
  have ltc : w.heap.size < u57.heap.size := (Array.getElem?_eq_some_iff.1 Hc.out).1
  have bi0 := cell_heap Hi.out 0 _ rfl
  have lti : w.heap.size + 1 < u57.heap.size := (Array.getElem?_eq_some_iff.1 Hi.out).1
  have bt0 := cell_heap Ht.out 0 _ rfl
  have ltt : w.heap.size + 1 + 1 < u57.heap.size := (Array.getElem?_eq_some_iff.1 Ht.out).1
  have m0 := (HB.out.cell (p := ⟨b, off + k * 4, none⟩) hbw).trans e0
  have m1 := (HB.out.cell (p := ⟨b, off + k * 4 + 1, none⟩) hbw).trans e1
  have m2 := (HB.out.cell (p := ⟨b, off + k * 4 + 2, none⟩) hbw).trans e2
  have m3 := (HB.out.cell (p := ⟨b, off + k * 4 + 3, none⟩) hbw).trans e3
  have hbr : b < u57.heap.size := Nat.lt_of_lt_of_le hbw HB.out.size
  go_wp2
  refine wp_region_plus (by kernel_rfl) (by kernel_rfl) ?_
  repeat (go_big_quiet_step (fail))
  refine wpQuiet_nil ?_
  rintro _ ⟨x1, rfl⟩
  go_wp2_with fail
  refine (cu _ (by
    have hHB := HB.out
    repeat (first | (with_reducible exact Below.refl _ _) | (with_reducible assumption) | (with_reducible refine below_to_plus ?_ ?_ _) | (with_reducible refine below_holds ?_ ?_ _ _) | (with_reducible refine Below.alloc ?_ ?_ _) | (with_reducible refine Below.drew ?_) | (with_reducible refine below_drewN ?_ _) | (with_reducible refine Below.setCell ?_ ?_ _))
    all_goals first | omega | (simp; done) | (simp [go_sem]; done) | (simp [go_sem]; omega))).mono ?_
  rintro e u58 ⟨a1, k1, a2, k2, rfl, o1, o2, hb⟩
  have Hr' : Aside (u58.heap[w.heap.size + 1 + 1 + 1]? = some (.cells #[.int .i64 0, .slice none 0 0, .slice none 0 0] 25 (0, 0))) := heap_later (by repeat (first | exact Hc.out | exact Hi.out | exact Ht.out | exact Hr.out | exact hp_new (by first | rfl | (simp [size_plus, size_holds]; done) | (simp [size_plus, size_holds]; omega)) | (with_reducible refine hp_old ?_) | (with_reducible refine hp_plus ?_) | (with_reducible refine hh_eq (by first | assumption | (simp only [size_holds]; assumption))) | (with_reducible refine hh_ne (by omega) ?_))) hb
  have Rbl' : Aside (u58.ownsRow w.heap.size 47 4 (.slice a1 ul.length k1) ul.length (flatE Pc.enc ul)) := own_lower o1 (by have := HB.out.size; simp only [size_plus]; omega)
  have Rhs' : Aside (u58.ownsRow w.heap.size 36 3 (.slice a2 hs.length k2) hs.length (flatE Hd.enc hs)) := own_lower o2 (by have := HB.out.size; simp only [size_plus]; omega)
  have HB' : Aside (Below w.heap.size w u58) := below_step (by
    have hHB := HB.out
    repeat (first | (with_reducible exact Below.refl _ _) | (with_reducible assumption) | (with_reducible refine below_to_plus ?_ ?_ _) | (with_reducible refine below_holds ?_ ?_ _ _) | (with_reducible refine Below.alloc ?_ ?_ _) | (with_reducible refine Below.drew ?_) | (with_reducible refine below_drewN ?_ _) | (with_reducible refine Below.setCell ?_ ?_ _))
    all_goals first | omega | (simp; done) | (simp [go_sem]; done) | (simp [go_sem]; omega)) hb
  clear Hc Hi Ht Hr HB hb cu o1 o2 bc0 bc1 bc2 bi0 bt0 ltc lti ltt m0 m1 m2 m3 hbr
  have Hr := Hr'
  clear Hr'
  have Rbl := Rbl'
  clear Rbl'
  have Rhs := Rhs'
  clear Rhs'
  have HB := HB'
  clear HB'
  have ltr : w.heap.size + 1 + 1 + 1 < u58.heap.size := (Array.getElem?_eq_some_iff.1 Hr.out).1
  have nblr : (.slice a1 ul.length k1 : Value).ownBlock ≠ some (w.heap.size + 1 + 1 + 1) := own_ne Rbl.out Hr.out (by decide)
  have nhsr : (.slice a2 hs.length k2 : Value).ownBlock ≠ some (w.heap.size + 1 + 1 + 1) := own_ne Rhs.out Hr.out (by decide)
  rw [holds_self Hr.out]
  go_wp2
  refine bodyPost_ret (v := .tuple #[.agg #[.int .i64 cp, .slice a1 ul.length k1, .slice a2 hs.length k2], .string ⟨#[]⟩, .bool true]) (by simp [results, Try.results17, go_sem, ↓IntWalk.iteOmega, *]) rfl ⟨_, _, _, _, rfl, own_slP (B := w.heap.size) (by repeat (first | exact Rbl.out | (with_reducible refine own_alloc ?_) | (with_reducible refine own_plus ?_) | (with_reducible refine own_holds ?_ ?_) | assumption)), own_slH (B := w.heap.size) (by repeat (first | exact Rhs.out | (with_reducible refine own_alloc ?_) | (with_reducible refine own_plus ?_) | (with_reducible refine own_holds ?_ ?_) | assumption)), (by
    have hHB := HB.out
    repeat (first | (with_reducible exact Below.refl _ _) | (with_reducible assumption) | (with_reducible refine below_to_plus ?_ ?_ _) | (with_reducible refine below_holds ?_ ?_ _ _) | (with_reducible refine Below.alloc ?_ ?_ _) | (with_reducible refine Below.drew ?_) | (with_reducible refine below_drewN ?_ _) | (with_reducible refine Below.setCell ?_ ?_ _))
    all_goals first | omega | (simp; done) | (simp [go_sem]; done) | (simp [go_sem]; omega))⟩

end Go.Proofs.Ytcgajlobbjoefaa
