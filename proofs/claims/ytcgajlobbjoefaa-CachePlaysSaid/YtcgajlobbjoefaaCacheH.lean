/- This text proves the walks of Drop and use of package cache. Conditions: those that each theorem names. -/
import Derived.Test.YtcgajlobbjoefaaCacheG
namespace Go.Proofs.Ytcgajlobbjoefaa
open Go.ChangeShapes Go.WideShapes Go.ChangeAt Go.RowKit
set_option linter.unusedVariables false
set_option linter.unusedSimpArgs false

set_option maxHeartbeats 8000000 in
theorem drop_calls (cp : Int) (ao : Option Addr) (n c1 : Nat) (ao2 : Option Addr) (n2 c2 : Nat) (bl : List Pc) (hs : List Hd) (id : Int) (w : World) (h1 : Sl w 4 ao n c1 (bl.map Pc.enc)) (h2 : Sl w 3 ao2 n2 c2 (hs.map Hd.enc)) (hn : n ≤ 1000000) (hn2 : n2 ≤ 1000000) :
    Calls Try.prog 23 #[.agg #[.int .i64 cp, .slice ao n c1, .slice ao2 n2 c2], .int .i64 id] w fun e w' => CopPost w cp (bl.filter fun y => !decide (y.pid = id)) hs e w' := by
  have hb0 : Below w.heap.size w ((w.alloc (.cells #[.int .i64 cp, .slice ao n c1, .slice ao2 n2 c2] 25)).alloc (.cells #[.int .i64 0, .slice none 0 0, .slice none 0 0] 25)) := by
    repeat (first | (with_reducible exact Below.refl _ _) | (with_reducible assumption) | (with_reducible refine below_to_plus ?_ ?_ _) | (with_reducible refine below_holds ?_ ?_ _ _) | (with_reducible refine Below.alloc ?_ ?_ _) | (with_reducible refine Below.drew ?_) | (with_reducible refine below_drewN ?_ _) | (with_reducible refine Below.setCell ?_ ?_ _))
    all_goals first | omega | (simp; done) | (simp [go_sem]; done) | (simp [go_sem]; omega)
  have HB : Aside (Below w.heap.size w ((w.alloc (.cells #[.int .i64 cp, .slice ao n c1, .slice ao2 n2 c2] 25)).alloc (.cells #[.int .i64 0, .slice none 0 0, .slice none 0 0] 25))) := hb0
  have Hc : Aside (((w.alloc (.cells #[.int .i64 cp, .slice ao n c1, .slice ao2 n2 c2] 25)).alloc (.cells #[.int .i64 0, .slice none 0 0, .slice none 0 0] 25)).heap[w.heap.size]? = some (.cells #[.int .i64 cp, .slice ao n c1, .slice ao2 n2 c2] 25 (0, 0))) := by repeat (first | exact hp_new (by first | rfl | (simp; done) | (simp; omega)) | refine hp_old ?_)
  have Hr : Aside (((w.alloc (.cells #[.int .i64 cp, .slice ao n c1, .slice ao2 n2 c2] 25)).alloc (.cells #[.int .i64 0, .slice none 0 0, .slice none 0 0] 25)).heap[w.heap.size + 1]? = some (.cells #[.int .i64 0, .slice none 0 0, .slice none 0 0] 25 (0, 0))) := by repeat (first | exact hp_new (by first | rfl | (simp; done) | (simp; omega)) | refine hp_old ?_)
  have ck := without_calls cp ao n c1 ao2 n2 c2 bl hs id ((w.alloc (.cells #[.int .i64 cp, .slice ao n c1, .slice ao2 n2 c2] 25)).alloc (.cells #[.int .i64 0, .slice none 0 0, .slice none 0 0] 25)) (h1.stays hb0) (h2.stays hb0) hn hn2
  clear h1 h2
  obtain ⟨fl, hfl⟩ : ∃ fl, (bl.filter fun y => !decide (y.pid = id)) = fl := ⟨_, rfl⟩
  rw [hfl] at ck ⊢
  clear hfl
  go_enter Try.func23, Try.ntmps23
  go_wp2_with fail
  refine (ck).mono ?_
  rintro e u4 ⟨a1, k1, a2, k2, rfl, o1, o2, hb⟩
  have Hr' : Aside (u4.heap[w.heap.size + 1]? = some (.cells #[.int .i64 0, .slice none 0 0, .slice none 0 0] 25 (0, 0))) := heap_later (by repeat (first | exact Hc.out | exact Hr.out | exact hp_new (by first | rfl | (simp [size_plus, size_holds]; done) | (simp [size_plus, size_holds]; omega)) | (with_reducible refine hp_old ?_) | (with_reducible refine hp_plus ?_) | (with_reducible refine hh_eq (by first | assumption | (simp only [size_holds]; assumption))) | (with_reducible refine hh_ne (by omega) ?_))) hb
  have Rbl' : Aside (u4.ownsRow w.heap.size 47 4 (.slice a1 fl.length k1) fl.length (flatE Pc.enc fl)) := own_lower o1 (by simp; omega)
  have Rhs' : Aside (u4.ownsRow w.heap.size 36 3 (.slice a2 hs.length k2) hs.length (flatE Hd.enc hs)) := own_lower o2 (by simp; omega)
  have HB' : Aside (Below w.heap.size w u4) := below_step (by
    have hHB := HB.out
    repeat (first | (with_reducible exact Below.refl _ _) | (with_reducible assumption) | (with_reducible refine below_to_plus ?_ ?_ _) | (with_reducible refine below_holds ?_ ?_ _ _) | (with_reducible refine Below.alloc ?_ ?_ _) | (with_reducible refine Below.drew ?_) | (with_reducible refine below_drewN ?_ _) | (with_reducible refine Below.setCell ?_ ?_ _))
    all_goals first | omega | (simp; done) | (simp [go_sem]; done) | (simp [go_sem]; omega)) hb
  clear Hc Hr HB hb ck o1 o2 hb0
  have Hr := Hr'
  clear Hr'
  have Rbl := Rbl'
  clear Rbl'
  have Rhs := Rhs'
  clear Rhs'
  have HB := HB'
  clear HB'
  have ltr : w.heap.size + 1 < u4.heap.size := (Array.getElem?_eq_some_iff.1 Hr.out).1
  have nblr : (.slice a1 fl.length k1 : Value).ownBlock ≠ some (w.heap.size + 1) := own_ne Rbl.out Hr.out (by decide)
  have nhsr : (.slice a2 hs.length k2 : Value).ownBlock ≠ some (w.heap.size + 1) := own_ne Rhs.out Hr.out (by decide)
  rw [holds_self Hr.out]
  go_wp2
  refine bodyPost_ret (v := .agg #[.int .i64 cp, .slice a1 fl.length k1, .slice a2 hs.length k2]) (by simp [results, Try.results23, go_sem, ↓IntWalk.iteOmega, *]) rfl ⟨_, _, _, _, rfl, (by repeat (first | exact Rbl.out | (with_reducible refine own_alloc ?_) | (with_reducible refine own_plus ?_) | (with_reducible refine own_holds ?_ ?_) | assumption)), (by repeat (first | exact Rhs.out | (with_reducible refine own_alloc ?_) | (with_reducible refine own_plus ?_) | (with_reducible refine own_holds ?_ ?_) | assumption)), (by
    have hHB := HB.out
    repeat (first | (with_reducible exact Below.refl _ _) | (with_reducible assumption) | (with_reducible refine below_to_plus ?_ ?_ _) | (with_reducible refine below_holds ?_ ?_ _ _) | (with_reducible refine Below.alloc ?_ ?_ _) | (with_reducible refine Below.drew ?_) | (with_reducible refine below_drewN ?_ _) | (with_reducible refine Below.setCell ?_ ?_ _))
    all_goals first | omega | (simp; done) | (simp [go_sem]; done) | (simp [go_sem]; omega))⟩

/-- The list with its element k moved to the end. -/
def useL (k : Nat) (bl : List Pc) : List Pc := (bl.take k ++ bl.drop (k + 1)) ++ [bl[k]!]
theorem useL_len {k : Nat} {bl : List Pc} (hk : k < bl.length) : (useL k bl).length = bl.length := by simp [useL]; omega
set_option maxHeartbeats 8000000 in
theorem use_calls (cp : Int) (ao : Option Addr) (n c1 : Nat) (ao2 : Option Addr) (n2 c2 : Nat) (bl : List Pc) (hs : List Hd) (i : Nat) (w : World) (h1 : Sl w 4 ao n c1 (bl.map Pc.enc)) (h2 : Sl w 3 ao2 n2 c2 (hs.map Hd.enc)) (hn : n ≤ 1000000) (hn2 : n2 ≤ 1000000) (hi : i < n) :
    Calls Try.prog 34 #[.agg #[.int .i64 cp, .slice ao n c1, .slice ao2 n2 c2], .int .i64 (i : Int)] w fun e w' => CopPost w cp (useL i bl) hs e w' := by
  obtain ⟨i0, hi0, hz0, hs0, hb0'⟩ := pcInfo
  have hb0 := hb0'
  clear hb0'
  have hbyte := hb0
  clear hb0
  have hb0 : Below w.heap.size w ((w.alloc (.cells #[.int .i64 cp, .slice ao n c1, .slice ao2 n2 c2] 25)).alloc (.cells #[.int .i64 0, .slice none 0 0, .slice none 0 0] 25)) := by
    repeat (first | (with_reducible exact Below.refl _ _) | (with_reducible assumption) | (with_reducible refine below_to_plus ?_ ?_ _) | (with_reducible refine below_holds ?_ ?_ _ _) | (with_reducible refine Below.alloc ?_ ?_ _) | (with_reducible refine Below.drew ?_) | (with_reducible refine below_drewN ?_ _) | (with_reducible refine Below.setCell ?_ ?_ _))
    all_goals first | omega | (simp; done) | (simp [go_sem]; done) | (simp [go_sem]; omega)
  have HB : Aside (Below w.heap.size w ((w.alloc (.cells #[.int .i64 cp, .slice ao n c1, .slice ao2 n2 c2] 25)).alloc (.cells #[.int .i64 0, .slice none 0 0, .slice none 0 0] 25))) := hb0
  have Hc : Aside (((w.alloc (.cells #[.int .i64 cp, .slice ao n c1, .slice ao2 n2 c2] 25)).alloc (.cells #[.int .i64 0, .slice none 0 0, .slice none 0 0] 25)).heap[w.heap.size]? = some (.cells #[.int .i64 cp, .slice ao n c1, .slice ao2 n2 c2] 25 (0, 0))) := by repeat (first | exact hp_new (by first | rfl | (simp; done) | (simp; omega)) | refine hp_old ?_)
  have Hr : Aside (((w.alloc (.cells #[.int .i64 cp, .slice ao n c1, .slice ao2 n2 c2] 25)).alloc (.cells #[.int .i64 0, .slice none 0 0, .slice none 0 0] 25)).heap[w.heap.size + 1]? = some (.cells #[.int .i64 0, .slice none 0 0, .slice none 0 0] 25 (0, 0))) := by repeat (first | exact hp_new (by first | rfl | (simp; done) | (simp; omega)) | refine hp_old ?_)
  have ck := copied_calls cp ao n c1 ao2 n2 c2 bl hs ((w.alloc (.cells #[.int .i64 cp, .slice ao n c1, .slice ao2 n2 c2] 25)).alloc (.cells #[.int .i64 0, .slice none 0 0, .slice none 0 0] 25)) (h1.stays hb0) (h2.stays hb0) hn hn2
  have hln : bl.length = n := Sl.lenE h1
  have hil : i < bl.length := by omega
  have hbn : bl.length ≤ 1000000 := by omega
  have UL : Aside (useL i bl = (bl.take i ++ bl.drop (i + 1)) ++ [bl[i]!]) := rfl
  have UN : Aside ((useL i bl).length = bl.length) := useL_len hil
  obtain ⟨ul, hul⟩ : ∃ ul, useL i bl = ul := ⟨_, rfl⟩
  rw [hul] at UL UN ⊢
  clear hul h1 h2
  subst hln
  go_enter Try.func34, Try.ntmps34
  go_wp2_with fail
  refine (ck).mono ?_
  rintro e u5 ⟨a1, k1, a2, k2, rfl, o1, o2, hb⟩
  have Hr' : Aside (u5.heap[w.heap.size + 1]? = some (.cells #[.int .i64 0, .slice none 0 0, .slice none 0 0] 25 (0, 0))) := heap_later (by repeat (first | exact Hc.out | exact Hr.out | exact hp_new (by first | rfl | (simp [size_plus, size_holds]; done) | (simp [size_plus, size_holds]; omega)) | (with_reducible refine hp_old ?_) | (with_reducible refine hp_plus ?_) | (with_reducible refine hh_eq (by first | assumption | (simp only [size_holds]; assumption))) | (with_reducible refine hh_ne (by omega) ?_))) hb
  have Rbl' : Aside (u5.ownsRow w.heap.size 47 4 (.slice a1 bl.length k1) bl.length (flatE Pc.enc bl)) := own_lower o1 (by simp; omega)
  have Rhs' : Aside (u5.ownsRow w.heap.size 36 3 (.slice a2 hs.length k2) hs.length (flatE Hd.enc hs)) := own_lower o2 (by simp; omega)
  have HB' : Aside (Below w.heap.size w u5) := below_step (by
    have hHB := HB.out
    repeat (first | (with_reducible exact Below.refl _ _) | (with_reducible assumption) | (with_reducible refine below_to_plus ?_ ?_ _) | (with_reducible refine below_holds ?_ ?_ _ _) | (with_reducible refine Below.alloc ?_ ?_ _) | (with_reducible refine Below.drew ?_) | (with_reducible refine below_drewN ?_ _) | (with_reducible refine Below.setCell ?_ ?_ _))
    all_goals first | omega | (simp; done) | (simp [go_sem]; done) | (simp [go_sem]; omega)) hb
  clear Hc Hr HB hb ck o1 o2 hb0
  have Hr := Hr'
  clear Hr'
  have Rbl := Rbl'
  clear Rbl'
  have Rhs := Rhs'
  clear Rhs'
  have HB := HB'
  clear HB'
  have hb0 := hbyte
  obtain ⟨gb, go, ea, hgb, q0, q1, q2, q3⟩ := (cellsPc (let ⟨_, _, hv, h⟩ := ownE_sl pc_len (by omega) Rbl.out; by cases hv; exact h)) i hil
  subst ea
  have hiz : (i : Int) < (bl.length : Int) := by omega
  have hbig : bl.length ≤ 9223372036854775807 := by omega
  generalize bl[i]! = y at q0 q1 q2 q3 UL
  obtain ⟨y1, y2, y3, y4⟩ := y
  simp only [] at q0 q1 q2 q3
  have oob : w.heap.size + 1 < u5.heap.size := by
    first | exact (Array.getElem?_eq_some_iff.1 Hr.out).1 | omega
  have Ho' : Aside (((u5.alloc (.cells #[.int .i64 cp, .slice (some ⟨gb, go, none⟩) bl.length k1, .slice a2 hs.length k2] 25)).alloc (.cells #[.int .i64 y1, .int .i64 y2, .int .i64 y3, .string y4] 47)).heap[u5.heap.size]? = some (.cells #[.int .i64 cp, .slice (some ⟨gb, go, none⟩) bl.length k1, .slice a2 hs.length k2] 25 (0, 0))) := hp_old (hp_new (by simp))
  have Hp' : Aside (((u5.alloc (.cells #[.int .i64 cp, .slice (some ⟨gb, go, none⟩) bl.length k1, .slice a2 hs.length k2] 25)).alloc (.cells #[.int .i64 y1, .int .i64 y2, .int .i64 y3, .string y4] 47)).heap[u5.heap.size + 1]? = some (.cells #[.int .i64 y1, .int .i64 y2, .int .i64 y3, .string y4] 47 (0, 0))) := hp_new (by simp)
  have Hr' : Aside (((u5.alloc (.cells #[.int .i64 cp, .slice (some ⟨gb, go, none⟩) bl.length k1, .slice a2 hs.length k2] 25)).alloc (.cells #[.int .i64 y1, .int .i64 y2, .int .i64 y3, .string y4] 47)).heap[w.heap.size + 1]? = some (.cells #[.int .i64 0, .slice none 0 0, .slice none 0 0] 25 (0, 0))) := hp_old (hp_old (Hr.out))
  have Rbl' : Aside (((u5.alloc (.cells #[.int .i64 cp, .slice (some ⟨gb, go, none⟩) bl.length k1, .slice a2 hs.length k2] 25)).alloc (.cells #[.int .i64 y1, .int .i64 y2, .int .i64 y3, .string y4] 47)).ownsRow w.heap.size 47 4 (.slice (some ⟨gb, go, none⟩) bl.length k1) bl.length (flatE Pc.enc bl)) := own_alloc (own_alloc (Rbl.out))
  have Rhs' : Aside (((u5.alloc (.cells #[.int .i64 cp, .slice (some ⟨gb, go, none⟩) bl.length k1, .slice a2 hs.length k2] 25)).alloc (.cells #[.int .i64 y1, .int .i64 y2, .int .i64 y3, .string y4] 47)).ownsRow w.heap.size 36 3 (.slice a2 hs.length k2) hs.length (flatE Hd.enc hs)) := own_alloc (own_alloc (Rhs.out))
  have HB' : Aside (Below w.heap.size w ((u5.alloc (.cells #[.int .i64 cp, .slice (some ⟨gb, go, none⟩) bl.length k1, .slice a2 hs.length k2] 25)).alloc (.cells #[.int .i64 y1, .int .i64 y2, .int .i64 y3, .string y4] 47))) := by
    show Below _ _ _
    have hHB := HB.out
    have hsz := HB.out.size
    repeat (first | (with_reducible exact Below.refl _ _) | (with_reducible assumption) | (with_reducible refine below_to_plus ?_ ?_ _) | (with_reducible refine below_holds ?_ ?_ _ _) | (with_reducible refine Below.alloc ?_ ?_ _) | (with_reducible refine Below.drew ?_) | (with_reducible refine below_drewN ?_ _) | (with_reducible refine Below.setCell ?_ ?_ _))
    all_goals first | omega | (simp; done) | (simp [go_sem]; done) | (simp [go_sem]; omega)
  clear Hr Rbl Rhs HB
  go_wp2_with fail
  generalize ((u5.alloc (.cells #[.int .i64 cp, .slice (some ⟨gb, go, none⟩) bl.length k1, .slice a2 hs.length k2] 25)).alloc (.cells #[.int .i64 y1, .int .i64 y2, .int .i64 y3, .string y4] 47)) = u6 at Hr' Rbl' Rhs' HB' Ho' Hp' ⊢
  obtain ⟨pb, epb⟩ : ∃ b, u5.heap.size + 1 = b := ⟨_, rfl⟩
  rw [epb] at Hp' ⊢
  obtain ⟨ob, eob⟩ : ∃ b, u5.heap.size = b := ⟨_, rfl⟩
  rw [eob] at Ho' oob ⊢
  have opb : ob < pb := by omega
  have Hr := Hr'
  clear Hr'
  have Ho := Ho'
  clear Ho'
  have Hp := Hp'
  clear Hp'
  have Rbl := Rbl'
  clear Rbl'
  have Rhs := Rhs'
  clear Rhs'
  have HB := HB'
  clear HB'
  clear q0 q1 q2 q3
  have hg0 : ∀ k, (Value.slice (some ⟨gb, go, none⟩) bl.length k1).ownBlock = some k → w.heap.size ≤ k := fun k hk => (Rbl.out.lt k hk).1
  have nh := own_ne_own Rhs.out Rbl.out (by decide)
  have nblr : (.slice (some ⟨gb, go, none⟩) bl.length k1 : Value).ownBlock ≠ some (w.heap.size + 1) := own_ne Rbl.out Hr.out (by decide)
  have nblo : (.slice (some ⟨gb, go, none⟩) bl.length k1 : Value).ownBlock ≠ some ob := own_ne Rbl.out Ho.out (by decide)
  have nblp : (Value.slice (some ⟨gb, go, none⟩) bl.length k1).ownBlock ≠ some pb := fun e => by
    have e2 : gb = pb := by simpa [Value.ownBlock] using e
    omega
  refine (pcDelete_calls (.slice (some ⟨gb, go, none⟩) bl.length k1) bl.length i w.heap.size bl _ Rbl.out hil hbn).mono ?_
  rintro e u7 ⟨v', rfl, o1, hg, hv'⟩
  have Hr' : Aside (u7.heap[w.heap.size + 1]? = some (.cells #[.int .i64 0, .slice none 0 0, .slice none 0 0] 25 (0, 0))) := heap_grown hg (by repeat (first | exact Hr.out | exact Ho.out | exact Hp.out | exact hp_new (by first | rfl | (simp [size_plus, size_holds]; done) | (simp [size_plus, size_holds]; omega)) | (with_reducible refine hp_old ?_) | (with_reducible refine hp_plus ?_) | (with_reducible refine hh_eq (by first | assumption | (simp only [size_holds]; assumption))) | (with_reducible refine hh_ne (by omega) ?_))) (by assumption)
  have Ho' : Aside (u7.heap[ob]? = some (.cells #[.int .i64 cp, .slice (some ⟨gb, go, none⟩) bl.length k1, .slice a2 hs.length k2] 25 (0, 0))) := heap_grown hg (by repeat (first | exact Hr.out | exact Ho.out | exact Hp.out | exact hp_new (by first | rfl | (simp [size_plus, size_holds]; done) | (simp [size_plus, size_holds]; omega)) | (with_reducible refine hp_old ?_) | (with_reducible refine hp_plus ?_) | (with_reducible refine hh_eq (by first | assumption | (simp only [size_holds]; assumption))) | (with_reducible refine hh_ne (by omega) ?_))) (by assumption)
  have Hp' : Aside (u7.heap[pb]? = some (.cells #[.int .i64 y1, .int .i64 y2, .int .i64 y3, .string y4] 47 (0, 0))) := heap_grown hg (by repeat (first | exact Hr.out | exact Ho.out | exact Hp.out | exact hp_new (by first | rfl | (simp [size_plus, size_holds]; done) | (simp [size_plus, size_holds]; omega)) | (with_reducible refine hp_old ?_) | (with_reducible refine hp_plus ?_) | (with_reducible refine hh_eq (by first | assumption | (simp only [size_holds]; assumption))) | (with_reducible refine hh_ne (by omega) ?_))) (by assumption)
  have Rhs' : Aside (u7.ownsRow w.heap.size 36 3 (.slice a2 hs.length k2) hs.length (flatE Hd.enc hs)) := World.ownsRow.kept (by repeat (first | exact Rhs.out | (with_reducible refine own_alloc ?_) | (with_reducible refine own_plus ?_) | (with_reducible refine own_holds ?_ ?_) | assumption)) hg (by assumption)
  have Rbl' : Aside (u7.ownsRow w.heap.size 47 4 (v') (bl.length - 1) (flatE Pc.enc (bl.take i ++ bl.drop (i + 1)))) := o1
  have HB' : Aside (Below w.heap.size w u7) := below_grown (by
    have hHB := HB.out
    repeat (first | (with_reducible exact Below.refl _ _) | (with_reducible assumption) | (with_reducible refine below_to_plus ?_ ?_ _) | (with_reducible refine below_holds ?_ ?_ _ _) | (with_reducible refine Below.alloc ?_ ?_ _) | (with_reducible refine Below.drew ?_) | (with_reducible refine below_drewN ?_ _) | (with_reducible refine Below.setCell ?_ ?_ _))
    all_goals first | omega | (simp; done) | (simp [go_sem]; done) | (simp [go_sem]; omega)) hg (by assumption)
  clear Hr Ho Hp Rbl Rhs HB hg nblr nblo o1 nh hg0
  have Hr := Hr'
  clear Hr'
  have Ho := Ho'
  clear Ho'
  have Hp := Hp'
  clear Hp'
  have Rbl := Rbl'
  clear Rbl'
  have Rhs := Rhs'
  clear Rhs'
  have HB := HB'
  clear HB'
  obtain ⟨a3, k3, ev, _⟩ := ownE_sl pc_len (by omega) Rbl.out
  subst ev
  have nblp2 : (Value.slice a3 (bl.length - 1) k3).ownBlock ≠ some pb := by rw [hv']; exact nblp
  have hg0 : ∀ k, (Value.slice a3 (bl.length - 1) k3).ownBlock = some k → w.heap.size ≤ k := fun k hk => (Rbl.out.lt k hk).1
  have nh := own_ne_own Rhs.out Rbl.out (by decide)
  clear nblp hv'
  have ltr : w.heap.size + 1 < u7.heap.size := (Array.getElem?_eq_some_iff.1 Hr.out).1
  have br0 := cell_heap Hr.out 0 _ rfl
  have br1 := cell_heap Hr.out 1 _ rfl
  have br2 := cell_heap Hr.out 2 _ rfl
  have lto : ob < u7.heap.size := (Array.getElem?_eq_some_iff.1 Ho.out).1
  have ltp : pb < u7.heap.size := (Array.getElem?_eq_some_iff.1 Hp.out).1
  have bp0 := cell_heap Hp.out 0 _ rfl
  have bp1 := cell_heap Hp.out 1 _ rfl
  have bp2 := cell_heap Hp.out 2 _ rfl
  have bp3 := cell_heap Hp.out 3 _ rfl
  have nero : ¬ w.heap.size + 1 = ob := by omega
  have neor : ¬ ob = w.heap.size + 1 := by omega
  have nerp : ¬ w.heap.size + 1 = pb := by omega
  have nepr : ¬ pb = w.heap.size + 1 := by omega
  have neop : ¬ ob = pb := by omega
  have nepo : ¬ pb = ob := by omega
  have nblr : (.slice a3 (bl.length - 1) k3 : Value).ownBlock ≠ some (w.heap.size + 1) := own_ne Rbl.out Hr.out (by decide)
  have nblo : (.slice a3 (bl.length - 1) k3 : Value).ownBlock ≠ some ob := own_ne Rbl.out Ho.out (by decide)
  have nhsr : (.slice a2 hs.length k2 : Value).ownBlock ≠ some (w.heap.size + 1) := own_ne Rhs.out Hr.out (by decide)
  have nhso : (.slice a2 hs.length k2 : Value).ownBlock ≠ some ob := own_ne Rhs.out Ho.out (by decide)
  have nhsp : (.slice a2 hs.length k2 : Value).ownBlock ≠ some pb := own_ne Rhs.out Hp.out (by decide)
  rw [holds_self Ho.out]
  have hsz := HB.out.size
  go_wp2_with (at_builtin; refine wpList_append_own _ rfl _ _ 22 rfl w.heap.size 47 i0 _ 4 40 Try.underlying22 hi0 hz0 hs0 hb0 rfl (by omega) (.slice a3 (bl.length - 1) k3) (bl.length - 1) (flatE Pc.enc (bl.take i ++ bl.drop (i + 1))) rfl (own_alloc (by repeat (first | exact Rbl.out | (with_reducible refine own_alloc ?_) | (with_reducible refine own_plus ?_) | (with_reducible refine own_holds ?_ ?_) | assumption))) ⟨u7.heap.size, 0, none⟩ 1 1 [.int .i64 y1, .int .i64 y2, .int .i64 y3, .string y4] rfl rfl (cells_new _ _ _ _ (by first | rfl | simp [size_holds])) (pc_one ⟨y1, y2, y3, y4⟩) (by unfold maxLen; omega) (by omega) (by first | (simp [size_holds]; omega) | omega) ?_)
  intro v' u8 hown' hgrow _
  have Hr' : Aside (u8.heap[w.heap.size + 1]? = some (.cells #[.int .i64 0, .slice none 0 0, .slice none 0 0] 25 (0, 0))) := heap_grown hgrow (hp_old (by repeat (first | exact Hr.out | exact Ho.out | exact Hp.out | exact hp_new (by first | rfl | (simp [size_plus, size_holds]; done) | (simp [size_plus, size_holds]; omega)) | (with_reducible refine hp_old ?_) | (with_reducible refine hp_plus ?_) | (with_reducible refine hh_eq (by first | assumption | (simp only [size_holds]; assumption))) | (with_reducible refine hh_ne (by omega) ?_)))) (by assumption)
  have Ho' : Aside (u8.heap[ob]? = some (.cells #[.int .i64 cp, .slice a3 (bl.length - 1) k3, .slice a2 hs.length k2] 25 (0, 0))) := heap_grown hgrow (hp_old (by repeat (first | exact Hr.out | exact Ho.out | exact Hp.out | exact hp_new (by first | rfl | (simp [size_plus, size_holds]; done) | (simp [size_plus, size_holds]; omega)) | (with_reducible refine hp_old ?_) | (with_reducible refine hp_plus ?_) | (with_reducible refine hh_eq (by first | assumption | (simp only [size_holds]; assumption))) | (with_reducible refine hh_ne (by omega) ?_)))) (by assumption)
  have Rhs' : Aside (u8.ownsRow w.heap.size 36 3 (.slice a2 hs.length k2) hs.length (flatE Hd.enc hs)) := World.ownsRow.kept (own_alloc (by repeat (first | exact Rhs.out | (with_reducible refine own_alloc ?_) | (with_reducible refine own_plus ?_) | (with_reducible refine own_holds ?_ ?_) | assumption))) hgrow (by assumption)
  have Rbl' : Aside (u8.ownsRow w.heap.size 47 4 (v') ((bl.length - 1) + 1) (flatE Pc.enc ((bl.take i ++ bl.drop (i + 1)) ++ [⟨y1, y2, y3, y4⟩]))) := by rw [flatE_snoc]; exact hown'
  have HB' : Aside (Below w.heap.size w u8) := below_grown (by
    have hHB := HB.out
    repeat (first | (with_reducible exact Below.refl _ _) | (with_reducible assumption) | (with_reducible refine below_to_plus ?_ ?_ _) | (with_reducible refine below_holds ?_ ?_ _ _) | (with_reducible refine Below.alloc ?_ ?_ _) | (with_reducible refine Below.drew ?_) | (with_reducible refine below_drewN ?_ _) | (with_reducible refine Below.setCell ?_ ?_ _))
    all_goals first | omega | (simp; done) | (simp [go_sem]; done) | (simp [go_sem]; omega)) hgrow (by assumption)
  clear Hr Ho Hp Rbl Rhs HB ltr lto ltp nero nerp neor neop nepr nepo nblr nblo nhsr nhso nhsp br0 br1 br2 bp0 bp1 bp2 bp3 hgrow hown' hsz
  have Hr := Hr'
  clear Hr'
  have Ho := Ho'
  clear Ho'
  have Rbl := Rbl'
  clear Rbl'
  have Rhs := Rhs'
  clear Rhs'
  have HB := HB'
  clear HB'
  obtain ⟨a5, k5, ev, _⟩ := ownE_sl pc_len (by omega) Rbl.out
  subst ev
  rw [← UL.out] at Rbl
  have en : bl.length - 1 + 1 = ul.length := by have := UN.out; omega
  rw [en] at Rbl ⊢
  clear nblp2 hg0 nh UL UN en
  have ltr : w.heap.size + 1 < u8.heap.size := (Array.getElem?_eq_some_iff.1 Hr.out).1
  have lto : ob < u8.heap.size := (Array.getElem?_eq_some_iff.1 Ho.out).1
  have nero : ¬ w.heap.size + 1 = ob := by omega
  have neor : ¬ ob = w.heap.size + 1 := by omega
  have nblr : (.slice a5 ul.length k5 : Value).ownBlock ≠ some (w.heap.size + 1) := own_ne Rbl.out Hr.out (by decide)
  have nblo : (.slice a5 ul.length k5 : Value).ownBlock ≠ some ob := own_ne Rbl.out Ho.out (by decide)
  have nhsr : (.slice a2 hs.length k2 : Value).ownBlock ≠ some (w.heap.size + 1) := own_ne Rhs.out Hr.out (by decide)
  have nhso : (.slice a2 hs.length k2 : Value).ownBlock ≠ some ob := own_ne Rhs.out Ho.out (by decide)
  rw [holds_add (holds_self Hr.out) Ho.out]
  go_wp2
  refine bodyPost_ret (v := .agg #[.int .i64 cp, .slice a5 ul.length k5, .slice a2 hs.length k2]) (by simp [results, Try.results34, go_sem, ↓IntWalk.iteOmega, *]) rfl ⟨_, _, _, _, rfl, (by repeat (first | exact Rbl.out | (with_reducible refine own_alloc ?_) | (with_reducible refine own_plus ?_) | (with_reducible refine own_holds ?_ ?_) | assumption)), (by repeat (first | exact Rhs.out | (with_reducible refine own_alloc ?_) | (with_reducible refine own_plus ?_) | (with_reducible refine own_holds ?_ ?_) | assumption)), (by
    have hHB := HB.out
    repeat (first | (with_reducible exact Below.refl _ _) | (with_reducible assumption) | (with_reducible refine below_to_plus ?_ ?_ _) | (with_reducible refine below_holds ?_ ?_ _ _) | (with_reducible refine Below.alloc ?_ ?_ _) | (with_reducible refine Below.drew ?_) | (with_reducible refine below_drewN ?_ _) | (with_reducible refine Below.setCell ?_ ?_ _))
    all_goals first | omega | (simp; done) | (simp [go_sem]; done) | (simp [go_sem]; omega))⟩

end Go.Proofs.Ytcgajlobbjoefaa
