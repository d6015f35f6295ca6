/- This text proves the walks of without, Drop and use of package cache. Conditions: those that each theorem names. -/
import Derived.Test.YtcgajlobbjoefaaCacheF
namespace Go.Proofs.Ytcgajlobbjoefaa
open Go.ChangeShapes Go.WideShapes Go.ChangeAt Go.RowKit
set_option linter.unusedVariables false
set_option linter.unusedSimpArgs false

theorem hh_eq {w : World} {b : Nat} {c : Array Value} {T : TypeId} (h : b < w.heap.size) : (holds w b c T).heap[b]? = some (.cells c T (0, 0)) := by
  rw [heap_holds, if_pos ⟨rfl, h⟩]
theorem hh_ne {w : World} {a b : Nat} {o : Obj} {c : Array Value} {T : TypeId} (hne : ¬ a = b) (h : w.heap[a]? = some o) : (holds w b c T).heap[a]? = some o := by
  rw [heap_holds, if_neg (fun e => hne e.1)]; exact h
theorem heap_grown {w w' : World} {r : Option Nat} {b : Nat} {o : Obj} (hg : w.grownBy w' r) (h : w.heap[b]? = some o) (hr : r ≠ some b) : w'.heap[b]? = some o := (hg.block b (Array.getElem?_eq_some_iff.1 h).1 (fun e => hr e.symm)).trans h
theorem below_step {w W W' : World} (h : Below w.heap.size w W) (hb : Below W.heap.size W W') : Below w.heap.size w W' := h.trans (hb.mono h.size)
theorem below_grown {w W W' : World} {r : Option Nat} (h : Below w.heap.size w W) (hg : W.grownBy W' r) (hr : ∀ k, r = some k → w.heap.size ≤ k) : Below w.heap.size w W' := h.grown hg h.size hr
theorem own_ne_own {w : World} {B B' : Nat} {E E' : TypeId} {k k' : Nat} {v v' : Value} {n n' : Nat} {l l' : List Value} (h : w.ownsRow B E k v n l) (h' : w.ownsRow B' E' k' v' n' l') (hE : E ≠ E') : v.ownBlock = none ∨ v.ownBlock ≠ v'.ownBlock := by
  obtain ⟨_, h2 | ⟨g, cap, cur, h3, _, h5, _⟩⟩ := h
  · left; rw [h2.1]; rfl
  · right
    obtain ⟨_, h2' | ⟨g', cap', cur', h3', _, h5', _⟩⟩ := h'
    · rw [h3, h2'.1]; intro e; cases e
    · rw [h3, h3']
      intro e
      have e2 : g = g' := by simpa [Value.ownBlock] using e
      rw [← e2, h5] at h5'
      cases h5'
      exact hE rfl

set_option maxHeartbeats 8000000 in
theorem without_calls (cp : Int) (ao : Option Addr) (n c1 : Nat) (ao2 : Option Addr) (n2 c2 : Nat) (bl : List Pc) (hs : List Hd) (id : Int) (w : World) (h1 : Sl w 4 ao n c1 (bl.map Pc.enc)) (h2 : Sl w 3 ao2 n2 c2 (hs.map Hd.enc)) (hn : n ≤ 1000000) (hn2 : n2 ≤ 1000000) :
    Calls Try.prog 48 #[.agg #[.int .i64 cp, .slice ao n c1, .slice ao2 n2 c2], .int .i64 id] w fun e w' => CopPost w cp (bl.filter fun y => !decide (y.pid = id)) hs e w' := by
  have eg : ∀ args w, (callFunc 62 args).run Try.prog w = .ok (.enter 62 args) w := enters_of Try.func62 (by kernel_rfl) rfl
  have hb0 : Below w.heap.size w (((w.alloc (.cells #[.int .i64 cp, .slice ao n c1, .slice ao2 n2 c2] 25)).alloc (.cells #[.int .i64 id] 3)).alloc (.cells #[.int .i64 0, .slice none 0 0, .slice none 0 0] 25)) := by
    repeat (first | (with_reducible exact Below.refl _ _) | (with_reducible assumption) | (with_reducible refine below_to_plus ?_ ?_ _) | (with_reducible refine below_holds ?_ ?_ _ _) | (with_reducible refine Below.alloc ?_ ?_ _) | (with_reducible refine Below.drew ?_) | (with_reducible refine below_drewN ?_ _) | (with_reducible refine Below.setCell ?_ ?_ _))
    all_goals first | omega | (simp; done) | (simp [go_sem]; done) | (simp [go_sem]; omega)
  have HB : Aside (Below w.heap.size w (((w.alloc (.cells #[.int .i64 cp, .slice ao n c1, .slice ao2 n2 c2] 25)).alloc (.cells #[.int .i64 id] 3)).alloc (.cells #[.int .i64 0, .slice none 0 0, .slice none 0 0] 25))) := hb0
  have Hc : Aside ((((w.alloc (.cells #[.int .i64 cp, .slice ao n c1, .slice ao2 n2 c2] 25)).alloc (.cells #[.int .i64 id] 3)).alloc (.cells #[.int .i64 0, .slice none 0 0, .slice none 0 0] 25)).heap[w.heap.size]? = some (.cells #[.int .i64 cp, .slice ao n c1, .slice ao2 n2 c2] 25 (0, 0))) := by repeat (first | exact hp_new (by first | rfl | (simp; done) | (simp; omega)) | refine hp_old ?_)
  have Hi : Aside ((((w.alloc (.cells #[.int .i64 cp, .slice ao n c1, .slice ao2 n2 c2] 25)).alloc (.cells #[.int .i64 id] 3)).alloc (.cells #[.int .i64 0, .slice none 0 0, .slice none 0 0] 25)).heap[w.heap.size + 1]? = some (.cells #[.int .i64 id] 3 (0, 0))) := by repeat (first | exact hp_new (by first | rfl | (simp; done) | (simp; omega)) | refine hp_old ?_)
  have Hr : Aside ((((w.alloc (.cells #[.int .i64 cp, .slice ao n c1, .slice ao2 n2 c2] 25)).alloc (.cells #[.int .i64 id] 3)).alloc (.cells #[.int .i64 0, .slice none 0 0, .slice none 0 0] 25)).heap[w.heap.size + 1 + 1]? = some (.cells #[.int .i64 0, .slice none 0 0, .slice none 0 0] 25 (0, 0))) := by repeat (first | exact hp_new (by first | rfl | (simp; done) | (simp; omega)) | refine hp_old ?_)
  have ck := copied_calls cp ao n c1 ao2 n2 c2 bl hs (((w.alloc (.cells #[.int .i64 cp, .slice ao n c1, .slice ao2 n2 c2] 25)).alloc (.cells #[.int .i64 id] 3)).alloc (.cells #[.int .i64 0, .slice none 0 0, .slice none 0 0] 25)) (h1.stays hb0) (h2.stays hb0) hn hn2
  have HL : Aside (bl.length ≤ 1000000) := by show _ ≤ _; have := Sl.lenE h1; omega
  clear h1 h2
  go_enter Try.func48, Try.ntmps48
  go_wp2_with fail
  refine (ck).mono ?_
  rintro e u1 ⟨a1, k1, a2, k2, rfl, o1, o2, hb⟩
  have Hc' : Aside (u1.heap[w.heap.size]? = some (.cells #[.int .i64 cp, .slice ao n c1, .slice ao2 n2 c2] 25 (0, 0))) := heap_later (by repeat (first | exact Hc.out | exact Hi.out | exact Hr.out | exact hp_new (by first | rfl | (simp [size_plus, size_holds]; done) | (simp [size_plus, size_holds]; omega)) | (with_reducible refine hp_old ?_) | (with_reducible refine hp_plus ?_) | (with_reducible refine hh_eq (by first | assumption | (simp only [size_holds]; assumption))) | (with_reducible refine hh_ne (by omega) ?_))) hb
  have Hi' : Aside (u1.heap[w.heap.size + 1]? = some (.cells #[.int .i64 id] 3 (0, 0))) := heap_later (by repeat (first | exact Hc.out | exact Hi.out | exact Hr.out | exact hp_new (by first | rfl | (simp [size_plus, size_holds]; done) | (simp [size_plus, size_holds]; omega)) | (with_reducible refine hp_old ?_) | (with_reducible refine hp_plus ?_) | (with_reducible refine hh_eq (by first | assumption | (simp only [size_holds]; assumption))) | (with_reducible refine hh_ne (by omega) ?_))) hb
  have Hr' : Aside (u1.heap[w.heap.size + 1 + 1]? = some (.cells #[.int .i64 0, .slice none 0 0, .slice none 0 0] 25 (0, 0))) := heap_later (by repeat (first | exact Hc.out | exact Hi.out | exact Hr.out | exact hp_new (by first | rfl | (simp [size_plus, size_holds]; done) | (simp [size_plus, size_holds]; omega)) | (with_reducible refine hp_old ?_) | (with_reducible refine hp_plus ?_) | (with_reducible refine hh_eq (by first | assumption | (simp only [size_holds]; assumption))) | (with_reducible refine hh_ne (by omega) ?_))) hb
  have Rbl' : Aside (u1.ownsRow w.heap.size 47 4 (.slice a1 bl.length k1) bl.length (flatE Pc.enc bl)) := own_lower o1 (by simp; omega)
  have Rhs' : Aside (u1.ownsRow w.heap.size 36 3 (.slice a2 hs.length k2) hs.length (flatE Hd.enc hs)) := own_lower o2 (by simp; omega)
  have HB' : Aside (Below w.heap.size w u1) := below_step (by
    have hHB := HB.out
    repeat (first | (with_reducible exact Below.refl _ _) | (with_reducible assumption) | (with_reducible refine below_to_plus ?_ ?_ _) | (with_reducible refine below_holds ?_ ?_ _ _) | (with_reducible refine Below.alloc ?_ ?_ _) | (with_reducible refine Below.drew ?_) | (with_reducible refine below_drewN ?_ _) | (with_reducible refine Below.setCell ?_ ?_ _))
    all_goals first | omega | (simp; done) | (simp [go_sem]; done) | (simp [go_sem]; omega)) hb
  clear Hc Hi Hr HB hb ck o1 o2 hb0
  have Hc := Hc'
  clear Hc'
  have Hi := Hi'
  clear Hi'
  have Hr := Hr'
  clear Hr'
  have Rbl := Rbl'
  clear Rbl'
  have Rhs := Rhs'
  clear Rhs'
  have HB := HB'
  clear HB'
  have oob : w.heap.size + 1 + 1 < u1.heap.size := by
    first | exact (Array.getElem?_eq_some_iff.1 Hr.out).1 | omega
  have Ho' : Aside ((u1.alloc (.cells #[.int .i64 cp, .slice a1 bl.length k1, .slice a2 hs.length k2] 25)).heap[u1.heap.size]? = some (.cells #[.int .i64 cp, .slice a1 bl.length k1, .slice a2 hs.length k2] 25 (0, 0))) := hp_new rfl
  have Hc' : Aside ((u1.alloc (.cells #[.int .i64 cp, .slice a1 bl.length k1, .slice a2 hs.length k2] 25)).heap[w.heap.size]? = some (.cells #[.int .i64 cp, .slice ao n c1, .slice ao2 n2 c2] 25 (0, 0))) := hp_old Hc.out
  have Hi' : Aside ((u1.alloc (.cells #[.int .i64 cp, .slice a1 bl.length k1, .slice a2 hs.length k2] 25)).heap[w.heap.size + 1]? = some (.cells #[.int .i64 id] 3 (0, 0))) := hp_old Hi.out
  have Hr' : Aside ((u1.alloc (.cells #[.int .i64 cp, .slice a1 bl.length k1, .slice a2 hs.length k2] 25)).heap[w.heap.size + 1 + 1]? = some (.cells #[.int .i64 0, .slice none 0 0, .slice none 0 0] 25 (0, 0))) := hp_old Hr.out
  have Rbl' : Aside ((u1.alloc (.cells #[.int .i64 cp, .slice a1 bl.length k1, .slice a2 hs.length k2] 25)).ownsRow w.heap.size 47 4 (.slice a1 bl.length k1) bl.length (flatE Pc.enc bl)) := own_alloc Rbl.out
  have Rhs' : Aside ((u1.alloc (.cells #[.int .i64 cp, .slice a1 bl.length k1, .slice a2 hs.length k2] 25)).ownsRow w.heap.size 36 3 (.slice a2 hs.length k2) hs.length (flatE Hd.enc hs)) := own_alloc Rhs.out
  have HB' : Aside (Below w.heap.size w (u1.alloc (.cells #[.int .i64 cp, .slice a1 bl.length k1, .slice a2 hs.length k2] 25))) := HB.out.alloc HB.out.size _
  clear Hc Hi Hr Rbl Rhs HB
  go_wp2_with fail
  obtain ⟨ob, eob⟩ : ∃ b, u1.heap.size = b := ⟨_, rfl⟩
  generalize (u1.alloc (.cells #[.int .i64 cp, .slice a1 bl.length k1, .slice a2 hs.length k2] 25)) = u2 at Hc' Hi' Hr' Rbl' Rhs' HB' Ho' ⊢
  rw [eob] at Ho' oob ⊢
  have Hc := Hc'
  clear Hc'
  have Hi := Hi'
  clear Hi'
  have Hr := Hr'
  clear Hr'
  have Ho := Ho'
  clear Ho'
  have Rbl := Rbl'
  clear Rbl'
  have Rhs := Rhs'
  clear Rhs'
  have HB := HB'
  clear HB'
  have hg0 : ∀ k, (Value.slice a1 bl.length k1).ownBlock = some k → w.heap.size ≤ k := fun k hk => (Rbl.out.lt k hk).1
  have nh := own_ne_own Rhs.out Rbl.out (by decide)
  have nblc : (.slice a1 bl.length k1 : Value).ownBlock ≠ some w.heap.size := own_ne Rbl.out Hc.out (by decide)
  have nbli : (.slice a1 bl.length k1 : Value).ownBlock ≠ some (w.heap.size + 1) := own_ne Rbl.out Hi.out (by decide)
  have nblr : (.slice a1 bl.length k1 : Value).ownBlock ≠ some (w.heap.size + 1 + 1) := own_ne Rbl.out Hr.out (by decide)
  have nblo : (.slice a1 bl.length k1 : Value).ownBlock ≠ some ob := own_ne Rbl.out Ho.out (by decide)
  refine (pcDeleteFunc_calls (fun y => decide (y.pid = id)) 62 #[.pointer (some ⟨w.heap.size + 1, 0, none⟩)] eg (.slice a1 bl.length k1) bl.length w.heap.size bl _ Rbl.out (pred_without id bl (w.heap.size + 1) _ _ (Array.getElem?_eq_some_iff.1 Hi.out).1 nbli (cell_heap Hi.out 0 _ rfl)) HL.out).mono ?_
  rintro e u3 ⟨v', rfl, o1, hg, hv'⟩
  have Hr' : Aside (u3.heap[w.heap.size + 1 + 1]? = some (.cells #[.int .i64 0, .slice none 0 0, .slice none 0 0] 25 (0, 0))) := heap_grown hg (by repeat (first | exact Hc.out | exact Hi.out | exact Hr.out | exact Ho.out | exact hp_new (by first | rfl | (simp [size_plus, size_holds]; done) | (simp [size_plus, size_holds]; omega)) | (with_reducible refine hp_old ?_) | (with_reducible refine hp_plus ?_) | (with_reducible refine hh_eq (by first | assumption | (simp only [size_holds]; assumption))) | (with_reducible refine hh_ne (by omega) ?_))) (by assumption)
  have Ho' : Aside (u3.heap[ob]? = some (.cells #[.int .i64 cp, .slice a1 bl.length k1, .slice a2 hs.length k2] 25 (0, 0))) := heap_grown hg (by repeat (first | exact Hc.out | exact Hi.out | exact Hr.out | exact Ho.out | exact hp_new (by first | rfl | (simp [size_plus, size_holds]; done) | (simp [size_plus, size_holds]; omega)) | (with_reducible refine hp_old ?_) | (with_reducible refine hp_plus ?_) | (with_reducible refine hh_eq (by first | assumption | (simp only [size_holds]; assumption))) | (with_reducible refine hh_ne (by omega) ?_))) (by assumption)
  have Rhs' : Aside (u3.ownsRow w.heap.size 36 3 (.slice a2 hs.length k2) hs.length (flatE Hd.enc hs)) := World.ownsRow.kept (by repeat (first | exact Rhs.out | (with_reducible refine own_alloc ?_) | (with_reducible refine own_plus ?_) | (with_reducible refine own_holds ?_ ?_) | assumption)) hg (by assumption)
  have Rbl' : Aside (u3.ownsRow w.heap.size 47 4 (v') (bl.filter fun y => !decide (y.pid = id)).length (flatE Pc.enc (bl.filter fun y => !decide (y.pid = id)))) := o1
  have HB' : Aside (Below w.heap.size w u3) := below_grown (by
    have hHB := HB.out
    repeat (first | (with_reducible exact Below.refl _ _) | (with_reducible assumption) | (with_reducible refine below_to_plus ?_ ?_ _) | (with_reducible refine below_holds ?_ ?_ _ _) | (with_reducible refine Below.alloc ?_ ?_ _) | (with_reducible refine Below.drew ?_) | (with_reducible refine below_drewN ?_ _) | (with_reducible refine Below.setCell ?_ ?_ _))
    all_goals first | omega | (simp; done) | (simp [go_sem]; done) | (simp [go_sem]; omega)) hg (by assumption)
  clear Hc Hi Hr Ho Rbl Rhs HB hg nblc nbli nblr nblo o1 nh hg0
  have Hr := Hr'
  clear Hr'
  have Ho := Ho'
  clear Ho'
  have Rbl := Rbl'
  clear Rbl'
  have Rhs := Rhs'
  clear Rhs'
  have HB := HB'
  clear HB'
  obtain ⟨a3, k3, ev, _⟩ := ownE_sl pc_len (by omega) Rbl.out
  subst ev
  generalize hfl : (bl.filter fun y => !decide (y.pid = id)) = fl at Rbl ⊢
  have HF : Aside ((bl.filter fun y => !decide (y.pid = id)) = fl) := hfl
  clear hfl
  have ltr : w.heap.size + 1 + 1 < u3.heap.size := (Array.getElem?_eq_some_iff.1 Hr.out).1
  have lto : ob < u3.heap.size := (Array.getElem?_eq_some_iff.1 Ho.out).1
  have nero : ¬ w.heap.size + 1 + 1 = ob := by omega
  have neor : ¬ ob = w.heap.size + 1 + 1 := by omega
  have nblr : (.slice a3 fl.length k3 : Value).ownBlock ≠ some (w.heap.size + 1 + 1) := own_ne Rbl.out Hr.out (by decide)
  have nblo : (.slice a3 fl.length k3 : Value).ownBlock ≠ some ob := own_ne Rbl.out Ho.out (by decide)
  have nhsr : (.slice a2 hs.length k2 : Value).ownBlock ≠ some (w.heap.size + 1 + 1) := own_ne Rhs.out Hr.out (by decide)
  have nhso : (.slice a2 hs.length k2 : Value).ownBlock ≠ some ob := own_ne Rhs.out Ho.out (by decide)
  rw [holds_add (holds_self Hr.out) Ho.out]
  go_wp2
  have hF := HF.out
  subst hF
  refine bodyPost_ret (v := .agg #[.int .i64 cp, .slice a3 (bl.filter fun y => !decide (y.pid = id)).length k3, .slice a2 hs.length k2]) (by simp [results, Try.results48, go_sem, ↓IntWalk.iteOmega, *]) rfl ⟨a3, k3, a2, k2, rfl, (by repeat (first | exact Rbl.out | (with_reducible refine own_alloc ?_) | (with_reducible refine own_plus ?_) | (with_reducible refine own_holds ?_ ?_) | assumption)), (by repeat (first | exact Rhs.out | (with_reducible refine own_alloc ?_) | (with_reducible refine own_plus ?_) | (with_reducible refine own_holds ?_ ?_) | assumption)), (by
    have hHB := HB.out
    repeat (first | (with_reducible exact Below.refl _ _) | (with_reducible assumption) | (with_reducible refine below_to_plus ?_ ?_ _) | (with_reducible refine below_holds ?_ ?_ _ _) | (with_reducible refine Below.alloc ?_ ?_ _) | (with_reducible refine Below.drew ?_) | (with_reducible refine below_drewN ?_ _) | (with_reducible refine Below.setCell ?_ ?_ _))
    all_goals first | omega | (simp; done) | (simp [go_sem]; done) | (simp [go_sem]; omega))⟩

end Go.Proofs.Ytcgajlobbjoefaa
