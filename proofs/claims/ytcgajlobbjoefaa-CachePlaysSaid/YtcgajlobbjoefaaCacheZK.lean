/- This text proves the walk of the statement CachePlays. Conditions: those that each theorem names. -/
import Derived.Test.YtcgajlobbjoefaaCacheZJ
import Derived.Deep.RegionHeld3
import Derived.Deep.CutRange
import Derived.RegionTactic
namespace Go.Proofs.Ytcgajlobbjoefaa
open Go.ChangeShapes Go.WideShapes Go.ChangeAt Go.RowKit
set_option linter.unusedVariables false
set_option linter.unusedSimpArgs false

theorem plus_alloc_holds (U x : World) (c c' : Array Value) (T T' : TypeId) : plus (U.alloc (.cells c' T')) x = holds (plus (U.alloc (.cells c T)) x) U.heap.size c' T' := by
  have e : (plus (U.alloc (.cells c' T')) x).heap = (holds (plus (U.alloc (.cells c T)) x) U.heap.size c' T').heap := by
    apply Array.ext_getElem?
    intro k
    rw [heap_holds]
    by_cases hk : k = U.heap.size
    · subst hk
      rw [if_pos ⟨rfl, by simp [plus]; omega⟩]
      simp only [plus, World.alloc]
      rw [Array.getElem?_append_left (by simp)]
      simp
    · rw [if_neg (fun hh => hk hh.1)]
      simp only [plus, World.alloc]
      by_cases hl : k < U.heap.size + 1
      · rw [Array.getElem?_append_left (by simp; omega), Array.getElem?_append_left (by simp; omega), Array.getElem?_push_lt (by omega), Array.getElem?_push_lt (by omega)]
      · rw [Array.getElem?_append_right (by simp; omega), Array.getElem?_append_right (by simp; omega)]
        simp
  simp only [plus, holds, World.alloc] at e ⊢
  rw [e]
theorem swapP {U x : World} {v0 v1 v2 : Value} {c' : Array Value} {T T' : TypeId} {ao : Option Addr} {n cap : Nat} {bl : List Pc} (s : Sl (plus (U.alloc (.cells #[v0, v1, v2] T)) x) 4 ao n cap (bl.map Pc.enc)) : Sl (plus (U.alloc (.cells c' T')) x) 4 ao n cap (bl.map Pc.enc) := by
  rw [plus_alloc_holds U x #[v0, v1, v2] c' T T']
  exact slP_holds (hp_plus (hp_new rfl)) s
theorem swapH {U x : World} {v0 v2 : Value} {a : Option Addr} {y z : Nat} {c' : Array Value} {T T' : TypeId} {ao : Option Addr} {n cap : Nat} {hs : List Hd} (s : Sl (plus (U.alloc (.cells #[v0, .slice a y z, v2] T)) x) 3 ao n cap (hs.map Hd.enc)) : Sl (plus (U.alloc (.cells c' T')) x) 3 ao n cap (hs.map Hd.enc) := by
  rw [plus_alloc_holds U x #[v0, .slice a y z, v2] c' T T']
  exact slH_holds (hp_plus (hp_new rfl)) s
/-- The state of the loop: the cache of the program lies in block cb, that of the reference in block db; both read as bl, hs. -/
structure PlSt (w : World) (cq : Int) (cb db : Nat) (bl : List Pc) (hs : List Hd) (a1 : Option Addr) (k1 : Nat) (a2 : Option Addr) (k2 : Nat) (a3 : Option Addr) (k3 : Nat) (a4 : Option Addr) (k4 : Nat) (wr : World) : Prop where
  right : RightP cq bl hs
  hc : wr.heap[cb]? = some (.cells #[.int .i64 cq, .slice a1 bl.length k1, .slice a2 hs.length k2] 25 (0, 0))
  hd : wr.heap[db]? = some (.cells #[.int .i64 cq, .slice a3 bl.length k3, .slice a4 hs.length k4] 25 (0, 0))
  s1 : Sl wr 4 a1 bl.length k1 (bl.map Pc.enc)
  s2 : Sl wr 3 a2 hs.length k2 (hs.map Hd.enc)
  s3 : Sl wr 4 a3 bl.length k3 (bl.map Pc.enc)
  s4 : Sl wr 3 a4 hs.length k4 (hs.map Hd.enc)
  hb : Below w.heap.size w wr
theorem PlSt.later {w : World} {cq : Int} {cb db : Nat} {bl : List Pc} {hs : List Hd} {a1 : Option Addr} {k1 : Nat} {a2 : Option Addr} {k2 : Nat} {a3 : Option Addr} {k3 : Nat} {a4 : Option Addr} {k4 : Nat} {wr wr' : World} (h : PlSt w cq cb db bl hs a1 k1 a2 k2 a3 k3 a4 k4 wr) (hb : Below wr.heap.size wr wr') : PlSt w cq cb db bl hs a1 k1 a2 k2 a3 k3 a4 k4 wr' :=
  ⟨h.right, heap_later h.hc hb, heap_later h.hd hb, h.s1.stays hb, h.s2.stays hb, h.s3.stays hb, h.s4.stays hb, h.hb.trans (hb.mono h.hb.size)⟩
/-- A new box with a cache. -/
structure NewC (lo : Nat) (cq : Int) (bl : List Pc) (hs : List Hd) (ab : Nat) (a1 : Option Addr) (k1 : Nat) (a2 : Option Addr) (k2 : Nat) (wr : World) : Prop where
  hlo : lo ≤ ab
  hh : wr.heap[ab]? = some (.cells #[.int .i64 cq, .slice a1 bl.length k1, .slice a2 hs.length k2] 25 (0, 0))
  s1 : Sl wr 4 a1 bl.length k1 (bl.map Pc.enc)
  s2 : Sl wr 3 a2 hs.length k2 (hs.map Hd.enc)
theorem NewC.later {lo : Nat} {cq : Int} {bl : List Pc} {hs : List Hd} {ab : Nat} {a1 : Option Addr} {k1 : Nat} {a2 : Option Addr} {k2 : Nat} {wr wr' : World} (h : NewC lo cq bl hs ab a1 k1 a2 k2 wr) (hb : Below wr.heap.size wr wr') : NewC lo cq bl hs ab a1 k1 a2 k2 wr' :=
  ⟨h.hlo, heap_later h.hh hb, h.s1.stays hb, h.s2.stays hb⟩

theorem PlSt.next {w : World} {cq : Int} {cb db : Nat} {bl : List Pc} {hs : List Hd} {a1 : Option Addr} {k1 : Nat} {a2 : Option Addr} {k2 : Nat} {a3 : Option Addr} {k3 : Nat} {a4 : Option Addr} {k4 : Nat} {wr : World} (h : PlSt w cq cb db bl hs a1 k1 a2 k2 a3 k3 a4 k4 wr) {lo lo2 ab bb : Nat} {bd : List Pc} {hd : List Hd} {a5 : Option Addr} {k5 : Nat} {a6 : Option Addr} {k6 : Nat} {a7 : Option Addr} {k7 : Nat} {a8 : Option Addr} {k8 : Nat} (na : NewC lo cq bd hd ab a5 k5 a6 k6 wr) (nb : NewC lo2 cq bd hd bb a7 k7 a8 k8 wr) (hR : RightP cq bd hd) (ndc : ¬ db = cb) (hcb : w.heap.size ≤ cb) (hdb : w.heap.size ≤ db) :
    PlSt w cq cb db bd hd a5 k5 a6 k6 a7 k7 a8 k8 (holds (holds wr cb #[.int .i64 cq, .slice a5 bd.length k5, .slice a6 hd.length k6] 25) db #[.int .i64 cq, .slice a7 bd.length k7, .slice a8 hd.length k8] 25) := by
  have lc := (Array.getElem?_eq_some_iff.1 h.hc).1
  have ld := (Array.getElem?_eq_some_iff.1 h.hd).1
  exact ⟨hR, hh_ne (fun e => ndc e.symm) (hh_eq lc), hh_eq (by rw [size_holds]; exact ld), slP_holds (hh_ne ndc h.hd) (slP_holds h.hc na.s1), slH_holds (hh_ne ndc h.hd) (slH_holds h.hc na.s2), slP_holds (hh_ne ndc h.hd) (slP_holds h.hc nb.s1), slH_holds (hh_ne ndc h.hd) (slH_holds h.hc nb.s2), below_holds (below_holds h.hb hcb _ _) hdb _ _⟩

set_option maxRecDepth 100000 in
set_option maxHeartbeats 16000000 in
theorem lawPlays_calls (most : Int) (ao : Option Addr) (n cap : Nat) (os : List Opc) (w : World) (h : Sl w 7 ao n cap (os.map Opc.enc)) :
    Calls Try.prog 6 #[.int .i64 most, .slice ao n cap] w fun e w' => e = .returned (.bool true) ∧ Below w.heap.size w w' := by
  have HL : Aside (os.length = n) := Sl.lenE h
  have HC : Aside (CellsOpc w ao os) := cellsOpc h
  have HB : Aside (Below w.heap.size w w) := Below.refl _ _
  clear h
  by_cases g2 : 60 < n
  · have g2z : (60 : Int) < (n : Int) := by omega
    go_enter Try.func6, Try.ntmps6
    go_wp2_with fail
    refine (awake_calls _).mono ?_
    rintro e w1 ⟨rfl, hb⟩
    have HB' : Aside (Below w.heap.size w w1) := HB.out.trans (hb.mono HB.out.size)
    clear hb HB 
    have HB : Aside (Below w.heap.size w w1) := HB'.out
    clear HB'
    go_wp2
    go_ret
    exact ⟨rfl, HB.out⟩
  have g2z : ¬ (60 : Int) < (n : Int) := by omega
  have hbig : n ≤ 9223372036854775807 := by omega
  have hcq := RightP.fresh most
  have cn := new_calls most w
  have cm := fun U => rnew_calls most U
  generalize capF most = cq at hcq cn cm
  have HR0 : Aside (RightP cq [] []) := hcq
  clear hcq
  go_enter Try.func6, Try.ntmps6
  go_wp2_with fail
  refine (cn).mono ?_
  rintro e w1 ⟨rfl, hb⟩
  have HB' : Aside (Below w.heap.size w w1) := HB.out.trans (hb.mono HB.out.size)
  clear hb HB 
  have HB : Aside (Below w.heap.size w w1) := HB'.out
  clear HB'
  go_wp2_with fail
  refine (cm _).mono ?_
  rintro e w2 ⟨rfl, hb⟩
  have HB' : Aside (Below w.heap.size w w2) := HB.out.trans (hb.mono HB.out.size)
  clear hb HB 
  have HB : Aside (Below w.heap.size w w2) := HB'.out
  clear HB'
  clear cn cm
  have ST0 : Aside (PlSt w cq w2.heap.size (w2.heap.size + 1) [] [] none 0 none 0 none 0 none 0 ((w2.alloc (.cells #[.int .i64 cq, .slice none 0 0, .slice none 0 0] 25)).alloc (.cells #[.int .i64 cq, .slice none 0 0, .slice none 0 0] 25))) := ⟨HR0.out, hp_old (hp_new rfl), hp_new (by simp), sl_none, sl_none, sl_none, sl_none, (HB.out.alloc HB.out.size _).alloc (by have := HB.out.size; simp; omega) _⟩
  have hcb' := HB.out.size
  clear HB HR0
  go_wp2
  generalize ((w2.alloc (.cells #[.int .i64 cq, .slice none 0 0, .slice none 0 0] 25)).alloc (.cells #[.int .i64 cq, .slice none 0 0, .slice none 0 0] 25)) = wv at ST0 ⊢
  obtain ⟨cb, ecb⟩ : ∃ cb, w2.heap.size = cb := ⟨_, rfl⟩
  obtain ⟨db, edb⟩ : ∃ db, cb + 1 = db := ⟨_, rfl⟩
  rw [ecb, edb] at ST0
  rw [ecb] at hcb' ⊢
  rw [edb]
  have hcb : w.heap.size ≤ cb := hcb'
  have hdb : w.heap.size ≤ db := by omega
  have ncd : ¬ cb = db := by omega
  have ndc : ¬ db = cb := by omega
  clear hcb' ecb edb
  go_loopg [24] n (fun k s24 wr => ∃ (idx : Nat) (bl : List Pc) (hs : List Hd) (a1 : Option Addr) (k1 : Nat) (a2 : Option Addr) (k2 : Nat) (a3 : Option Addr) (k3 : Nat) (a4 : Option Addr) (k4 : Nat), s24 = .int .i64 (idx : Int) ∧ k + idx = n ∧ Aside (PlSt w cq cb db bl hs a1 k1 a2 k2 a3 k3 a4 k4 wr))
  case atStart => exact ⟨0, [], [], none, 0, none, 0, none, 0, none, 0, rfl, by omega, ST0⟩
  case round =>
    clear ST0
    obtain ⟨idx, bl, hs, a1, k1, a2, k2, a3, k3, a4, k4, rfl, hk, ST⟩ := hrel
    by_cases hi : idx < n
    · have hiz : (idx : Int) < (n : Int) := by omega
      obtain ⟨b, off, rfl, hbw, q0, q1, q2, q3, q4, q5, q6⟩ := HC.out idx (by have := HL.out; omega)
      clear HC
      generalize os[idx]! = y at q0 q1 q2 q3 q4 q5 q6
      obtain ⟨y1, y2, y3, y4, y5, y6, y7⟩ := y
      simp only [] at q0 q1 q2 q3 q4 q5 q6
      have YC : Aside (_ ∧ _ ∧ _ ∧ _ ∧ _ ∧ _ ∧ _) := ⟨q0, q1, q2, q3, q4, q5, q6⟩
      clear q0 q1 q2 q3 q4 q5 q6
      have hbr : b < wr.heap.size := Nat.lt_of_lt_of_le hbw ST.out.hb.size
      have l0 := (ST.out.hb.cell (p := ⟨b, off + idx * 7, none⟩) hbw).trans YC.out.1
      have l1 := (ST.out.hb.cell (p := ⟨b, off + idx * 7 + 1, none⟩) hbw).trans YC.out.2.1
      have l2 := (ST.out.hb.cell (p := ⟨b, off + idx * 7 + 2, none⟩) hbw).trans YC.out.2.2.1
      have l3 := (ST.out.hb.cell (p := ⟨b, off + idx * 7 + 3, none⟩) hbw).trans YC.out.2.2.2.1
      have l4 := (ST.out.hb.cell (p := ⟨b, off + idx * 7 + 4, none⟩) hbw).trans YC.out.2.2.2.2.1
      have l5 := (ST.out.hb.cell (p := ⟨b, off + idx * 7 + 5, none⟩) hbw).trans YC.out.2.2.2.2.2.1
      have l6 := (ST.out.hb.cell (p := ⟨b, off + idx * 7 + 6, none⟩) hbw).trans YC.out.2.2.2.2.2.2
      by_cases hd : 2000 < y7.size
      · have hdz : (2000 : Int) < (y7.size : Int) := by omega
        have HB : Aside (Below w.heap.size w wr) := ST.out.hb
        clear ST
        go_wp2_with fail
        refine (awake_calls _).mono ?_
        rintro e w1 ⟨rfl, hb⟩
        have HB' : Aside (Below w.heap.size w w1) := HB.out.trans (hb.mono HB.out.size)
        clear hb HB 
        have HB : Aside (Below w.heap.size w w1) := HB'.out
        clear HB'
        go_wp2
        go_ret
        exact ⟨rfl, HB.out⟩
      have hdz : ¬ (2000 : Int) < (y7.size : Int) := by omega
      clear hd
      have hR := ST.out.right
      have cd0 := fun U (s1 : Sl U 4 a1 bl.length k1 (bl.map Pc.enc)) (s2 : Sl U 3 a2 hs.length k2 (hs.map Hd.enc)) => did_calls cq a1 bl.length k1 a2 hs.length k2 bl hs y1 y2 y3 y4 y5 y6 y7 U s1 s2 hR
      have cw0 := fun U (s1 : Sl U 4 a3 bl.length k3 (bl.map Pc.enc)) (s2 : Sl U 3 a4 hs.length k4 (hs.map Hd.enc)) => want_calls cq a3 bl.length k3 a4 hs.length k4 bl hs y1 y2 y3 y4 y5 y6 y7 U s1 s2 hR
      have hR2 := hR.stepF y1 y2 y3 y4 y5 y6 y7
      generalize stepF cq y1 y2 y3 y4 y5 y6 y7 bl hs = r at cd0 cw0 hR2
      obtain ⟨bd, hd, st, rb⟩ := r
      have HR2 : Aside (RightP cq bd hd) := hR2
      have c5 : ∀ U, Below wr.heap.size wr U → _ := fun U hU => cd0 U (ST.out.s1.stays hU) (ST.out.s2.stays hU)
      have CW : Aside (∀ U, _ → _ → _) := cw0
      have cc0 := cell_heap ST.out.hc 0 _ rfl
      have cc1 := cell_heap ST.out.hc 1 _ rfl
      have cc2 := cell_heap ST.out.hc 2 _ rfl
      have clt : cb < wr.heap.size := (Array.getElem?_eq_some_iff.1 ST.out.hc).1
      have dlt : db < wr.heap.size := (Array.getElem?_eq_some_iff.1 ST.out.hd).1
      clear hR hR2 cd0 cw0
      go_upto_region 9 with fail
      go_cut [8, 9, 10, 24] from 24 to 65 (fun s8 s9 s10 s24 wc => ∃ (ab : Nat) (a5 : Option Addr) (k5 : Nat) (a6 : Option Addr) (k6 : Nat), s8 = .pointer (some ⟨ab, 0, none⟩) ∧ s9 = .string st ∧ s10 = .bool rb ∧ s24 = .int .i64 (idx : Int) ∧ Aside (PlSt w cq cb db bl hs a1 k1 a2 k2 a3 k3 a4 k4 wc ∧ NewC wr.heap.size cq bd hd ab a5 k5 a6 k6 wc))
      case first =>
        go_region_held3 (fun w3 => w3.cell? ⟨cb, 0, none⟩ = some (.int .i64 cq) ∧ w3.cell? ⟨cb, 1, none⟩ = some (.slice a1 bl.length k1) ∧ w3.cell? ⟨cb, 2, none⟩ = some (.slice a2 hs.length k2) ∧ w3.cell? ⟨b, off + idx * 7, none⟩ = some (.int .i64 y1) ∧ w3.cell? ⟨b, off + idx * 7 + 1, none⟩ = some (.int .i64 y2) ∧ w3.cell? ⟨b, off + idx * 7 + 2, none⟩ = some (.int .i64 y3) ∧ w3.cell? ⟨b, off + idx * 7 + 3, none⟩ = some (.int .i64 y4) ∧ w3.cell? ⟨b, off + idx * 7 + 4, none⟩ = some (.int .i64 y5) ∧ w3.cell? ⟨b, off + idx * 7 + 5, none⟩ = some (.int .i64 y6) ∧ w3.cell? ⟨b, off + idx * 7 + 6, none⟩ = some (.string y7)) (first | (simp [go_sem, ↓IntWalk.iteOmega, *]; done))
          ((first | (go_at_call 19; refine (c5 _ (by (repeat (first | (with_reducible exact Below.refl _ _) | (with_reducible assumption) | (with_reducible refine below_to_plus ?_ ?_ _) | (with_reducible refine below_holds ?_ ?_ _ _) | (with_reducible refine Below.alloc ?_ ?_ _) | (with_reducible refine Below.drew ?_) | (with_reducible refine below_drewN ?_ _) | (with_reducible refine Below.setCell ?_ ?_ _))); (all_goals first | omega | (simp; done) | (simp [go_sem]; done) | (simp [go_sem]; omega)))).mono ?_; rintro e w2 ⟨a5, k5, a6, k6, rfl, r1, r2, hb⟩; have R1 : Aside _ := r1; have R2 : Aside _ := r2; clear r1 r2; obtain ⟨x5, hx⟩ := plus_of_below hb; subst hx; clear hb)))
        all_goals
          go_wp2_with fail
          go_meet
          refine ⟨_, a5, k5, a6, k6, rfl, rfl, rfl, rfl, (show _ ∧ _ from ⟨ST.out.later ?_, ⟨?_, ?_, ?_, ?_⟩⟩)⟩
          · repeat (first | (with_reducible exact Below.refl _ _) | (with_reducible assumption) | (with_reducible refine below_to_plus ?_ ?_ _) | (with_reducible refine below_holds ?_ ?_ _ _) | (with_reducible refine Below.alloc ?_ ?_ _) | (with_reducible refine Below.drew ?_) | (with_reducible refine below_drewN ?_ _) | (with_reducible refine Below.setCell ?_ ?_ _))
            all_goals first | omega | (simp; done) | (simp [go_sem]; done) | (simp [go_sem]; omega)
          · first | omega | (simp [size_plus]; omega)
          · repeat (first | exact hp_new (by first | rfl | (simp [size_plus]; done) | (simp [size_plus]; omega)) | refine hp_plus ?_ | refine hp_old ?_)
          · first | exact swapP R1.out | exact R1.out.stays ((Below.refl _ _).alloc (Nat.le_refl _) _)
          · first | exact swapH R2.out | exact R2.out.stays ((Below.refl _ _).alloc (Nat.le_refl _) _)
      case rest =>
        obtain ⟨ab, a5, k5, a6, k6, rfl, rfl, rfl, rfl, HA⟩ := hcut
        obtain ⟨wb, rfl⟩ : ∃ wb : World, wb = wc := ⟨_, rfl⟩
        have STB : Aside (PlSt w cq cb db bl hs a1 k1 a2 k2 a3 k3 a4 k4 wb) := HA.out.1
        have NA : Aside (NewC wr.heap.size cq bd hd ab a5 k5 a6 k6 wb) := HA.out.2
        clear HA ST c5 cc0 cc1 cc2 l0 l1 l2 l3 l4 l5 l6 hbr
        have hbr : b < wb.heap.size := Nat.lt_of_lt_of_le hbw STB.out.hb.size
        have l0 := (STB.out.hb.cell (p := ⟨b, off + idx * 7, none⟩) hbw).trans YC.out.1
        have l1 := (STB.out.hb.cell (p := ⟨b, off + idx * 7 + 1, none⟩) hbw).trans YC.out.2.1
        have l2 := (STB.out.hb.cell (p := ⟨b, off + idx * 7 + 2, none⟩) hbw).trans YC.out.2.2.1
        have l3 := (STB.out.hb.cell (p := ⟨b, off + idx * 7 + 3, none⟩) hbw).trans YC.out.2.2.2.1
        have l4 := (STB.out.hb.cell (p := ⟨b, off + idx * 7 + 4, none⟩) hbw).trans YC.out.2.2.2.2.1
        have l5 := (STB.out.hb.cell (p := ⟨b, off + idx * 7 + 5, none⟩) hbw).trans YC.out.2.2.2.2.2.1
        have l6 := (STB.out.hb.cell (p := ⟨b, off + idx * 7 + 6, none⟩) hbw).trans YC.out.2.2.2.2.2.2
        have cc0 := cell_heap STB.out.hd 0 _ rfl
        have cc1 := cell_heap STB.out.hd 1 _ rfl
        have cc2 := cell_heap STB.out.hd 2 _ rfl
        have dlt2 : db < wb.heap.size := (Array.getElem?_eq_some_iff.1 STB.out.hd).1
        have c6 : ∀ U, Below wb.heap.size wb U → _ := fun U hU => CW.out U (STB.out.s3.stays hU) (STB.out.s4.stays hU)
        clear CW
        go_upto_region 10 with fail
        go_cut [11, 12, 13, 24] from 24 to 65 (fun s11 s12 s13 s24 wc => ∃ (bb : Nat) (a7 : Option Addr) (k7 : Nat) (a8 : Option Addr) (k8 : Nat), s11 = .pointer (some ⟨bb, 0, none⟩) ∧ s12 = .string st ∧ s13 = .bool rb ∧ s24 = .int .i64 (idx : Int) ∧ Aside (PlSt w cq cb db bl hs a1 k1 a2 k2 a3 k3 a4 k4 wc ∧ NewC wb.heap.size cq bd hd bb a7 k7 a8 k8 wc ∧ NewC wr.heap.size cq bd hd ab a5 k5 a6 k6 wc))
        case first =>
          go_region_held3 (fun w3 => w3.cell? ⟨db, 0, none⟩ = some (.int .i64 cq) ∧ w3.cell? ⟨db, 1, none⟩ = some (.slice a3 bl.length k3) ∧ w3.cell? ⟨db, 2, none⟩ = some (.slice a4 hs.length k4) ∧ w3.cell? ⟨b, off + idx * 7, none⟩ = some (.int .i64 y1) ∧ w3.cell? ⟨b, off + idx * 7 + 1, none⟩ = some (.int .i64 y2) ∧ w3.cell? ⟨b, off + idx * 7 + 2, none⟩ = some (.int .i64 y3) ∧ w3.cell? ⟨b, off + idx * 7 + 3, none⟩ = some (.int .i64 y4) ∧ w3.cell? ⟨b, off + idx * 7 + 4, none⟩ = some (.int .i64 y5) ∧ w3.cell? ⟨b, off + idx * 7 + 5, none⟩ = some (.int .i64 y6) ∧ w3.cell? ⟨b, off + idx * 7 + 6, none⟩ = some (.string y7)) (first | (simp [go_sem, ↓IntWalk.iteOmega, *]; done))
            ((first | (go_at_call 20; refine (c6 _ (by (repeat (first | (with_reducible exact Below.refl _ _) | (with_reducible assumption) | (with_reducible refine below_to_plus ?_ ?_ _) | (with_reducible refine below_holds ?_ ?_ _ _) | (with_reducible refine Below.alloc ?_ ?_ _) | (with_reducible refine Below.drew ?_) | (with_reducible refine below_drewN ?_ _) | (with_reducible refine Below.setCell ?_ ?_ _))); (all_goals first | omega | (simp; done) | (simp [go_sem]; done) | (simp [go_sem]; omega)))).mono ?_; rintro e w2 ⟨a7, k7, a8, k8, rfl, r1, r2, hb⟩; have R1 : Aside _ := r1; have R2 : Aside _ := r2; clear r1 r2; obtain ⟨x5, hx⟩ := plus_of_below hb; subst hx; clear hb)))
          all_goals
            go_wp2_with fail
            go_meet
            refine ⟨_, a7, k7, a8, k8, rfl, rfl, rfl, rfl, (show _ ∧ _ ∧ _ from ⟨STB.out.later ?_, ⟨?_, ?_, ?_, ?_⟩, ?_⟩)⟩
            · repeat (first | (with_reducible exact Below.refl _ _) | (with_reducible assumption) | (with_reducible refine below_to_plus ?_ ?_ _) | (with_reducible refine below_holds ?_ ?_ _ _) | (with_reducible refine Below.alloc ?_ ?_ _) | (with_reducible refine Below.drew ?_) | (with_reducible refine below_drewN ?_ _) | (with_reducible refine Below.setCell ?_ ?_ _))
              all_goals first | omega | (simp; done) | (simp [go_sem]; done) | (simp [go_sem]; omega)
            · first | omega | (simp [size_plus]; omega)
            · repeat (first | exact hp_new (by first | rfl | (simp [size_plus]; done) | (simp [size_plus]; omega)) | refine hp_plus ?_ | refine hp_old ?_)
            · first | exact swapP R1.out | exact R1.out.stays ((Below.refl _ _).alloc (Nat.le_refl _) _)
            · first | exact swapH R2.out | exact R2.out.stays ((Below.refl _ _).alloc (Nat.le_refl _) _)
            · refine NA.out.later ?_
              repeat (first | (with_reducible exact Below.refl _ _) | (with_reducible assumption) | (with_reducible refine below_to_plus ?_ ?_ _) | (with_reducible refine below_holds ?_ ?_ _ _) | (with_reducible refine Below.alloc ?_ ?_ _) | (with_reducible refine Below.drew ?_) | (with_reducible refine below_drewN ?_ _) | (with_reducible refine Below.setCell ?_ ?_ _))
              all_goals first | omega | (simp; done) | (simp [go_sem]; done) | (simp [go_sem]; omega)
        case rest =>
          obtain ⟨bb, a7, k7, a8, k8, rfl, rfl, rfl, rfl, HA⟩ := hcut
          obtain ⟨wd, rfl⟩ : ∃ wd : World, wd = wc := ⟨_, rfl⟩
          have STD : Aside (PlSt w cq cb db bl hs a1 k1 a2 k2 a3 k3 a4 k4 wd) := HA.out.1
          have NB : Aside (NewC wb.heap.size cq bd hd bb a7 k7 a8 k8 wd) := HA.out.2.1
          have NA2 : Aside (NewC wr.heap.size cq bd hd ab a5 k5 a6 k6 wd) := HA.out.2.2
          have n1 : ¬ ab = cb := by have := NA2.out.hlo; omega
          have n2 : ¬ ab = db := by have := NA2.out.hlo; omega
          have n3 : ¬ bb = cb := by have := NB.out.hlo; have := (Array.getElem?_eq_some_iff.1 STB.out.hc).1; omega
          have n4 : ¬ bb = db := by have := NB.out.hlo; omega
          clear HA STB NA c6 cc0 cc1 cc2 l0 l1 l2 l3 l4 l5 l6 hbr YC
          have s1 : cb < wd.heap.size := (Array.getElem?_eq_some_iff.1 STD.out.hc).1
          have s2 : db < wd.heap.size := (Array.getElem?_eq_some_iff.1 STD.out.hd).1
          have s3 : ab < wd.heap.size := (Array.getElem?_eq_some_iff.1 NA2.out.hh).1
          have s4 : bb < wd.heap.size := (Array.getElem?_eq_some_iff.1 NB.out.hh).1
          have ha0 := cell_heap NA2.out.hh 0 _ rfl
          have ha1 := cell_heap NA2.out.hh 1 _ rfl
          have ha2 := cell_heap NA2.out.hh 2 _ rfl
          have hb0 := cell_heap NB.out.hh 0 _ rfl
          have hb1 := cell_heap NB.out.hh 1 _ rfl
          have hb2 := cell_heap NB.out.hh 2 _ rfl
          rw [holds_add (holds_self STD.out.hc) STD.out.hd]
          go_wp2
          go_region
          all_goals go_wp2
          all_goals go_roundg (gk - 1)
          case measure => omega
          case rel =>
            have hdr : Below wd.heap.size wd wd.drew := Below.drew (Below.refl _ _)
            exact ⟨idx + 1, bd, hd, a5, k5, a6, k6, a7, k7, a8, k8, by simp, by omega, (STD.out.later hdr).next (NA2.out.later hdr) (NB.out.later hdr) HR2.out ndc hcb hdb⟩
    · have hiz : ¬ (idx : Int) < (n : Int) := by omega
      have hr1 : rightB cq bl hs = true := (right_iff _ _ _).2 ST.out.right
      have HB : Aside (Below w.heap.size w wr) := ST.out.hb
      have C : Aside (wr.heap[cb]? = some (.cells #[.int .i64 cq, .slice a1 bl.length k1, .slice a2 hs.length k2] 25 (0, 0))) := ST.out.hc
      have D : Aside (wr.heap[db]? = some (.cells #[.int .i64 cq, .slice a3 bl.length k3, .slice a4 hs.length k4] 25 (0, 0))) := ST.out.hd
      have S1 : Aside (Sl wr 4 a1 bl.length k1 (bl.map Pc.enc)) := ST.out.s1
      have S2 : Aside (Sl wr 3 a2 hs.length k2 (hs.map Hd.enc)) := ST.out.s2
      have S3 : Aside (Sl wr 4 a3 bl.length k3 (bl.map Pc.enc)) := ST.out.s3
      have S4 : Aside (Sl wr 3 a4 hs.length k4 (hs.map Hd.enc)) := ST.out.s4
      clear ST HC
      have cc0 := cell_heap C.out 0 _ rfl
      have cc1 := cell_heap C.out 1 _ rfl
      have cc2 := cell_heap C.out 2 _ rfl
      have cclt : cb < wr.heap.size := (Array.getElem?_eq_some_iff.1 C.out).1
      have dc0 := cell_heap D.out 0 _ rfl
      have dc1 := cell_heap D.out 1 _ rfl
      have dc2 := cell_heap D.out 2 _ rfl
      have dclt : db < wr.heap.size := (Array.getElem?_eq_some_iff.1 D.out).1
      go_wp2_with fail
      refine (rsame_calls cq a1 bl.length k1 a2 hs.length k2 a3 k3 a4 k4 bl hs _ S1.out S2.out S3.out S4.out).mono ?_
      rintro e w1 ⟨rfl, hb⟩
      have C' : Aside (w1.heap[cb]? = some (.cells #[.int .i64 cq, .slice a1 bl.length k1, .slice a2 hs.length k2] 25 (0, 0))) := heap_later C.out hb
      have S1' : Aside (Sl w1 4 a1 bl.length k1 (bl.map Pc.enc)) := S1.out.stays hb
      have S2' : Aside (Sl w1 3 a2 hs.length k2 (hs.map Hd.enc)) := S2.out.stays hb
      have HB' : Aside (Below w.heap.size w w1) := HB.out.trans (hb.mono HB.out.size)
      clear hb HB C S1 S2 S3 S4 D cc0 cc1 cc2 cclt dc0 dc1 dc2 dclt
      have C : Aside (w1.heap[cb]? = some (.cells #[.int .i64 cq, .slice a1 bl.length k1, .slice a2 hs.length k2] 25 (0, 0))) := C'.out
      clear C'
      have S1 : Aside (Sl w1 4 a1 bl.length k1 (bl.map Pc.enc)) := S1'.out
      clear S1'
      have S2 : Aside (Sl w1 3 a2 hs.length k2 (hs.map Hd.enc)) := S2'.out
      clear S2'
      have HB : Aside (Below w.heap.size w w1) := HB'.out
      clear HB'
      have cc0 := cell_heap C.out 0 _ rfl
      have cc1 := cell_heap C.out 1 _ rfl
      have cc2 := cell_heap C.out 2 _ rfl
      have cclt : cb < w1.heap.size := (Array.getElem?_eq_some_iff.1 C.out).1
      go_wp2_with fail
      refine ((hr1 ▸ right_calls cq a1 bl.length k1 a2 hs.length k2 bl hs _ S1.out S2.out)).mono ?_
      rintro e w2 ⟨rfl, hb⟩
      have HB' : Aside (Below w.heap.size w w2) := HB.out.trans (hb.mono HB.out.size)
      clear hb HB C S1 S2 cc0 cc1 cc2 cclt
      have HB : Aside (Below w.heap.size w w2) := HB'.out
      clear HB'
      go_wp2_with fail
      refine (awake_calls _).mono ?_
      rintro e w3 ⟨rfl, hb⟩
      have HB' : Aside (Below w.heap.size w w3) := HB.out.trans (hb.mono HB.out.size)
      clear hb HB 
      have HB : Aside (Below w.heap.size w w3) := HB'.out
      clear HB'
      go_wp2
      go_ret
      exact ⟨rfl, HB.out⟩

end Go.Proofs.Ytcgajlobbjoefaa
