/- This text proves the walk of Get of the reference of package cache. Conditions: those that each theorem names. -/
import Derived.Test.YtcgajlobbjoefaaCacheX
import Derived.Test.YtcgajlobbjoefaaCacheL
import Derived.Deep.RegionHeld3
namespace Go.Proofs.Ytcgajlobbjoefaa
open Go.ChangeShapes Go.WideShapes Go.ChangeAt Go.RowKit
set_option linter.unusedVariables false
set_option linter.unusedSimpArgs false

set_option maxRecDepth 20000 in
set_option maxHeartbeats 16000000 in
theorem rget_no (cp : Int) (ao : Option Addr) (n c1 : Nat) (ao2 : Option Addr) (n2 c2 : Nat) (bl : List Pc) (hs : List Hd) (id at' cnt now : Int) (w : World) (h1 : Sl w 4 ao n c1 (bl.map Pc.enc)) (h2 : Sl w 3 ao2 n2 c2 (hs.map Hd.enc)) (hn : n ≤ 1000000) (hd : heldB id now hs = false ∨ at' < 0 ∨ cnt < 0) :
    Calls Try.prog 44 #[.agg #[.int .i64 cp, .slice ao n c1, .slice ao2 n2 c2], .int .i64 id, .int .i64 at', .int .i64 cnt, .int .i64 now] w fun e w' => GetPost w cp hs (bl, ⟨#[]⟩, false) e w' := by
  have hln : bl.length = n := Sl.lenE h1
  have hln2 : hs.length = n2 := Sl.lenE h2
  subst hln
  subst hln2
  have hbig : bl.length ≤ 9223372036854775807 := by omega
  have S1 : Aside (Sl w 4 ao bl.length c1 (bl.map Pc.enc)) := h1
  have S2 : Aside (Sl w 3 ao2 hs.length c2 (hs.map Hd.enc)) := h2
  have ch := fun U (h : Below w.heap.size w U) => rheld_calls cp ao bl.length c1 ao2 hs.length c2 hs id now U (S2.out.stays h)
  clear h1 h2
  cases hh : heldB id now hs with
  | false =>
    rw [hh] at ch
    clear hh hd
    have hb0 : Below w.heap.size w ((w.alloc (.cells #[.int .i64 cp, .slice ao bl.length c1, .slice ao2 hs.length c2] 25)).alloc (.cells #[.int .i64 0, .slice none 0 0, .slice none 0 0] 25)) := by
      repeat (first | (with_reducible exact Below.refl _ _) | (with_reducible assumption) | (with_reducible refine below_to_plus ?_ ?_ _) | (with_reducible refine below_holds ?_ ?_ _ _) | (with_reducible refine Below.alloc ?_ ?_ _) | (with_reducible refine Below.drew ?_) | (with_reducible refine below_drewN ?_ _) | (with_reducible refine Below.setCell ?_ ?_ _))
      all_goals first | omega | (simp; done) | (simp [go_sem]; done) | (simp [go_sem]; omega)
    have ck := ch _ hb0
    clear ch
    go_enter Try.func44, Try.ntmps44
    go_wp2_with fail
    refine ck.mono ?_
    rintro e w1 ⟨rfl, hb⟩
    obtain ⟨x, hx⟩ := plus_of_below hb
    subst hx
    clear ck hb hb0
    go_wp2
    refine bodyPost_ret (v := .tuple #[.agg #[.int .i64 cp, .slice ao bl.length c1, .slice ao2 hs.length c2], .string ⟨#[]⟩, .bool false]) (by simp [results, Try.results44, go_sem, ↓IntWalk.iteOmega, *]) rfl ⟨ao, c1, ao2, c2, rfl, S1.out.stays ?_, S2.out.stays ?_, ?_⟩
    all_goals
      repeat (first | (with_reducible exact Below.refl _ _) | (with_reducible assumption) | (with_reducible refine below_to_plus ?_ ?_ _) | (with_reducible refine below_holds ?_ ?_ _ _) | (with_reducible refine Below.alloc ?_ ?_ _) | (with_reducible refine Below.drew ?_) | (with_reducible refine below_drewN ?_ _) | (with_reducible refine Below.setCell ?_ ?_ _))
      all_goals first | omega | (simp; done) | (simp [go_sem]; done) | (simp [go_sem]; omega)
  | true =>
    rw [hh] at ch hd
    have hd1 : at' < 0 ∨ cnt < 0 := hd.resolve_left (by simp)
    clear hh hd
    by_cases d1 : at' < 0
    · clear hd1
      have hb0 : Below w.heap.size w ((w.alloc (.cells #[.int .i64 cp, .slice ao bl.length c1, .slice ao2 hs.length c2] 25)).alloc (.cells #[.int .i64 0, .slice none 0 0, .slice none 0 0] 25)) := by
        repeat (first | (with_reducible exact Below.refl _ _) | (with_reducible assumption) | (with_reducible refine below_to_plus ?_ ?_ _) | (with_reducible refine below_holds ?_ ?_ _ _) | (with_reducible refine Below.alloc ?_ ?_ _) | (with_reducible refine Below.drew ?_) | (with_reducible refine below_drewN ?_ _) | (with_reducible refine Below.setCell ?_ ?_ _))
        all_goals first | omega | (simp; done) | (simp [go_sem]; done) | (simp [go_sem]; omega)
      have ck := ch _ hb0
      clear ch
      go_enter Try.func44, Try.ntmps44
      go_wp2_with fail
      refine ck.mono ?_
      rintro e w1 ⟨rfl, hb⟩
      obtain ⟨x, hx⟩ := plus_of_below hb
      subst hx
      clear ck hb hb0
      go_wp2
      refine bodyPost_ret (v := .tuple #[.agg #[.int .i64 cp, .slice ao bl.length c1, .slice ao2 hs.length c2], .string ⟨#[]⟩, .bool false]) (by simp [results, Try.results44, go_sem, ↓IntWalk.iteOmega, *]) rfl ⟨ao, c1, ao2, c2, rfl, S1.out.stays ?_, S2.out.stays ?_, ?_⟩
      all_goals
        repeat (first | (with_reducible exact Below.refl _ _) | (with_reducible assumption) | (with_reducible refine below_to_plus ?_ ?_ _) | (with_reducible refine below_holds ?_ ?_ _ _) | (with_reducible refine Below.alloc ?_ ?_ _) | (with_reducible refine Below.drew ?_) | (with_reducible refine below_drewN ?_ _) | (with_reducible refine Below.setCell ?_ ?_ _))
        all_goals first | omega | (simp; done) | (simp [go_sem]; done) | (simp [go_sem]; omega)
    · have d2 : cnt < 0 := hd1.resolve_left d1
      clear hd1
      have hb0 : Below w.heap.size w ((w.alloc (.cells #[.int .i64 cp, .slice ao bl.length c1, .slice ao2 hs.length c2] 25)).alloc (.cells #[.int .i64 0, .slice none 0 0, .slice none 0 0] 25)) := by
        repeat (first | (with_reducible exact Below.refl _ _) | (with_reducible assumption) | (with_reducible refine below_to_plus ?_ ?_ _) | (with_reducible refine below_holds ?_ ?_ _ _) | (with_reducible refine Below.alloc ?_ ?_ _) | (with_reducible refine Below.drew ?_) | (with_reducible refine below_drewN ?_ _) | (with_reducible refine Below.setCell ?_ ?_ _))
        all_goals first | omega | (simp; done) | (simp [go_sem]; done) | (simp [go_sem]; omega)
      have ck := ch _ hb0
      clear ch
      go_enter Try.func44, Try.ntmps44
      go_wp2_with fail
      refine ck.mono ?_
      rintro e w1 ⟨rfl, hb⟩
      obtain ⟨x, hx⟩ := plus_of_below hb
      subst hx
      clear ck hb hb0
      go_wp2
      refine bodyPost_ret (v := .tuple #[.agg #[.int .i64 cp, .slice ao bl.length c1, .slice ao2 hs.length c2], .string ⟨#[]⟩, .bool false]) (by simp [results, Try.results44, go_sem, ↓IntWalk.iteOmega, *]) rfl ⟨ao, c1, ao2, c2, rfl, S1.out.stays ?_, S2.out.stays ?_, ?_⟩
      all_goals
        repeat (first | (with_reducible exact Below.refl _ _) | (with_reducible assumption) | (with_reducible refine below_to_plus ?_ ?_ _) | (with_reducible refine below_holds ?_ ?_ _ _) | (with_reducible refine Below.alloc ?_ ?_ _) | (with_reducible refine Below.drew ?_) | (with_reducible refine below_drewN ?_ _) | (with_reducible refine Below.setCell ?_ ?_ _))
        all_goals first | omega | (simp; done) | (simp [go_sem]; done) | (simp [go_sem]; omega)

set_option maxRecDepth 20000 in
set_option maxHeartbeats 16000000 in
theorem rget_end (cp : Int) (ao : Option Addr) (n c1 : Nat) (ao2 : Option Addr) (n2 c2 : Nat) (bl : List Pc) (hs : List Hd) (id at' cnt now : Int) (w : World) (h1 : Sl w 4 ao n c1 (bl.map Pc.enc)) (h2 : Sl w 3 ao2 n2 c2 (hs.map Hd.enc)) (hn : n ≤ 1000000) (hh : heldB id now hs = true) (h0 : 0 ≤ at') (hc : 0 ≤ cnt) {k : Nat} (hk : k < bl.length) (he : endI id bl = (k : Int)) (hp : bl[k]!.pos ≤ at') (ok : ∀ y ∈ bl, OkP y) :
    Calls Try.prog 44 #[.agg #[.int .i64 cp, .slice ao n c1, .slice ao2 n2 c2], .int .i64 id, .int .i64 at', .int .i64 cnt, .int .i64 now] w fun e w' => GetPost w cp hs (useL k bl, ⟨#[]⟩, true) e w' := by
  have hln : bl.length = n := Sl.lenE h1
  have hln2 : hs.length = n2 := Sl.lenE h2
  subst hln
  subst hln2
  have hbig : bl.length ≤ 9223372036854775807 := by omega
  have S1 : Aside (Sl w 4 ao bl.length c1 (bl.map Pc.enc)) := h1
  have S2 : Aside (Sl w 3 ao2 hs.length c2 (hs.map Hd.enc)) := h2
  have ch := fun U (h : Below w.heap.size w U) => rheld_calls cp ao bl.length c1 ao2 hs.length c2 hs id now U (S2.out.stays h)
  have cm := fun U (h : Below w.heap.size w U) => mark_calls cp ao bl.length c1 ao2 hs.length c2 bl id U (S1.out.stays h)
  have cv := fun U (h : Below w.heap.size w U) => covers_calls cp ao bl.length c1 ao2 hs.length c2 bl id at' U (S1.out.stays h) ok
  have cu := fun U (h : Below w.heap.size w U) => rused_own cp ao bl.length c1 ao2 hs.length c2 bl hs k U (S1.out.stays h) (S2.out.stays h) hn hk
  obtain ⟨b, off, eao, hbw, e0, e1, e2, e3⟩ := (cellsPc h1) k hk
  subst eao
  have hkz : (k : Int) < (bl.length : Int) := by omega
  have hpd : decide (bl[k]!.pos ≤ at') = true := decide_eq_true hp
  have x0 : ¬ at' < 0 := by omega
  have xc : ¬ cnt < 0 := by omega
  rw [hh] at ch
  rw [he] at cm
  obtain ⟨ul, hul⟩ : ∃ ul, useL k bl = ul := ⟨_, rfl⟩
  rw [hul] at cu ⊢
  generalize covI id at' bl = cvr at cv
  clear hul h1 h2 hh he hp ok
  generalize bl[k]! = z at e0 e1 e2 e3 hpd
  obtain ⟨z1, z2, z3, z4⟩ := z
  simp only [] at e0 e1 e2 e3 hpd
  have hb0 : Below w.heap.size w ((w.alloc (.cells #[.int .i64 cp, .slice (some ⟨b, off, none⟩) bl.length c1, .slice ao2 hs.length c2] 25)).alloc (.cells #[.int .i64 0, .slice none 0 0, .slice none 0 0] 25)) := by
    repeat (first | (with_reducible exact Below.refl _ _) | (with_reducible assumption) | (with_reducible refine below_to_plus ?_ ?_ _) | (with_reducible refine below_holds ?_ ?_ _ _) | (with_reducible refine Below.alloc ?_ ?_ _) | (with_reducible refine Below.drew ?_) | (with_reducible refine below_drewN ?_ _) | (with_reducible refine Below.setCell ?_ ?_ _))
    all_goals first | omega | (simp; done) | (simp [go_sem]; done) | (simp [go_sem]; omega)
  have ck := ch _ hb0
  clear ch
  go_enter Try.func44, Try.ntmps44
  go_wp2_with fail
  refine ck.mono ?_
  rintro e w1 ⟨rfl, hb⟩
  obtain ⟨x, hx⟩ := plus_of_below hb
  subst hx
  clear ck hb hb0
  have HB1 : Below w.heap.size w (plus ((w.alloc (.cells #[.int .i64 cp, .slice (some ⟨b, off, none⟩) bl.length c1, .slice ao2 hs.length c2] 25)).alloc (.cells #[.int .i64 0, .slice none 0 0, .slice none 0 0] 25)) x) := by
    repeat (first | (with_reducible exact Below.refl _ _) | (with_reducible assumption) | (with_reducible refine below_to_plus ?_ ?_ _) | (with_reducible refine below_holds ?_ ?_ _ _) | (with_reducible refine Below.alloc ?_ ?_ _) | (with_reducible refine Below.drew ?_) | (with_reducible refine below_drewN ?_ _) | (with_reducible refine Below.setCell ?_ ?_ _))
    all_goals first | omega | (simp; done) | (simp [go_sem]; done) | (simp [go_sem]; omega)
  have HQ := HB1
  clear HB1
  have HB1 : Aside (Below w.heap.size w (plus ((w.alloc (.cells #[.int .i64 cp, .slice (some ⟨b, off, none⟩) bl.length c1, .slice ao2 hs.length c2] 25)).alloc (.cells #[.int .i64 0, .slice none 0 0, .slice none 0 0] 25)) x)) := HQ
  clear HQ
  go_wp2
  refine wp_region_plus (by kernel_rfl) (by kernel_rfl) ?_
  repeat (go_big_quiet_step (first | (go_at_call 57; exact calls_plus (cm _ (HB1.out.trans ((below_plus _ _).mono HB1.out.size)))) | (go_at_call 58; exact calls_plus (cv _ (HB1.out.trans ((below_plus _ _).mono HB1.out.size))))))
  refine wpQuiet_nil ?_
  rintro _ ⟨x1, rfl⟩
  obtain ⟨x2, hx2⟩ := plus_plus ((w.alloc (.cells #[.int .i64 cp, .slice (some ⟨b, off, none⟩) bl.length c1, .slice ao2 hs.length c2] 25)).alloc (.cells #[.int .i64 0, .slice none 0 0, .slice none 0 0] 25)) x x1
  rw [hx2]
  clear hx2 HB1 cm cv
  have HB : Below w.heap.size w (plus ((w.alloc (.cells #[.int .i64 cp, .slice (some ⟨b, off, none⟩) bl.length c1, .slice ao2 hs.length c2] 25)).alloc (.cells #[.int .i64 0, .slice none 0 0, .slice none 0 0] 25)) x2) := by
    repeat (first | (with_reducible exact Below.refl _ _) | (with_reducible assumption) | (with_reducible refine below_to_plus ?_ ?_ _) | (with_reducible refine below_holds ?_ ?_ _ _) | (with_reducible refine Below.alloc ?_ ?_ _) | (with_reducible refine Below.drew ?_) | (with_reducible refine below_drewN ?_ _) | (with_reducible refine Below.setCell ?_ ?_ _))
    all_goals first | omega | (simp; done) | (simp [go_sem]; done) | (simp [go_sem]; omega)
  have m0 := (HB.cell (p := ⟨b, off + k * 4, none⟩) hbw).trans e0
  have m1 := (HB.cell (p := ⟨b, off + k * 4 + 1, none⟩) hbw).trans e1
  have m2 := (HB.cell (p := ⟨b, off + k * 4 + 2, none⟩) hbw).trans e2
  have m3 := (HB.cell (p := ⟨b, off + k * 4 + 3, none⟩) hbw).trans e3
  have hbr : b < (plus ((w.alloc (.cells #[.int .i64 cp, .slice (some ⟨b, off, none⟩) bl.length c1, .slice ao2 hs.length c2] 25)).alloc (.cells #[.int .i64 0, .slice none 0 0, .slice none 0 0] 25)) x2).heap.size := Nat.lt_of_lt_of_le hbw HB.size
  have ck := cu _ HB
  clear cu
  go_wp2_with fail
  refine ck.mono ?_
  rintro e w2 ⟨a1, k1, rfl, o1, hb⟩
  have O1 : Aside (w2.ownsRow (w.heap.size + 1 + 1) 47 4 (.slice a1 ul.length k1) ul.length (flatE Pc.enc ul)) := own_lower o1 (by have := (below_plus ((w.alloc (.cells #[.int .i64 cp, .slice (some ⟨b, off, none⟩) bl.length c1, .slice ao2 hs.length c2] 25)).alloc (.cells #[.int .i64 0, .slice none 0 0, .slice none 0 0] 25)) x2).size; simpa using this)
  have hB2 : Below ((w.alloc (.cells #[.int .i64 cp, .slice (some ⟨b, off, none⟩) bl.length c1, .slice ao2 hs.length c2] 25)).alloc (.cells #[.int .i64 0, .slice none 0 0, .slice none 0 0] 25)).heap.size ((w.alloc (.cells #[.int .i64 cp, .slice (some ⟨b, off, none⟩) bl.length c1, .slice ao2 hs.length c2] 25)).alloc (.cells #[.int .i64 0, .slice none 0 0, .slice none 0 0] 25)) w2 := (below_plus _ _).trans (hb.mono (below_plus _ _).size)
  clear ck hb HB m0 m1 m2 m3 hbr o1
  obtain ⟨x3, hx⟩ := plus_of_below hB2
  subst hx
  clear hB2
  go_wp2
  refine bodyPost_ret (v := .tuple #[.agg #[.int .i64 cp, .slice a1 ul.length k1, .slice ao2 hs.length c2], .string ⟨#[]⟩, .bool true]) (by simp [results, Try.results44, go_sem, ↓IntWalk.iteOmega, *]) rfl ⟨a1, k1, ao2, c2, rfl, own_Sl pc_len (by omega) (own_past O1.out (by simp) (by simp)), S2.out.stays ?_, ?_⟩
  all_goals
    repeat (first | (with_reducible exact Below.refl _ _) | (with_reducible assumption) | (with_reducible refine below_to_plus ?_ ?_ _) | (with_reducible refine below_holds ?_ ?_ _ _) | (with_reducible refine Below.alloc ?_ ?_ _) | (with_reducible refine Below.drew ?_) | (with_reducible refine below_drewN ?_ _) | (with_reducible refine Below.setCell ?_ ?_ _))
    all_goals first | omega | (simp; done) | (simp [go_sem]; done) | (simp [go_sem]; omega)

set_option maxRecDepth 20000 in
set_option maxHeartbeats 16000000 in
theorem rget_none_n (cp : Int) (ao : Option Addr) (n c1 : Nat) (ao2 : Option Addr) (n2 c2 : Nat) (bl : List Pc) (hs : List Hd) (id at' cnt now : Int) (w : World) (h1 : Sl w 4 ao n c1 (bl.map Pc.enc)) (h2 : Sl w 3 ao2 n2 c2 (hs.map Hd.enc)) (hn : n ≤ 1000000) (hh : heldB id now hs = true) (h0 : 0 ≤ at') (hc : 0 ≤ cnt) (he : endI id bl = -1) (ok : ∀ y ∈ bl, OkP y) (hv : covI id at' bl = -1) :
    Calls Try.prog 44 #[.agg #[.int .i64 cp, .slice ao n c1, .slice ao2 n2 c2], .int .i64 id, .int .i64 at', .int .i64 cnt, .int .i64 now] w fun e w' => GetPost w cp hs (bl, ⟨#[]⟩, false) e w' := by
  have hln : bl.length = n := Sl.lenE h1
  have hln2 : hs.length = n2 := Sl.lenE h2
  subst hln
  subst hln2
  have hbig : bl.length ≤ 9223372036854775807 := by omega
  have S1 : Aside (Sl w 4 ao bl.length c1 (bl.map Pc.enc)) := h1
  have S2 : Aside (Sl w 3 ao2 hs.length c2 (hs.map Hd.enc)) := h2
  have ch := fun U (h : Below w.heap.size w U) => rheld_calls cp ao bl.length c1 ao2 hs.length c2 hs id now U (S2.out.stays h)
  have cm := fun U (h : Below w.heap.size w U) => mark_calls cp ao bl.length c1 ao2 hs.length c2 bl id U (S1.out.stays h)
  have cv := fun U (h : Below w.heap.size w U) => covers_calls cp ao bl.length c1 ao2 hs.length c2 bl id at' U (S1.out.stays h) ok
  have x0 : ¬ at' < 0 := by omega
  have xc : ¬ cnt < 0 := by omega
  rw [hh] at ch
  rw [he] at cm
  rw [hv] at cv
  clear h1 h2 hh he hv ok
  have hb0 : Below w.heap.size w ((w.alloc (.cells #[.int .i64 cp, .slice ao bl.length c1, .slice ao2 hs.length c2] 25)).alloc (.cells #[.int .i64 0, .slice none 0 0, .slice none 0 0] 25)) := by
    repeat (first | (with_reducible exact Below.refl _ _) | (with_reducible assumption) | (with_reducible refine below_to_plus ?_ ?_ _) | (with_reducible refine below_holds ?_ ?_ _ _) | (with_reducible refine Below.alloc ?_ ?_ _) | (with_reducible refine Below.drew ?_) | (with_reducible refine below_drewN ?_ _) | (with_reducible refine Below.setCell ?_ ?_ _))
    all_goals first | omega | (simp; done) | (simp [go_sem]; done) | (simp [go_sem]; omega)
  have ck := ch _ hb0
  clear ch
  go_enter Try.func44, Try.ntmps44
  go_wp2_with fail
  refine ck.mono ?_
  rintro e w1 ⟨rfl, hb⟩
  obtain ⟨x, hx⟩ := plus_of_below hb
  subst hx
  clear ck hb hb0
  have HB1 : Below w.heap.size w (plus ((w.alloc (.cells #[.int .i64 cp, .slice ao bl.length c1, .slice ao2 hs.length c2] 25)).alloc (.cells #[.int .i64 0, .slice none 0 0, .slice none 0 0] 25)) x) := by
    repeat (first | (with_reducible exact Below.refl _ _) | (with_reducible assumption) | (with_reducible refine below_to_plus ?_ ?_ _) | (with_reducible refine below_holds ?_ ?_ _ _) | (with_reducible refine Below.alloc ?_ ?_ _) | (with_reducible refine Below.drew ?_) | (with_reducible refine below_drewN ?_ _) | (with_reducible refine Below.setCell ?_ ?_ _))
    all_goals first | omega | (simp; done) | (simp [go_sem]; done) | (simp [go_sem]; omega)
  have HQ := HB1
  clear HB1
  have HB1 : Aside (Below w.heap.size w (plus ((w.alloc (.cells #[.int .i64 cp, .slice ao bl.length c1, .slice ao2 hs.length c2] 25)).alloc (.cells #[.int .i64 0, .slice none 0 0, .slice none 0 0] 25)) x)) := HQ
  clear HQ
  go_wp2
  refine wp_region_plus (by kernel_rfl) (by kernel_rfl) ?_
  repeat (go_big_quiet_step (first | (go_at_call 57; exact calls_plus (cm _ (HB1.out.trans ((below_plus _ _).mono HB1.out.size)))) | (go_at_call 58; exact calls_plus (cv _ (HB1.out.trans ((below_plus _ _).mono HB1.out.size))))))
  refine wpQuiet_nil ?_
  rintro _ ⟨x1, rfl⟩
  obtain ⟨x2, hx2⟩ := plus_plus ((w.alloc (.cells #[.int .i64 cp, .slice ao bl.length c1, .slice ao2 hs.length c2] 25)).alloc (.cells #[.int .i64 0, .slice none 0 0, .slice none 0 0] 25)) x x1
  rw [hx2]
  clear hx2 HB1 cm cv
  have HB : Below w.heap.size w (plus ((w.alloc (.cells #[.int .i64 cp, .slice ao bl.length c1, .slice ao2 hs.length c2] 25)).alloc (.cells #[.int .i64 0, .slice none 0 0, .slice none 0 0] 25)) x2) := by
    repeat (first | (with_reducible exact Below.refl _ _) | (with_reducible assumption) | (with_reducible refine below_to_plus ?_ ?_ _) | (with_reducible refine below_holds ?_ ?_ _ _) | (with_reducible refine Below.alloc ?_ ?_ _) | (with_reducible refine Below.drew ?_) | (with_reducible refine below_drewN ?_ _) | (with_reducible refine Below.setCell ?_ ?_ _))
    all_goals first | omega | (simp; done) | (simp [go_sem]; done) | (simp [go_sem]; omega)
  go_wp2
  refine bodyPost_ret (v := .tuple #[.agg #[.int .i64 cp, .slice ao bl.length c1, .slice ao2 hs.length c2], .string ⟨#[]⟩, .bool false]) (by simp [results, Try.results44, go_sem, ↓IntWalk.iteOmega, *]) rfl ⟨ao, c1, ao2, c2, rfl, S1.out.stays ?_, S2.out.stays ?_, ?_⟩
  all_goals
    repeat (first | (with_reducible exact Below.refl _ _) | (with_reducible assumption) | (with_reducible refine below_to_plus ?_ ?_ _) | (with_reducible refine below_holds ?_ ?_ _ _) | (with_reducible refine Below.alloc ?_ ?_ _) | (with_reducible refine Below.drew ?_) | (with_reducible refine below_drewN ?_ _) | (with_reducible refine Below.setCell ?_ ?_ _))
    all_goals first | omega | (simp; done) | (simp [go_sem]; done) | (simp [go_sem]; omega)

set_option maxRecDepth 20000 in
set_option maxHeartbeats 16000000 in
theorem rget_none_f (cp : Int) (ao : Option Addr) (n c1 : Nat) (ao2 : Option Addr) (n2 c2 : Nat) (bl : List Pc) (hs : List Hd) (id at' cnt now : Int) (w : World) (h1 : Sl w 4 ao n c1 (bl.map Pc.enc)) (h2 : Sl w 3 ao2 n2 c2 (hs.map Hd.enc)) (hn : n ≤ 1000000) (hh : heldB id now hs = true) (h0 : 0 ≤ at') (hc : 0 ≤ cnt) {k : Nat} (hk : k < bl.length) (he : endI id bl = (k : Int)) (hp : at' < bl[k]!.pos) (ok : ∀ y ∈ bl, OkP y) (hv : covI id at' bl = -1) :
    Calls Try.prog 44 #[.agg #[.int .i64 cp, .slice ao n c1, .slice ao2 n2 c2], .int .i64 id, .int .i64 at', .int .i64 cnt, .int .i64 now] w fun e w' => GetPost w cp hs (bl, ⟨#[]⟩, false) e w' := by
  have hln : bl.length = n := Sl.lenE h1
  have hln2 : hs.length = n2 := Sl.lenE h2
  subst hln
  subst hln2
  have hbig : bl.length ≤ 9223372036854775807 := by omega
  have S1 : Aside (Sl w 4 ao bl.length c1 (bl.map Pc.enc)) := h1
  have S2 : Aside (Sl w 3 ao2 hs.length c2 (hs.map Hd.enc)) := h2
  have ch := fun U (h : Below w.heap.size w U) => rheld_calls cp ao bl.length c1 ao2 hs.length c2 hs id now U (S2.out.stays h)
  have cm := fun U (h : Below w.heap.size w U) => mark_calls cp ao bl.length c1 ao2 hs.length c2 bl id U (S1.out.stays h)
  have cv := fun U (h : Below w.heap.size w U) => covers_calls cp ao bl.length c1 ao2 hs.length c2 bl id at' U (S1.out.stays h) ok
  obtain ⟨b, off, eao, hbw, e0, e1, e2, e3⟩ := (cellsPc h1) k hk
  subst eao
  have hkz : (k : Int) < (bl.length : Int) := by omega
  have hpn : ¬ bl[k]!.pos ≤ at' := by omega
  have hpd : decide (bl[k]!.pos ≤ at') = false := decide_eq_false hpn
  have x0 : ¬ at' < 0 := by omega
  have xc : ¬ cnt < 0 := by omega
  rw [hh] at ch
  rw [he] at cm
  rw [hv] at cv
  clear h1 h2 hh he hv ok hp
  generalize bl[k]! = z at e0 e1 e2 e3 hpd hpn
  obtain ⟨z1, z2, z3, z4⟩ := z
  simp only [] at e0 e1 e2 e3 hpd hpn
  have hb0 : Below w.heap.size w ((w.alloc (.cells #[.int .i64 cp, .slice (some ⟨b, off, none⟩) bl.length c1, .slice ao2 hs.length c2] 25)).alloc (.cells #[.int .i64 0, .slice none 0 0, .slice none 0 0] 25)) := by
    repeat (first | (with_reducible exact Below.refl _ _) | (with_reducible assumption) | (with_reducible refine below_to_plus ?_ ?_ _) | (with_reducible refine below_holds ?_ ?_ _ _) | (with_reducible refine Below.alloc ?_ ?_ _) | (with_reducible refine Below.drew ?_) | (with_reducible refine below_drewN ?_ _) | (with_reducible refine Below.setCell ?_ ?_ _))
    all_goals first | omega | (simp; done) | (simp [go_sem]; done) | (simp [go_sem]; omega)
  have ck := ch _ hb0
  clear ch
  go_enter Try.func44, Try.ntmps44
  go_wp2_with fail
  refine ck.mono ?_
  rintro e w1 ⟨rfl, hb⟩
  obtain ⟨x, hx⟩ := plus_of_below hb
  subst hx
  clear ck hb hb0
  have HB1 : Below w.heap.size w (plus ((w.alloc (.cells #[.int .i64 cp, .slice (some ⟨b, off, none⟩) bl.length c1, .slice ao2 hs.length c2] 25)).alloc (.cells #[.int .i64 0, .slice none 0 0, .slice none 0 0] 25)) x) := by
    repeat (first | (with_reducible exact Below.refl _ _) | (with_reducible assumption) | (with_reducible refine below_to_plus ?_ ?_ _) | (with_reducible refine below_holds ?_ ?_ _ _) | (with_reducible refine Below.alloc ?_ ?_ _) | (with_reducible refine Below.drew ?_) | (with_reducible refine below_drewN ?_ _) | (with_reducible refine Below.setCell ?_ ?_ _))
    all_goals first | omega | (simp; done) | (simp [go_sem]; done) | (simp [go_sem]; omega)
  have HQ := HB1
  clear HB1
  have HB1 : Aside (Below w.heap.size w (plus ((w.alloc (.cells #[.int .i64 cp, .slice (some ⟨b, off, none⟩) bl.length c1, .slice ao2 hs.length c2] 25)).alloc (.cells #[.int .i64 0, .slice none 0 0, .slice none 0 0] 25)) x)) := HQ
  clear HQ
  go_wp2
  refine wp_region_plus (by kernel_rfl) (by kernel_rfl) ?_
  repeat (go_big_quiet_step (first | (go_at_call 57; exact calls_plus (cm _ (HB1.out.trans ((below_plus _ _).mono HB1.out.size)))) | (go_at_call 58; exact calls_plus (cv _ (HB1.out.trans ((below_plus _ _).mono HB1.out.size))))))
  refine wpQuiet_nil ?_
  rintro _ ⟨x1, rfl⟩
  obtain ⟨x2, hx2⟩ := plus_plus ((w.alloc (.cells #[.int .i64 cp, .slice (some ⟨b, off, none⟩) bl.length c1, .slice ao2 hs.length c2] 25)).alloc (.cells #[.int .i64 0, .slice none 0 0, .slice none 0 0] 25)) x x1
  rw [hx2]
  clear hx2 HB1 cm cv
  have HB : Below w.heap.size w (plus ((w.alloc (.cells #[.int .i64 cp, .slice (some ⟨b, off, none⟩) bl.length c1, .slice ao2 hs.length c2] 25)).alloc (.cells #[.int .i64 0, .slice none 0 0, .slice none 0 0] 25)) x2) := by
    repeat (first | (with_reducible exact Below.refl _ _) | (with_reducible assumption) | (with_reducible refine below_to_plus ?_ ?_ _) | (with_reducible refine below_holds ?_ ?_ _ _) | (with_reducible refine Below.alloc ?_ ?_ _) | (with_reducible refine Below.drew ?_) | (with_reducible refine below_drewN ?_ _) | (with_reducible refine Below.setCell ?_ ?_ _))
    all_goals first | omega | (simp; done) | (simp [go_sem]; done) | (simp [go_sem]; omega)
  have m0 := (HB.cell (p := ⟨b, off + k * 4, none⟩) hbw).trans e0
  have m1 := (HB.cell (p := ⟨b, off + k * 4 + 1, none⟩) hbw).trans e1
  have m2 := (HB.cell (p := ⟨b, off + k * 4 + 2, none⟩) hbw).trans e2
  have m3 := (HB.cell (p := ⟨b, off + k * 4 + 3, none⟩) hbw).trans e3
  have hbr : b < (plus ((w.alloc (.cells #[.int .i64 cp, .slice (some ⟨b, off, none⟩) bl.length c1, .slice ao2 hs.length c2] 25)).alloc (.cells #[.int .i64 0, .slice none 0 0, .slice none 0 0] 25)) x2).heap.size := Nat.lt_of_lt_of_le hbw HB.size
  go_wp2
  refine bodyPost_ret (v := .tuple #[.agg #[.int .i64 cp, .slice (some ⟨b, off, none⟩) bl.length c1, .slice ao2 hs.length c2], .string ⟨#[]⟩, .bool false]) (by simp [results, Try.results44, go_sem, ↓IntWalk.iteOmega, *]) rfl ⟨(some ⟨b, off, none⟩), c1, ao2, c2, rfl, S1.out.stays ?_, S2.out.stays ?_, ?_⟩
  all_goals
    repeat (first | (with_reducible exact Below.refl _ _) | (with_reducible assumption) | (with_reducible refine below_to_plus ?_ ?_ _) | (with_reducible refine below_holds ?_ ?_ _ _) | (with_reducible refine Below.alloc ?_ ?_ _) | (with_reducible refine Below.drew ?_) | (with_reducible refine below_drewN ?_ _) | (with_reducible refine Below.setCell ?_ ?_ _))
    all_goals first | omega | (simp; done) | (simp [go_sem]; done) | (simp [go_sem]; omega)

set_option maxRecDepth 20000 in
set_option maxHeartbeats 16000000 in
theorem rget_part_n (cp : Int) (ao : Option Addr) (n c1 : Nat) (ao2 : Option Addr) (n2 c2 : Nat) (bl : List Pc) (hs : List Hd) (id at' cnt now : Int) (w : World) (h1 : Sl w 4 ao n c1 (bl.map Pc.enc)) (h2 : Sl w 3 ao2 n2 c2 (hs.map Hd.enc)) (hn : n ≤ 1000000) (hh : heldB id now hs = true) (h0 : 0 ≤ at') (hc : 0 ≤ cnt) (he : endI id bl = -1) (ok : ∀ y ∈ bl, OkP y) {j : Nat} (hj : j < bl.length) (hv : covI id at' bl = (j : Int)) (hq1 : bl[j]!.pos ≤ at') (hq2 : at' < endP bl[j]!) (hcn : cnt ≤ ((bl[j]!.data.extract (at' - bl[j]!.pos).toNat bl[j]!.data.size).size : Int)) :
    Calls Try.prog 44 #[.agg #[.int .i64 cp, .slice ao n c1, .slice ao2 n2 c2], .int .i64 id, .int .i64 at', .int .i64 cnt, .int .i64 now] w fun e w' => GetPost w cp hs (useL j bl, (bl[j]!.data.extract (at' - bl[j]!.pos).toNat bl[j]!.data.size).extract 0 cnt.toNat, true) e w' := by
  have hln : bl.length = n := Sl.lenE h1
  have hln2 : hs.length = n2 := Sl.lenE h2
  subst hln
  subst hln2
  have hbig : bl.length ≤ 9223372036854775807 := by omega
  have S1 : Aside (Sl w 4 ao bl.length c1 (bl.map Pc.enc)) := h1
  have S2 : Aside (Sl w 3 ao2 hs.length c2 (hs.map Hd.enc)) := h2
  have ch := fun U (h : Below w.heap.size w U) => rheld_calls cp ao bl.length c1 ao2 hs.length c2 hs id now U (S2.out.stays h)
  have cm := fun U (h : Below w.heap.size w U) => mark_calls cp ao bl.length c1 ao2 hs.length c2 bl id U (S1.out.stays h)
  have cv := fun U (h : Below w.heap.size w U) => covers_calls cp ao bl.length c1 ao2 hs.length c2 bl id at' U (S1.out.stays h) ok
  have cu := fun U (h : Below w.heap.size w U) => rused_own cp ao bl.length c1 ao2 hs.length c2 bl hs j U (S1.out.stays h) (S2.out.stays h) hn hj
  obtain ⟨b, off, eao, hbw, f0, f1, f2, f3⟩ := (cellsPc h1) j hj
  subst eao
  have x0 : ¬ at' < 0 := by omega
  have xc : ¬ cnt < 0 := by omega
  have hjz : (j : Int) < (bl.length : Int) := by omega
  have oy := ok _ (by rw [getElem!_pos bl j hj]; exact List.getElem_mem _ : bl[j]! ∈ bl)
  rw [hh] at ch
  rw [he] at cm
  rw [hv] at cv
  obtain ⟨ul, hul⟩ : ∃ ul, useL j bl = ul := ⟨_, rfl⟩
  rw [hul] at cu ⊢
  obtain ⟨rs, hrs⟩ : ∃ rs, (bl[j]!.data.extract (at' - bl[j]!.pos).toNat bl[j]!.data.size) = rs := ⟨_, rfl⟩
  have RS : Aside (_ = rs) := hrs
  rw [hrs] at hcn ⊢
  clear hul hrs
  clear h1 h2 hh he hv ok
  generalize bl[j]! = y at f0 f1 f2 f3 hq1 hq2 oy RS
  obtain ⟨y1, y2, y3, y4⟩ := y
  simp only [] at f0 f1 f2 f3 hq1 oy
  have hq3 : at' < y3 + (y4.size : Int) := hq2
  have hsub : IntKind.i64.wrap (at' - y3) = at' - y3 := by
    have o1 := oy.1.1
    have o2 := oy.1.2
    have o3 := oy.2
    simp only [] at o1 o2 o3
    rw [IntKind.wrap_i64]; omega
  have x2 : ∀ U, (Instr.slice 9 (.string y4) (some (.int .i64 (at' - y3))) none none).run Try.prog U = .ok (.string (y4.extract (at' - y3).toNat y4.size)) U := fun U => by
    rw [run_slice_string_from_if (P := Try.prog) U 9 y4 .i64 (at' - y3) Try.underlying9, if_pos (by omega)]
  have RS2 : (y4.extract (at' - y3).toNat y4.size) = rs := RS.out
  rw [RS2] at x2
  clear RS RS2 oy
  have x3 : ∀ U, (Instr.slice 9 (.string rs) none (some (.int .i64 cnt)) none).run Try.prog U = .ok (.string (rs.extract 0 cnt.toNat)) U := fun U => by
    rw [run_slice_string_to_if (P := Try.prog) U 9 rs .i64 cnt Try.underlying9, if_pos (by omega)]
  have hb0 : Below w.heap.size w ((w.alloc (.cells #[.int .i64 cp, .slice (some ⟨b, off, none⟩) bl.length c1, .slice ao2 hs.length c2] 25)).alloc (.cells #[.int .i64 0, .slice none 0 0, .slice none 0 0] 25)) := by
    repeat (first | (with_reducible exact Below.refl _ _) | (with_reducible assumption) | (with_reducible refine below_to_plus ?_ ?_ _) | (with_reducible refine below_holds ?_ ?_ _ _) | (with_reducible refine Below.alloc ?_ ?_ _) | (with_reducible refine Below.drew ?_) | (with_reducible refine below_drewN ?_ _) | (with_reducible refine Below.setCell ?_ ?_ _))
    all_goals first | omega | (simp; done) | (simp [go_sem]; done) | (simp [go_sem]; omega)
  have ck := ch _ hb0
  clear ch
  go_enter Try.func44, Try.ntmps44
  go_wp2_with fail
  refine ck.mono ?_
  rintro e w1 ⟨rfl, hb⟩
  obtain ⟨x, hx⟩ := plus_of_below hb
  subst hx
  clear ck hb hb0
  have HB1 : Below w.heap.size w (plus ((w.alloc (.cells #[.int .i64 cp, .slice (some ⟨b, off, none⟩) bl.length c1, .slice ao2 hs.length c2] 25)).alloc (.cells #[.int .i64 0, .slice none 0 0, .slice none 0 0] 25)) x) := by
    repeat (first | (with_reducible exact Below.refl _ _) | (with_reducible assumption) | (with_reducible refine below_to_plus ?_ ?_ _) | (with_reducible refine below_holds ?_ ?_ _ _) | (with_reducible refine Below.alloc ?_ ?_ _) | (with_reducible refine Below.drew ?_) | (with_reducible refine below_drewN ?_ _) | (with_reducible refine Below.setCell ?_ ?_ _))
    all_goals first | omega | (simp; done) | (simp [go_sem]; done) | (simp [go_sem]; omega)
  have HQ := HB1
  clear HB1
  have HB1 : Aside (Below w.heap.size w (plus ((w.alloc (.cells #[.int .i64 cp, .slice (some ⟨b, off, none⟩) bl.length c1, .slice ao2 hs.length c2] 25)).alloc (.cells #[.int .i64 0, .slice none 0 0, .slice none 0 0] 25)) x)) := HQ
  clear HQ
  go_wp2
  refine wp_region_plus (by kernel_rfl) (by kernel_rfl) ?_
  repeat (go_big_quiet_step (first | (go_at_call 57; exact calls_plus (cm _ (HB1.out.trans ((below_plus _ _).mono HB1.out.size)))) | (go_at_call 58; exact calls_plus (cv _ (HB1.out.trans ((below_plus _ _).mono HB1.out.size))))))
  refine wpQuiet_nil ?_
  rintro _ ⟨x1, rfl⟩
  obtain ⟨x5, hx5⟩ := plus_plus ((w.alloc (.cells #[.int .i64 cp, .slice (some ⟨b, off, none⟩) bl.length c1, .slice ao2 hs.length c2] 25)).alloc (.cells #[.int .i64 0, .slice none 0 0, .slice none 0 0] 25)) x x1
  rw [hx5]
  clear hx5 HB1 cm cv
  have HB : Below w.heap.size w (plus ((w.alloc (.cells #[.int .i64 cp, .slice (some ⟨b, off, none⟩) bl.length c1, .slice ao2 hs.length c2] 25)).alloc (.cells #[.int .i64 0, .slice none 0 0, .slice none 0 0] 25)) x5) := by
    repeat (first | (with_reducible exact Below.refl _ _) | (with_reducible assumption) | (with_reducible refine below_to_plus ?_ ?_ _) | (with_reducible refine below_holds ?_ ?_ _ _) | (with_reducible refine Below.alloc ?_ ?_ _) | (with_reducible refine Below.drew ?_) | (with_reducible refine below_drewN ?_ _) | (with_reducible refine Below.setCell ?_ ?_ _))
    all_goals first | omega | (simp; done) | (simp [go_sem]; done) | (simp [go_sem]; omega)
  have n0 := (HB.cell (p := ⟨b, off + j * 4, none⟩) hbw).trans f0
  have n1 := (HB.cell (p := ⟨b, off + j * 4 + 1, none⟩) hbw).trans f1
  have n2 := (HB.cell (p := ⟨b, off + j * 4 + 2, none⟩) hbw).trans f2
  have n3 := (HB.cell (p := ⟨b, off + j * 4 + 3, none⟩) hbw).trans f3
  have hbr : b < (plus ((w.alloc (.cells #[.int .i64 cp, .slice (some ⟨b, off, none⟩) bl.length c1, .slice ao2 hs.length c2] 25)).alloc (.cells #[.int .i64 0, .slice none 0 0, .slice none 0 0] 25)) x5).heap.size := Nat.lt_of_lt_of_le hbw HB.size
  go_wp2
  go_region_held3 (fun w' => w'.cell? ⟨w.heap.size, 0, none⟩ = some (.int .i64 cp) ∧ w'.cell? ⟨w.heap.size, 1, none⟩ = some (.slice (some ⟨b, off, none⟩) bl.length c1) ∧ w'.cell? ⟨w.heap.size, 2, none⟩ = some (.slice ao2 hs.length c2)) (first | (simp [go_sem, ↓IntWalk.iteOmega, *]; done)) ((first | (go_at_call 59; refine (cu _ (Below.drew (Below.alloc HB HB.size _))).mono ?_; rintro e w2 ⟨a1, k1, rfl, o1, hb⟩; have O1 : Aside _ := o1; clear o1; obtain ⟨x3, hx⟩ := plus_of_below hb; subst hx; clear hb)))
  all_goals go_wp2
  all_goals refine bodyPost_ret (v := .tuple #[.agg #[.int .i64 cp, .slice a1 ul.length k1, .slice ao2 hs.length c2], .string (rs.extract 0 cnt.toNat), .bool true]) (by simp [results, Try.results44, go_sem, ↓IntWalk.iteOmega, *]) rfl ⟨a1, k1, ao2, c2, rfl, own_Sl pc_len (by omega) (own_past O1.out (Nat.le_refl _) (by simp [size_plus])), S2.out.stays ?_, ?_⟩
  all_goals
    repeat (first | (with_reducible exact Below.refl _ _) | (with_reducible assumption) | (with_reducible refine below_to_plus ?_ ?_ _) | (with_reducible refine below_holds ?_ ?_ _ _) | (with_reducible refine Below.alloc ?_ ?_ _) | (with_reducible refine Below.drew ?_) | (with_reducible refine below_drewN ?_ _) | (with_reducible refine Below.setCell ?_ ?_ _))
    all_goals first | omega | (simp; done) | (simp [go_sem]; done) | (simp [go_sem]; omega)

set_option maxRecDepth 20000 in
set_option maxHeartbeats 16000000 in
theorem rget_part_f (cp : Int) (ao : Option Addr) (n c1 : Nat) (ao2 : Option Addr) (n2 c2 : Nat) (bl : List Pc) (hs : List Hd) (id at' cnt now : Int) (w : World) (h1 : Sl w 4 ao n c1 (bl.map Pc.enc)) (h2 : Sl w 3 ao2 n2 c2 (hs.map Hd.enc)) (hn : n ≤ 1000000) (hh : heldB id now hs = true) (h0 : 0 ≤ at') (hc : 0 ≤ cnt) {k : Nat} (hk : k < bl.length) (he : endI id bl = (k : Int)) (hp : at' < bl[k]!.pos) (ok : ∀ y ∈ bl, OkP y) {j : Nat} (hj : j < bl.length) (hv : covI id at' bl = (j : Int)) (hq1 : bl[j]!.pos ≤ at') (hq2 : at' < endP bl[j]!) (hcn : cnt ≤ ((bl[j]!.data.extract (at' - bl[j]!.pos).toNat bl[j]!.data.size).size : Int)) :
    Calls Try.prog 44 #[.agg #[.int .i64 cp, .slice ao n c1, .slice ao2 n2 c2], .int .i64 id, .int .i64 at', .int .i64 cnt, .int .i64 now] w fun e w' => GetPost w cp hs (useL j bl, (bl[j]!.data.extract (at' - bl[j]!.pos).toNat bl[j]!.data.size).extract 0 cnt.toNat, true) e w' := by
  have hln : bl.length = n := Sl.lenE h1
  have hln2 : hs.length = n2 := Sl.lenE h2
  subst hln
  subst hln2
  have hbig : bl.length ≤ 9223372036854775807 := by omega
  have S1 : Aside (Sl w 4 ao bl.length c1 (bl.map Pc.enc)) := h1
  have S2 : Aside (Sl w 3 ao2 hs.length c2 (hs.map Hd.enc)) := h2
  have ch := fun U (h : Below w.heap.size w U) => rheld_calls cp ao bl.length c1 ao2 hs.length c2 hs id now U (S2.out.stays h)
  have cm := fun U (h : Below w.heap.size w U) => mark_calls cp ao bl.length c1 ao2 hs.length c2 bl id U (S1.out.stays h)
  have cv := fun U (h : Below w.heap.size w U) => covers_calls cp ao bl.length c1 ao2 hs.length c2 bl id at' U (S1.out.stays h) ok
  have cu := fun U (h : Below w.heap.size w U) => rused_own cp ao bl.length c1 ao2 hs.length c2 bl hs j U (S1.out.stays h) (S2.out.stays h) hn hj
  obtain ⟨b, off, eao, hbw, e0, e1, e2, e3⟩ := (cellsPc h1) k hk
  subst eao
  have hkz : (k : Int) < (bl.length : Int) := by omega
  have hpn : ¬ bl[k]!.pos ≤ at' := by omega
  have hpd : decide (bl[k]!.pos ≤ at') = false := decide_eq_false hpn
  obtain ⟨b9, off9, eb9, _, f0, f1, f2, f3⟩ := (cellsPc h1) j hj
  cases eb9
  have x0 : ¬ at' < 0 := by omega
  have xc : ¬ cnt < 0 := by omega
  have hjz : (j : Int) < (bl.length : Int) := by omega
  have oy := ok _ (by rw [getElem!_pos bl j hj]; exact List.getElem_mem _ : bl[j]! ∈ bl)
  rw [hh] at ch
  rw [he] at cm
  rw [hv] at cv
  obtain ⟨ul, hul⟩ : ∃ ul, useL j bl = ul := ⟨_, rfl⟩
  rw [hul] at cu ⊢
  obtain ⟨rs, hrs⟩ : ∃ rs, (bl[j]!.data.extract (at' - bl[j]!.pos).toNat bl[j]!.data.size) = rs := ⟨_, rfl⟩
  have RS : Aside (_ = rs) := hrs
  rw [hrs] at hcn ⊢
  clear hul hrs
  clear h1 h2 hh he hv ok hp
  generalize bl[k]! = z at e0 e1 e2 e3 hpd hpn
  obtain ⟨z1, z2, z3, z4⟩ := z
  simp only [] at e0 e1 e2 e3 hpd hpn
  generalize bl[j]! = y at f0 f1 f2 f3 hq1 hq2 oy RS
  obtain ⟨y1, y2, y3, y4⟩ := y
  simp only [] at f0 f1 f2 f3 hq1 oy
  have hq3 : at' < y3 + (y4.size : Int) := hq2
  have hsub : IntKind.i64.wrap (at' - y3) = at' - y3 := by
    have o1 := oy.1.1
    have o2 := oy.1.2
    have o3 := oy.2
    simp only [] at o1 o2 o3
    rw [IntKind.wrap_i64]; omega
  have x2 : ∀ U, (Instr.slice 9 (.string y4) (some (.int .i64 (at' - y3))) none none).run Try.prog U = .ok (.string (y4.extract (at' - y3).toNat y4.size)) U := fun U => by
    rw [run_slice_string_from_if (P := Try.prog) U 9 y4 .i64 (at' - y3) Try.underlying9, if_pos (by omega)]
  have RS2 : (y4.extract (at' - y3).toNat y4.size) = rs := RS.out
  rw [RS2] at x2
  clear RS RS2 oy
  have x3 : ∀ U, (Instr.slice 9 (.string rs) none (some (.int .i64 cnt)) none).run Try.prog U = .ok (.string (rs.extract 0 cnt.toNat)) U := fun U => by
    rw [run_slice_string_to_if (P := Try.prog) U 9 rs .i64 cnt Try.underlying9, if_pos (by omega)]
  have hb0 : Below w.heap.size w ((w.alloc (.cells #[.int .i64 cp, .slice (some ⟨b, off, none⟩) bl.length c1, .slice ao2 hs.length c2] 25)).alloc (.cells #[.int .i64 0, .slice none 0 0, .slice none 0 0] 25)) := by
    repeat (first | (with_reducible exact Below.refl _ _) | (with_reducible assumption) | (with_reducible refine below_to_plus ?_ ?_ _) | (with_reducible refine below_holds ?_ ?_ _ _) | (with_reducible refine Below.alloc ?_ ?_ _) | (with_reducible refine Below.drew ?_) | (with_reducible refine below_drewN ?_ _) | (with_reducible refine Below.setCell ?_ ?_ _))
    all_goals first | omega | (simp; done) | (simp [go_sem]; done) | (simp [go_sem]; omega)
  have ck := ch _ hb0
  clear ch
  go_enter Try.func44, Try.ntmps44
  go_wp2_with fail
  refine ck.mono ?_
  rintro e w1 ⟨rfl, hb⟩
  obtain ⟨x, hx⟩ := plus_of_below hb
  subst hx
  clear ck hb hb0
  have HB1 : Below w.heap.size w (plus ((w.alloc (.cells #[.int .i64 cp, .slice (some ⟨b, off, none⟩) bl.length c1, .slice ao2 hs.length c2] 25)).alloc (.cells #[.int .i64 0, .slice none 0 0, .slice none 0 0] 25)) x) := by
    repeat (first | (with_reducible exact Below.refl _ _) | (with_reducible assumption) | (with_reducible refine below_to_plus ?_ ?_ _) | (with_reducible refine below_holds ?_ ?_ _ _) | (with_reducible refine Below.alloc ?_ ?_ _) | (with_reducible refine Below.drew ?_) | (with_reducible refine below_drewN ?_ _) | (with_reducible refine Below.setCell ?_ ?_ _))
    all_goals first | omega | (simp; done) | (simp [go_sem]; done) | (simp [go_sem]; omega)
  have HQ := HB1
  clear HB1
  have HB1 : Aside (Below w.heap.size w (plus ((w.alloc (.cells #[.int .i64 cp, .slice (some ⟨b, off, none⟩) bl.length c1, .slice ao2 hs.length c2] 25)).alloc (.cells #[.int .i64 0, .slice none 0 0, .slice none 0 0] 25)) x)) := HQ
  clear HQ
  go_wp2
  refine wp_region_plus (by kernel_rfl) (by kernel_rfl) ?_
  repeat (go_big_quiet_step (first | (go_at_call 57; exact calls_plus (cm _ (HB1.out.trans ((below_plus _ _).mono HB1.out.size)))) | (go_at_call 58; exact calls_plus (cv _ (HB1.out.trans ((below_plus _ _).mono HB1.out.size))))))
  refine wpQuiet_nil ?_
  rintro _ ⟨x1, rfl⟩
  obtain ⟨x5, hx5⟩ := plus_plus ((w.alloc (.cells #[.int .i64 cp, .slice (some ⟨b, off, none⟩) bl.length c1, .slice ao2 hs.length c2] 25)).alloc (.cells #[.int .i64 0, .slice none 0 0, .slice none 0 0] 25)) x x1
  rw [hx5]
  clear hx5 HB1 cm cv
  have HB : Below w.heap.size w (plus ((w.alloc (.cells #[.int .i64 cp, .slice (some ⟨b, off, none⟩) bl.length c1, .slice ao2 hs.length c2] 25)).alloc (.cells #[.int .i64 0, .slice none 0 0, .slice none 0 0] 25)) x5) := by
    repeat (first | (with_reducible exact Below.refl _ _) | (with_reducible assumption) | (with_reducible refine below_to_plus ?_ ?_ _) | (with_reducible refine below_holds ?_ ?_ _ _) | (with_reducible refine Below.alloc ?_ ?_ _) | (with_reducible refine Below.drew ?_) | (with_reducible refine below_drewN ?_ _) | (with_reducible refine Below.setCell ?_ ?_ _))
    all_goals first | omega | (simp; done) | (simp [go_sem]; done) | (simp [go_sem]; omega)
  have m0 := (HB.cell (p := ⟨b, off + k * 4, none⟩) hbw).trans e0
  have m1 := (HB.cell (p := ⟨b, off + k * 4 + 1, none⟩) hbw).trans e1
  have m2 := (HB.cell (p := ⟨b, off + k * 4 + 2, none⟩) hbw).trans e2
  have m3 := (HB.cell (p := ⟨b, off + k * 4 + 3, none⟩) hbw).trans e3
  have n0 := (HB.cell (p := ⟨b, off + j * 4, none⟩) hbw).trans f0
  have n1 := (HB.cell (p := ⟨b, off + j * 4 + 1, none⟩) hbw).trans f1
  have n2 := (HB.cell (p := ⟨b, off + j * 4 + 2, none⟩) hbw).trans f2
  have n3 := (HB.cell (p := ⟨b, off + j * 4 + 3, none⟩) hbw).trans f3
  have hbr : b < (plus ((w.alloc (.cells #[.int .i64 cp, .slice (some ⟨b, off, none⟩) bl.length c1, .slice ao2 hs.length c2] 25)).alloc (.cells #[.int .i64 0, .slice none 0 0, .slice none 0 0] 25)) x5).heap.size := Nat.lt_of_lt_of_le hbw HB.size
  go_wp2
  go_region_held3 (fun w' => w'.cell? ⟨w.heap.size, 0, none⟩ = some (.int .i64 cp) ∧ w'.cell? ⟨w.heap.size, 1, none⟩ = some (.slice (some ⟨b, off, none⟩) bl.length c1) ∧ w'.cell? ⟨w.heap.size, 2, none⟩ = some (.slice ao2 hs.length c2)) (first | (simp [go_sem, ↓IntWalk.iteOmega, *]; done)) ((first | (go_at_call 59; refine (cu _ (Below.drew (Below.alloc HB HB.size _))).mono ?_; rintro e w2 ⟨a1, k1, rfl, o1, hb⟩; have O1 : Aside _ := o1; clear o1; obtain ⟨x3, hx⟩ := plus_of_below hb; subst hx; clear hb)))
  all_goals go_wp2
  all_goals refine bodyPost_ret (v := .tuple #[.agg #[.int .i64 cp, .slice a1 ul.length k1, .slice ao2 hs.length c2], .string (rs.extract 0 cnt.toNat), .bool true]) (by simp [results, Try.results44, go_sem, ↓IntWalk.iteOmega, *]) rfl ⟨a1, k1, ao2, c2, rfl, own_Sl pc_len (by omega) (own_past O1.out (Nat.le_refl _) (by simp [size_plus])), S2.out.stays ?_, ?_⟩
  all_goals
    repeat (first | (with_reducible exact Below.refl _ _) | (with_reducible assumption) | (with_reducible refine below_to_plus ?_ ?_ _) | (with_reducible refine below_holds ?_ ?_ _ _) | (with_reducible refine Below.alloc ?_ ?_ _) | (with_reducible refine Below.drew ?_) | (with_reducible refine below_drewN ?_ _) | (with_reducible refine Below.setCell ?_ ?_ _))
    all_goals first | omega | (simp; done) | (simp [go_sem]; done) | (simp [go_sem]; omega)

set_option maxRecDepth 20000 in
set_option maxHeartbeats 16000000 in
theorem rget_short_n (cp : Int) (ao : Option Addr) (n c1 : Nat) (ao2 : Option Addr) (n2 c2 : Nat) (bl : List Pc) (hs : List Hd) (id at' cnt now : Int) (w : World) (h1 : Sl w 4 ao n c1 (bl.map Pc.enc)) (h2 : Sl w 3 ao2 n2 c2 (hs.map Hd.enc)) (hn : n ≤ 1000000) (hh : heldB id now hs = true) (h0 : 0 ≤ at') (hc : 0 ≤ cnt) (he : endI id bl = -1) (ok : ∀ y ∈ bl, OkP y) {j : Nat} (hj : j < bl.length) (hv : covI id at' bl = (j : Int)) (hq1 : bl[j]!.pos ≤ at') (hq2 : at' < endP bl[j]!) (hcn : ((bl[j]!.data.extract (at' - bl[j]!.pos).toNat bl[j]!.data.size).size : Int) < cnt)  :
    Calls Try.prog 44 #[.agg #[.int .i64 cp, .slice ao n c1, .slice ao2 n2 c2], .int .i64 id, .int .i64 at', .int .i64 cnt, .int .i64 now] w fun e w' => GetPost w cp hs (bl, ⟨#[]⟩, false) e w' := by
  have hln : bl.length = n := Sl.lenE h1
  have hln2 : hs.length = n2 := Sl.lenE h2
  subst hln
  subst hln2
  have hbig : bl.length ≤ 9223372036854775807 := by omega
  have S1 : Aside (Sl w 4 ao bl.length c1 (bl.map Pc.enc)) := h1
  have S2 : Aside (Sl w 3 ao2 hs.length c2 (hs.map Hd.enc)) := h2
  have ch := fun U (h : Below w.heap.size w U) => rheld_calls cp ao bl.length c1 ao2 hs.length c2 hs id now U (S2.out.stays h)
  have cm := fun U (h : Below w.heap.size w U) => mark_calls cp ao bl.length c1 ao2 hs.length c2 bl id U (S1.out.stays h)
  have cv := fun U (h : Below w.heap.size w U) => covers_calls cp ao bl.length c1 ao2 hs.length c2 bl id at' U (S1.out.stays h) ok
  obtain ⟨b, off, eao, hbw, f0, f1, f2, f3⟩ := (cellsPc h1) j hj
  subst eao
  have x0 : ¬ at' < 0 := by omega
  have xc : ¬ cnt < 0 := by omega
  have hjz : (j : Int) < (bl.length : Int) := by omega
  have oy := ok _ (by rw [getElem!_pos bl j hj]; exact List.getElem_mem _ : bl[j]! ∈ bl)
  rw [hh] at ch
  rw [he] at cm
  rw [hv] at cv
  obtain ⟨rs, hrs⟩ : ∃ rs, (bl[j]!.data.extract (at' - bl[j]!.pos).toNat bl[j]!.data.size) = rs := ⟨_, rfl⟩
  have RS : Aside (_ = rs) := hrs
  rw [hrs] at hcn
  clear hrs
  have cE := fun U => ends_calls bl[j]!.pid bl[j]!.vers bl[j]!.pos bl[j]!.data U (ok _ (by rw [getElem!_pos bl j hj]; exact List.getElem_mem _ : bl[j]! ∈ bl))
  clear h1 h2 hh he hv ok
  generalize bl[j]! = y at f0 f1 f2 f3 hq1 hq2 oy RS cE
  obtain ⟨y1, y2, y3, y4⟩ := y
  simp only [] at f0 f1 f2 f3 hq1 oy
  have hq3 : at' < y3 + (y4.size : Int) := hq2
  have hsub : IntKind.i64.wrap (at' - y3) = at' - y3 := by
    have o1 := oy.1.1
    have o2 := oy.1.2
    have o3 := oy.2
    simp only [] at o1 o2 o3
    rw [IntKind.wrap_i64]; omega
  have x2 : ∀ U, (Instr.slice 9 (.string y4) (some (.int .i64 (at' - y3))) none none).run Try.prog U = .ok (.string (y4.extract (at' - y3).toNat y4.size)) U := fun U => by
    rw [run_slice_string_from_if (P := Try.prog) U 9 y4 .i64 (at' - y3) Try.underlying9, if_pos (by omega)]
  have RS2 : (y4.extract (at' - y3).toNat y4.size) = rs := RS.out
  rw [RS2] at x2
  clear RS RS2
  have hadd : IntKind.i64.wrap (y3 + (y4.size : Int)) = y3 + (y4.size : Int) := by
    have o1 := oy.1.1
    have o2 := oy.1.2
    have o3 := oy.2
    simp only [] at o1 o2 o3
    rw [IntKind.wrap_i64]; omega
  have cE1 : ∀ U, Calls Try.prog 53 #[.agg #[.int .i64 y1, .int .i64 y2, .int .i64 y3, .string y4]] U fun e w' => e = .returned (.int .i64 (y3 + (y4.size : Int))) ∧ Below U.heap.size U w' := cE
  clear cE
  have hcn2 : ¬ cnt ≤ (rs.size : Int) := by omega
  clear oy
  have hb0 : Below w.heap.size w ((w.alloc (.cells #[.int .i64 cp, .slice (some ⟨b, off, none⟩) bl.length c1, .slice ao2 hs.length c2] 25)).alloc (.cells #[.int .i64 0, .slice none 0 0, .slice none 0 0] 25)) := by
    repeat (first | (with_reducible exact Below.refl _ _) | (with_reducible assumption) | (with_reducible refine below_to_plus ?_ ?_ _) | (with_reducible refine below_holds ?_ ?_ _ _) | (with_reducible refine Below.alloc ?_ ?_ _) | (with_reducible refine Below.drew ?_) | (with_reducible refine below_drewN ?_ _) | (with_reducible refine Below.setCell ?_ ?_ _))
    all_goals first | omega | (simp; done) | (simp [go_sem]; done) | (simp [go_sem]; omega)
  have ck := ch _ hb0
  clear ch
  go_enter Try.func44, Try.ntmps44
  go_wp2_with fail
  refine ck.mono ?_
  rintro e w1 ⟨rfl, hb⟩
  obtain ⟨x, hx⟩ := plus_of_below hb
  subst hx
  clear ck hb hb0
  have HB1 : Below w.heap.size w (plus ((w.alloc (.cells #[.int .i64 cp, .slice (some ⟨b, off, none⟩) bl.length c1, .slice ao2 hs.length c2] 25)).alloc (.cells #[.int .i64 0, .slice none 0 0, .slice none 0 0] 25)) x) := by
    repeat (first | (with_reducible exact Below.refl _ _) | (with_reducible assumption) | (with_reducible refine below_to_plus ?_ ?_ _) | (with_reducible refine below_holds ?_ ?_ _ _) | (with_reducible refine Below.alloc ?_ ?_ _) | (with_reducible refine Below.drew ?_) | (with_reducible refine below_drewN ?_ _) | (with_reducible refine Below.setCell ?_ ?_ _))
    all_goals first | omega | (simp; done) | (simp [go_sem]; done) | (simp [go_sem]; omega)
  have HQ := HB1
  clear HB1
  have HB1 : Aside (Below w.heap.size w (plus ((w.alloc (.cells #[.int .i64 cp, .slice (some ⟨b, off, none⟩) bl.length c1, .slice ao2 hs.length c2] 25)).alloc (.cells #[.int .i64 0, .slice none 0 0, .slice none 0 0] 25)) x)) := HQ
  clear HQ
  go_wp2
  refine wp_region_plus (by kernel_rfl) (by kernel_rfl) ?_
  repeat (go_big_quiet_step (first | (go_at_call 57; exact calls_plus (cm _ (HB1.out.trans ((below_plus _ _).mono HB1.out.size)))) | (go_at_call 58; exact calls_plus (cv _ (HB1.out.trans ((below_plus _ _).mono HB1.out.size))))))
  refine wpQuiet_nil ?_
  rintro _ ⟨x1, rfl⟩
  obtain ⟨x5, hx5⟩ := plus_plus ((w.alloc (.cells #[.int .i64 cp, .slice (some ⟨b, off, none⟩) bl.length c1, .slice ao2 hs.length c2] 25)).alloc (.cells #[.int .i64 0, .slice none 0 0, .slice none 0 0] 25)) x x1
  rw [hx5]
  clear hx5 HB1 cm cv
  have HB : Below w.heap.size w (plus ((w.alloc (.cells #[.int .i64 cp, .slice (some ⟨b, off, none⟩) bl.length c1, .slice ao2 hs.length c2] 25)).alloc (.cells #[.int .i64 0, .slice none 0 0, .slice none 0 0] 25)) x5) := by
    repeat (first | (with_reducible exact Below.refl _ _) | (with_reducible assumption) | (with_reducible refine below_to_plus ?_ ?_ _) | (with_reducible refine below_holds ?_ ?_ _ _) | (with_reducible refine Below.alloc ?_ ?_ _) | (with_reducible refine Below.drew ?_) | (with_reducible refine below_drewN ?_ _) | (with_reducible refine Below.setCell ?_ ?_ _))
    all_goals first | omega | (simp; done) | (simp [go_sem]; done) | (simp [go_sem]; omega)
  have n0 := (HB.cell (p := ⟨b, off + j * 4, none⟩) hbw).trans f0
  have n1 := (HB.cell (p := ⟨b, off + j * 4 + 1, none⟩) hbw).trans f1
  have n2 := (HB.cell (p := ⟨b, off + j * 4 + 2, none⟩) hbw).trans f2
  have n3 := (HB.cell (p := ⟨b, off + j * 4 + 3, none⟩) hbw).trans f3
  have hbr : b < (plus ((w.alloc (.cells #[.int .i64 cp, .slice (some ⟨b, off, none⟩) bl.length c1, .slice ao2 hs.length c2] 25)).alloc (.cells #[.int .i64 0, .slice none 0 0, .slice none 0 0] 25)) x5).heap.size := Nat.lt_of_lt_of_le hbw HB.size
  go_wp2
  refine wp_region_plus (by kernel_rfl) (by kernel_rfl) ?_
  repeat (go_big_quiet_step (first | (go_at_call 53; exact calls_plus (cE1 _))))
  refine wpQuiet_nil ?_
  rintro _ ⟨x1, rfl⟩
  go_wp2
  refine bodyPost_ret (v := .tuple #[.agg #[.int .i64 cp, .slice (some ⟨b, off, none⟩) bl.length c1, .slice ao2 hs.length c2], .string ⟨#[]⟩, .bool false]) (by simp [results, Try.results44, go_sem, ↓IntWalk.iteOmega, *]) rfl ⟨(some ⟨b, off, none⟩), c1, ao2, c2, rfl, S1.out.stays ?_, S2.out.stays ?_, ?_⟩
  all_goals
    repeat (first | (with_reducible exact Below.refl _ _) | (with_reducible assumption) | (with_reducible refine below_to_plus ?_ ?_ _) | (with_reducible refine below_holds ?_ ?_ _ _) | (with_reducible refine Below.alloc ?_ ?_ _) | (with_reducible refine Below.drew ?_) | (with_reducible refine below_drewN ?_ _) | (with_reducible refine Below.setCell ?_ ?_ _))
    all_goals first | omega | (simp; done) | (simp [go_sem]; done) | (simp [go_sem]; omega)

set_option maxRecDepth 20000 in
set_option maxHeartbeats 16000000 in
theorem rget_short_f (cp : Int) (ao : Option Addr) (n c1 : Nat) (ao2 : Option Addr) (n2 c2 : Nat) (bl : List Pc) (hs : List Hd) (id at' cnt now : Int) (w : World) (h1 : Sl w 4 ao n c1 (bl.map Pc.enc)) (h2 : Sl w 3 ao2 n2 c2 (hs.map Hd.enc)) (hn : n ≤ 1000000) (hh : heldB id now hs = true) (h0 : 0 ≤ at') (hc : 0 ≤ cnt) {k : Nat} (hk : k < bl.length) (he : endI id bl = (k : Int)) (hp : at' < bl[k]!.pos) (ok : ∀ y ∈ bl, OkP y) {j : Nat} (hj : j < bl.length) (hv : covI id at' bl = (j : Int)) (hq1 : bl[j]!.pos ≤ at') (hq2 : at' < endP bl[j]!) (hcn : ((bl[j]!.data.extract (at' - bl[j]!.pos).toNat bl[j]!.data.size).size : Int) < cnt) (hne : bl[k]!.pos ≠ endP bl[j]!) :
    Calls Try.prog 44 #[.agg #[.int .i64 cp, .slice ao n c1, .slice ao2 n2 c2], .int .i64 id, .int .i64 at', .int .i64 cnt, .int .i64 now] w fun e w' => GetPost w cp hs (bl, ⟨#[]⟩, false) e w' := by
  have hln : bl.length = n := Sl.lenE h1
  have hln2 : hs.length = n2 := Sl.lenE h2
  subst hln
  subst hln2
  have hbig : bl.length ≤ 9223372036854775807 := by omega
  have S1 : Aside (Sl w 4 ao bl.length c1 (bl.map Pc.enc)) := h1
  have S2 : Aside (Sl w 3 ao2 hs.length c2 (hs.map Hd.enc)) := h2
  have ch := fun U (h : Below w.heap.size w U) => rheld_calls cp ao bl.length c1 ao2 hs.length c2 hs id now U (S2.out.stays h)
  have cm := fun U (h : Below w.heap.size w U) => mark_calls cp ao bl.length c1 ao2 hs.length c2 bl id U (S1.out.stays h)
  have cv := fun U (h : Below w.heap.size w U) => covers_calls cp ao bl.length c1 ao2 hs.length c2 bl id at' U (S1.out.stays h) ok
  obtain ⟨b, off, eao, hbw, e0, e1, e2, e3⟩ := (cellsPc h1) k hk
  subst eao
  have hkz : (k : Int) < (bl.length : Int) := by omega
  have hpn : ¬ bl[k]!.pos ≤ at' := by omega
  have hpd : decide (bl[k]!.pos ≤ at') = false := decide_eq_false hpn
  obtain ⟨b9, off9, eb9, _, f0, f1, f2, f3⟩ := (cellsPc h1) j hj
  cases eb9
  have x0 : ¬ at' < 0 := by omega
  have xc : ¬ cnt < 0 := by omega
  have hjz : (j : Int) < (bl.length : Int) := by omega
  have oy := ok _ (by rw [getElem!_pos bl j hj]; exact List.getElem_mem _ : bl[j]! ∈ bl)
  rw [hh] at ch
  rw [he] at cm
  rw [hv] at cv
  obtain ⟨rs, hrs⟩ : ∃ rs, (bl[j]!.data.extract (at' - bl[j]!.pos).toNat bl[j]!.data.size) = rs := ⟨_, rfl⟩
  have RS : Aside (_ = rs) := hrs
  rw [hrs] at hcn
  clear hrs
  have cE := fun U => ends_calls bl[j]!.pid bl[j]!.vers bl[j]!.pos bl[j]!.data U (ok _ (by rw [getElem!_pos bl j hj]; exact List.getElem_mem _ : bl[j]! ∈ bl))
  have hne2 : (bl[k]!.pos != bl[j]!.pos + (bl[j]!.data.size : Int)) = true := bne_iff_ne.2 hne
  clear hne
  clear h1 h2 hh he hv ok hp
  generalize bl[k]! = z at e0 e1 e2 e3 hpd hpn hne2
  obtain ⟨z1, z2, z3, z4⟩ := z
  simp only [] at e0 e1 e2 e3 hpd hpn hne2
  generalize bl[j]! = y at f0 f1 f2 f3 hq1 hq2 oy RS cE hne2
  obtain ⟨y1, y2, y3, y4⟩ := y
  simp only [] at f0 f1 f2 f3 hq1 oy hne2
  have hq3 : at' < y3 + (y4.size : Int) := hq2
  have hsub : IntKind.i64.wrap (at' - y3) = at' - y3 := by
    have o1 := oy.1.1
    have o2 := oy.1.2
    have o3 := oy.2
    simp only [] at o1 o2 o3
    rw [IntKind.wrap_i64]; omega
  have x2 : ∀ U, (Instr.slice 9 (.string y4) (some (.int .i64 (at' - y3))) none none).run Try.prog U = .ok (.string (y4.extract (at' - y3).toNat y4.size)) U := fun U => by
    rw [run_slice_string_from_if (P := Try.prog) U 9 y4 .i64 (at' - y3) Try.underlying9, if_pos (by omega)]
  have RS2 : (y4.extract (at' - y3).toNat y4.size) = rs := RS.out
  rw [RS2] at x2
  clear RS RS2
  have hadd : IntKind.i64.wrap (y3 + (y4.size : Int)) = y3 + (y4.size : Int) := by
    have o1 := oy.1.1
    have o2 := oy.1.2
    have o3 := oy.2
    simp only [] at o1 o2 o3
    rw [IntKind.wrap_i64]; omega
  have cE1 : ∀ U, Calls Try.prog 53 #[.agg #[.int .i64 y1, .int .i64 y2, .int .i64 y3, .string y4]] U fun e w' => e = .returned (.int .i64 (y3 + (y4.size : Int))) ∧ Below U.heap.size U w' := cE
  clear cE
  have hcn2 : ¬ cnt ≤ (rs.size : Int) := by omega
  clear oy
  have hb0 : Below w.heap.size w ((w.alloc (.cells #[.int .i64 cp, .slice (some ⟨b, off, none⟩) bl.length c1, .slice ao2 hs.length c2] 25)).alloc (.cells #[.int .i64 0, .slice none 0 0, .slice none 0 0] 25)) := by
    repeat (first | (with_reducible exact Below.refl _ _) | (with_reducible assumption) | (with_reducible refine below_to_plus ?_ ?_ _) | (with_reducible refine below_holds ?_ ?_ _ _) | (with_reducible refine Below.alloc ?_ ?_ _) | (with_reducible refine Below.drew ?_) | (with_reducible refine below_drewN ?_ _) | (with_reducible refine Below.setCell ?_ ?_ _))
    all_goals first | omega | (simp; done) | (simp [go_sem]; done) | (simp [go_sem]; omega)
  have ck := ch _ hb0
  clear ch
  go_enter Try.func44, Try.ntmps44
  go_wp2_with fail
  refine ck.mono ?_
  rintro e w1 ⟨rfl, hb⟩
  obtain ⟨x, hx⟩ := plus_of_below hb
  subst hx
  clear ck hb hb0
  have HB1 : Below w.heap.size w (plus ((w.alloc (.cells #[.int .i64 cp, .slice (some ⟨b, off, none⟩) bl.length c1, .slice ao2 hs.length c2] 25)).alloc (.cells #[.int .i64 0, .slice none 0 0, .slice none 0 0] 25)) x) := by
    repeat (first | (with_reducible exact Below.refl _ _) | (with_reducible assumption) | (with_reducible refine below_to_plus ?_ ?_ _) | (with_reducible refine below_holds ?_ ?_ _ _) | (with_reducible refine Below.alloc ?_ ?_ _) | (with_reducible refine Below.drew ?_) | (with_reducible refine below_drewN ?_ _) | (with_reducible refine Below.setCell ?_ ?_ _))
    all_goals first | omega | (simp; done) | (simp [go_sem]; done) | (simp [go_sem]; omega)
  have HQ := HB1
  clear HB1
  have HB1 : Aside (Below w.heap.size w (plus ((w.alloc (.cells #[.int .i64 cp, .slice (some ⟨b, off, none⟩) bl.length c1, .slice ao2 hs.length c2] 25)).alloc (.cells #[.int .i64 0, .slice none 0 0, .slice none 0 0] 25)) x)) := HQ
  clear HQ
  go_wp2
  refine wp_region_plus (by kernel_rfl) (by kernel_rfl) ?_
  repeat (go_big_quiet_step (first | (go_at_call 57; exact calls_plus (cm _ (HB1.out.trans ((below_plus _ _).mono HB1.out.size)))) | (go_at_call 58; exact calls_plus (cv _ (HB1.out.trans ((below_plus _ _).mono HB1.out.size))))))
  refine wpQuiet_nil ?_
  rintro _ ⟨x1, rfl⟩
  obtain ⟨x5, hx5⟩ := plus_plus ((w.alloc (.cells #[.int .i64 cp, .slice (some ⟨b, off, none⟩) bl.length c1, .slice ao2 hs.length c2] 25)).alloc (.cells #[.int .i64 0, .slice none 0 0, .slice none 0 0] 25)) x x1
  rw [hx5]
  clear hx5 HB1 cm cv
  have HB : Below w.heap.size w (plus ((w.alloc (.cells #[.int .i64 cp, .slice (some ⟨b, off, none⟩) bl.length c1, .slice ao2 hs.length c2] 25)).alloc (.cells #[.int .i64 0, .slice none 0 0, .slice none 0 0] 25)) x5) := by
    repeat (first | (with_reducible exact Below.refl _ _) | (with_reducible assumption) | (with_reducible refine below_to_plus ?_ ?_ _) | (with_reducible refine below_holds ?_ ?_ _ _) | (with_reducible refine Below.alloc ?_ ?_ _) | (with_reducible refine Below.drew ?_) | (with_reducible refine below_drewN ?_ _) | (with_reducible refine Below.setCell ?_ ?_ _))
    all_goals first | omega | (simp; done) | (simp [go_sem]; done) | (simp [go_sem]; omega)
  have m0 := (HB.cell (p := ⟨b, off + k * 4, none⟩) hbw).trans e0
  have m1 := (HB.cell (p := ⟨b, off + k * 4 + 1, none⟩) hbw).trans e1
  have m2 := (HB.cell (p := ⟨b, off + k * 4 + 2, none⟩) hbw).trans e2
  have m3 := (HB.cell (p := ⟨b, off + k * 4 + 3, none⟩) hbw).trans e3
  have n0 := (HB.cell (p := ⟨b, off + j * 4, none⟩) hbw).trans f0
  have n1 := (HB.cell (p := ⟨b, off + j * 4 + 1, none⟩) hbw).trans f1
  have n2 := (HB.cell (p := ⟨b, off + j * 4 + 2, none⟩) hbw).trans f2
  have n3 := (HB.cell (p := ⟨b, off + j * 4 + 3, none⟩) hbw).trans f3
  have hbr : b < (plus ((w.alloc (.cells #[.int .i64 cp, .slice (some ⟨b, off, none⟩) bl.length c1, .slice ao2 hs.length c2] 25)).alloc (.cells #[.int .i64 0, .slice none 0 0, .slice none 0 0] 25)) x5).heap.size := Nat.lt_of_lt_of_le hbw HB.size
  have hk0 : ¬ (k : Int) < 0 := by omega
  have hk1 : decide ((k : Int) < 0) = false := decide_eq_false hk0
  go_wp2
  refine wp_region_plus (by kernel_rfl) (by kernel_rfl) ?_
  repeat (go_big_quiet_step (first | (go_at_call 53; exact calls_plus (cE1 _))))
  refine wpQuiet_nil ?_
  rintro _ ⟨x1, rfl⟩
  go_wp2
  refine bodyPost_ret (v := .tuple #[.agg #[.int .i64 cp, .slice (some ⟨b, off, none⟩) bl.length c1, .slice ao2 hs.length c2], .string ⟨#[]⟩, .bool false]) (by simp [results, Try.results44, go_sem, ↓IntWalk.iteOmega, *]) rfl ⟨(some ⟨b, off, none⟩), c1, ao2, c2, rfl, S1.out.stays ?_, S2.out.stays ?_, ?_⟩
  all_goals
    repeat (first | (with_reducible exact Below.refl _ _) | (with_reducible assumption) | (with_reducible refine below_to_plus ?_ ?_ _) | (with_reducible refine below_holds ?_ ?_ _ _) | (with_reducible refine Below.alloc ?_ ?_ _) | (with_reducible refine Below.drew ?_) | (with_reducible refine below_drewN ?_ _) | (with_reducible refine Below.setCell ?_ ?_ _))
    all_goals first | omega | (simp; done) | (simp [go_sem]; done) | (simp [go_sem]; omega)

set_option maxRecDepth 20000 in
set_option maxHeartbeats 16000000 in
theorem rget_rest (cp : Int) (ao : Option Addr) (n c1 : Nat) (ao2 : Option Addr) (n2 c2 : Nat) (bl : List Pc) (hs : List Hd) (id at' cnt now : Int) (w : World) (h1 : Sl w 4 ao n c1 (bl.map Pc.enc)) (h2 : Sl w 3 ao2 n2 c2 (hs.map Hd.enc)) (hn : n ≤ 1000000) (hh : heldB id now hs = true) (h0 : 0 ≤ at') (hc : 0 ≤ cnt) {k : Nat} (hk : k < bl.length) (he : endI id bl = (k : Int)) (hp : at' < bl[k]!.pos) (ok : ∀ y ∈ bl, OkP y) {j : Nat} (hj : j < bl.length) (hv : covI id at' bl = (j : Int)) (hq1 : bl[j]!.pos ≤ at') (hq2 : at' < endP bl[j]!) (hcn : ((bl[j]!.data.extract (at' - bl[j]!.pos).toNat bl[j]!.data.size).size : Int) < cnt) (hne : bl[k]!.pos = endP bl[j]!) {m : Nat} (hm : m < bl.length) (hem : endI id (useL j bl) = (m : Int)) :
    Calls Try.prog 44 #[.agg #[.int .i64 cp, .slice ao n c1, .slice ao2 n2 c2], .int .i64 id, .int .i64 at', .int .i64 cnt, .int .i64 now] w fun e w' => GetPost w cp hs (useL m (useL j bl), (bl[j]!.data.extract (at' - bl[j]!.pos).toNat bl[j]!.data.size), true) e w' := by
  have hln : bl.length = n := Sl.lenE h1
  have hln2 : hs.length = n2 := Sl.lenE h2
  subst hln
  subst hln2
  have hbig : bl.length ≤ 9223372036854775807 := by omega
  have S1 : Aside (Sl w 4 ao bl.length c1 (bl.map Pc.enc)) := h1
  have S2 : Aside (Sl w 3 ao2 hs.length c2 (hs.map Hd.enc)) := h2
  have ch := fun U (h : Below w.heap.size w U) => rheld_calls cp ao bl.length c1 ao2 hs.length c2 hs id now U (S2.out.stays h)
  have cm := fun U (h : Below w.heap.size w U) => mark_calls cp ao bl.length c1 ao2 hs.length c2 bl id U (S1.out.stays h)
  have cv := fun U (h : Below w.heap.size w U) => covers_calls cp ao bl.length c1 ao2 hs.length c2 bl id at' U (S1.out.stays h) ok
  have cu := fun U (h : Below w.heap.size w U) => rused_own cp ao bl.length c1 ao2 hs.length c2 bl hs j U (S1.out.stays h) (S2.out.stays h) hn hj
  obtain ⟨b, off, eao, hbw, e0, e1, e2, e3⟩ := (cellsPc h1) k hk
  subst eao
  have hkz : (k : Int) < (bl.length : Int) := by omega
  have hpn : ¬ bl[k]!.pos ≤ at' := by omega
  have hpd : decide (bl[k]!.pos ≤ at') = false := decide_eq_false hpn
  obtain ⟨b9, off9, eb9, _, f0, f1, f2, f3⟩ := (cellsPc h1) j hj
  cases eb9
  have x0 : ¬ at' < 0 := by omega
  have xc : ¬ cnt < 0 := by omega
  have hjz : (j : Int) < (bl.length : Int) := by omega
  have oy := ok _ (by rw [getElem!_pos bl j hj]; exact List.getElem_mem _ : bl[j]! ∈ bl)
  rw [hh] at ch
  rw [he] at cm
  rw [hv] at cv
  obtain ⟨rs, hrs⟩ : ∃ rs, (bl[j]!.data.extract (at' - bl[j]!.pos).toNat bl[j]!.data.size) = rs := ⟨_, rfl⟩
  have RS : Aside (_ = rs) := hrs
  rw [hrs] at hcn ⊢
  clear hrs
  have cE := fun U => ends_calls bl[j]!.pid bl[j]!.vers bl[j]!.pos bl[j]!.data U (ok _ (by rw [getElem!_pos bl j hj]; exact List.getElem_mem _ : bl[j]! ∈ bl))
  have hne2 : (bl[k]!.pos != bl[j]!.pos + (bl[j]!.data.size : Int)) = false := by
    have h9 : bl[k]!.pos = bl[j]!.pos + (bl[j]!.data.size : Int) := hne
    rw [h9]
    exact bne_self_eq_false _
  have ULN : (useL j bl).length = bl.length := useL_len hj
  obtain ⟨ul, hul⟩ : ∃ ul, useL j bl = ul := ⟨_, rfl⟩
  rw [hul] at cu hem ULN ⊢
  have cE0 := fun a1 k1 U (h : Sl U 4 a1 ul.length k1 (ul.map Pc.enc)) => mark_calls cp a1 ul.length k1 ao2 hs.length c2 ul id U h
  rw [hem] at cE0
  have cU0 := fun a1 k1 U (h : Sl U 4 a1 ul.length k1 (ul.map Pc.enc)) (h' : Sl U 3 ao2 hs.length c2 (hs.map Hd.enc)) => rused_own cp a1 ul.length k1 ao2 hs.length c2 ul hs m U h h' (by omega) (by omega)
  obtain ⟨vl, hvl⟩ : ∃ vl, useL m ul = vl := ⟨_, rfl⟩
  rw [hvl] at cU0 ⊢
  clear hul hvl hne hem ULN
  clear h1 h2 hh he hv ok hp
  generalize bl[k]! = z at e0 e1 e2 e3 hpd hpn hne2
  obtain ⟨z1, z2, z3, z4⟩ := z
  simp only [] at e0 e1 e2 e3 hpd hpn hne2
  generalize bl[j]! = y at f0 f1 f2 f3 hq1 hq2 oy RS cE hne2
  obtain ⟨y1, y2, y3, y4⟩ := y
  simp only [] at f0 f1 f2 f3 hq1 oy hne2
  have hq3 : at' < y3 + (y4.size : Int) := hq2
  have hsub : IntKind.i64.wrap (at' - y3) = at' - y3 := by
    have o1 := oy.1.1
    have o2 := oy.1.2
    have o3 := oy.2
    simp only [] at o1 o2 o3
    rw [IntKind.wrap_i64]; omega
  have x2 : ∀ U, (Instr.slice 9 (.string y4) (some (.int .i64 (at' - y3))) none none).run Try.prog U = .ok (.string (y4.extract (at' - y3).toNat y4.size)) U := fun U => by
    rw [run_slice_string_from_if (P := Try.prog) U 9 y4 .i64 (at' - y3) Try.underlying9, if_pos (by omega)]
  have RS2 : (y4.extract (at' - y3).toNat y4.size) = rs := RS.out
  rw [RS2] at x2
  clear RS RS2
  have hadd : IntKind.i64.wrap (y3 + (y4.size : Int)) = y3 + (y4.size : Int) := by
    have o1 := oy.1.1
    have o2 := oy.1.2
    have o3 := oy.2
    simp only [] at o1 o2 o3
    rw [IntKind.wrap_i64]; omega
  have cE1 : ∀ U, Calls Try.prog 53 #[.agg #[.int .i64 y1, .int .i64 y2, .int .i64 y3, .string y4]] U fun e w' => e = .returned (.int .i64 (y3 + (y4.size : Int))) ∧ Below U.heap.size U w' := cE
  clear cE
  have hcn2 : ¬ cnt ≤ (rs.size : Int) := by omega
  clear oy
  have hb0 : Below w.heap.size w ((w.alloc (.cells #[.int .i64 cp, .slice (some ⟨b, off, none⟩) bl.length c1, .slice ao2 hs.length c2] 25)).alloc (.cells #[.int .i64 0, .slice none 0 0, .slice none 0 0] 25)) := by
    repeat (first | (with_reducible exact Below.refl _ _) | (with_reducible assumption) | (with_reducible refine below_to_plus ?_ ?_ _) | (with_reducible refine below_holds ?_ ?_ _ _) | (with_reducible refine Below.alloc ?_ ?_ _) | (with_reducible refine Below.drew ?_) | (with_reducible refine below_drewN ?_ _) | (with_reducible refine Below.setCell ?_ ?_ _))
    all_goals first | omega | (simp; done) | (simp [go_sem]; done) | (simp [go_sem]; omega)
  have ck := ch _ hb0
  clear ch
  go_enter Try.func44, Try.ntmps44
  go_wp2_with fail
  refine ck.mono ?_
  rintro e w1 ⟨rfl, hb⟩
  obtain ⟨x, hx⟩ := plus_of_below hb
  subst hx
  clear ck hb hb0
  have HB1 : Below w.heap.size w (plus ((w.alloc (.cells #[.int .i64 cp, .slice (some ⟨b, off, none⟩) bl.length c1, .slice ao2 hs.length c2] 25)).alloc (.cells #[.int .i64 0, .slice none 0 0, .slice none 0 0] 25)) x) := by
    repeat (first | (with_reducible exact Below.refl _ _) | (with_reducible assumption) | (with_reducible refine below_to_plus ?_ ?_ _) | (with_reducible refine below_holds ?_ ?_ _ _) | (with_reducible refine Below.alloc ?_ ?_ _) | (with_reducible refine Below.drew ?_) | (with_reducible refine below_drewN ?_ _) | (with_reducible refine Below.setCell ?_ ?_ _))
    all_goals first | omega | (simp; done) | (simp [go_sem]; done) | (simp [go_sem]; omega)
  have HQ := HB1
  clear HB1
  have HB1 : Aside (Below w.heap.size w (plus ((w.alloc (.cells #[.int .i64 cp, .slice (some ⟨b, off, none⟩) bl.length c1, .slice ao2 hs.length c2] 25)).alloc (.cells #[.int .i64 0, .slice none 0 0, .slice none 0 0] 25)) x)) := HQ
  clear HQ
  go_wp2
  refine wp_region_plus (by kernel_rfl) (by kernel_rfl) ?_
  repeat (go_big_quiet_step (first | (go_at_call 57; exact calls_plus (cm _ (HB1.out.trans ((below_plus _ _).mono HB1.out.size)))) | (go_at_call 58; exact calls_plus (cv _ (HB1.out.trans ((below_plus _ _).mono HB1.out.size))))))
  refine wpQuiet_nil ?_
  rintro _ ⟨x1, rfl⟩
  obtain ⟨x5, hx5⟩ := plus_plus ((w.alloc (.cells #[.int .i64 cp, .slice (some ⟨b, off, none⟩) bl.length c1, .slice ao2 hs.length c2] 25)).alloc (.cells #[.int .i64 0, .slice none 0 0, .slice none 0 0] 25)) x x1
  rw [hx5]
  clear hx5 HB1 cm cv
  have HB : Below w.heap.size w (plus ((w.alloc (.cells #[.int .i64 cp, .slice (some ⟨b, off, none⟩) bl.length c1, .slice ao2 hs.length c2] 25)).alloc (.cells #[.int .i64 0, .slice none 0 0, .slice none 0 0] 25)) x5) := by
    repeat (first | (with_reducible exact Below.refl _ _) | (with_reducible assumption) | (with_reducible refine below_to_plus ?_ ?_ _) | (with_reducible refine below_holds ?_ ?_ _ _) | (with_reducible refine Below.alloc ?_ ?_ _) | (with_reducible refine Below.drew ?_) | (with_reducible refine below_drewN ?_ _) | (with_reducible refine Below.setCell ?_ ?_ _))
    all_goals first | omega | (simp; done) | (simp [go_sem]; done) | (simp [go_sem]; omega)
  have m0 := (HB.cell (p := ⟨b, off + k * 4, none⟩) hbw).trans e0
  have m1 := (HB.cell (p := ⟨b, off + k * 4 + 1, none⟩) hbw).trans e1
  have m2 := (HB.cell (p := ⟨b, off + k * 4 + 2, none⟩) hbw).trans e2
  have m3 := (HB.cell (p := ⟨b, off + k * 4 + 3, none⟩) hbw).trans e3
  have n0 := (HB.cell (p := ⟨b, off + j * 4, none⟩) hbw).trans f0
  have n1 := (HB.cell (p := ⟨b, off + j * 4 + 1, none⟩) hbw).trans f1
  have n2 := (HB.cell (p := ⟨b, off + j * 4 + 2, none⟩) hbw).trans f2
  have n3 := (HB.cell (p := ⟨b, off + j * 4 + 3, none⟩) hbw).trans f3
  have hbr : b < (plus ((w.alloc (.cells #[.int .i64 cp, .slice (some ⟨b, off, none⟩) bl.length c1, .slice ao2 hs.length c2] 25)).alloc (.cells #[.int .i64 0, .slice none 0 0, .slice none 0 0] 25)) x5).heap.size := Nat.lt_of_lt_of_le hbw HB.size
  have hk0 : ¬ (k : Int) < 0 := by omega
  have hk1 : decide ((k : Int) < 0) = false := decide_eq_false hk0
  go_wp2
  refine wp_region_plus (by kernel_rfl) (by kernel_rfl) ?_
  repeat (go_big_quiet_step (first | (go_at_call 53; exact calls_plus (cE1 _))))
  refine wpQuiet_nil ?_
  rintro _ ⟨x1, rfl⟩
  have HBQ : Below w.heap.size w (plus ((plus ((w.alloc (.cells #[.int .i64 cp, .slice (some ⟨b, off, none⟩) bl.length c1, .slice ao2 hs.length c2] 25)).alloc (.cells #[.int .i64 0, .slice none 0 0, .slice none 0 0] 25)) x5).alloc (.cells #[.int .i64 y1, .int .i64 y2, .int .i64 y3, .string y4] 47)) x1) := by
    repeat (first | (with_reducible exact Below.refl _ _) | (with_reducible assumption) | (with_reducible refine below_to_plus ?_ ?_ _) | (with_reducible refine below_holds ?_ ?_ _ _) | (with_reducible refine Below.alloc ?_ ?_ _) | (with_reducible refine Below.drew ?_) | (with_reducible refine below_drewN ?_ _) | (with_reducible refine Below.setCell ?_ ?_ _))
    all_goals first | omega | (simp; done) | (simp [go_sem]; done) | (simp [go_sem]; omega)
  have hBQ0 : Below ((w.alloc (.cells #[.int .i64 cp, .slice (some ⟨b, off, none⟩) bl.length c1, .slice ao2 hs.length c2] 25)).alloc (.cells #[.int .i64 0, .slice none 0 0, .slice none 0 0] 25)).heap.size ((w.alloc (.cells #[.int .i64 cp, .slice (some ⟨b, off, none⟩) bl.length c1, .slice ao2 hs.length c2] 25)).alloc (.cells #[.int .i64 0, .slice none 0 0, .slice none 0 0] 25)) (plus ((plus ((w.alloc (.cells #[.int .i64 cp, .slice (some ⟨b, off, none⟩) bl.length c1, .slice ao2 hs.length c2] 25)).alloc (.cells #[.int .i64 0, .slice none 0 0, .slice none 0 0] 25)) x5).alloc (.cells #[.int .i64 y1, .int .i64 y2, .int .i64 y3, .string y4] 47)) x1) := by
    repeat (first | (with_reducible exact Below.refl _ _) | (with_reducible assumption) | (with_reducible refine below_to_plus ?_ ?_ _) | (with_reducible refine below_holds ?_ ?_ _ _) | (with_reducible refine Below.alloc ?_ ?_ _) | (with_reducible refine Below.drew ?_) | (with_reducible refine below_drewN ?_ _) | (with_reducible refine Below.setCell ?_ ?_ _))
    all_goals first | omega | (simp; done) | (simp [go_sem]; done) | (simp [go_sem]; omega)
  have ck := cu _ HBQ
  clear cu
  go_wp2_with fail
  refine ck.mono ?_
  rintro e w2 ⟨a1, k1, rfl, o1, hb⟩
  have O1 : Aside (w2.ownsRow (w.heap.size + 1 + 1) 47 4 (.slice a1 ul.length k1) ul.length (flatE Pc.enc ul)) := own_lower o1 (by have := hBQ0.size; simpa using this)
  have hB2 : Below ((w.alloc (.cells #[.int .i64 cp, .slice (some ⟨b, off, none⟩) bl.length c1, .slice ao2 hs.length c2] 25)).alloc (.cells #[.int .i64 0, .slice none 0 0, .slice none 0 0] 25)).heap.size ((w.alloc (.cells #[.int .i64 cp, .slice (some ⟨b, off, none⟩) bl.length c1, .slice ao2 hs.length c2] 25)).alloc (.cells #[.int .i64 0, .slice none 0 0, .slice none 0 0] 25)) w2 := hBQ0.trans (hb.mono hBQ0.size)
  clear ck hb HB HBQ hBQ0 m0 m1 m2 m3 n0 n1 n2 n3 hbr o1 cE1
  obtain ⟨x6, hx⟩ := plus_of_below hB2
  subst hx
  have HBX : Below w.heap.size w (plus ((w.alloc (.cells #[.int .i64 cp, .slice a1 ul.length k1, .slice ao2 hs.length c2] 25)).alloc (.cells #[.int .i64 0, .slice none 0 0, .slice none 0 0] 25)) x6) := by
    repeat (first | (with_reducible exact Below.refl _ _) | (with_reducible assumption) | (with_reducible refine below_to_plus ?_ ?_ _) | (with_reducible refine below_holds ?_ ?_ _ _) | (with_reducible refine Below.alloc ?_ ?_ _) | (with_reducible refine Below.drew ?_) | (with_reducible refine below_drewN ?_ _) | (with_reducible refine Below.setCell ?_ ?_ _))
    all_goals first | omega | (simp; done) | (simp [go_sem]; done) | (simp [go_sem]; omega)
  have S3 : Sl (plus ((w.alloc (.cells #[.int .i64 cp, .slice a1 ul.length k1, .slice ao2 hs.length c2] 25)).alloc (.cells #[.int .i64 0, .slice none 0 0, .slice none 0 0] 25)) x6) 4 a1 ul.length k1 (ul.map Pc.enc) := own_Sl pc_len (by omega) (own_past O1.out (by simp) (by simp))
  have S4 : Sl (plus ((w.alloc (.cells #[.int .i64 cp, .slice a1 ul.length k1, .slice ao2 hs.length c2] 25)).alloc (.cells #[.int .i64 0, .slice none 0 0, .slice none 0 0] 25)) x6) 3 ao2 hs.length c2 (hs.map Hd.enc) := S2.out.stays HBX
  have cE := fun U (hU : Below (plus ((w.alloc (.cells #[.int .i64 cp, .slice a1 ul.length k1, .slice ao2 hs.length c2] 25)).alloc (.cells #[.int .i64 0, .slice none 0 0, .slice none 0 0] 25)) x6).heap.size (plus ((w.alloc (.cells #[.int .i64 cp, .slice a1 ul.length k1, .slice ao2 hs.length c2] 25)).alloc (.cells #[.int .i64 0, .slice none 0 0, .slice none 0 0] 25)) x6) U) => cE0 a1 k1 U (S3.stays hU)
  have cU := fun U (hU : Below (plus ((w.alloc (.cells #[.int .i64 cp, .slice a1 ul.length k1, .slice ao2 hs.length c2] 25)).alloc (.cells #[.int .i64 0, .slice none 0 0, .slice none 0 0] 25)) x6).heap.size (plus ((w.alloc (.cells #[.int .i64 cp, .slice a1 ul.length k1, .slice ao2 hs.length c2] 25)).alloc (.cells #[.int .i64 0, .slice none 0 0, .slice none 0 0] 25)) x6) U) => cU0 a1 k1 U (S3.stays hU) (S4.stays hU)
  clear hB2 O1 S3 S4 cE0 cU0
  go_wp2
  go_region_held3 (fun w' => w'.cell? ⟨w.heap.size, 0, none⟩ = some (.int .i64 cp) ∧ w'.cell? ⟨w.heap.size, 1, none⟩ = some (.slice a1 ul.length k1) ∧ w'.cell? ⟨w.heap.size, 2, none⟩ = some (.slice ao2 hs.length c2)) (first | (simp [go_sem, ↓IntWalk.iteOmega, *]; done)) ((first | (go_at_call 57; refine (cE _ (Below.drew (Below.refl _ _))).mono ?_; rintro e w2 ⟨rfl, hb⟩; obtain ⟨x3, hx⟩ := plus_of_below hb; subst hx; clear hb) | (go_at_call 59; refine (cU _ (below_to_plus (B := (plus ((w.alloc (.cells #[.int .i64 cp, .slice a1 ul.length k1, .slice ao2 hs.length c2] 25)).alloc (.cells #[.int .i64 0, .slice none 0 0, .slice none 0 0] 25)) x6).heap.size) (a := (plus ((w.alloc (.cells #[.int .i64 cp, .slice a1 ul.length k1, .slice ao2 hs.length c2] 25)).alloc (.cells #[.int .i64 0, .slice none 0 0, .slice none 0 0] 25)) x6)) (w := (plus ((w.alloc (.cells #[.int .i64 cp, .slice a1 ul.length k1, .slice ao2 hs.length c2] 25)).alloc (.cells #[.int .i64 0, .slice none 0 0, .slice none 0 0] 25)) x6).drew) (Below.drew (Below.refl _ _)) (Nat.le_refl _) _)).mono ?_; rintro e w2 ⟨a5, k5, rfl, o1, hb⟩; have O1 : Aside _ := o1; clear o1; obtain ⟨x4, hx⟩ := plus_next hb; subst hx; clear hb)))
  all_goals go_wp2
  all_goals refine bodyPost_ret (v := .tuple #[.agg #[.int .i64 cp, .slice a5 vl.length k5, .slice ao2 hs.length c2], .string rs, .bool true]) (by simp [results, Try.results44, go_sem, ↓IntWalk.iteOmega, *]) rfl ⟨a5, k5, ao2, c2, rfl, own_Sl pc_len (by omega) (own_past O1.out (by simp [size_plus]) (by simp [size_plus])), S2.out.stays ?_, ?_⟩
  all_goals
    repeat (first | (with_reducible exact Below.refl _ _) | (with_reducible assumption) | (with_reducible refine below_to_plus ?_ ?_ _) | (with_reducible refine below_holds ?_ ?_ _ _) | (with_reducible refine Below.alloc ?_ ?_ _) | (with_reducible refine Below.drew ?_) | (with_reducible refine below_drewN ?_ _) | (with_reducible refine Below.setCell ?_ ?_ _))
    all_goals first | omega | (simp; done) | (simp [go_sem]; done) | (simp [go_sem]; omega)

end Go.Proofs.Ytcgajlobbjoefaa
