/- This text proves the walks of did and want: a call of the program and of its reference at a valid cache return what one function on lists says. Conditions: those that each theorem names. -/
import Derived.Test.YtcgajlobbjoefaaCacheZC
namespace Go.Proofs.Ytcgajlobbjoefaa
open Go.ChangeShapes Go.WideShapes Go.ChangeAt Go.RowKit
set_option linter.unusedVariables false
set_option linter.unusedSimpArgs false

theorem sl_holds {w : World} {k : Nat} {ao : Option Addr} {n cap : Nat} {xs : List (List Value)} (h : Sl w k ao n cap xs) {b : Nat} {c : Array Value} {T : TypeId} (hb : ∀ a, ao = some a → 0 < n → a.block ≠ b) : Sl (holds w b c T) k ao n cap xs :=
  ⟨h.hlen, h.hcap, h.hmax, h.hrows, fun hn => by
    obtain ⟨b', off, e, hlt, hc⟩ := h.here hn
    refine ⟨b', off, e, by rw [size_holds]; exact hlt, fun j x hx i v hv => ?_⟩
    rw [cell?_holds, if_neg (fun hh => hb _ e hn hh.1)]
    exact hc j x hx i v hv, h.hnil⟩
theorem cell_block {W : World} {b : Nat} {c : Array Value} {T : TypeId} (h : W.heap[b]? = some (.cells c T (0, 0))) (i : Nat) : W.cell? ⟨b, i, none⟩ = c[i]? := by
  have lt := (Array.getElem?_eq_some_iff.1 h).1
  rw [holds_self h, cell?_holds, if_pos ⟨rfl, lt⟩]
/-- A row of pieces does not lie in the box of a cache. -/
theorem slP_box {W : World} {b : Nat} {v0 v1 v2 : Value} {T : TypeId} (h : W.heap[b]? = some (.cells #[v0, v1, v2] T (0, 0))) {ao : Option Addr} {n cap : Nat} {bl : List Pc} (s : Sl W 4 ao n cap (bl.map Pc.enc)) : ∀ a, ao = some a → 0 < n → a.block ≠ b := by
  intro a ea hn e
  obtain ⟨b', off, e', hlt, hc⟩ := s.here hn
  rw [ea] at e'
  cases e'
  simp only [] at e
  subst e
  have hl := Sl.lenE s
  have hx : (bl.map Pc.enc)[0]? = some bl[0]!.enc := by rw [List.getElem?_map, List.getElem?_eq_getElem (by omega), getElem!_pos bl 0 (by omega)]; rfl
  have := hc 0 _ hx 3 _ rfl
  rw [cell_block h] at this
  have h2 := (Array.getElem?_eq_some_iff.1 this).1
  simp at h2
  omega
theorem slH_box {W : World} {b : Nat} {v0 v2 : Value} {x : Option Addr} {y z : Nat} {T : TypeId} (h : W.heap[b]? = some (.cells #[v0, .slice x y z, v2] T (0, 0))) {ao : Option Addr} {n cap : Nat} {hs : List Hd} (s : Sl W 3 ao n cap (hs.map Hd.enc)) : ∀ a, ao = some a → 0 < n → a.block ≠ b := by
  intro a ea hn e
  obtain ⟨b', off, e', hlt, hc⟩ := s.here hn
  rw [ea] at e'
  cases e'
  simp only [] at e
  subst e
  have hl := Sl.lenE s
  have hx : (hs.map Hd.enc)[0]? = some hs[0]!.enc := by rw [List.getElem?_map, List.getElem?_eq_getElem (by omega), getElem!_pos hs 0 (by omega)]; rfl
  have h3 := hc 0 _ hx 2 _ rfl
  rw [cell_block h] at h3
  have h2 := (Array.getElem?_eq_some_iff.1 h3).1
  have ho : off = 0 := by simp at h2; omega
  subst ho
  have h4 := hc 0 _ hx 1 _ rfl
  rw [cell_block h] at h4
  simp at h4
theorem slP_holds {W : World} {b : Nat} {v0 v1 v2 : Value} {T : TypeId} (h : W.heap[b]? = some (.cells #[v0, v1, v2] T (0, 0))) {ao : Option Addr} {n cap : Nat} {bl : List Pc} (s : Sl W 4 ao n cap (bl.map Pc.enc)) {c : Array Value} {T' : TypeId} : Sl (holds W b c T') 4 ao n cap (bl.map Pc.enc) := sl_holds s (slP_box h s)
theorem slH_holds {W : World} {b : Nat} {v0 v2 : Value} {x : Option Addr} {y z : Nat} {T : TypeId} (h : W.heap[b]? = some (.cells #[v0, .slice x y z, v2] T (0, 0))) {ao : Option Addr} {n cap : Nat} {hs : List Hd} (s : Sl W 3 ao n cap (hs.map Hd.enc)) {c : Array Value} {T' : TypeId} : Sl (holds W b c T') 3 ao n cap (hs.map Hd.enc) := sl_holds s (slH_box h s)

/-- What a call does of a cache: its pieces, its holds, the bytes and the flag. -/
def stepF (cp kd id vers at' cnt tm : Int) (data : ByteArray) (bl : List Pc) (hs : List Hd) : List Pc × List Hd × ByteArray × Bool :=
  if kd = 1 then ((holdF ⟨id, vers, tm⟩ bl hs).1, (holdF ⟨id, vers, tm⟩ bl hs).2, ⟨#[]⟩, false)
  else if kd = 2 then (notI id bl, notH id hs, ⟨#[]⟩, false)
  else if kd = 3 then (putF cp ⟨id, vers, at', data⟩ bl hs, hs, ⟨#[]⟩, false)
  else if kd = 4 then ((getF id at' cnt tm bl hs).1, hs, (getF id at' cnt tm bl hs).2.1, (getF id at' cnt tm bl hs).2.2)
  else if kd = 5 then (notI id bl, hs, ⟨#[]⟩, false)
  else if kd = 6 then ([], [], ⟨#[]⟩, false)
  else (bl, hs, ⟨#[]⟩, false)
theorem RightP.empty {cp : Int} {bl : List Pc} {hs : List Hd} (h : RightP cp bl hs) : RightP cp [] [] :=
  ⟨h.cap, by have := h.cap; simpa using this.1, by simp, by simp, List.Pairwise.nil, by simp, by simp, List.Pairwise.nil⟩
theorem RightP.stepF {cp : Int} {bl : List Pc} {hs : List Hd} (h : RightP cp bl hs) (kd id vers at' cnt tm : Int) (data : ByteArray) : RightP cp (Proofs.Ytcgajlobbjoefaa.stepF cp kd id vers at' cnt tm data bl hs).1 (Proofs.Ytcgajlobbjoefaa.stepF cp kd id vers at' cnt tm data bl hs).2.1 := by
  unfold Proofs.Ytcgajlobbjoefaa.stepF
  repeat' split
  · exact h.holdF _
  · exact h.release _
  · exact h.putF _
  · exact h.getF _ _ _ _
  · exact h.notI _
  · exact h.empty
  · exact h
def DPost (w : World) (cp : Int) (r : List Pc × List Hd × ByteArray × Bool) (e : Ending) (w' : World) : Prop :=
  ∃ a1 k1 a2 k2, e = .returned (.tuple #[.agg #[.int .i64 cp, .slice a1 r.1.length k1, .slice a2 r.2.1.length k2], .string r.2.2.1, .bool r.2.2.2]) ∧ Sl w' 4 a1 r.1.length k1 (r.1.map Pc.enc) ∧ Sl w' 3 a2 r.2.1.length k2 (r.2.1.map Hd.enc) ∧ Below w.heap.size w w'

set_option maxRecDepth 20000 in
set_option maxHeartbeats 16000000 in
theorem did_calls (cp : Int) (ao : Option Addr) (n c1 : Nat) (ao2 : Option Addr) (n2 c2 : Nat) (bl : List Pc) (hs : List Hd) (kd id vers at' cnt tm : Int) (data : ByteArray) (w : World) (h1 : Sl w 4 ao n c1 (bl.map Pc.enc)) (h2 : Sl w 3 ao2 n2 c2 (hs.map Hd.enc)) (h : RightP cp bl hs) :
    Calls Try.prog 19 #[.agg #[.int .i64 cp, .slice ao n c1, .slice ao2 n2 c2], .agg #[.int .i64 kd, .int .i64 id, .int .i64 vers, .int .i64 at', .int .i64 cnt, .int .i64 tm, .string data]] w fun e w' => DPost w cp (stepF cp kd id vers at' cnt tm data bl hs) e w' := by
  have hb0 : Below w.heap.size w (((w.alloc (.cells #[.int .i64 cp, .slice ao n c1, .slice ao2 n2 c2] 25)).alloc (.cells #[.int .i64 kd, .int .i64 id, .int .i64 vers, .int .i64 at', .int .i64 cnt, .int .i64 tm, .string data] 39)).alloc (.cells #[.int .i64 0, .slice none 0 0, .slice none 0 0] 25)) := by
    repeat (first | (with_reducible exact Below.refl _ _) | (with_reducible assumption) | (with_reducible refine below_to_plus ?_ ?_ _) | (with_reducible refine below_holds ?_ ?_ _ _) | (with_reducible refine Below.alloc ?_ ?_ _) | (with_reducible refine Below.drew ?_) | (with_reducible refine below_drewN ?_ _) | (with_reducible refine Below.setCell ?_ ?_ _))
    all_goals first | omega | (simp; done) | (simp [go_sem]; done) | (simp [go_sem]; omega)
  have HB : Aside (Below w.heap.size w (((w.alloc (.cells #[.int .i64 cp, .slice ao n c1, .slice ao2 n2 c2] 25)).alloc (.cells #[.int .i64 kd, .int .i64 id, .int .i64 vers, .int .i64 at', .int .i64 cnt, .int .i64 tm, .string data] 39)).alloc (.cells #[.int .i64 0, .slice none 0 0, .slice none 0 0] 25))) := hb0
  have S1 := h1.stays hb0
  have S2 := h2.stays hb0
  by_cases g1 : kd = 1
  · subst g1
    have ER : stepF cp 1 id vers at' cnt tm data bl hs = ((holdF ⟨id, vers, tm⟩ bl hs).1, (holdF ⟨id, vers, tm⟩ bl hs).2, ⟨#[]⟩, false) := by unfold stepF;  rw [if_pos rfl]
    rw [ER]
    clear ER
    have ck := hold_all cp ao n c1 ao2 n2 c2 bl hs id vers tm _ S1 S2 h
    generalize (holdF ⟨id, vers, tm⟩ bl hs).1 = bl' at ck ⊢
    generalize (holdF ⟨id, vers, tm⟩ bl hs).2 = hs' at ck ⊢
    clear h1 h2 hb0 S1 S2 h
    go_enter Try.func19, Try.ntmps19
    go_wp2_with fail
    refine ck.mono ?_
    rintro e w1 ⟨a1, k1, a2, k2, rfl, s1, s2, hb⟩
    have Hc : w1.heap[w.heap.size]? = some (.cells #[.int .i64 cp, .slice ao n c1, .slice ao2 n2 c2] 25 (0, 0)) := heap_later (hp_old (hp_old (hp_new rfl))) hb
    have Hr : w1.heap[w.heap.size + 1 + 1]? = some (.cells #[.int .i64 0, .slice none 0 0, .slice none 0 0] 25 (0, 0)) := heap_later (hp_new (by simp)) hb
    have HB1 : Aside (Below w.heap.size w w1) := HB.out.trans (hb.mono HB.out.size)
    have ltc : w.heap.size < w1.heap.size := (Array.getElem?_eq_some_iff.1 Hc).1
    have ltr : w.heap.size + 1 + 1 < w1.heap.size := (Array.getElem?_eq_some_iff.1 Hr).1
    have ne1 : ¬ w.heap.size = w.heap.size + 1 + 1 := by omega
    have ne2 : ¬ w.heap.size + 1 + 1 = w.heap.size := by omega
    have Z1 : Aside (∀ c c' T T', Sl (holds (holds w1 (w.heap.size) c T) (w.heap.size + 1 + 1) c' T') 4 a1 bl'.length k1 (bl'.map Pc.enc)) := fun c c' T T' => slP_holds (hh_ne ne2 Hr) (slP_holds Hc s1)
    have Z2 : Aside (∀ c c' T T', Sl (holds (holds w1 (w.heap.size) c T) (w.heap.size + 1 + 1) c' T') 3 a2 hs'.length k2 (hs'.map Hd.enc)) := fun c c' T T' => slH_holds (hh_ne ne2 Hr) (slH_holds Hc s2)
    rw [holds_add (holds_self Hc) Hr]
    clear hb ck HB Hc Hr s1 s2
    go_wp2
    refine bodyPost_ret (v := .tuple #[.agg #[.int .i64 cp, .slice a1 bl'.length k1, .slice a2 hs'.length k2], .string ⟨#[]⟩, .bool false]) (by simp [results, Try.results19, go_sem, ↓IntWalk.iteOmega, *]) rfl ⟨_, _, _, _, rfl, Z1.out _ _ _ _, Z2.out _ _ _ _, below_holds (below_holds HB1.out (by omega) _ _) (by omega) _ _⟩
  by_cases g2 : kd = 2
  · subst g2
    have ER : stepF cp 2 id vers at' cnt tm data bl hs = (notI id bl, notH id hs, ⟨#[]⟩, false) := by unfold stepF; rw [if_neg (by omega)]; rw [if_pos rfl]
    rw [ER]
    clear ER
    have ck := release_all cp ao n c1 ao2 n2 c2 bl hs id _ S1 S2 h
    generalize notI id bl = bl' at ck ⊢
    generalize notH id hs = hs' at ck ⊢
    clear h1 h2 hb0 S1 S2 h
    go_enter Try.func19, Try.ntmps19
    go_wp2_with fail
    refine ck.mono ?_
    rintro e w1 ⟨a1, k1, a2, k2, rfl, s1, s2, hb⟩
    have Hc : w1.heap[w.heap.size]? = some (.cells #[.int .i64 cp, .slice ao n c1, .slice ao2 n2 c2] 25 (0, 0)) := heap_later (hp_old (hp_old (hp_new rfl))) hb
    have Hr : w1.heap[w.heap.size + 1 + 1]? = some (.cells #[.int .i64 0, .slice none 0 0, .slice none 0 0] 25 (0, 0)) := heap_later (hp_new (by simp)) hb
    have HB1 : Aside (Below w.heap.size w w1) := HB.out.trans (hb.mono HB.out.size)
    have ltc : w.heap.size < w1.heap.size := (Array.getElem?_eq_some_iff.1 Hc).1
    have ltr : w.heap.size + 1 + 1 < w1.heap.size := (Array.getElem?_eq_some_iff.1 Hr).1
    have ne1 : ¬ w.heap.size = w.heap.size + 1 + 1 := by omega
    have ne2 : ¬ w.heap.size + 1 + 1 = w.heap.size := by omega
    have Z1 : Aside (∀ c c' T T', Sl (holds (holds w1 (w.heap.size) c T) (w.heap.size + 1 + 1) c' T') 4 a1 bl'.length k1 (bl'.map Pc.enc)) := fun c c' T T' => slP_holds (hh_ne ne2 Hr) (slP_holds Hc s1)
    have Z2 : Aside (∀ c c' T T', Sl (holds (holds w1 (w.heap.size) c T) (w.heap.size + 1 + 1) c' T') 3 a2 hs'.length k2 (hs'.map Hd.enc)) := fun c c' T T' => slH_holds (hh_ne ne2 Hr) (slH_holds Hc s2)
    rw [holds_add (holds_self Hc) Hr]
    clear hb ck HB Hc Hr s1 s2
    go_wp2
    refine bodyPost_ret (v := .tuple #[.agg #[.int .i64 cp, .slice a1 bl'.length k1, .slice a2 hs'.length k2], .string ⟨#[]⟩, .bool false]) (by simp [results, Try.results19, go_sem, ↓IntWalk.iteOmega, *]) rfl ⟨_, _, _, _, rfl, Z1.out _ _ _ _, Z2.out _ _ _ _, below_holds (below_holds HB1.out (by omega) _ _) (by omega) _ _⟩
  by_cases g3 : kd = 3
  · subst g3
    have ER : stepF cp 3 id vers at' cnt tm data bl hs = (putF cp ⟨id, vers, at', data⟩ bl hs, hs, ⟨#[]⟩, false) := by unfold stepF; rw [if_neg (by omega)]; rw [if_neg (by omega)]; rw [if_pos rfl]
    rw [ER]
    clear ER
    have ck := put_all cp ao n c1 ao2 n2 c2 bl hs id vers at' data _ S1 S2 h
    generalize putF cp ⟨id, vers, at', data⟩ bl hs = bl' at ck ⊢
    clear h1 h2 hb0 S1 S2 h
    go_enter Try.func19, Try.ntmps19
    go_wp2_with fail
    refine ck.mono ?_
    rintro e w1 ⟨a1, k1, a2, k2, rfl, s1, s2, hb⟩
    have Hc : w1.heap[w.heap.size]? = some (.cells #[.int .i64 cp, .slice ao n c1, .slice ao2 n2 c2] 25 (0, 0)) := heap_later (hp_old (hp_old (hp_new rfl))) hb
    have Hr : w1.heap[w.heap.size + 1 + 1]? = some (.cells #[.int .i64 0, .slice none 0 0, .slice none 0 0] 25 (0, 0)) := heap_later (hp_new (by simp)) hb
    have HB1 : Aside (Below w.heap.size w w1) := HB.out.trans (hb.mono HB.out.size)
    have ltc : w.heap.size < w1.heap.size := (Array.getElem?_eq_some_iff.1 Hc).1
    have ltr : w.heap.size + 1 + 1 < w1.heap.size := (Array.getElem?_eq_some_iff.1 Hr).1
    have ne1 : ¬ w.heap.size = w.heap.size + 1 + 1 := by omega
    have ne2 : ¬ w.heap.size + 1 + 1 = w.heap.size := by omega
    have Z1 : Aside (∀ c c' T T', Sl (holds (holds w1 (w.heap.size) c T) (w.heap.size + 1 + 1) c' T') 4 a1 bl'.length k1 (bl'.map Pc.enc)) := fun c c' T T' => slP_holds (hh_ne ne2 Hr) (slP_holds Hc s1)
    have Z2 : Aside (∀ c c' T T', Sl (holds (holds w1 (w.heap.size) c T) (w.heap.size + 1 + 1) c' T') 3 a2 hs.length k2 (hs.map Hd.enc)) := fun c c' T T' => slH_holds (hh_ne ne2 Hr) (slH_holds Hc s2)
    rw [holds_add (holds_self Hc) Hr]
    clear hb ck HB Hc Hr s1 s2
    go_wp2
    refine bodyPost_ret (v := .tuple #[.agg #[.int .i64 cp, .slice a1 bl'.length k1, .slice a2 hs.length k2], .string ⟨#[]⟩, .bool false]) (by simp [results, Try.results19, go_sem, ↓IntWalk.iteOmega, *]) rfl ⟨_, _, _, _, rfl, Z1.out _ _ _ _, Z2.out _ _ _ _, below_holds (below_holds HB1.out (by omega) _ _) (by omega) _ _⟩
  by_cases g4 : kd = 4
  · subst g4
    have ER : stepF cp 4 id vers at' cnt tm data bl hs = ((getF id at' cnt tm bl hs).1, hs, (getF id at' cnt tm bl hs).2.1, (getF id at' cnt tm bl hs).2.2) := by unfold stepF; rw [if_neg (by omega)]; rw [if_neg (by omega)]; rw [if_neg (by omega)]; rw [if_pos rfl]
    rw [ER]
    clear ER
    have ck := get_all cp ao n c1 ao2 n2 c2 bl hs id at' cnt tm _ S1 S2 h
    generalize getF id at' cnt tm bl hs = r at ck ⊢
    obtain ⟨bl', st, rb⟩ := r
    simp only [] at ck ⊢
    clear h1 h2 hb0 S1 S2 h
    go_enter Try.func19, Try.ntmps19
    go_wp2_with fail
    refine ck.mono ?_
    rintro e w1 ⟨a1, k1, a2, k2, rfl, s1, s2, hb⟩
    have Hc : w1.heap[w.heap.size]? = some (.cells #[.int .i64 cp, .slice ao n c1, .slice ao2 n2 c2] 25 (0, 0)) := heap_later (hp_old (hp_old (hp_new rfl))) hb
    have Hr : w1.heap[w.heap.size + 1 + 1]? = some (.cells #[.int .i64 0, .slice none 0 0, .slice none 0 0] 25 (0, 0)) := heap_later (hp_new (by simp)) hb
    have HB1 : Aside (Below w.heap.size w w1) := HB.out.trans (hb.mono HB.out.size)
    have ltc : w.heap.size < w1.heap.size := (Array.getElem?_eq_some_iff.1 Hc).1
    have ltr : w.heap.size + 1 + 1 < w1.heap.size := (Array.getElem?_eq_some_iff.1 Hr).1
    have ne1 : ¬ w.heap.size = w.heap.size + 1 + 1 := by omega
    have ne2 : ¬ w.heap.size + 1 + 1 = w.heap.size := by omega
    have Z1 : Aside (∀ c c' T T', Sl (holds (holds w1 (w.heap.size) c T) (w.heap.size + 1 + 1) c' T') 4 a1 bl'.length k1 (bl'.map Pc.enc)) := fun c c' T T' => slP_holds (hh_ne ne2 Hr) (slP_holds Hc s1)
    have Z2 : Aside (∀ c c' T T', Sl (holds (holds w1 (w.heap.size) c T) (w.heap.size + 1 + 1) c' T') 3 a2 hs.length k2 (hs.map Hd.enc)) := fun c c' T T' => slH_holds (hh_ne ne2 Hr) (slH_holds Hc s2)
    rw [holds_add (holds_self Hc) Hr]
    clear hb ck HB Hc Hr s1 s2
    go_wp2
    refine bodyPost_ret (v := .tuple #[.agg #[.int .i64 cp, .slice a1 bl'.length k1, .slice a2 hs.length k2], .string st, .bool rb]) (by simp [results, Try.results19, go_sem, ↓IntWalk.iteOmega, *]) rfl ⟨_, _, _, _, rfl, Z1.out _ _ _ _, Z2.out _ _ _ _, below_holds (below_holds HB1.out (by omega) _ _) (by omega) _ _⟩
  by_cases g5 : kd = 5
  · subst g5
    have ER : stepF cp 5 id vers at' cnt tm data bl hs = (notI id bl, hs, ⟨#[]⟩, false) := by unfold stepF; rw [if_neg (by omega)]; rw [if_neg (by omega)]; rw [if_neg (by omega)]; rw [if_neg (by omega)]; rw [if_pos rfl]
    rw [ER]
    clear ER
    have ck := drop_all cp ao n c1 ao2 n2 c2 bl hs id _ S1 S2 h
    generalize notI id bl = bl' at ck ⊢
    clear h1 h2 hb0 S1 S2 h
    go_enter Try.func19, Try.ntmps19
    go_wp2_with fail
    refine ck.mono ?_
    rintro e w1 ⟨a1, k1, a2, k2, rfl, s1, s2, hb⟩
    have Hc : w1.heap[w.heap.size]? = some (.cells #[.int .i64 cp, .slice ao n c1, .slice ao2 n2 c2] 25 (0, 0)) := heap_later (hp_old (hp_old (hp_new rfl))) hb
    have Hr : w1.heap[w.heap.size + 1 + 1]? = some (.cells #[.int .i64 0, .slice none 0 0, .slice none 0 0] 25 (0, 0)) := heap_later (hp_new (by simp)) hb
    have HB1 : Aside (Below w.heap.size w w1) := HB.out.trans (hb.mono HB.out.size)
    have ltc : w.heap.size < w1.heap.size := (Array.getElem?_eq_some_iff.1 Hc).1
    have ltr : w.heap.size + 1 + 1 < w1.heap.size := (Array.getElem?_eq_some_iff.1 Hr).1
    have ne1 : ¬ w.heap.size = w.heap.size + 1 + 1 := by omega
    have ne2 : ¬ w.heap.size + 1 + 1 = w.heap.size := by omega
    have Z1 : Aside (∀ c c' T T', Sl (holds (holds w1 (w.heap.size) c T) (w.heap.size + 1 + 1) c' T') 4 a1 bl'.length k1 (bl'.map Pc.enc)) := fun c c' T T' => slP_holds (hh_ne ne2 Hr) (slP_holds Hc s1)
    have Z2 : Aside (∀ c c' T T', Sl (holds (holds w1 (w.heap.size) c T) (w.heap.size + 1 + 1) c' T') 3 a2 hs.length k2 (hs.map Hd.enc)) := fun c c' T T' => slH_holds (hh_ne ne2 Hr) (slH_holds Hc s2)
    rw [holds_add (holds_self Hc) Hr]
    clear hb ck HB Hc Hr s1 s2
    go_wp2
    refine bodyPost_ret (v := .tuple #[.agg #[.int .i64 cp, .slice a1 bl'.length k1, .slice a2 hs.length k2], .string ⟨#[]⟩, .bool false]) (by simp [results, Try.results19, go_sem, ↓IntWalk.iteOmega, *]) rfl ⟨_, _, _, _, rfl, Z1.out _ _ _ _, Z2.out _ _ _ _, below_holds (below_holds HB1.out (by omega) _ _) (by omega) _ _⟩
  by_cases g6 : kd = 6
  · subst g6
    have ER : stepF cp 6 id vers at' cnt tm data bl hs = ([], [], ⟨#[]⟩, false) := by unfold stepF; rw [if_neg (by omega)]; rw [if_neg (by omega)]; rw [if_neg (by omega)]; rw [if_neg (by omega)]; rw [if_neg (by omega)]; rw [if_pos rfl]
    rw [ER]
    clear ER
    have ck := clear_calls cp (.slice ao n c1) (.slice ao2 n2 c2) (((w.alloc (.cells #[.int .i64 cp, .slice ao n c1, .slice ao2 n2 c2] 25)).alloc (.cells #[.int .i64 6, .int .i64 id, .int .i64 vers, .int .i64 at', .int .i64 cnt, .int .i64 tm, .string data] 39)).alloc (.cells #[.int .i64 0, .slice none 0 0, .slice none 0 0] 25)) rfl rfl ao n c1 ao2 n2 c2 rfl rfl
    clear h1 h2 hb0 S1 S2 h
    go_enter Try.func19, Try.ntmps19
    go_wp2_with fail
    refine ck.mono ?_
    rintro e w1 ⟨rfl, hb⟩
    have Hc : w1.heap[w.heap.size]? = some (.cells #[.int .i64 cp, .slice ao n c1, .slice ao2 n2 c2] 25 (0, 0)) := heap_later (hp_old (hp_old (hp_new rfl))) hb
    have Hr : w1.heap[w.heap.size + 1 + 1]? = some (.cells #[.int .i64 0, .slice none 0 0, .slice none 0 0] 25 (0, 0)) := heap_later (hp_new (by simp)) hb
    have HB1 : Aside (Below w.heap.size w w1) := HB.out.trans (hb.mono HB.out.size)
    have ltc : w.heap.size < w1.heap.size := (Array.getElem?_eq_some_iff.1 Hc).1
    have ltr : w.heap.size + 1 + 1 < w1.heap.size := (Array.getElem?_eq_some_iff.1 Hr).1
    have ne1 : ¬ w.heap.size = w.heap.size + 1 + 1 := by omega
    have ne2 : ¬ w.heap.size + 1 + 1 = w.heap.size := by omega
    rw [holds_add (holds_self Hc) Hr]
    clear hb ck HB Hc Hr
    go_wp2
    refine bodyPost_ret (v := .tuple #[.agg #[.int .i64 cp, .slice none 0 0, .slice none 0 0], .string ⟨#[]⟩, .bool false]) (by simp [results, Try.results19, go_sem, ↓IntWalk.iteOmega, *]) rfl ⟨_, _, _, _, rfl, sl_none, sl_none, below_holds (below_holds HB1.out (by omega) _ _) (by omega) _ _⟩
  have ER : stepF cp kd id vers at' cnt tm data bl hs = (bl, hs, ⟨#[]⟩, false) := by unfold stepF; rw [if_neg g1, if_neg g2, if_neg g3, if_neg g4, if_neg g5, if_neg g6]
  rw [ER]
  have q1 : (kd == 1) = false := by simpa using g1
  have q2 : (kd == 2) = false := by simpa using g2
  have q3 : (kd == 3) = false := by simpa using g3
  have q4 : (kd == 4) = false := by simpa using g4
  have q5 : (kd == 5) = false := by simpa using g5
  have q6 : (kd == 6) = false := by simpa using g6
  clear g1 g2 g3 g4 g5 g6 ER h hb0 S1 S2
  obtain rfl : bl.length = n := Sl.lenE h1
  obtain rfl : hs.length = n2 := Sl.lenE h2
  have Z1 : Aside (Sl w 4 ao bl.length c1 (bl.map Pc.enc)) := h1
  have Z2 : Aside (Sl w 3 ao2 hs.length c2 (hs.map Hd.enc)) := h2
  clear h1 h2 HB
  go_enter Try.func19, Try.ntmps19
  go_wp2
  refine bodyPost_ret (v := .tuple #[.agg #[.int .i64 cp, .slice ao bl.length c1, .slice ao2 hs.length c2], .string ⟨#[]⟩, .bool false]) (by simp [results, Try.results19, go_sem, ↓IntWalk.iteOmega, *]) rfl ⟨_, _, _, _, rfl, Z1.out.stays ?_, Z2.out.stays ?_, ?_⟩
  all_goals
    repeat (first | (with_reducible exact Below.refl _ _) | (with_reducible assumption) | (with_reducible refine below_to_plus ?_ ?_ _) | (with_reducible refine below_holds ?_ ?_ _ _) | (with_reducible refine Below.alloc ?_ ?_ _) | (with_reducible refine Below.drew ?_) | (with_reducible refine below_drewN ?_ _) | (with_reducible refine Below.setCell ?_ ?_ _))
    all_goals first | omega | (simp; done) | (simp [go_sem]; done) | (simp [go_sem]; omega)
set_option maxRecDepth 20000 in
set_option maxHeartbeats 16000000 in
theorem want_calls (cp : Int) (ao : Option Addr) (n c1 : Nat) (ao2 : Option Addr) (n2 c2 : Nat) (bl : List Pc) (hs : List Hd) (kd id vers at' cnt tm : Int) (data : ByteArray) (w : World) (h1 : Sl w 4 ao n c1 (bl.map Pc.enc)) (h2 : Sl w 3 ao2 n2 c2 (hs.map Hd.enc)) (h : RightP cp bl hs) :
    Calls Try.prog 20 #[.agg #[.int .i64 cp, .slice ao n c1, .slice ao2 n2 c2], .agg #[.int .i64 kd, .int .i64 id, .int .i64 vers, .int .i64 at', .int .i64 cnt, .int .i64 tm, .string data]] w fun e w' => DPost w cp (stepF cp kd id vers at' cnt tm data bl hs) e w' := by
  have hb0 : Below w.heap.size w (((w.alloc (.cells #[.int .i64 cp, .slice ao n c1, .slice ao2 n2 c2] 25)).alloc (.cells #[.int .i64 kd, .int .i64 id, .int .i64 vers, .int .i64 at', .int .i64 cnt, .int .i64 tm, .string data] 39)).alloc (.cells #[.int .i64 0, .slice none 0 0, .slice none 0 0] 25)) := by
    repeat (first | (with_reducible exact Below.refl _ _) | (with_reducible assumption) | (with_reducible refine below_to_plus ?_ ?_ _) | (with_reducible refine below_holds ?_ ?_ _ _) | (with_reducible refine Below.alloc ?_ ?_ _) | (with_reducible refine Below.drew ?_) | (with_reducible refine below_drewN ?_ _) | (with_reducible refine Below.setCell ?_ ?_ _))
    all_goals first | omega | (simp; done) | (simp [go_sem]; done) | (simp [go_sem]; omega)
  have HB : Aside (Below w.heap.size w (((w.alloc (.cells #[.int .i64 cp, .slice ao n c1, .slice ao2 n2 c2] 25)).alloc (.cells #[.int .i64 kd, .int .i64 id, .int .i64 vers, .int .i64 at', .int .i64 cnt, .int .i64 tm, .string data] 39)).alloc (.cells #[.int .i64 0, .slice none 0 0, .slice none 0 0] 25))) := hb0
  have S1 := h1.stays hb0
  have S2 := h2.stays hb0
  by_cases g1 : kd = 1
  · subst g1
    have ER : stepF cp 1 id vers at' cnt tm data bl hs = ((holdF ⟨id, vers, tm⟩ bl hs).1, (holdF ⟨id, vers, tm⟩ bl hs).2, ⟨#[]⟩, false) := by unfold stepF;  rw [if_pos rfl]
    rw [ER]
    clear ER
    have ck := rhold_all cp ao n c1 ao2 n2 c2 bl hs id vers tm _ S1 S2 h
    generalize (holdF ⟨id, vers, tm⟩ bl hs).1 = bl' at ck ⊢
    generalize (holdF ⟨id, vers, tm⟩ bl hs).2 = hs' at ck ⊢
    clear h1 h2 hb0 S1 S2 h
    go_enter Try.func20, Try.ntmps20
    go_wp2_with fail
    refine ck.mono ?_
    rintro e w1 ⟨a1, k1, a2, k2, rfl, s1, s2, hb⟩
    have Hc : w1.heap[w.heap.size]? = some (.cells #[.int .i64 cp, .slice ao n c1, .slice ao2 n2 c2] 25 (0, 0)) := heap_later (hp_old (hp_old (hp_new rfl))) hb
    have Hr : w1.heap[w.heap.size + 1 + 1]? = some (.cells #[.int .i64 0, .slice none 0 0, .slice none 0 0] 25 (0, 0)) := heap_later (hp_new (by simp)) hb
    have HB1 : Aside (Below w.heap.size w w1) := HB.out.trans (hb.mono HB.out.size)
    have ltc : w.heap.size < w1.heap.size := (Array.getElem?_eq_some_iff.1 Hc).1
    have ltr : w.heap.size + 1 + 1 < w1.heap.size := (Array.getElem?_eq_some_iff.1 Hr).1
    have ne1 : ¬ w.heap.size = w.heap.size + 1 + 1 := by omega
    have ne2 : ¬ w.heap.size + 1 + 1 = w.heap.size := by omega
    have Z1 : Aside (∀ c c' T T', Sl (holds (holds w1 (w.heap.size) c T) (w.heap.size + 1 + 1) c' T') 4 a1 bl'.length k1 (bl'.map Pc.enc)) := fun c c' T T' => slP_holds (hh_ne ne2 Hr) (slP_holds Hc s1)
    have Z2 : Aside (∀ c c' T T', Sl (holds (holds w1 (w.heap.size) c T) (w.heap.size + 1 + 1) c' T') 3 a2 hs'.length k2 (hs'.map Hd.enc)) := fun c c' T T' => slH_holds (hh_ne ne2 Hr) (slH_holds Hc s2)
    rw [holds_add (holds_self Hc) Hr]
    clear hb ck HB Hc Hr s1 s2
    go_wp2
    refine bodyPost_ret (v := .tuple #[.agg #[.int .i64 cp, .slice a1 bl'.length k1, .slice a2 hs'.length k2], .string ⟨#[]⟩, .bool false]) (by simp [results, Try.results20, go_sem, ↓IntWalk.iteOmega, *]) rfl ⟨_, _, _, _, rfl, Z1.out _ _ _ _, Z2.out _ _ _ _, below_holds (below_holds HB1.out (by omega) _ _) (by omega) _ _⟩
  by_cases g2 : kd = 2
  · subst g2
    have ER : stepF cp 2 id vers at' cnt tm data bl hs = (notI id bl, notH id hs, ⟨#[]⟩, false) := by unfold stepF; rw [if_neg (by omega)]; rw [if_pos rfl]
    rw [ER]
    clear ER
    have ck := rrelease_all cp ao n c1 ao2 n2 c2 bl hs id _ S1 S2 h
    generalize notI id bl = bl' at ck ⊢
    generalize notH id hs = hs' at ck ⊢
    clear h1 h2 hb0 S1 S2 h
    go_enter Try.func20, Try.ntmps20
    go_wp2_with fail
    refine ck.mono ?_
    rintro e w1 ⟨a1, k1, a2, k2, rfl, s1, s2, hb⟩
    have Hc : w1.heap[w.heap.size]? = some (.cells #[.int .i64 cp, .slice ao n c1, .slice ao2 n2 c2] 25 (0, 0)) := heap_later (hp_old (hp_old (hp_new rfl))) hb
    have Hr : w1.heap[w.heap.size + 1 + 1]? = some (.cells #[.int .i64 0, .slice none 0 0, .slice none 0 0] 25 (0, 0)) := heap_later (hp_new (by simp)) hb
    have HB1 : Aside (Below w.heap.size w w1) := HB.out.trans (hb.mono HB.out.size)
    have ltc : w.heap.size < w1.heap.size := (Array.getElem?_eq_some_iff.1 Hc).1
    have ltr : w.heap.size + 1 + 1 < w1.heap.size := (Array.getElem?_eq_some_iff.1 Hr).1
    have ne1 : ¬ w.heap.size = w.heap.size + 1 + 1 := by omega
    have ne2 : ¬ w.heap.size + 1 + 1 = w.heap.size := by omega
    have Z1 : Aside (∀ c c' T T', Sl (holds (holds w1 (w.heap.size) c T) (w.heap.size + 1 + 1) c' T') 4 a1 bl'.length k1 (bl'.map Pc.enc)) := fun c c' T T' => slP_holds (hh_ne ne2 Hr) (slP_holds Hc s1)
    have Z2 : Aside (∀ c c' T T', Sl (holds (holds w1 (w.heap.size) c T) (w.heap.size + 1 + 1) c' T') 3 a2 hs'.length k2 (hs'.map Hd.enc)) := fun c c' T T' => slH_holds (hh_ne ne2 Hr) (slH_holds Hc s2)
    rw [holds_add (holds_self Hc) Hr]
    clear hb ck HB Hc Hr s1 s2
    go_wp2
    refine bodyPost_ret (v := .tuple #[.agg #[.int .i64 cp, .slice a1 bl'.length k1, .slice a2 hs'.length k2], .string ⟨#[]⟩, .bool false]) (by simp [results, Try.results20, go_sem, ↓IntWalk.iteOmega, *]) rfl ⟨_, _, _, _, rfl, Z1.out _ _ _ _, Z2.out _ _ _ _, below_holds (below_holds HB1.out (by omega) _ _) (by omega) _ _⟩
  by_cases g3 : kd = 3
  · subst g3
    have ER : stepF cp 3 id vers at' cnt tm data bl hs = (putF cp ⟨id, vers, at', data⟩ bl hs, hs, ⟨#[]⟩, false) := by unfold stepF; rw [if_neg (by omega)]; rw [if_neg (by omega)]; rw [if_pos rfl]
    rw [ER]
    clear ER
    have ck := rput_all cp ao n c1 ao2 n2 c2 bl hs id vers at' data _ S1 S2 h
    generalize putF cp ⟨id, vers, at', data⟩ bl hs = bl' at ck ⊢
    clear h1 h2 hb0 S1 S2 h
    go_enter Try.func20, Try.ntmps20
    go_wp2_with fail
    refine ck.mono ?_
    rintro e w1 ⟨a1, k1, a2, k2, rfl, s1, s2, hb⟩
    have Hc : w1.heap[w.heap.size]? = some (.cells #[.int .i64 cp, .slice ao n c1, .slice ao2 n2 c2] 25 (0, 0)) := heap_later (hp_old (hp_old (hp_new rfl))) hb
    have Hr : w1.heap[w.heap.size + 1 + 1]? = some (.cells #[.int .i64 0, .slice none 0 0, .slice none 0 0] 25 (0, 0)) := heap_later (hp_new (by simp)) hb
    have HB1 : Aside (Below w.heap.size w w1) := HB.out.trans (hb.mono HB.out.size)
    have ltc : w.heap.size < w1.heap.size := (Array.getElem?_eq_some_iff.1 Hc).1
    have ltr : w.heap.size + 1 + 1 < w1.heap.size := (Array.getElem?_eq_some_iff.1 Hr).1
    have ne1 : ¬ w.heap.size = w.heap.size + 1 + 1 := by omega
    have ne2 : ¬ w.heap.size + 1 + 1 = w.heap.size := by omega
    have Z1 : Aside (∀ c c' T T', Sl (holds (holds w1 (w.heap.size) c T) (w.heap.size + 1 + 1) c' T') 4 a1 bl'.length k1 (bl'.map Pc.enc)) := fun c c' T T' => slP_holds (hh_ne ne2 Hr) (slP_holds Hc s1)
    have Z2 : Aside (∀ c c' T T', Sl (holds (holds w1 (w.heap.size) c T) (w.heap.size + 1 + 1) c' T') 3 a2 hs.length k2 (hs.map Hd.enc)) := fun c c' T T' => slH_holds (hh_ne ne2 Hr) (slH_holds Hc s2)
    rw [holds_add (holds_self Hc) Hr]
    clear hb ck HB Hc Hr s1 s2
    go_wp2
    refine bodyPost_ret (v := .tuple #[.agg #[.int .i64 cp, .slice a1 bl'.length k1, .slice a2 hs.length k2], .string ⟨#[]⟩, .bool false]) (by simp [results, Try.results20, go_sem, ↓IntWalk.iteOmega, *]) rfl ⟨_, _, _, _, rfl, Z1.out _ _ _ _, Z2.out _ _ _ _, below_holds (below_holds HB1.out (by omega) _ _) (by omega) _ _⟩
  by_cases g4 : kd = 4
  · subst g4
    have ER : stepF cp 4 id vers at' cnt tm data bl hs = ((getF id at' cnt tm bl hs).1, hs, (getF id at' cnt tm bl hs).2.1, (getF id at' cnt tm bl hs).2.2) := by unfold stepF; rw [if_neg (by omega)]; rw [if_neg (by omega)]; rw [if_neg (by omega)]; rw [if_pos rfl]
    rw [ER]
    clear ER
    have ck := rget_all cp ao n c1 ao2 n2 c2 bl hs id at' cnt tm _ S1 S2 h
    generalize getF id at' cnt tm bl hs = r at ck ⊢
    obtain ⟨bl', st, rb⟩ := r
    simp only [] at ck ⊢
    clear h1 h2 hb0 S1 S2 h
    go_enter Try.func20, Try.ntmps20
    go_wp2_with fail
    refine ck.mono ?_
    rintro e w1 ⟨a1, k1, a2, k2, rfl, s1, s2, hb⟩
    have Hc : w1.heap[w.heap.size]? = some (.cells #[.int .i64 cp, .slice ao n c1, .slice ao2 n2 c2] 25 (0, 0)) := heap_later (hp_old (hp_old (hp_new rfl))) hb
    have Hr : w1.heap[w.heap.size + 1 + 1]? = some (.cells #[.int .i64 0, .slice none 0 0, .slice none 0 0] 25 (0, 0)) := heap_later (hp_new (by simp)) hb
    have HB1 : Aside (Below w.heap.size w w1) := HB.out.trans (hb.mono HB.out.size)
    have ltc : w.heap.size < w1.heap.size := (Array.getElem?_eq_some_iff.1 Hc).1
    have ltr : w.heap.size + 1 + 1 < w1.heap.size := (Array.getElem?_eq_some_iff.1 Hr).1
    have ne1 : ¬ w.heap.size = w.heap.size + 1 + 1 := by omega
    have ne2 : ¬ w.heap.size + 1 + 1 = w.heap.size := by omega
    have Z1 : Aside (∀ c c' T T', Sl (holds (holds w1 (w.heap.size) c T) (w.heap.size + 1 + 1) c' T') 4 a1 bl'.length k1 (bl'.map Pc.enc)) := fun c c' T T' => slP_holds (hh_ne ne2 Hr) (slP_holds Hc s1)
    have Z2 : Aside (∀ c c' T T', Sl (holds (holds w1 (w.heap.size) c T) (w.heap.size + 1 + 1) c' T') 3 a2 hs.length k2 (hs.map Hd.enc)) := fun c c' T T' => slH_holds (hh_ne ne2 Hr) (slH_holds Hc s2)
    rw [holds_add (holds_self Hc) Hr]
    clear hb ck HB Hc Hr s1 s2
    go_wp2
    refine bodyPost_ret (v := .tuple #[.agg #[.int .i64 cp, .slice a1 bl'.length k1, .slice a2 hs.length k2], .string st, .bool rb]) (by simp [results, Try.results20, go_sem, ↓IntWalk.iteOmega, *]) rfl ⟨_, _, _, _, rfl, Z1.out _ _ _ _, Z2.out _ _ _ _, below_holds (below_holds HB1.out (by omega) _ _) (by omega) _ _⟩
  by_cases g5 : kd = 5
  · subst g5
    have ER : stepF cp 5 id vers at' cnt tm data bl hs = (notI id bl, hs, ⟨#[]⟩, false) := by unfold stepF; rw [if_neg (by omega)]; rw [if_neg (by omega)]; rw [if_neg (by omega)]; rw [if_neg (by omega)]; rw [if_pos rfl]
    rw [ER]
    clear ER
    have ck := rdrop_all cp ao n c1 ao2 n2 c2 bl hs id _ S1 S2 h
    generalize notI id bl = bl' at ck ⊢
    clear h1 h2 hb0 S1 S2 h
    go_enter Try.func20, Try.ntmps20
    go_wp2_with fail
    refine ck.mono ?_
    rintro e w1 ⟨a1, k1, a2, k2, rfl, s1, s2, hb⟩
    have Hc : w1.heap[w.heap.size]? = some (.cells #[.int .i64 cp, .slice ao n c1, .slice ao2 n2 c2] 25 (0, 0)) := heap_later (hp_old (hp_old (hp_new rfl))) hb
    have Hr : w1.heap[w.heap.size + 1 + 1]? = some (.cells #[.int .i64 0, .slice none 0 0, .slice none 0 0] 25 (0, 0)) := heap_later (hp_new (by simp)) hb
    have HB1 : Aside (Below w.heap.size w w1) := HB.out.trans (hb.mono HB.out.size)
    have ltc : w.heap.size < w1.heap.size := (Array.getElem?_eq_some_iff.1 Hc).1
    have ltr : w.heap.size + 1 + 1 < w1.heap.size := (Array.getElem?_eq_some_iff.1 Hr).1
    have ne1 : ¬ w.heap.size = w.heap.size + 1 + 1 := by omega
    have ne2 : ¬ w.heap.size + 1 + 1 = w.heap.size := by omega
    have Z1 : Aside (∀ c c' T T', Sl (holds (holds w1 (w.heap.size) c T) (w.heap.size + 1 + 1) c' T') 4 a1 bl'.length k1 (bl'.map Pc.enc)) := fun c c' T T' => slP_holds (hh_ne ne2 Hr) (slP_holds Hc s1)
    have Z2 : Aside (∀ c c' T T', Sl (holds (holds w1 (w.heap.size) c T) (w.heap.size + 1 + 1) c' T') 3 a2 hs.length k2 (hs.map Hd.enc)) := fun c c' T T' => slH_holds (hh_ne ne2 Hr) (slH_holds Hc s2)
    rw [holds_add (holds_self Hc) Hr]
    clear hb ck HB Hc Hr s1 s2
    go_wp2
    refine bodyPost_ret (v := .tuple #[.agg #[.int .i64 cp, .slice a1 bl'.length k1, .slice a2 hs.length k2], .string ⟨#[]⟩, .bool false]) (by simp [results, Try.results20, go_sem, ↓IntWalk.iteOmega, *]) rfl ⟨_, _, _, _, rfl, Z1.out _ _ _ _, Z2.out _ _ _ _, below_holds (below_holds HB1.out (by omega) _ _) (by omega) _ _⟩
  by_cases g6 : kd = 6
  · subst g6
    have ER : stepF cp 6 id vers at' cnt tm data bl hs = ([], [], ⟨#[]⟩, false) := by unfold stepF; rw [if_neg (by omega)]; rw [if_neg (by omega)]; rw [if_neg (by omega)]; rw [if_neg (by omega)]; rw [if_neg (by omega)]; rw [if_pos rfl]
    rw [ER]
    clear ER
    have ck := rclear_calls cp (.slice ao n c1) (.slice ao2 n2 c2) (((w.alloc (.cells #[.int .i64 cp, .slice ao n c1, .slice ao2 n2 c2] 25)).alloc (.cells #[.int .i64 6, .int .i64 id, .int .i64 vers, .int .i64 at', .int .i64 cnt, .int .i64 tm, .string data] 39)).alloc (.cells #[.int .i64 0, .slice none 0 0, .slice none 0 0] 25)) rfl rfl ao n c1 ao2 n2 c2 rfl rfl
    clear h1 h2 hb0 S1 S2 h
    go_enter Try.func20, Try.ntmps20
    go_wp2_with fail
    refine ck.mono ?_
    rintro e w1 ⟨rfl, hb⟩
    have Hc : w1.heap[w.heap.size]? = some (.cells #[.int .i64 cp, .slice ao n c1, .slice ao2 n2 c2] 25 (0, 0)) := heap_later (hp_old (hp_old (hp_new rfl))) hb
    have Hr : w1.heap[w.heap.size + 1 + 1]? = some (.cells #[.int .i64 0, .slice none 0 0, .slice none 0 0] 25 (0, 0)) := heap_later (hp_new (by simp)) hb
    have HB1 : Aside (Below w.heap.size w w1) := HB.out.trans (hb.mono HB.out.size)
    have ltc : w.heap.size < w1.heap.size := (Array.getElem?_eq_some_iff.1 Hc).1
    have ltr : w.heap.size + 1 + 1 < w1.heap.size := (Array.getElem?_eq_some_iff.1 Hr).1
    have ne1 : ¬ w.heap.size = w.heap.size + 1 + 1 := by omega
    have ne2 : ¬ w.heap.size + 1 + 1 = w.heap.size := by omega
    rw [holds_add (holds_self Hc) Hr]
    clear hb ck HB Hc Hr
    go_wp2
    refine bodyPost_ret (v := .tuple #[.agg #[.int .i64 cp, .slice none 0 0, .slice none 0 0], .string ⟨#[]⟩, .bool false]) (by simp [results, Try.results20, go_sem, ↓IntWalk.iteOmega, *]) rfl ⟨_, _, _, _, rfl, sl_none, sl_none, below_holds (below_holds HB1.out (by omega) _ _) (by omega) _ _⟩
  have ER : stepF cp kd id vers at' cnt tm data bl hs = (bl, hs, ⟨#[]⟩, false) := by unfold stepF; rw [if_neg g1, if_neg g2, if_neg g3, if_neg g4, if_neg g5, if_neg g6]
  rw [ER]
  have q1 : (kd == 1) = false := by simpa using g1
  have q2 : (kd == 2) = false := by simpa using g2
  have q3 : (kd == 3) = false := by simpa using g3
  have q4 : (kd == 4) = false := by simpa using g4
  have q5 : (kd == 5) = false := by simpa using g5
  have q6 : (kd == 6) = false := by simpa using g6
  clear g1 g2 g3 g4 g5 g6 ER h hb0 S1 S2
  obtain rfl : bl.length = n := Sl.lenE h1
  obtain rfl : hs.length = n2 := Sl.lenE h2
  have Z1 : Aside (Sl w 4 ao bl.length c1 (bl.map Pc.enc)) := h1
  have Z2 : Aside (Sl w 3 ao2 hs.length c2 (hs.map Hd.enc)) := h2
  clear h1 h2 HB
  go_enter Try.func20, Try.ntmps20
  go_wp2
  refine bodyPost_ret (v := .tuple #[.agg #[.int .i64 cp, .slice ao bl.length c1, .slice ao2 hs.length c2], .string ⟨#[]⟩, .bool false]) (by simp [results, Try.results20, go_sem, ↓IntWalk.iteOmega, *]) rfl ⟨_, _, _, _, rfl, Z1.out.stays ?_, Z2.out.stays ?_, ?_⟩
  all_goals
    repeat (first | (with_reducible exact Below.refl _ _) | (with_reducible assumption) | (with_reducible refine below_to_plus ?_ ?_ _) | (with_reducible refine below_holds ?_ ?_ _ _) | (with_reducible refine Below.alloc ?_ ?_ _) | (with_reducible refine Below.drew ?_) | (with_reducible refine below_drewN ?_ _) | (with_reducible refine Below.setCell ?_ ?_ _))
    all_goals first | omega | (simp; done) | (simp [go_sem]; done) | (simp [go_sem]; omega)

end Go.Proofs.Ytcgajlobbjoefaa
