/- This text proves the walks of Set and Drop of the reference. Conditions: those that each theorem names. -/
import Derived.Test.YtjnfllcbkkcfiaaFidsH
namespace Go.Proofs.Ytjnfllcbkkcfiaa
open Go.ChangeShapes Go.WideShapes Go.ChangeAt Go.RowKit
set_option linter.unusedVariables false
set_option linter.unusedSimpArgs false

theorem plus_plus_eq (w x y : World) : plus (plus w x) y = plus w { y with heap := x.heap ++ y.heap } := by simp [plus, Array.append_assoc]

set_option maxRecDepth 100000 in
set_option maxHeartbeats 8000000 in
theorem rset_calls (f1 f2 : Int) (f3 : ByteArray) (f4 f5 : Bool) (f6 f7 : Int) (ao : Option Addr) (n cap : Nat) (xs : List Fi) (w : World) (h : Sl w 7 ao n cap (xs.map Fi.enc)) (hn : n ≤ 1000) (hs : xs.Pairwise (fun x y => x.num < y.num)) :
    Calls Try.prog 14 #[.slice ao n cap, .agg #[.int .i64 f1, .int .i64 f2, .string f3, .bool f4, .bool f5, .int .i64 f6, .int .i64 f7]] w fun e w' => RPost w ao cap xs (setF ⟨f1, f2, f3, f4, f5, f6, f7⟩ xs) e w' := by
  have HL : Aside (xs.length = n) := Sl.lenE h
  obtain ⟨i0, hi0, hz0, hs0, hb0⟩ := fiInfo
  have cv := fun U => rvalid_calls f1 f2 f3 f4 f5 f6 f7 U
  have c1 : ∀ U, Below w.heap.size w U → Calls Try.prog 21 #[.slice ao n cap, .int .i64 f1] U fun e w' => e = .returned (.tuple #[Fi.val (fdF f1 xs).1, .bool (fdF f1 xs).2]) ∧ Below U.heap.size U w' := fun U hU => rfind_calls f1 ao n cap xs U (h.stays hU) hs
  have H : Aside (Sl w 7 ao n cap (xs.map Fi.enc)) := h
  have hsp := ixF_spec f1 xs
  have HSO : Aside (xs.Pairwise (fun x y => x.num < y.num)) := hs
  have HD : Aside (setF ⟨f1, f2, f3, f4, f5, f6, f7⟩ xs = if ixF f1 xs < 0 then (xs, 13) else if vB ⟨f1, f2, f3, f4, f5, f6, f7⟩ = false then (xs, 5) else (xs.set (plF f1 xs) ⟨f1, f2, f3, f4, f5, f6, f7⟩, 0)) := rfl
  generalize setF ⟨f1, f2, f3, f4, f5, f6, f7⟩ xs = r at HD ⊢
  clear h hs
  rcases hsp with e1 | ⟨h1, h2, e1⟩
  · have efd : fdF f1 xs = (default, false) := by unfold fdF; rw [e1]; rfl
    have er : r = (xs, 13) := by rw [HD.out, if_pos (by omega)]
    subst er
    rw [efd] at c1
    have c1 : ∀ U, Below w.heap.size w U → Calls Try.prog 21 #[.slice ao n cap, .int .i64 f1] U fun e w' => e = .returned (.tuple #[.agg #[.int .i64 0, .int .i64 0, .string ⟨#[]⟩, .bool false, .bool false, .int .i64 0, .int .i64 0], .bool false]) ∧ Below U.heap.size U w' := c1
    clear HD e1 efd cv
    go_enter Try.func14, Try.ntmps14
    go_wp2_with fail
    refine (c1 _ (by
      repeat (first | (with_reducible exact Below.refl _ _) | (with_reducible assumption) | (with_reducible refine below_to_plus ?_ ?_ _) | (with_reducible refine below_holds ?_ ?_ _ _) | (with_reducible refine Below.alloc ?_ ?_ _) | (with_reducible refine Below.drew ?_) | (with_reducible refine below_drewN ?_ _) | (with_reducible refine Below.setCell ?_ ?_ _))
      all_goals first | omega | (simp; done) | (simp [go_sem]; done) | (simp [go_sem]; omega))).mono ?_
    rintro e w2 ⟨rfl, hb⟩
    obtain ⟨x1, rfl⟩ := plus_of_below hb
    clear hb
    clear c1
    go_wp2
    go_ret2
    refine ⟨ao, cap, ?_, .inl ⟨rfl, rfl, rfl⟩, ?_⟩
    · show _ = Ending.returned (.tuple #[.slice ao xs.length cap, .int .i64 13])
      rw [HL.out]
      rfl
    · repeat (first | (with_reducible exact Below.refl _ _) | (with_reducible assumption) | (with_reducible refine below_to_plus ?_ ?_ _) | (with_reducible refine below_holds ?_ ?_ _ _) | (with_reducible refine Below.alloc ?_ ?_ _) | (with_reducible refine Below.drew ?_) | (with_reducible refine below_drewN ?_ _) | (with_reducible refine Below.setCell ?_ ?_ _))
      all_goals first | omega | (simp; done) | (simp [go_sem]; done) | (simp [go_sem]; omega)
  have efd : fdF f1 xs = (xs[plF f1 xs]!, true) := by unfold fdF; rw [e1, if_neg (by omega)]
  rw [efd] at c1
  generalize hd : xs[plF f1 xs]! = d at c1
  obtain ⟨d1, d2, d3, d4, d5, d6, d7⟩ := d
  have c1 : ∀ U, Below w.heap.size w U → Calls Try.prog 21 #[.slice ao n cap, .int .i64 f1] U fun e w' => e = .returned (.tuple #[.agg #[.int .i64 d1, .int .i64 d2, .string d3, .bool d4, .bool d5, .int .i64 d6, .int .i64 d7], .bool true]) ∧ Below U.heap.size U w' := c1
  cases hv : vB ⟨f1, f2, f3, f4, f5, f6, f7⟩ with
  | false =>
    have er : r = (xs, 5) := by rw [HD.out, if_neg (by omega), hv]; rfl
    subst er
    rw [hv] at cv
    clear HD hv e1 efd h1 h2 hd
    go_enter Try.func14, Try.ntmps14
    go_wp2_with fail
    refine (c1 _ (by
      repeat (first | (with_reducible exact Below.refl _ _) | (with_reducible assumption) | (with_reducible refine below_to_plus ?_ ?_ _) | (with_reducible refine below_holds ?_ ?_ _ _) | (with_reducible refine Below.alloc ?_ ?_ _) | (with_reducible refine Below.drew ?_) | (with_reducible refine below_drewN ?_ _) | (with_reducible refine Below.setCell ?_ ?_ _))
      all_goals first | omega | (simp; done) | (simp [go_sem]; done) | (simp [go_sem]; omega))).mono ?_
    rintro e w2 ⟨rfl, hb⟩
    obtain ⟨x1, rfl⟩ := plus_of_below hb
    clear hb
    clear c1
    go_wp2_with fail
    refine (cv _).mono ?_
    rintro e w2 ⟨rfl, hb⟩
    obtain ⟨x2, rfl⟩ := plus_of_below hb
    clear hb
    clear cv
    go_wp2
    go_ret2
    refine ⟨ao, cap, ?_, .inl ⟨rfl, rfl, rfl⟩, ?_⟩
    · show _ = Ending.returned (.tuple #[.slice ao xs.length cap, .int .i64 5])
      rw [HL.out]
      rfl
    · repeat (first | (with_reducible exact Below.refl _ _) | (with_reducible assumption) | (with_reducible refine below_to_plus ?_ ?_ _) | (with_reducible refine below_holds ?_ ?_ _ _) | (with_reducible refine Below.alloc ?_ ?_ _) | (with_reducible refine Below.drew ?_) | (with_reducible refine below_drewN ?_ _) | (with_reducible refine Below.setCell ?_ ?_ _))
      all_goals first | omega | (simp; done) | (simp [go_sem]; done) | (simp [go_sem]; omega)
  | true =>
  have er : r = (xs.set (plF f1 xs) ⟨f1, f2, f3, f4, f5, f6, f7⟩, 0) := by rw [HD.out, if_neg (by omega), hv]; rfl
  rw [hv] at cv
  have ER : Aside (r = (xs.set (plF f1 xs) ⟨f1, f2, f3, f4, f5, f6, f7⟩, 0)) := er
  have HPN : Aside (∀ j, j < xs.length → (xs[j]!.num = f1 ↔ j = plF f1 xs)) := fun j hj =>
    ⟨fun e => (find_hit f1 xs HSO.out j hj e).1.symm, fun e => by subst e; exact h2⟩
  have hpn : plF f1 xs < n := by have := HL.out; omega
  clear HD hv e1 efd er h1 h2 hd
  generalize plF f1 xs = p at HPN hpn ER
  have hn0 : 0 < n := by omega
  obtain ⟨b, off, rfl, _, _⟩ := H.out.here hn0
  have A : Aside (∀ j u, (flatE Fi.enc xs)[j]? = some u → w.cell? ((⟨b, off, none⟩ : Addr).add j) = some u) := by
    intro j u hu
    rw [Addr.add_lit]
    exact Sl.cellsE fi_len (by omega) H.out j u hu
  have HFL : Aside ((flatE Fi.enc xs).length = n * 7) := by show _ = _; rw [flatE_length fi_len, HL.out]
  have hbig : n ≤ 9223372036854775807 := by omega
  go_enter Try.func14, Try.ntmps14
  go_wp2_with fail
  refine (c1 _ (by
    repeat (first | (with_reducible exact Below.refl _ _) | (with_reducible assumption) | (with_reducible refine below_to_plus ?_ ?_ _) | (with_reducible refine below_holds ?_ ?_ _ _) | (with_reducible refine Below.alloc ?_ ?_ _) | (with_reducible refine Below.drew ?_) | (with_reducible refine below_drewN ?_ _) | (with_reducible refine Below.setCell ?_ ?_ _))
    all_goals first | omega | (simp; done) | (simp [go_sem]; done) | (simp [go_sem]; omega))).mono ?_
  rintro e w2 ⟨rfl, hb⟩
  obtain ⟨x1, rfl⟩ := plus_of_below hb
  clear hb
  clear c1
  go_wp2_with fail
  refine (cv _).mono ?_
  rintro e w2 ⟨rfl, hb⟩
  obtain ⟨x2, rfl⟩ := plus_of_below hb
  clear hb
  clear cv
  have hbV : Below w.heap.size w (plus ((plus (w.alloc (.cells #[.int .i64 f1, .int .i64 f2, .string f3, .bool f4, .bool f5, .int .i64 f6, .int .i64 f7] 24)) x1).alloc (.cells #[.int .i64 d1, .int .i64 d2, .string d3, .bool d4, .bool d5, .int .i64 d6, .int .i64 d7] 24)) x2) := by
    repeat (first | (with_reducible exact Below.refl _ _) | (with_reducible assumption) | (with_reducible refine below_to_plus ?_ ?_ _) | (with_reducible refine below_holds ?_ ?_ _ _) | (with_reducible refine Below.alloc ?_ ?_ _) | (with_reducible refine Below.drew ?_) | (with_reducible refine below_drewN ?_ _) | (with_reducible refine Below.setCell ?_ ?_ _))
    all_goals first | omega | (simp; done) | (simp [go_sem]; done) | (simp [go_sem]; omega)
  have HBV : Aside (Below w.heap.size w (plus ((plus (w.alloc (.cells #[.int .i64 f1, .int .i64 f2, .string f3, .bool f4, .bool f5, .int .i64 f6, .int .i64 f7] 24)) x1).alloc (.cells #[.int .i64 d1, .int .i64 d2, .string d3, .bool d4, .bool d5, .int .i64 d6, .int .i64 d7] 24)) x2)) := hbV
  have HA2 : Aside (∀ j u, (flatE Fi.enc xs)[j]? = some u → ((plus ((plus (w.alloc (.cells #[.int .i64 f1, .int .i64 f2, .string f3, .bool f4, .bool f5, .int .i64 f6, .int .i64 f7] 24)) x1).alloc (.cells #[.int .i64 d1, .int .i64 d2, .string d3, .bool d4, .bool d5, .int .i64 d6, .int .i64 d7] 24)) x2)).cell? ((⟨b, off, none⟩ : Addr).add j) = some u) := by
    intro j u hu
    have h0 := A.out j u hu
    have hlt := World.block_lt_of_cell? w _ h0
    exact (hbV.cell (p := (⟨b, off, none⟩ : Addr).add j) hlt).trans h0
  have hobV : ((plus ((plus (w.alloc (.cells #[.int .i64 f1, .int .i64 f2, .string f3, .bool f4, .bool f5, .int .i64 f6, .int .i64 f7] 24)) x1).alloc (.cells #[.int .i64 d1, .int .i64 d2, .string d3, .bool d4, .bool d5, .int .i64 d6, .int .i64 d7] 24)) x2)).heap[w.heap.size]? = some (.cells #[.int .i64 f1, .int .i64 f2, .string f3, .bool f4, .bool f5, .int .i64 f6, .int .i64 f7] 24 (0, 0)) := hp_plus (hp_old (hp_plus (hp_new rfl)))
  have HOB : Aside (_ = _) := hobV
  clear hbV hobV A
  have hmd : ((plus ((plus (w.alloc (.cells #[.int .i64 f1, .int .i64 f2, .string f3, .bool f4, .bool f5, .int .i64 f6, .int .i64 f7] 24)) x1).alloc (.cells #[.int .i64 d1, .int .i64 d2, .string d3, .bool d4, .bool d5, .int .i64 d6, .int .i64 d7] 24)) x2).alloc (.cells #[] 24)).ownsRow (w.heap.size + 1 + x1.heap.size + 1 + x2.heap.size) 24 7 (.slice (some ⟨(w.heap.size + 1 + x1.heap.size + 1 + x2.heap.size), 0, none⟩) 0 0) 0 [] := by
    have := World.ownsRow_made (base := ((plus ((plus (w.alloc (.cells #[.int .i64 f1, .int .i64 f2, .string f3, .bool f4, .bool f5, .int .i64 f6, .int .i64 f7] 24)) x1).alloc (.cells #[.int .i64 d1, .int .i64 d2, .string d3, .bool d4, .bool d5, .int .i64 d6, .int .i64 d7] 24)) x2)).heap.size) (size := 7) (e := 24) (plus ((plus (w.alloc (.cells #[.int .i64 f1, .int .i64 f2, .string f3, .bool f4, .bool f5, .int .i64 f6, .int .i64 f7] 24)) x1).alloc (.cells #[.int .i64 d1, .int .i64 d2, .string d3, .bool d4, .bool d5, .int .i64 d6, .int .i64 d7] 24)) x2) #[] 0 (Nat.le_refl _) (Nat.zero_le _) (by simp)
    simpa [size_plus] using this
  have HMD : Aside (((plus ((plus (w.alloc (.cells #[.int .i64 f1, .int .i64 f2, .string f3, .bool f4, .bool f5, .int .i64 f6, .int .i64 f7] 24)) x1).alloc (.cells #[.int .i64 d1, .int .i64 d2, .string d3, .bool d4, .bool d5, .int .i64 d6, .int .i64 d7] 24)) x2).alloc (.cells #[] 24)).ownsRow (w.heap.size + 1 + x1.heap.size + 1 + x2.heap.size) 24 7 (.slice (some ⟨(w.heap.size + 1 + x1.heap.size + 1 + x2.heap.size), 0, none⟩) 0 0) 0 []) := hmd
  clear hmd
  go_wp2_with (at_builtin; refine wpList_append_own _ rfl _ _ 22 rfl (w.heap.size + 1 + x1.heap.size + 1 + x2.heap.size) 24 i0 _ 7 56 Try.underlying22 hi0 hz0 hs0 hb0 rfl (by omega) _ _ _ rfl HMD.out ⟨b, off, none⟩ n cap (flatE Fi.enc xs) rfl ?qc1 ?qc2 ?qc3 ?qc4 ?qc5 ?qc6 ?_)
  case qc1 => exact HFL.out
  case qc2 =>
    intro j u hj
    exact Lib.cell?_alloc_some _ (HA2.out j u hj)
  case qc3 => exact flatE_cells fi_one xs
  case qc4 => unfold maxLen; omega
  case qc5 => omega
  case qc6 => first | (simp [size_plus]; done) | (simp [size_plus]; omega)
  intro v' w1 hown hgrow hnil
  have hown2 : w1.ownsRow (w.heap.size + 1 + x1.heap.size + 1 + x2.heap.size) 24 7 v' n (flatE Fi.enc xs) := by simpa using hown
  have hob : w1.heap[w.heap.size]? = some (.cells #[.int .i64 f1, .int .i64 f2, .string f3, .bool f4, .bool f5, .int .i64 f6, .int .i64 f7] 24 (0, 0)) := by
    refine (hgrow.block w.heap.size (by simp [size_plus]; omega) (fun e => ?_)).trans (hp_old HOB.out)
    simp [Value.ownBlock, size_plus] at e
    omega
  have hbw1 : Below w.heap.size w w1 := by
    refine (HBV.out.alloc HBV.out.size _).grown hgrow (Nat.le_trans HBV.out.size (by simp)) (fun k hk => ?_)
    simp [Value.ownBlock] at hk
    have := HBV.out.size
    omega
  have hBW : w.heap.size < (w.heap.size + 1 + x1.heap.size + 1 + x2.heap.size) := by omega
  clear hown hgrow hnil HOB HBV HA2 HFL H
  generalize (w.heap.size + 1 + x1.heap.size + 1 + x2.heap.size) = B at hown2 hBW
  generalize hw5 : w1 = w5 at hown2 hob hbw1 ⊢
  clear hw5
  obtain ⟨ob, eob⟩ : ∃ ob, w.heap.size = ob := ⟨_, rfl⟩
  rw [eob] at hob hBW ⊢
  obtain ⟨hl, ⟨_, hn0'⟩ | ⟨g, cap3, cur, hv, hBg, hh, hnc, hcm, hcs, htk⟩⟩ := hown2
  · omega
  subst hv
  have hgo : ¬ g = ob := by omega
  have hog : ¬ ob = g := by omega
  have hgs : g < w5.heap.size := (Array.getElem?_eq_some_iff.1 hh).1
  have hos : ob < w5.heap.size := (Array.getElem?_eq_some_iff.1 hob).1
  rw [holds_add (holds_self hob) hh]
  have H5 : Aside (Below w.heap.size w w5 ∧ w.heap.size ≤ ob ∧ w.heap.size ≤ g) := ⟨hbw1, by omega, by omega⟩
  have HT : Aside (cur.toList.take (n * 7) = flatE Fi.enc xs) := htk
  have HCM : Aside (cap3 ≤ maxLen ∧ B ≤ g) := ⟨hcm, hBg⟩
  clear hbw1 hob hh htk hcm hl hBg
  go_wp2
  go_loopg [9] n (fun k s9 wr => ∃ (idx : Nat) (c : Array Value) (x : World), s9 = .int .i64 (idx : Int) ∧ wr = (plus (holds (holds w5 ob #[.int .i64 f1, .int .i64 f2, .string f3, .bool f4, .bool f5, .int .i64 f6, .int .i64 f7] 24) g c 24) x) ∧ k + idx = n ∧ c.size = cap3 * 7 ∧ Aside (c.toList.take (n * 7) = flatE Fi.enc (if p < idx then xs.set p ⟨f1, f2, f3, f4, f5, f6, f7⟩ else xs)))
  case atStart => exact ⟨0, cur, _, rfl, plus_self _, by omega, hcs, by show _ = _; rw [if_neg (by omega)]; exact HT.out⟩
  case round =>
    obtain ⟨idx, c, x, rfl, rfl, hk, hcz, KK⟩ := hrel
    by_cases hi : idx < n
    · have hiz : (idx : Int) < (n : Int) := by omega
      have hix : idx < xs.length := by have := HL.out; omega
      have q0 : c[idx * 7]? = some (.int .i64 xs[idx]!.num) := by
        have h1 := flatE_get fi_len (if p < idx then xs.set p ⟨f1, f2, f3, f4, f5, f6, f7⟩ else xs) idx 0 (by omega)
        rw [← KK.out, List.getElem?_take, if_pos (by omega), Array.getElem?_toList] at h1
        rw [Nat.add_zero] at h1
        rw [h1]
        split
        · rw [List.getElem?_set_ne (by omega), List.getElem?_eq_getElem hix, getElem!_pos xs idx hix]; rfl
        · rw [List.getElem?_eq_getElem hix, getElem!_pos xs idx hix]; rfl
      obtain ⟨z1, s1⟩ : ∃ z, c[idx * 7 + 1]? = some z := ⟨_, Array.getElem?_eq_getElem (by omega)⟩
      obtain ⟨z2, s2⟩ : ∃ z, c[idx * 7 + 2]? = some z := ⟨_, Array.getElem?_eq_getElem (by omega)⟩
      obtain ⟨z3, s3⟩ : ∃ z, c[idx * 7 + 3]? = some z := ⟨_, Array.getElem?_eq_getElem (by omega)⟩
      obtain ⟨z4, s4⟩ : ∃ z, c[idx * 7 + 4]? = some z := ⟨_, Array.getElem?_eq_getElem (by omega)⟩
      obtain ⟨z5, s5⟩ : ∃ z, c[idx * 7 + 5]? = some z := ⟨_, Array.getElem?_eq_getElem (by omega)⟩
      obtain ⟨z6, s6⟩ : ∃ z, c[idx * 7 + 6]? = some z := ⟨_, Array.getElem?_eq_getElem (by omega)⟩
      have KT : Aside (idx = p → (putAll c (idx * 7) (Fi.enc ⟨f1, f2, f3, f4, f5, f6, f7⟩)).toList.take (n * 7) = flatE Fi.enc (if p < idx + 1 then xs.set p ⟨f1, f2, f3, f4, f5, f6, f7⟩ else xs)) := fun e => by
        have h1 := KK.out
        rw [if_neg (by omega)] at h1
        rw [if_pos (by omega), put_setE fi_len xs ⟨f1, f2, f3, f4, f5, f6, f7⟩ idx n c HL.out hi (by omega) h1, e]
      have KF : Aside (¬ idx = p → c.toList.take (n * 7) = flatE Fi.enc (if p < idx + 1 then xs.set p ⟨f1, f2, f3, f4, f5, f6, f7⟩ else xs)) := fun e => by
        rw [KK.out]
        by_cases h3 : p < idx
        · rw [if_pos h3, if_pos (by omega)]
        · rw [if_neg h3, if_neg (by omega)]
      have NP : Aside (xs[idx]!.num = f1 ↔ idx = p) := HPN.out idx hix
      clear KK HPN
      generalize xs[idx]!.num = q at q0 NP
      by_cases hq : q = f1
      · have K2 := KT.out (NP.out.1 hq)
        have K3 : Aside ((putAll c (idx * 7) (Fi.enc ⟨f1, f2, f3, f4, f5, f6, f7⟩)).toList.take (n * 7) = flatE Fi.enc (if p < idx + 1 then xs.set p ⟨f1, f2, f3, f4, f5, f6, f7⟩ else xs)) := K2
        have e1 : (q == f1) = true := by simp [hq]
        clear hq K2 KT KF NP ER
        go_wp2
        refine wp_region_plus (by kernel_rfl) (by kernel_rfl) ?_
        repeat (go_big_quiet_step (fail))
        refine wpQuiet_nil ?_
        rintro _ ⟨x1, rfl⟩
        go_wp2
        go_roundg (gk - 1)
        case measure => omega
        case rel =>
          obtain ⟨z5, hz5⟩ := plus_plus (holds (holds w5 ob #[.int .i64 f1, .int .i64 f2, .string f3, .bool f4, .bool f5, .int .i64 f6, .int .i64 f7] 24) g (putAll c (idx * 7) (Fi.enc ⟨f1, f2, f3, f4, f5, f6, f7⟩)) 24) x x1
          refine ⟨idx + 1, putAll c (idx * 7) (Fi.enc ⟨f1, f2, f3, f4, f5, f6, f7⟩), z5, by simp, ?_, by omega, by rw [putAll_size]; exact hcz, K3⟩
          exact hz5
      · have K2 := KF.out (fun e => hq (NP.out.2 e))
        have K3 : Aside (c.toList.take (n * 7) = flatE Fi.enc (if p < idx + 1 then xs.set p ⟨f1, f2, f3, f4, f5, f6, f7⟩ else xs)) := K2
        have e1 : (q == f1) = false := by simp [hq]
        clear hq K2 KT KF NP ER
        go_wp2
        refine wp_region_plus (by kernel_rfl) (by kernel_rfl) ?_
        repeat (go_big_quiet_step (fail))
        refine wpQuiet_nil ?_
        rintro _ ⟨x1, rfl⟩
        go_wp2
        go_roundg (gk - 1)
        case measure => omega
        case rel =>
          obtain ⟨z5, hz5⟩ := plus_plus (holds (holds w5 ob #[.int .i64 f1, .int .i64 f2, .string f3, .bool f4, .bool f5, .int .i64 f6, .int .i64 f7] 24) g c 24) x x1
          exact ⟨idx + 1, c, z5, by simp, hz5, by omega, hcz, K3⟩
    · have hjn : idx = n := by omega
      subst hjn
      have hjz : ¬ (idx : Int) < (idx : Int) := by omega
      have KZ : Aside (c.toList.take (idx * 7) = flatE Fi.enc (xs.set p ⟨f1, f2, f3, f4, f5, f6, f7⟩)) := by
        show _ = _
        rw [KK.out, if_pos (by omega)]
      have HLN : Aside ((xs.set p ⟨f1, f2, f3, f4, f5, f6, f7⟩).length = idx) := by show _ = _; simp; exact HL.out
      generalize hys : xs.set p ⟨f1, f2, f3, f4, f5, f6, f7⟩ = ys at KZ HLN ER
      clear KK HPN hys
      go_wp2
      go_ret2
      refine ⟨some ⟨g, 0, none⟩, cap3, ?_, .inr ?_, ?_⟩
      · rw [ER.out]
        show _ = Ending.returned (.tuple #[.slice (some ⟨g, 0, none⟩) ys.length cap3, .int .i64 0])
        rw [HLN.out]
        rfl
      · rw [ER.out]
        show World.ownsRow _ _ _ _ (.slice (some ⟨g, 0, none⟩) ys.length cap3) ys.length (flatE Fi.enc ys)
        rw [HLN.out]
        refine own_plus (x := x) (w := holds (holds w5 ob #[.int .i64 f1, .int .i64 f2, .string f3, .bool f4, .bool f5, .int .i64 f6, .int .i64 f7] 24) g c 24) ⟨by rw [flatE_length fi_len, HLN.out], .inr ⟨g, cap3, c, rfl, H5.out.2.2, ?_, hnc, HCM.out.1, hcz, KZ.out⟩⟩
        rw [heap_holds, if_pos ⟨rfl, by rw [size_holds]; exact hgs⟩]
      · have h9 := below_holds (below_holds H5.out.1 H5.out.2.1 #[.int .i64 f1, .int .i64 f2, .string f3, .bool f4, .bool f5, .int .i64 f6, .int .i64 f7] 24) H5.out.2.2 c 24
        exact below_to_plus h9 h9.size _

theorem filter_drop (num : Int) (xs : List Fi) (hs : xs.Pairwise (fun x y => x.num < y.num)) (p : Nat) (hp : p < xs.length) (h : xs[p]!.num = num) : xs.filter (fun y : Fi => decide (y.num ≠ num)) = xs.take p ++ xs.drop (p + 1) := by
  have e : xs = xs.take p ++ xs[p]! :: xs.drop (p + 1) := by
    rw [getElem!_pos xs p hp, ← List.drop_eq_getElem_cons hp]
    exact (List.take_append_drop p xs).symm
  have h1 : ∀ y ∈ xs.take p, (fun y : Fi => decide (y.num ≠ num)) y = true := fun y hy => by
    obtain ⟨j, hj, rfl⟩ := List.getElem_of_mem hy
    simp only [List.length_take] at hj
    have := asc_get hs (show j < p by omega) hp
    rw [getElem!_pos xs j (by omega)] at this
    rw [List.getElem_take]
    simp; omega
  have h2 : ∀ y ∈ xs.drop (p + 1), (fun y : Fi => decide (y.num ≠ num)) y = true := fun y hy => by
    obtain ⟨j, hj, rfl⟩ := List.getElem_of_mem hy
    simp only [List.length_drop] at hj
    have := asc_get hs (show p < p + 1 + j by omega) (by omega)
    rw [getElem!_pos xs (p + 1 + j) (by omega)] at this
    rw [List.getElem_drop]
    simp; omega
  have h3 : (xs.take p ++ xs[p]! :: xs.drop (p + 1)).filter (fun y : Fi => decide (y.num ≠ num)) = xs.take p ++ xs.drop (p + 1) := by
    rw [List.filter_append, List.filter_eq_self.2 h1, List.filter_cons_of_neg (by rw [decide_eq_true_iff]; exact fun hh => hh h), List.filter_eq_self.2 h2]
  rw [← e] at h3
  exact h3

set_option maxRecDepth 100000 in
set_option maxHeartbeats 8000000 in
theorem rdrop_calls (num : Int) (ao : Option Addr) (n cap : Nat) (xs : List Fi) (w : World) (h : Sl w 7 ao n cap (xs.map Fi.enc)) (hn : n ≤ 1000) (hs : xs.Pairwise (fun x y => x.num < y.num)) :
    Calls Try.prog 16 #[.slice ao n cap, .int .i64 num] w fun e w' => RPost w ao cap xs (dropF num xs) e w' := by
  have HL : Aside (xs.length = n) := Sl.lenE h
  obtain ⟨i0, hi0, hz0, hs0, hb0⟩ := fiInfo
  have c1 : ∀ U, Below w.heap.size w U → Calls Try.prog 21 #[.slice ao n cap, .int .i64 num] U fun e w' => e = .returned (.tuple #[Fi.val (fdF num xs).1, .bool (fdF num xs).2]) ∧ Below U.heap.size U w' := fun U hU => rfind_calls num ao n cap xs U (h.stays hU) hs
  have H : Aside (Sl w 7 ao n cap (xs.map Fi.enc)) := h
  have hsp := ixF_spec num xs
  have HD : Aside (dropF num xs = if ixF num xs < 0 then (xs, 13) else (xs.take (plF num xs) ++ xs.drop (plF num xs + 1), 0)) := rfl
  generalize dropF num xs = r at HD ⊢
  clear h
  rcases hsp with e1 | ⟨h1, h2, e1⟩
  · have efd : fdF num xs = (default, false) := by unfold fdF; rw [e1]; rfl
    have er : r = (xs, 13) := by rw [HD.out, if_pos (by omega)]
    subst er
    rw [efd] at c1
    have c1 : ∀ U, Below w.heap.size w U → Calls Try.prog 21 #[.slice ao n cap, .int .i64 num] U fun e w' => e = .returned (.tuple #[.agg #[.int .i64 0, .int .i64 0, .string ⟨#[]⟩, .bool false, .bool false, .int .i64 0, .int .i64 0], .bool false]) ∧ Below U.heap.size U w' := c1
    clear HD e1 efd
    go_enter Try.func16, Try.ntmps16
    go_wp2_with fail
    refine (c1 _ (by
      repeat (first | (with_reducible exact Below.refl _ _) | (with_reducible assumption) | (with_reducible refine below_to_plus ?_ ?_ _) | (with_reducible refine below_holds ?_ ?_ _ _) | (with_reducible refine Below.alloc ?_ ?_ _) | (with_reducible refine Below.drew ?_) | (with_reducible refine below_drewN ?_ _) | (with_reducible refine Below.setCell ?_ ?_ _))
      all_goals first | omega | (simp; done) | (simp [go_sem]; done) | (simp [go_sem]; omega))).mono ?_
    rintro e w2 ⟨rfl, hb⟩
    obtain ⟨x1, rfl⟩ := plus_of_below hb
    clear hb
    clear c1
    go_wp2
    go_ret2
    refine ⟨ao, cap, ?_, .inl ⟨rfl, rfl, rfl⟩, ?_⟩
    · show _ = Ending.returned (.tuple #[.slice ao xs.length cap, .int .i64 13])
      rw [HL.out]
      rfl
    · repeat (first | (with_reducible exact Below.refl _ _) | (with_reducible assumption) | (with_reducible refine below_to_plus ?_ ?_ _) | (with_reducible refine below_holds ?_ ?_ _ _) | (with_reducible refine Below.alloc ?_ ?_ _) | (with_reducible refine Below.drew ?_) | (with_reducible refine below_drewN ?_ _) | (with_reducible refine Below.setCell ?_ ?_ _))
      all_goals first | omega | (simp; done) | (simp [go_sem]; done) | (simp [go_sem]; omega)
  have efd : fdF num xs = (xs[plF num xs]!, true) := by unfold fdF; rw [e1, if_neg (by omega)]
  rw [efd] at c1
  have ER : Aside (r = (xs.filter (fun y : Fi => decide (y.num ≠ num)), 0)) := by show _ = _; rw [HD.out, if_neg (by omega), filter_drop num xs hs _ h1 h2]
  generalize xs[plF num xs]! = d at c1
  obtain ⟨d1, d2, d3, d4, d5, d6, d7⟩ := d
  have c1 : ∀ U, Below w.heap.size w U → Calls Try.prog 21 #[.slice ao n cap, .int .i64 num] U fun e w' => e = .returned (.tuple #[.agg #[.int .i64 d1, .int .i64 d2, .string d3, .bool d4, .bool d5, .int .i64 d6, .int .i64 d7], .bool true]) ∧ Below U.heap.size U w' := c1
  clear HD e1 efd h1 h2 hs
  go_enter Try.func16, Try.ntmps16
  go_wp2_with fail
  refine (c1 _ (by
    repeat (first | (with_reducible exact Below.refl _ _) | (with_reducible assumption) | (with_reducible refine below_to_plus ?_ ?_ _) | (with_reducible refine below_holds ?_ ?_ _ _) | (with_reducible refine Below.alloc ?_ ?_ _) | (with_reducible refine Below.drew ?_) | (with_reducible refine below_drewN ?_ _) | (with_reducible refine Below.setCell ?_ ?_ _))
    all_goals first | omega | (simp; done) | (simp [go_sem]; done) | (simp [go_sem]; omega))).mono ?_
  rintro e w2 ⟨rfl, hb⟩
  obtain ⟨x1, rfl⟩ := plus_of_below hb
  clear hb
  clear c1
  have hbC : Below w.heap.size w ((plus w x1).alloc (.cells #[.int .i64 d1, .int .i64 d2, .string d3, .bool d4, .bool d5, .int .i64 d6, .int .i64 d7] 24)) := by
    repeat (first | (with_reducible exact Below.refl _ _) | (with_reducible assumption) | (with_reducible refine below_to_plus ?_ ?_ _) | (with_reducible refine below_holds ?_ ?_ _ _) | (with_reducible refine Below.alloc ?_ ?_ _) | (with_reducible refine Below.drew ?_) | (with_reducible refine below_drewN ?_ _) | (with_reducible refine Below.setCell ?_ ?_ _))
    all_goals first | omega | (simp; done) | (simp [go_sem]; done) | (simp [go_sem]; omega)
  have HC : Aside (CellsFi ((plus w x1).alloc (.cells #[.int .i64 d1, .int .i64 d2, .string d3, .bool d4, .bool d5, .int .i64 d6, .int .i64 d7] 24)) ao xs) := cellsFi (H.out.stays hbC)
  clear hbC
  go_wp2
  go_loopg [8, 9] n (fun k s8 s9 wr => ∃ (idx : Nat) (ao' : Option Addr) (cap' : Nat) (l : List Fi), s9 = .int .i64 (idx : Int) ∧ s8 = .slice ao' l.length cap' ∧ k + idx = n ∧ l.length ≤ idx ∧ Aside ((xs.take idx).filter (fun y : Fi => decide (y.num ≠ num)) = l) ∧ Aside (Below ((plus w x1).alloc (.cells #[.int .i64 d1, .int .i64 d2, .string d3, .bool d4, .bool d5, .int .i64 d6, .int .i64 d7] 24)).heap.size ((plus w x1).alloc (.cells #[.int .i64 d1, .int .i64 d2, .string d3, .bool d4, .bool d5, .int .i64 d6, .int .i64 d7] 24)) wr ∧ wr.ownsRow (w.heap.size + x1.heap.size + 1) 24 7 (.slice ao' l.length cap') l.length (flatE Fi.enc l)))
  case atStart => exact ⟨0, none, 0, [], rfl, rfl, by omega, by simp, rfl, ⟨Below.refl _ _, World.ownsRow_nil _ _ _ _⟩⟩
  case round =>
    obtain ⟨idx, ao', cap', l, rfl, rfl, hk, hll, A, ST⟩ := hrel
    by_cases hi : idx < n
    · have hiz : (idx : Int) < (n : Int) := by omega
      have SK : Aside (decide (xs[idx]!.num ≠ num) = false → (xs.take (idx + 1)).filter (fun y : Fi => decide (y.num ≠ num)) = l) := fun hh => by rw [← A.out]; exact filt_skipE _ xs idx (by have := HL.out; omega) hh
      have SP : Aside (decide (xs[idx]!.num ≠ num) = true → (xs.take (idx + 1)).filter (fun y : Fi => decide (y.num ≠ num)) = l ++ [xs[idx]!]) := fun hh => by rw [← A.out]; exact filt_keepE _ xs idx (by have := HL.out; omega) hh
      obtain ⟨b, off, rfl, hby, l0, l1, l2, l3, l4, l5, l6⟩ := HC.out idx (by have := HL.out; omega)
      generalize xs[idx]! = y at l0 l1 l2 l3 l4 l5 l6 SK SP
      obtain ⟨y1, y2, y3, y4, y5, y6, y7⟩ := y
      simp only [] at l0 l1 l2 l3 l4 l5 l6
      have YC : Aside (_ ∧ _ ∧ _ ∧ _ ∧ _ ∧ _ ∧ _) := ⟨l0, l1, l2, l3, l4, l5, l6⟩
      clear l0 l1 l2 l3 l4 l5 l6 HC A H ER
      by_cases hq : y1 = num
      · have hf : (y1 != num) = false := by simp [hq]
        have A2 := SK.out (by simp [hq])
        have A3 : Aside ((xs.take (idx + 1)).filter (fun y : Fi => decide (y.num ≠ num)) = l) := A2
        clear SK SP hq A2
        have hsw := ST.out.1.size
        have hbry : b < wr.heap.size := Nat.lt_of_lt_of_le hby hsw
        simp [size_plus] at hsw
        have l0 := (ST.out.1.cell (p := ⟨b, off + idx * 7, none⟩) hby).trans YC.out.1
        have l1 := (ST.out.1.cell (p := ⟨b, off + idx * 7 + 1, none⟩) hby).trans YC.out.2.1
        have l2 := (ST.out.1.cell (p := ⟨b, off + idx * 7 + 2, none⟩) hby).trans YC.out.2.2.1
        have l3 := (ST.out.1.cell (p := ⟨b, off + idx * 7 + 3, none⟩) hby).trans YC.out.2.2.2.1
        have l4 := (ST.out.1.cell (p := ⟨b, off + idx * 7 + 4, none⟩) hby).trans YC.out.2.2.2.2.1
        have l5 := (ST.out.1.cell (p := ⟨b, off + idx * 7 + 5, none⟩) hby).trans YC.out.2.2.2.2.2.1
        have l6 := (ST.out.1.cell (p := ⟨b, off + idx * 7 + 6, none⟩) hby).trans YC.out.2.2.2.2.2.2
        go_wp2
        go_roundg (gk - 1)
        case measure => omega
        case rel => exact ⟨idx + 1, ao', cap', l, by simp, rfl, by omega, by omega, A3, ST⟩
      · have hf : (y1 != num) = true := by simp [hq]
        have A2 := SP.out (by simp [hq])
        have A3 : Aside ((xs.take (idx + 1)).filter (fun y : Fi => decide (y.num ≠ num)) = l ++ [(⟨y1, y2, y3, y4, y5, y6, y7⟩ : Fi)]) := A2
        clear SK SP hq A2
        have hsw := ST.out.1.size
        have hbry : b < wr.heap.size := Nat.lt_of_lt_of_le hby hsw
        simp [size_plus] at hsw
        have l0 := (ST.out.1.cell (p := ⟨b, off + idx * 7, none⟩) hby).trans YC.out.1
        have l1 := (ST.out.1.cell (p := ⟨b, off + idx * 7 + 1, none⟩) hby).trans YC.out.2.1
        have l2 := (ST.out.1.cell (p := ⟨b, off + idx * 7 + 2, none⟩) hby).trans YC.out.2.2.1
        have l3 := (ST.out.1.cell (p := ⟨b, off + idx * 7 + 3, none⟩) hby).trans YC.out.2.2.2.1
        have l4 := (ST.out.1.cell (p := ⟨b, off + idx * 7 + 4, none⟩) hby).trans YC.out.2.2.2.2.1
        have l5 := (ST.out.1.cell (p := ⟨b, off + idx * 7 + 5, none⟩) hby).trans YC.out.2.2.2.2.2.1
        have l6 := (ST.out.1.cell (p := ⟨b, off + idx * 7 + 6, none⟩) hby).trans YC.out.2.2.2.2.2.2
        have hown := ST.out.2
        go_wp2_with (at_builtin; refine wpList_append_own _ rfl _ _ 22 rfl (w.heap.size + x1.heap.size + 1) 24 i0 _ 7 56 Try.underlying22 hi0 hz0 hs0 hb0 rfl (by omega) _ _ _ rfl (hown.alloc _) ⟨wr.heap.size, 0, none⟩ 1 1 [.int .i64 y1, .int .i64 y2, .string y3, .bool y4, .bool y5, .int .i64 y6, .int .i64 y7] rfl rfl (cells_new _ _ _ _ rfl) (fi_one ⟨y1, y2, y3, y4, y5, y6, y7⟩) (by unfold maxLen; omega) (by omega) (by first | (simp; omega) | (simp [size_plus]; omega)) ?_)
        intro v' w9 hown' hgrow _
        obtain ⟨ao9, cap9, rfl, hb9, ho9⟩ := app_stateB (U1 := ((plus w x1).alloc (.cells #[.int .i64 d1, .int .i64 d2, .string d3, .bool d4, .bool d5, .int .i64 d6, .int .i64 d7] 24))) (by simp [size_plus]) fi_len (by omega) (y := ⟨y1, y2, y3, y4, y5, y6, y7⟩) (ST.out.1.alloc ST.out.1.size _) (hown.alloc _) hown' hgrow
        have ST9 : Aside (Below ((plus w x1).alloc (.cells #[.int .i64 d1, .int .i64 d2, .string d3, .bool d4, .bool d5, .int .i64 d6, .int .i64 d7] 24)).heap.size ((plus w x1).alloc (.cells #[.int .i64 d1, .int .i64 d2, .string d3, .bool d4, .bool d5, .int .i64 d6, .int .i64 d7] 24)) w9 ∧ w9.ownsRow (w.heap.size + x1.heap.size + 1) 24 7 (.slice ao9 (l.length + 1) cap9) (l.length + 1) (flatE Fi.enc (l ++ [(⟨y1, y2, y3, y4, y5, y6, y7⟩ : Fi)]))) := ⟨hb9, ho9⟩
        clear hown' hgrow hb9 ho9 hown
        clear l0 l1 l2 l3 l4 l5 l6
        go_wp2
        go_roundg (gk - 1)
        case measure => omega
        case rel => exact ⟨idx + 1, ao9, cap9, l ++ [(⟨y1, y2, y3, y4, y5, y6, y7⟩ : Fi)], by simp, by simp, by omega, by simp; omega, A3, by first | exact ST9 | simpa using ST9⟩
    · have hiz : ¬ (idx : Int) < (n : Int) := by omega
      have ER2 : Aside (r = (l, 0)) := by show _ = _; rw [ER.out, ← A.out, List.take_of_length_le (by have := HL.out; omega)]
      have HBW : Aside (Below w.heap.size w wr) := by
        refine Below.trans (b := ((plus w x1).alloc (.cells #[.int .i64 d1, .int .i64 d2, .string d3, .bool d4, .bool d5, .int .i64 d6, .int .i64 d7] 24))) ?_ (ST.out.1.mono ?_)
        · repeat (first | (with_reducible exact Below.refl _ _) | (with_reducible assumption) | (with_reducible refine below_to_plus ?_ ?_ _) | (with_reducible refine below_holds ?_ ?_ _ _) | (with_reducible refine Below.alloc ?_ ?_ _) | (with_reducible refine Below.drew ?_) | (with_reducible refine below_drewN ?_ _) | (with_reducible refine Below.setCell ?_ ?_ _))
          all_goals first | omega | (simp; done) | (simp [go_sem]; done) | (simp [go_sem]; omega)
        · simp [size_plus]; omega
      clear A ER HC H
      go_wp2
      go_ret2
      refine ⟨ao', cap', ?_, .inr ?_, HBW.out⟩
      · rw [ER2.out]; rfl
      · rw [ER2.out]; exact own_lower ST.out.2 (by omega)

end Go.Proofs.Ytjnfllcbkkcfiaa
