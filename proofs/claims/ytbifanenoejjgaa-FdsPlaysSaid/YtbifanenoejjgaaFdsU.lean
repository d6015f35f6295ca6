/- This text proves the walk of moved of the reference. Conditions: those that each theorem names. -/
import Derived.Test.YtbifanenoejjgaaFdsT
namespace Go.Proofs.Ytbifanenoejjgaa
open Go.ChangeShapes Go.WideShapes Go.ChangeAt Go.RowKit
set_option linter.unusedVariables false
set_option linter.unusedSimpArgs false

theorem drewN_add (w : World) (a b : Nat) : (w.drewN a).drewN b = w.drewN (a + b) := by simp [World.drewN, Nat.add_assoc]
theorem size_drewN (w : World) (a : Nat) : (w.drewN a).heap.size = w.heap.size := rfl
/-- What moved returns. -/
def mvdF (xs : List Fd) (c base m : Int) : List Fd × Int × Int := if m < 0 - base ∨ 9007199254740991 - base < m then (xs, 0, 20) else (xs.map (mvF c (base + m)), base + m, 0)
def RRet (w : World) (id : Int) (ao : Option Addr) (cap : Nat) (xs : List Fd) (r : List Fd × Int × Int) (e : Ending) (w' : World) : Prop :=
  ∃ ao2 cap2, e = .returned (.tuple #[.agg #[.int .i64 id, .slice ao2 r.1.length cap2], .int .i64 r.2.1, .int .i64 r.2.2]) ∧ RRow w ao cap xs ao2 cap2 r.1 w' ∧ Below w.heap.size w w'

set_option maxHeartbeats 8000000 in
theorem mvd_calls (id base m : Int) (d1 : Int) (d2 : Int) (d3 : Int) (d4 : Int) (d5 : ByteArray) (d6 : ByteArray) (d7 : Int) (d8 : Int) (d9 : Int) (ao : Option Addr) (n cap : Nat) (xs : List Fd) (w : World) (h : Sl w 9 ao n cap (xs.map Fd.enc)) (hn : n ≤ 1000) (hn0 : 0 < n) (hba : 0 ≤ base ∧ base ≤ 9223372036854775807) (hm : -9223372036854775808 ≤ m ∧ m ≤ 9223372036854775807) :
    Calls Try.prog 50 #[.agg #[.int .i64 id, .slice ao n cap], .agg #[.int .i64 d1, .int .i64 d2, .int .i64 d3, .int .i64 d4, .string d5, .string d6, .int .i64 d7, .int .i64 d8, .int .i64 d9], .int .i64 base, .int .i64 m] w fun e w' => RRet w id ao cap xs (mvdF xs d9 base m) e w' := by
  have HL : Aside (xs.length = n) := Sl.lenE h
  have H : Aside (Sl w 9 ao n cap (xs.map Fd.enc)) := h
  obtain ⟨hb1, hb2⟩ := hba
  obtain ⟨hm1, hm2⟩ := hm
  by_cases t1 : m < 0 - base
  · have ER : Aside (mvdF xs d9 base m = (xs, 0, 20)) := by show _ = _; unfold mvdF; rw [if_pos (.inl t1)]
    clear h
    go_enter Try.func50, Try.ntmps50
    go_wp2
    refine bodyPost_ret (v := .tuple #[.agg #[.int .i64 id, .slice ao n cap], .int .i64 0, .int .i64 20]) (by simp [results, Try.results50, go_sem, ↓IntWalk.iteOmega]) rfl ⟨ao, cap, ?_, ?_, ?_⟩
    · rw [ER.out, HL.out]
    · rw [ER.out]; exact .inl ⟨rfl, rfl, rfl⟩
    · repeat (first | (with_reducible exact Below.refl _ _) | (with_reducible assumption) | (with_reducible refine below_to_plus ?_ ?_ _) | (with_reducible refine below_holds ?_ ?_ _ _) | (with_reducible refine Below.alloc ?_ ?_ _) | (with_reducible refine Below.drew ?_) | (with_reducible refine below_drewN ?_ _) | (with_reducible refine Below.setCell ?_ ?_ _))
      all_goals first | omega | (simp; done) | (simp [go_sem]; done) | (simp [go_sem]; omega)

  by_cases t2 : 9007199254740991 - base < m
  · have ER : Aside (mvdF xs d9 base m = (xs, 0, 20)) := by show _ = _; unfold mvdF; rw [if_pos (.inr t2)]
    clear h
    go_enter Try.func50, Try.ntmps50
    go_wp2
    refine bodyPost_ret (v := .tuple #[.agg #[.int .i64 id, .slice ao n cap], .int .i64 0, .int .i64 20]) (by simp [results, Try.results50, go_sem, ↓IntWalk.iteOmega]) rfl ⟨ao, cap, ?_, ?_, ?_⟩
    · rw [ER.out, HL.out]
    · rw [ER.out]; exact .inl ⟨rfl, rfl, rfl⟩
    · repeat (first | (with_reducible exact Below.refl _ _) | (with_reducible assumption) | (with_reducible refine below_to_plus ?_ ?_ _) | (with_reducible refine below_holds ?_ ?_ _ _) | (with_reducible refine Below.alloc ?_ ?_ _) | (with_reducible refine Below.drew ?_) | (with_reducible refine below_drewN ?_ _) | (with_reducible refine Below.setCell ?_ ?_ _))
      all_goals first | omega | (simp; done) | (simp [go_sem]; done) | (simp [go_sem]; omega)

  have ER : Aside (mvdF xs d9 base m = (xs.map (mvF d9 (base + m)), base + m, 0)) := by show _ = _; unfold mvdF; rw [if_neg (by omega)]
  obtain ⟨i0, hi0, hz0, hs0, hb0⟩ := fdInfo
  have hsum : base + m ≤ 9007199254740991 := by omega
  have hsum0 : 0 ≤ base + m := by omega
  obtain ⟨b, off, rfl, hbw, _⟩ := h.here hn0
  have hcells : ∀ j u, (flatE Fd.enc xs)[j]? = some u → w.cell? ⟨b, off + j, none⟩ = some u := Sl.cellsE fd_len (by omega) h
  have HSRC : Aside (∀ j u, (flatE Fd.enc xs)[j]? = some u → ((((w.alloc (.cells #[.int .i64 id, .slice (some ⟨b, off, none⟩) n cap] 24)).alloc (.cells #[.int .i64 d1, .int .i64 d2, .int .i64 d3, .int .i64 d4, .string d5, .string d6, .int .i64 d7, .int .i64 d8, .int .i64 d9] 30)).alloc (.cells #[.int .i64 0, .slice none 0 0] 24)).alloc (.cells #[] 30)).cell? ((⟨b, off, none⟩ : Addr).add j) = some u) := fun j u hu => by
    have h1 := hcells j u hu
    rw [Addr.add_lit]
    have hbl : Below w.heap.size w ((((w.alloc (.cells #[.int .i64 id, .slice (some ⟨b, off, none⟩) n cap] 24)).alloc (.cells #[.int .i64 d1, .int .i64 d2, .int .i64 d3, .int .i64 d4, .string d5, .string d6, .int .i64 d7, .int .i64 d8, .int .i64 d9] 30)).alloc (.cells #[.int .i64 0, .slice none 0 0] 24)).alloc (.cells #[] 30)) := by
      repeat (first | (with_reducible exact Below.refl _ _) | (with_reducible assumption) | (with_reducible refine below_to_plus ?_ ?_ _) | (with_reducible refine below_holds ?_ ?_ _ _) | (with_reducible refine Below.alloc ?_ ?_ _) | (with_reducible refine Below.drew ?_) | (with_reducible refine below_drewN ?_ _) | (with_reducible refine Below.setCell ?_ ?_ _))
      all_goals first | omega | (simp; done) | (simp [go_sem]; done) | (simp [go_sem]; omega)
    exact (hbl.cell (p := ⟨b, off + j, none⟩) hbw).trans h1
  have HLE : Aside ((flatE Fd.enc xs).length = n * 9) := by show _ = _; rw [flatE_length fd_len, HL.out]
  have HONE : Aside (∀ u ∈ flatE Fd.enc xs, u.oneCell' = true) := flatE_cells fd_one xs
  have HOWN : Aside (((((w.alloc (.cells #[.int .i64 id, .slice (some ⟨b, off, none⟩) n cap] 24)).alloc (.cells #[.int .i64 d1, .int .i64 d2, .int .i64 d3, .int .i64 d4, .string d5, .string d6, .int .i64 d7, .int .i64 d8, .int .i64 d9] 30)).alloc (.cells #[.int .i64 0, .slice none 0 0] 24)).alloc (.cells #[] 30)).ownsRow (w.heap.size + 1 + 1 + 1) 30 9 (.slice (some ⟨(w.heap.size + 1 + 1 + 1), 0, none⟩) 0 0) 0 (flatE Fd.enc ([] : List Fd))) := by
    refine ⟨rfl, .inr ⟨(w.heap.size + 1 + 1 + 1), 0, #[], rfl, Nat.le_refl _, ?_, Nat.le_refl _, by unfold maxLen; omega, rfl, rfl⟩⟩
    exact hp_new (by simp)
  clear h hcells
  go_enter Try.func50, Try.ntmps50
  go_wp2_with (at_builtin; refine wpList_append_own _ rfl _ _ 22 rfl (w.heap.size + 1 + 1 + 1) 30 i0 _ 9 88 Try.underlying22 hi0 hz0 hs0 hb0 rfl (by omega) _ _ _ rfl HOWN.out ⟨b, off, none⟩ n cap (flatE Fd.enc xs) rfl HLE.out HSRC.out HONE.out (by unfold maxLen; omega) (by omega) (by simp) ?_)
  intro v' w1 hown hgrow _
  have hown1 : w1.ownsRow (w.heap.size + 1 + 1 + 1) 30 9 v' n (flatE Fd.enc xs) := by simpa [flatE_nil] using hown
  have hbe : Below w.heap.size w w1 := by
    have h1 : Below w.heap.size w ((((w.alloc (.cells #[.int .i64 id, .slice (some ⟨b, off, none⟩) n cap] 24)).alloc (.cells #[.int .i64 d1, .int .i64 d2, .int .i64 d3, .int .i64 d4, .string d5, .string d6, .int .i64 d7, .int .i64 d8, .int .i64 d9] 30)).alloc (.cells #[.int .i64 0, .slice none 0 0] 24)).alloc (.cells #[] 30)) := by
      repeat (first | (with_reducible exact Below.refl _ _) | (with_reducible assumption) | (with_reducible refine below_to_plus ?_ ?_ _) | (with_reducible refine below_holds ?_ ?_ _ _) | (with_reducible refine Below.alloc ?_ ?_ _) | (with_reducible refine Below.drew ?_) | (with_reducible refine below_drewN ?_ _) | (with_reducible refine Below.setCell ?_ ?_ _))
      all_goals first | omega | (simp; done) | (simp [go_sem]; done) | (simp [go_sem]; omega)
    exact h1.grown hgrow (by simp; omega) (fun k hk => by simp [Value.ownBlock] at hk; omega)
  have hblk : ∀ k r, k < (w.heap.size + 1 + 1 + 1) → ((((w.alloc (.cells #[.int .i64 id, .slice (some ⟨b, off, none⟩) n cap] 24)).alloc (.cells #[.int .i64 d1, .int .i64 d2, .int .i64 d3, .int .i64 d4, .string d5, .string d6, .int .i64 d7, .int .i64 d8, .int .i64 d9] 30)).alloc (.cells #[.int .i64 0, .slice none 0 0] 24)).alloc (.cells #[] 30)).heap[k]? = some r → w1.heap[k]? = some r := fun k r hk hr => by
    rw [hgrow.block k (by simp; omega) (by simp [Value.ownBlock]; omega)]
    exact hr
  have hfb : w1.heap[w.heap.size]? = some (.cells #[.int .i64 id, .slice (some ⟨b, off, none⟩) n cap] 24 (0, 0)) := hblk _ _ (by omega) (hp_old (hp_old (hp_old (hp_new rfl))))
  have hdb : w1.heap[w.heap.size + 1]? = some (.cells #[.int .i64 d1, .int .i64 d2, .int .i64 d3, .int .i64 d4, .string d5, .string d6, .int .i64 d7, .int .i64 d8, .int .i64 d9] 30 (0, 0)) := hblk _ _ (by omega) (hp_old (hp_old (hp_new (by simp))))
  have hrb : w1.heap[w.heap.size + 1 + 1]? = some (.cells #[.int .i64 0, .slice none 0 0] 24 (0, 0)) := hblk _ _ (by omega) (hp_old (hp_new (by simp)))
  clear hblk hgrow hown HOWN HSRC HONE HLE
  obtain ⟨hl, ⟨_, hz⟩ | ⟨g, cap3, cur, hv, hBg, hh, hnc, hcm, hcs, htk⟩⟩ := hown1
  · omega
  subst hv
  obtain ⟨fb, efb⟩ : ∃ fb, w.heap.size = fb := ⟨_, rfl⟩
  obtain ⟨db, edb⟩ : ∃ db, w.heap.size + 1 = db := ⟨_, rfl⟩
  obtain ⟨rb, erb⟩ : ∃ rb, w.heap.size + 1 + 1 = rb := ⟨_, rfl⟩
  rw [efb] at hfb
  rw [edb] at hdb
  rw [erb] at hrb
  have hgf : ¬ g = fb := by omega
  have hfg : ¬ fb = g := by omega
  have hgd : ¬ g = db := by omega
  have hdg : ¬ db = g := by omega
  have hgr : ¬ g = rb := by omega
  have hrg : ¬ rb = g := by omega
  have hfd : ¬ fb = db := by omega
  have hdf : ¬ db = fb := by omega
  have hfr : ¬ fb = rb := by omega
  have hrf : ¬ rb = fb := by omega
  have hdr : ¬ db = rb := by omega
  have hrd : ¬ rb = db := by omega
  have hgs : g < w1.heap.size := (Array.getElem?_eq_some_iff.1 hh).1
  have hfs : fb < w1.heap.size := (Array.getElem?_eq_some_iff.1 hfb).1
  have hds : db < w1.heap.size := (Array.getElem?_eq_some_iff.1 hdb).1
  have hrs : rb < w1.heap.size := (Array.getElem?_eq_some_iff.1 hrb).1
  rw [efb] at edb erb ⊢
  rw [edb] at erb ⊢
  rw [erb]
  rw [holds_add (holds_add (holds_add (holds_self hfb) hdb) hrb) hh]
  have H5 : Aside (Below w.heap.size w w1 ∧ w.heap.size ≤ fb ∧ w.heap.size ≤ rb ∧ w.heap.size ≤ g ∧ w.heap.size ≤ db) := ⟨hbe, by omega, by omega, by omega, by omega⟩
  have HT : Aside (cur.toList.take (n * 9) = flatE Fd.enc xs) := htk
  have HCM : Aside (cap3 ≤ maxLen) := hcm
  clear hbe hfb hdb hrb hh htk hcm efb edb erb hBg hl
  have hnc2 : cap3 ≤ 9223372036854775807 := by have := HCM.out; unfold maxLen at this; omega
  go_wp2
  go_loopg [30] n (fun k s30 wr => ∃ (j : Nat) (c : Array Value) (q0 : Nat), s30 = .int .i64 (j : Int) ∧ wr = (holds (holds (holds (holds (w1.drewN q0) fb #[.int .i64 id, .slice (some ⟨b, off, none⟩) n cap] 24) db #[.int .i64 d1, .int .i64 d2, .int .i64 d3, .int .i64 d4, .string d5, .string d6, .int .i64 d7, .int .i64 d8, .int .i64 d9] 30) rb #[.int .i64 0, .slice none 0 0] 24) g c 30) ∧ k + j = n ∧ c.size = cap3 * 9 ∧ Aside (c.toList.take (n * 9) = flatE Fd.enc (mvs d9 (base + m) xs j)))
  case atStart => exact ⟨0, cur, 0, rfl, rfl, by omega, hcs, by show _ = _; rw [HT.out]; simp [mvs]⟩
  case round =>
    obtain ⟨j, c, q0, rfl, rfl, hkj, hcz, KK⟩ := hrel
    by_cases hj : j < n
    · have hjz : (j : Int) < (n : Int) := by omega
      have hjx : j < xs.length := by have := HL.out; omega
      have hg0 : ∀ i u, i < 9 → (Fd.enc xs[j]!)[i]? = some u → c[j * 9 + i]? = some u := fun i u hi hu => by
        have h1 := flatE_get fd_len (mvs d9 (base + m) xs j) j i hi
        rw [mvs_get d9 (base + m) xs j hjx, ← KK.out, List.getElem?_take, if_pos (by omega), Array.getElem?_toList] at h1
        rw [h1]; exact hu
      have q8 : c[j * 9 + 8]? = some (.int .i64 xs[j]!.copy) := hg0 8 _ (by omega) rfl
      obtain ⟨z7, q7⟩ : ∃ z, c[j * 9 + 7]? = some z := ⟨_, hg0 7 _ (by omega) rfl⟩
      have KT : Aside (xs[j]!.copy = d9 → (c.setIfInBounds (j * 9 + 7) (.int .i64 (base + m))).toList.take (n * 9) = flatE Fd.enc (mvs d9 (base + m) xs (j + 1))) := fun e => by
        rw [Array.toList_setIfInBounds, List.take_set, KK.out, mvs_succ d9 (base + m) xs j hjx]
        refine (flatE_set fd_len (mvF d9 (base + m) xs[j]!) 7 _ (by omega) _ j xs[j]! (mvs_get d9 (base + m) xs j hjx) ?_).symm
        unfold mvF
        rw [if_pos e]
        rfl
      have KF : Aside (¬ xs[j]!.copy = d9 → c.toList.take (n * 9) = flatE Fd.enc (mvs d9 (base + m) xs (j + 1))) := fun e => by
        rw [KK.out, mvs_succ d9 (base + m) xs j hjx]
        congr 1
        unfold mvF
        rw [if_neg e]
        exact (List.set_getElem?_self' (mvs_get d9 (base + m) xs j hjx)).symm
      clear hg0 KK
      generalize xs[j]!.copy = q at q8 KT KF
      by_cases hq : q = d9
      · have K3 : Aside (_ = _) := KT.out hq
        have e1 : (q == d9) = true := by simp [hq]
        clear hq KT KF
        go_wp2
        go_quiet (fail)
        go_wp2
        go_roundg (gk - 1)
        case measure => omega
        case rel =>
          refine ⟨j + 1, _, q0 + nq, by simp, ?_, by omega, by simp [hcz], K3⟩
          rw [← drewN_add]
      · have K3 : Aside (_ = _) := KF.out hq
        have e1 : (q == d9) = false := by simp [hq]
        clear hq KT KF
        go_wp2
        go_quiet (fail)
        go_wp2
        go_roundg (gk - 1)
        case measure => omega
        case rel =>
          refine ⟨j + 1, _, q0 + nq, by simp, ?_, by omega, hcz, K3⟩
          rw [← drewN_add]
    · have hjn : j = n := by omega
      subst hjn
      have hjz : ¬ (j : Int) < (j : Int) := by omega
      go_wp2
      refine bodyPost_ret (v := .tuple #[.agg #[.int .i64 id, .slice (some ⟨g, 0, none⟩) j cap3], .int .i64 (base + m), .int .i64 0]) (by simp [results, Try.results50, go_sem, ↓IntWalk.iteOmega, hgs, hfs, hrs, hds, hgf, hfg, hgd, hdg, hgr, hrg, hfd, hdf, hfr, hrf, hdr, hrd]) rfl ⟨some ⟨g, 0, none⟩, cap3, ?_, ?_, ?_⟩
      · rw [ER.out, List.length_map, HL.out]
      · rw [ER.out]
        refine .inr ?_
        show World.ownsRow _ _ _ _ (.slice _ (xs.map _).length _) (xs.map _).length _
        rw [List.length_map, HL.out]
        have hK := KK.out
        rw [show mvs d9 (base + m) xs j = xs.map (mvF d9 (base + m)) by rw [← mvs_all, HL.out]] at hK
        refine ⟨by rw [flatE_length fd_len, List.length_map, HL.out], .inr ⟨g, cap3, c, rfl, H5.out.2.2.2.1, ?_, hnc, HCM.out, hcz, hK⟩⟩
        rw [heap_holds, if_pos ⟨rfl, by rw [size_holds, size_holds, size_holds]; exact hgs⟩]
      · obtain ⟨p1, p2, p3, p4, p5⟩ := H5.out
        exact below_holds (below_holds (below_holds (below_holds (below_drewN p1 q0) p2 _ _) p5 _ _) p3 _ _) p4 _ _

end Go.Proofs.Ytbifanenoejjgaa
