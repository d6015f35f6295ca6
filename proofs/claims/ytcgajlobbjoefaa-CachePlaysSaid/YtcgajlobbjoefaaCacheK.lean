/- This text proves the walk of Hold of package cache. Conditions: those that each theorem names. -/
import Derived.Test.YtcgajlobbjoefaaCacheJ
namespace Go.Proofs.Ytcgajlobbjoefaa
open Go.ChangeShapes Go.WideShapes Go.ChangeAt Go.RowKit
set_option linter.unusedVariables false
set_option linter.unusedSimpArgs false

def hdPut (c : Array Value) (o : Nat) (y : Hd) : Array Value := ((c.setIfInBounds o (.int .i64 y.hid)).setIfInBounds (o + 1) (.int .i64 y.vers)).setIfInBounds (o + 2) (.int .i64 y.til)
theorem hdPut_size (c : Array Value) (o : Nat) (y : Hd) : (hdPut c o y).size = c.size := by simp [hdPut]
theorem hdPut_get (c : Array Value) (o : Nat) (y : Hd) (k : Nat) (hs : o + 3 ≤ c.size) : (hdPut c o y)[k]? = if o ≤ k ∧ k < o + 3 then y.enc[k - o]? else c[k]? := by
  simp only [hdPut, Array.getElem?_setIfInBounds, Array.size_setIfInBounds]
  rcases (by omega : k < o ∨ k = o ∨ k = o + 1 ∨ k = o + 2 ∨ o + 3 ≤ k) with h | h | h | h | h
  · rw [if_neg (by omega), if_neg (by omega), if_neg (by omega), if_neg (by omega)]
  · subst h
    rw [if_neg (by omega), if_neg (by omega), if_pos rfl, if_pos (by omega), if_pos (by omega)]
    simp [Hd.enc]
  · subst h
    rw [if_neg (by omega), if_pos rfl, if_pos (by omega), if_pos (by omega)]
    simp [Hd.enc]
  · subst h
    rw [if_pos rfl, if_pos (by omega), if_pos (by omega)]
    simp [Hd.enc]
  · rw [if_neg (by omega), if_neg (by omega), if_neg (by omega), if_neg (by omega)]
theorem alloc_holds {w : World} {b : Nat} {c : Array Value} {T : TypeId} (h : b < w.heap.size) (o : Obj) : (holds w b c T).alloc o = holds (w.alloc o) b c T := by
  unfold holds World.alloc
  congr 1
  apply Array.ext_getElem?
  intro k
  simp only [Array.getElem?_push, Array.getElem?_setIfInBounds, Array.size_setIfInBounds, Array.size_push]
  by_cases e1 : k = w.heap.size
  · subst e1
    rw [if_pos rfl, if_neg (by omega), if_pos rfl]
  · rw [if_neg e1, if_neg e1]
    by_cases e2 : b = k
    · subst e2
      rw [if_pos rfl, if_pos rfl, if_pos h, if_pos (by omega)]
    · rw [if_neg e2, if_neg e2]
theorem put_flat {cur : Array Value} {xs : List Hd} {k : Nat} (y : Hd) (hk : k < xs.length) (hs : xs.length * 3 ≤ cur.size) (htk : cur.toList.take (xs.length * 3) = flatE Hd.enc xs) : (hdPut cur (k * 3) y).toList.take (xs.length * 3) = flatE Hd.enc (xs.set k y) := by
  apply List.ext_getElem?
  intro j
  by_cases hj : j < xs.length * 3
  · obtain ⟨q, r, hr, rfl⟩ : ∃ q r, r < 3 ∧ j = q * 3 + r := ⟨j / 3, j % 3, Nat.mod_lt _ (by omega), by omega⟩
    rw [List.getElem?_take_of_lt hj, Array.getElem?_toList, hdPut_get _ _ _ _ (by omega), flatE_get hd_len _ _ _ hr, List.getElem?_set]
    have h1 := flatE_get hd_len xs q r hr
    rw [← htk, List.getElem?_take_of_lt hj, Array.getElem?_toList] at h1
    by_cases e : k = q
    · subst e
      rw [if_pos (by omega), if_pos rfl, if_pos hk, show k * 3 + r - k * 3 = r by omega]; rfl
    · rw [if_neg (by omega), if_neg e, h1]
  · rw [List.getElem?_eq_none (by simp; omega), List.getElem?_eq_none (by rw [flatE_length hd_len, List.length_set]; omega)]
theorem own_put {w : World} {g cap k B : Nat} {cur : Array Value} {xs : List Hd} (y : Hd) (hh : w.heap[g]? = some (.cells (hdPut cur (k * 3) y) 36 (0, 0))) (hB : B ≤ g) (hnc : xs.length ≤ cap) (hcm : cap ≤ maxLen) (hcs : cur.size = cap * 3) (htk : cur.toList.take (xs.length * 3) = flatE Hd.enc xs) (hk : k < xs.length) :
    w.ownsRow B 36 3 (.slice (some ⟨g, 0, none⟩) (xs.set k y).length cap) (xs.set k y).length (flatE Hd.enc (xs.set k y)) := by
  rw [List.length_set]
  exact ⟨by rw [flatE_length hd_len, List.length_set], .inr ⟨g, cap, _, rfl, hB, hh, hnc, hcm, by rw [hdPut_size, hcs], put_flat y hk (by omega) htk⟩⟩

set_option maxHeartbeats 8000000 in
theorem hold_denied (cp : Int) (ao : Option Addr) (n c1 : Nat) (ao2 : Option Addr) (n2 c2 : Nat) (bl : List Pc) (hs : List Hd) (id vers til : Int) (w : World) (h1 : Sl w 4 ao n c1 (bl.map Pc.enc)) (h2 : Sl w 3 ao2 n2 c2 (hs.map Hd.enc)) (hn : n ≤ 1000000) (hn2 : n2 ≤ 1000000) (hr : rangedB (⟨id, vers, til⟩ : Hd) = false) :
    Calls Try.prog 22 #[.agg #[.int .i64 cp, .slice ao n c1, .slice ao2 n2 c2], .int .i64 id, .int .i64 vers, .int .i64 til] w fun e w' => CopPost w cp bl hs e w' := by
  have HR : Aside (¬ (1 ≤ id ∧ id ≤ 1099511627776 ∧ 0 ≤ vers ∧ vers ≤ 2147483647 ∧ 0 ≤ til ∧ til ≤ 1099512676352)) := fun h => by
    have h9 : rangedB (⟨id, vers, til⟩ : Hd) = true := by unfold rangedB; exact decide_eq_true h
    rw [h9] at hr
    cases hr
  clear hr
  by_cases d1 : id < 1
  · clear HR
    have hln : bl.length = n := Sl.lenE h1
    have hln2 : hs.length = n2 := Sl.lenE h2
    subst hln
    subst hln2
    have S1 : Aside (Sl w 4 ao bl.length c1 (bl.map Pc.enc)) := h1
    have S2 : Aside (Sl w 3 ao2 hs.length c2 (hs.map Hd.enc)) := h2
    have hb0 : Below w.heap.size w ((w.alloc (.cells #[.int .i64 cp, .slice ao bl.length c1, .slice ao2 hs.length c2] 25)).alloc (.cells #[.int .i64 0, .slice none 0 0, .slice none 0 0] 25)) := by
      repeat (first | (with_reducible exact Below.refl _ _) | (with_reducible assumption) | (with_reducible refine below_to_plus ?_ ?_ _) | (with_reducible refine below_holds ?_ ?_ _ _) | (with_reducible refine Below.alloc ?_ ?_ _) | (with_reducible refine Below.drew ?_) | (with_reducible refine below_drewN ?_ _) | (with_reducible refine Below.setCell ?_ ?_ _))
      all_goals first | omega | (simp; done) | (simp [go_sem]; done) | (simp [go_sem]; omega)
    have HB : Aside (Below w.heap.size w ((w.alloc (.cells #[.int .i64 cp, .slice ao bl.length c1, .slice ao2 hs.length c2] 25)).alloc (.cells #[.int .i64 0, .slice none 0 0, .slice none 0 0] 25))) := hb0
    have Hc : Aside (((w.alloc (.cells #[.int .i64 cp, .slice ao bl.length c1, .slice ao2 hs.length c2] 25)).alloc (.cells #[.int .i64 0, .slice none 0 0, .slice none 0 0] 25)).heap[w.heap.size]? = some (.cells #[.int .i64 cp, .slice ao bl.length c1, .slice ao2 hs.length c2] 25 (0, 0))) := by repeat (first | exact hp_new (by first | rfl | (simp; done) | (simp; omega)) | refine hp_old ?_)
    have Hr : Aside (((w.alloc (.cells #[.int .i64 cp, .slice ao bl.length c1, .slice ao2 hs.length c2] 25)).alloc (.cells #[.int .i64 0, .slice none 0 0, .slice none 0 0] 25)).heap[w.heap.size + 1]? = some (.cells #[.int .i64 0, .slice none 0 0, .slice none 0 0] 25 (0, 0))) := by repeat (first | exact hp_new (by first | rfl | (simp; done) | (simp; omega)) | refine hp_old ?_)
    have ck := copied_calls cp ao bl.length c1 ao2 hs.length c2 bl hs ((w.alloc (.cells #[.int .i64 cp, .slice ao bl.length c1, .slice ao2 hs.length c2] 25)).alloc (.cells #[.int .i64 0, .slice none 0 0, .slice none 0 0] 25)) (h1.stays hb0) (h2.stays hb0) (by omega) hn2
    clear h1 h2
    go_enter Try.func22, Try.ntmps22
    go_wp2_with fail
    refine (ck).mono ?_
    rintro e u28 ⟨a1, k1, a2, k2, rfl, o1, o2, hb⟩
    have Hr' : Aside (u28.heap[w.heap.size + 1]? = some (.cells #[.int .i64 0, .slice none 0 0, .slice none 0 0] 25 (0, 0))) := heap_later (by repeat (first | exact Hc.out | exact Hr.out | exact hp_new (by first | rfl | (simp [size_plus, size_holds]; done) | (simp [size_plus, size_holds]; omega)) | (with_reducible refine hp_old ?_) | (with_reducible refine hp_plus ?_) | (with_reducible refine hh_eq (by first | assumption | (simp only [size_holds]; assumption))) | (with_reducible refine hh_ne (by omega) ?_))) hb
    have Rbl' : Aside (u28.ownsRow w.heap.size 47 4 (.slice a1 bl.length k1) bl.length (flatE Pc.enc bl)) := own_lower o1 (by simp; omega)
    have Rhs' : Aside (u28.ownsRow w.heap.size 36 3 (.slice a2 hs.length k2) hs.length (flatE Hd.enc hs)) := own_lower o2 (by simp; omega)
    have HB' : Aside (Below w.heap.size w u28) := below_step (by
      have hHB := HB.out
      repeat (first | (with_reducible exact Below.refl _ _) | (with_reducible assumption) | (with_reducible refine below_to_plus ?_ ?_ _) | (with_reducible refine below_holds ?_ ?_ _ _) | (with_reducible refine Below.alloc ?_ ?_ _) | (with_reducible refine Below.drew ?_) | (with_reducible refine below_drewN ?_ _) | (with_reducible refine Below.setCell ?_ ?_ _))
      all_goals first | omega | (simp; done) | (simp [go_sem]; done) | (simp [go_sem]; omega)) hb
    clear Hc Hr HB hb ck o1 o2 hb0
    have Hr := Hr'
    clear Hr'
    have Rbl := Rbl'
    clear Rbl'
    have Rhs := Rhs'
    clear Rhs'
    have HB := HB'
    clear HB'
    have ltr : w.heap.size + 1 < u28.heap.size := (Array.getElem?_eq_some_iff.1 Hr.out).1
    have nblr : (.slice a1 bl.length k1 : Value).ownBlock ≠ some (w.heap.size + 1) := own_ne Rbl.out Hr.out (by decide)
    have nhsr : (.slice a2 hs.length k2 : Value).ownBlock ≠ some (w.heap.size + 1) := own_ne Rhs.out Hr.out (by decide)
    rw [holds_self Hr.out]
    have hal : ∀ c o, (holds u28 (w.heap.size + 1) c 25).alloc o = holds (u28.alloc o) (w.heap.size + 1) c 25 := fun c o => alloc_holds ltr o
    have nr1 : ¬ u28.heap.size = w.heap.size + 1 := by omega
    have nr2 : ¬ w.heap.size + 1 = u28.heap.size := by omega
    go_wp2
    refine bodyPost_ret (v := .agg #[.int .i64 cp, .slice a1 bl.length k1, .slice a2 hs.length k2]) (by simp [results, Try.results22, go_sem, ↓IntWalk.iteOmega, *]) rfl ⟨_, _, _, _, rfl, (by repeat (first | exact Rbl.out | (with_reducible refine own_alloc ?_) | (with_reducible refine own_plus ?_) | (with_reducible refine own_holds ?_ ?_) | assumption)), (by repeat (first | exact Rhs.out | (with_reducible refine own_alloc ?_) | (with_reducible refine own_plus ?_) | (with_reducible refine own_holds ?_ ?_) | assumption)), (by
      have hHB := HB.out
      repeat (first | (with_reducible exact Below.refl _ _) | (with_reducible assumption) | (with_reducible refine below_to_plus ?_ ?_ _) | (with_reducible refine below_holds ?_ ?_ _ _) | (with_reducible refine Below.alloc ?_ ?_ _) | (with_reducible refine Below.drew ?_) | (with_reducible refine below_drewN ?_ _) | (with_reducible refine Below.setCell ?_ ?_ _))
      all_goals first | omega | (simp; done) | (simp [go_sem]; done) | (simp [go_sem]; omega))⟩
  · skip
    by_cases d2 : 1099511627776 < id
    · clear HR
      have hln : bl.length = n := Sl.lenE h1
      have hln2 : hs.length = n2 := Sl.lenE h2
      subst hln
      subst hln2
      have S1 : Aside (Sl w 4 ao bl.length c1 (bl.map Pc.enc)) := h1
      have S2 : Aside (Sl w 3 ao2 hs.length c2 (hs.map Hd.enc)) := h2
      have hb0 : Below w.heap.size w ((w.alloc (.cells #[.int .i64 cp, .slice ao bl.length c1, .slice ao2 hs.length c2] 25)).alloc (.cells #[.int .i64 0, .slice none 0 0, .slice none 0 0] 25)) := by
        repeat (first | (with_reducible exact Below.refl _ _) | (with_reducible assumption) | (with_reducible refine below_to_plus ?_ ?_ _) | (with_reducible refine below_holds ?_ ?_ _ _) | (with_reducible refine Below.alloc ?_ ?_ _) | (with_reducible refine Below.drew ?_) | (with_reducible refine below_drewN ?_ _) | (with_reducible refine Below.setCell ?_ ?_ _))
        all_goals first | omega | (simp; done) | (simp [go_sem]; done) | (simp [go_sem]; omega)
      have HB : Aside (Below w.heap.size w ((w.alloc (.cells #[.int .i64 cp, .slice ao bl.length c1, .slice ao2 hs.length c2] 25)).alloc (.cells #[.int .i64 0, .slice none 0 0, .slice none 0 0] 25))) := hb0
      have Hc : Aside (((w.alloc (.cells #[.int .i64 cp, .slice ao bl.length c1, .slice ao2 hs.length c2] 25)).alloc (.cells #[.int .i64 0, .slice none 0 0, .slice none 0 0] 25)).heap[w.heap.size]? = some (.cells #[.int .i64 cp, .slice ao bl.length c1, .slice ao2 hs.length c2] 25 (0, 0))) := by repeat (first | exact hp_new (by first | rfl | (simp; done) | (simp; omega)) | refine hp_old ?_)
      have Hr : Aside (((w.alloc (.cells #[.int .i64 cp, .slice ao bl.length c1, .slice ao2 hs.length c2] 25)).alloc (.cells #[.int .i64 0, .slice none 0 0, .slice none 0 0] 25)).heap[w.heap.size + 1]? = some (.cells #[.int .i64 0, .slice none 0 0, .slice none 0 0] 25 (0, 0))) := by repeat (first | exact hp_new (by first | rfl | (simp; done) | (simp; omega)) | refine hp_old ?_)
      have ck := copied_calls cp ao bl.length c1 ao2 hs.length c2 bl hs ((w.alloc (.cells #[.int .i64 cp, .slice ao bl.length c1, .slice ao2 hs.length c2] 25)).alloc (.cells #[.int .i64 0, .slice none 0 0, .slice none 0 0] 25)) (h1.stays hb0) (h2.stays hb0) (by omega) hn2
      clear h1 h2
      go_enter Try.func22, Try.ntmps22
      go_wp2_with fail
      refine (ck).mono ?_
      rintro e u29 ⟨a1, k1, a2, k2, rfl, o1, o2, hb⟩
      have Hr' : Aside (u29.heap[w.heap.size + 1]? = some (.cells #[.int .i64 0, .slice none 0 0, .slice none 0 0] 25 (0, 0))) := heap_later (by repeat (first | exact Hc.out | exact Hr.out | exact hp_new (by first | rfl | (simp [size_plus, size_holds]; done) | (simp [size_plus, size_holds]; omega)) | (with_reducible refine hp_old ?_) | (with_reducible refine hp_plus ?_) | (with_reducible refine hh_eq (by first | assumption | (simp only [size_holds]; assumption))) | (with_reducible refine hh_ne (by omega) ?_))) hb
      have Rbl' : Aside (u29.ownsRow w.heap.size 47 4 (.slice a1 bl.length k1) bl.length (flatE Pc.enc bl)) := own_lower o1 (by simp; omega)
      have Rhs' : Aside (u29.ownsRow w.heap.size 36 3 (.slice a2 hs.length k2) hs.length (flatE Hd.enc hs)) := own_lower o2 (by simp; omega)
      have HB' : Aside (Below w.heap.size w u29) := below_step (by
        have hHB := HB.out
        repeat (first | (with_reducible exact Below.refl _ _) | (with_reducible assumption) | (with_reducible refine below_to_plus ?_ ?_ _) | (with_reducible refine below_holds ?_ ?_ _ _) | (with_reducible refine Below.alloc ?_ ?_ _) | (with_reducible refine Below.drew ?_) | (with_reducible refine below_drewN ?_ _) | (with_reducible refine Below.setCell ?_ ?_ _))
        all_goals first | omega | (simp; done) | (simp [go_sem]; done) | (simp [go_sem]; omega)) hb
      clear Hc Hr HB hb ck o1 o2 hb0
      have Hr := Hr'
      clear Hr'
      have Rbl := Rbl'
      clear Rbl'
      have Rhs := Rhs'
      clear Rhs'
      have HB := HB'
      clear HB'
      have ltr : w.heap.size + 1 < u29.heap.size := (Array.getElem?_eq_some_iff.1 Hr.out).1
      have nblr : (.slice a1 bl.length k1 : Value).ownBlock ≠ some (w.heap.size + 1) := own_ne Rbl.out Hr.out (by decide)
      have nhsr : (.slice a2 hs.length k2 : Value).ownBlock ≠ some (w.heap.size + 1) := own_ne Rhs.out Hr.out (by decide)
      rw [holds_self Hr.out]
      have hal : ∀ c o, (holds u29 (w.heap.size + 1) c 25).alloc o = holds (u29.alloc o) (w.heap.size + 1) c 25 := fun c o => alloc_holds ltr o
      have nr1 : ¬ u29.heap.size = w.heap.size + 1 := by omega
      have nr2 : ¬ w.heap.size + 1 = u29.heap.size := by omega
      go_wp2
      refine bodyPost_ret (v := .agg #[.int .i64 cp, .slice a1 bl.length k1, .slice a2 hs.length k2]) (by simp [results, Try.results22, go_sem, ↓IntWalk.iteOmega, *]) rfl ⟨_, _, _, _, rfl, (by repeat (first | exact Rbl.out | (with_reducible refine own_alloc ?_) | (with_reducible refine own_plus ?_) | (with_reducible refine own_holds ?_ ?_) | assumption)), (by repeat (first | exact Rhs.out | (with_reducible refine own_alloc ?_) | (with_reducible refine own_plus ?_) | (with_reducible refine own_holds ?_ ?_) | assumption)), (by
        have hHB := HB.out
        repeat (first | (with_reducible exact Below.refl _ _) | (with_reducible assumption) | (with_reducible refine below_to_plus ?_ ?_ _) | (with_reducible refine below_holds ?_ ?_ _ _) | (with_reducible refine Below.alloc ?_ ?_ _) | (with_reducible refine Below.drew ?_) | (with_reducible refine below_drewN ?_ _) | (with_reducible refine Below.setCell ?_ ?_ _))
        all_goals first | omega | (simp; done) | (simp [go_sem]; done) | (simp [go_sem]; omega))⟩
    · skip
      by_cases d3 : vers < 0
      · clear HR
        have hln : bl.length = n := Sl.lenE h1
        have hln2 : hs.length = n2 := Sl.lenE h2
        subst hln
        subst hln2
        have S1 : Aside (Sl w 4 ao bl.length c1 (bl.map Pc.enc)) := h1
        have S2 : Aside (Sl w 3 ao2 hs.length c2 (hs.map Hd.enc)) := h2
        have hb0 : Below w.heap.size w ((w.alloc (.cells #[.int .i64 cp, .slice ao bl.length c1, .slice ao2 hs.length c2] 25)).alloc (.cells #[.int .i64 0, .slice none 0 0, .slice none 0 0] 25)) := by
          repeat (first | (with_reducible exact Below.refl _ _) | (with_reducible assumption) | (with_reducible refine below_to_plus ?_ ?_ _) | (with_reducible refine below_holds ?_ ?_ _ _) | (with_reducible refine Below.alloc ?_ ?_ _) | (with_reducible refine Below.drew ?_) | (with_reducible refine below_drewN ?_ _) | (with_reducible refine Below.setCell ?_ ?_ _))
          all_goals first | omega | (simp; done) | (simp [go_sem]; done) | (simp [go_sem]; omega)
        have HB : Aside (Below w.heap.size w ((w.alloc (.cells #[.int .i64 cp, .slice ao bl.length c1, .slice ao2 hs.length c2] 25)).alloc (.cells #[.int .i64 0, .slice none 0 0, .slice none 0 0] 25))) := hb0
        have Hc : Aside (((w.alloc (.cells #[.int .i64 cp, .slice ao bl.length c1, .slice ao2 hs.length c2] 25)).alloc (.cells #[.int .i64 0, .slice none 0 0, .slice none 0 0] 25)).heap[w.heap.size]? = some (.cells #[.int .i64 cp, .slice ao bl.length c1, .slice ao2 hs.length c2] 25 (0, 0))) := by repeat (first | exact hp_new (by first | rfl | (simp; done) | (simp; omega)) | refine hp_old ?_)
        have Hr : Aside (((w.alloc (.cells #[.int .i64 cp, .slice ao bl.length c1, .slice ao2 hs.length c2] 25)).alloc (.cells #[.int .i64 0, .slice none 0 0, .slice none 0 0] 25)).heap[w.heap.size + 1]? = some (.cells #[.int .i64 0, .slice none 0 0, .slice none 0 0] 25 (0, 0))) := by repeat (first | exact hp_new (by first | rfl | (simp; done) | (simp; omega)) | refine hp_old ?_)
        have ck := copied_calls cp ao bl.length c1 ao2 hs.length c2 bl hs ((w.alloc (.cells #[.int .i64 cp, .slice ao bl.length c1, .slice ao2 hs.length c2] 25)).alloc (.cells #[.int .i64 0, .slice none 0 0, .slice none 0 0] 25)) (h1.stays hb0) (h2.stays hb0) (by omega) hn2
        clear h1 h2
        go_enter Try.func22, Try.ntmps22
        go_wp2_with fail
        refine (ck).mono ?_
        rintro e u30 ⟨a1, k1, a2, k2, rfl, o1, o2, hb⟩
        have Hr' : Aside (u30.heap[w.heap.size + 1]? = some (.cells #[.int .i64 0, .slice none 0 0, .slice none 0 0] 25 (0, 0))) := heap_later (by repeat (first | exact Hc.out | exact Hr.out | exact hp_new (by first | rfl | (simp [size_plus, size_holds]; done) | (simp [size_plus, size_holds]; omega)) | (with_reducible refine hp_old ?_) | (with_reducible refine hp_plus ?_) | (with_reducible refine hh_eq (by first | assumption | (simp only [size_holds]; assumption))) | (with_reducible refine hh_ne (by omega) ?_))) hb
        have Rbl' : Aside (u30.ownsRow w.heap.size 47 4 (.slice a1 bl.length k1) bl.length (flatE Pc.enc bl)) := own_lower o1 (by simp; omega)
        have Rhs' : Aside (u30.ownsRow w.heap.size 36 3 (.slice a2 hs.length k2) hs.length (flatE Hd.enc hs)) := own_lower o2 (by simp; omega)
        have HB' : Aside (Below w.heap.size w u30) := below_step (by
          have hHB := HB.out
          repeat (first | (with_reducible exact Below.refl _ _) | (with_reducible assumption) | (with_reducible refine below_to_plus ?_ ?_ _) | (with_reducible refine below_holds ?_ ?_ _ _) | (with_reducible refine Below.alloc ?_ ?_ _) | (with_reducible refine Below.drew ?_) | (with_reducible refine below_drewN ?_ _) | (with_reducible refine Below.setCell ?_ ?_ _))
          all_goals first | omega | (simp; done) | (simp [go_sem]; done) | (simp [go_sem]; omega)) hb
        clear Hc Hr HB hb ck o1 o2 hb0
        have Hr := Hr'
        clear Hr'
        have Rbl := Rbl'
        clear Rbl'
        have Rhs := Rhs'
        clear Rhs'
        have HB := HB'
        clear HB'
        have ltr : w.heap.size + 1 < u30.heap.size := (Array.getElem?_eq_some_iff.1 Hr.out).1
        have nblr : (.slice a1 bl.length k1 : Value).ownBlock ≠ some (w.heap.size + 1) := own_ne Rbl.out Hr.out (by decide)
        have nhsr : (.slice a2 hs.length k2 : Value).ownBlock ≠ some (w.heap.size + 1) := own_ne Rhs.out Hr.out (by decide)
        rw [holds_self Hr.out]
        have hal : ∀ c o, (holds u30 (w.heap.size + 1) c 25).alloc o = holds (u30.alloc o) (w.heap.size + 1) c 25 := fun c o => alloc_holds ltr o
        have nr1 : ¬ u30.heap.size = w.heap.size + 1 := by omega
        have nr2 : ¬ w.heap.size + 1 = u30.heap.size := by omega
        go_wp2
        refine bodyPost_ret (v := .agg #[.int .i64 cp, .slice a1 bl.length k1, .slice a2 hs.length k2]) (by simp [results, Try.results22, go_sem, ↓IntWalk.iteOmega, *]) rfl ⟨_, _, _, _, rfl, (by repeat (first | exact Rbl.out | (with_reducible refine own_alloc ?_) | (with_reducible refine own_plus ?_) | (with_reducible refine own_holds ?_ ?_) | assumption)), (by repeat (first | exact Rhs.out | (with_reducible refine own_alloc ?_) | (with_reducible refine own_plus ?_) | (with_reducible refine own_holds ?_ ?_) | assumption)), (by
          have hHB := HB.out
          repeat (first | (with_reducible exact Below.refl _ _) | (with_reducible assumption) | (with_reducible refine below_to_plus ?_ ?_ _) | (with_reducible refine below_holds ?_ ?_ _ _) | (with_reducible refine Below.alloc ?_ ?_ _) | (with_reducible refine Below.drew ?_) | (with_reducible refine below_drewN ?_ _) | (with_reducible refine Below.setCell ?_ ?_ _))
          all_goals first | omega | (simp; done) | (simp [go_sem]; done) | (simp [go_sem]; omega))⟩
      · skip
        by_cases d4 : 2147483647 < vers
        · clear HR
          have hln : bl.length = n := Sl.lenE h1
          have hln2 : hs.length = n2 := Sl.lenE h2
          subst hln
          subst hln2
          have S1 : Aside (Sl w 4 ao bl.length c1 (bl.map Pc.enc)) := h1
          have S2 : Aside (Sl w 3 ao2 hs.length c2 (hs.map Hd.enc)) := h2
          have hb0 : Below w.heap.size w ((w.alloc (.cells #[.int .i64 cp, .slice ao bl.length c1, .slice ao2 hs.length c2] 25)).alloc (.cells #[.int .i64 0, .slice none 0 0, .slice none 0 0] 25)) := by
            repeat (first | (with_reducible exact Below.refl _ _) | (with_reducible assumption) | (with_reducible refine below_to_plus ?_ ?_ _) | (with_reducible refine below_holds ?_ ?_ _ _) | (with_reducible refine Below.alloc ?_ ?_ _) | (with_reducible refine Below.drew ?_) | (with_reducible refine below_drewN ?_ _) | (with_reducible refine Below.setCell ?_ ?_ _))
            all_goals first | omega | (simp; done) | (simp [go_sem]; done) | (simp [go_sem]; omega)
          have HB : Aside (Below w.heap.size w ((w.alloc (.cells #[.int .i64 cp, .slice ao bl.length c1, .slice ao2 hs.length c2] 25)).alloc (.cells #[.int .i64 0, .slice none 0 0, .slice none 0 0] 25))) := hb0
          have Hc : Aside (((w.alloc (.cells #[.int .i64 cp, .slice ao bl.length c1, .slice ao2 hs.length c2] 25)).alloc (.cells #[.int .i64 0, .slice none 0 0, .slice none 0 0] 25)).heap[w.heap.size]? = some (.cells #[.int .i64 cp, .slice ao bl.length c1, .slice ao2 hs.length c2] 25 (0, 0))) := by repeat (first | exact hp_new (by first | rfl | (simp; done) | (simp; omega)) | refine hp_old ?_)
          have Hr : Aside (((w.alloc (.cells #[.int .i64 cp, .slice ao bl.length c1, .slice ao2 hs.length c2] 25)).alloc (.cells #[.int .i64 0, .slice none 0 0, .slice none 0 0] 25)).heap[w.heap.size + 1]? = some (.cells #[.int .i64 0, .slice none 0 0, .slice none 0 0] 25 (0, 0))) := by repeat (first | exact hp_new (by first | rfl | (simp; done) | (simp; omega)) | refine hp_old ?_)
          have ck := copied_calls cp ao bl.length c1 ao2 hs.length c2 bl hs ((w.alloc (.cells #[.int .i64 cp, .slice ao bl.length c1, .slice ao2 hs.length c2] 25)).alloc (.cells #[.int .i64 0, .slice none 0 0, .slice none 0 0] 25)) (h1.stays hb0) (h2.stays hb0) (by omega) hn2
          clear h1 h2
          go_enter Try.func22, Try.ntmps22
          go_wp2_with fail
          refine (ck).mono ?_
          rintro e u31 ⟨a1, k1, a2, k2, rfl, o1, o2, hb⟩
          have Hr' : Aside (u31.heap[w.heap.size + 1]? = some (.cells #[.int .i64 0, .slice none 0 0, .slice none 0 0] 25 (0, 0))) := heap_later (by repeat (first | exact Hc.out | exact Hr.out | exact hp_new (by first | rfl | (simp [size_plus, size_holds]; done) | (simp [size_plus, size_holds]; omega)) | (with_reducible refine hp_old ?_) | (with_reducible refine hp_plus ?_) | (with_reducible refine hh_eq (by first | assumption | (simp only [size_holds]; assumption))) | (with_reducible refine hh_ne (by omega) ?_))) hb
          have Rbl' : Aside (u31.ownsRow w.heap.size 47 4 (.slice a1 bl.length k1) bl.length (flatE Pc.enc bl)) := own_lower o1 (by simp; omega)
          have Rhs' : Aside (u31.ownsRow w.heap.size 36 3 (.slice a2 hs.length k2) hs.length (flatE Hd.enc hs)) := own_lower o2 (by simp; omega)
          have HB' : Aside (Below w.heap.size w u31) := below_step (by
            have hHB := HB.out
            repeat (first | (with_reducible exact Below.refl _ _) | (with_reducible assumption) | (with_reducible refine below_to_plus ?_ ?_ _) | (with_reducible refine below_holds ?_ ?_ _ _) | (with_reducible refine Below.alloc ?_ ?_ _) | (with_reducible refine Below.drew ?_) | (with_reducible refine below_drewN ?_ _) | (with_reducible refine Below.setCell ?_ ?_ _))
            all_goals first | omega | (simp; done) | (simp [go_sem]; done) | (simp [go_sem]; omega)) hb
          clear Hc Hr HB hb ck o1 o2 hb0
          have Hr := Hr'
          clear Hr'
          have Rbl := Rbl'
          clear Rbl'
          have Rhs := Rhs'
          clear Rhs'
          have HB := HB'
          clear HB'
          have ltr : w.heap.size + 1 < u31.heap.size := (Array.getElem?_eq_some_iff.1 Hr.out).1
          have nblr : (.slice a1 bl.length k1 : Value).ownBlock ≠ some (w.heap.size + 1) := own_ne Rbl.out Hr.out (by decide)
          have nhsr : (.slice a2 hs.length k2 : Value).ownBlock ≠ some (w.heap.size + 1) := own_ne Rhs.out Hr.out (by decide)
          rw [holds_self Hr.out]
          have hal : ∀ c o, (holds u31 (w.heap.size + 1) c 25).alloc o = holds (u31.alloc o) (w.heap.size + 1) c 25 := fun c o => alloc_holds ltr o
          have nr1 : ¬ u31.heap.size = w.heap.size + 1 := by omega
          have nr2 : ¬ w.heap.size + 1 = u31.heap.size := by omega
          go_wp2
          refine bodyPost_ret (v := .agg #[.int .i64 cp, .slice a1 bl.length k1, .slice a2 hs.length k2]) (by simp [results, Try.results22, go_sem, ↓IntWalk.iteOmega, *]) rfl ⟨_, _, _, _, rfl, (by repeat (first | exact Rbl.out | (with_reducible refine own_alloc ?_) | (with_reducible refine own_plus ?_) | (with_reducible refine own_holds ?_ ?_) | assumption)), (by repeat (first | exact Rhs.out | (with_reducible refine own_alloc ?_) | (with_reducible refine own_plus ?_) | (with_reducible refine own_holds ?_ ?_) | assumption)), (by
            have hHB := HB.out
            repeat (first | (with_reducible exact Below.refl _ _) | (with_reducible assumption) | (with_reducible refine below_to_plus ?_ ?_ _) | (with_reducible refine below_holds ?_ ?_ _ _) | (with_reducible refine Below.alloc ?_ ?_ _) | (with_reducible refine Below.drew ?_) | (with_reducible refine below_drewN ?_ _) | (with_reducible refine Below.setCell ?_ ?_ _))
            all_goals first | omega | (simp; done) | (simp [go_sem]; done) | (simp [go_sem]; omega))⟩
        · skip
          by_cases d5 : til < 0
          · clear HR
            have hln : bl.length = n := Sl.lenE h1
            have hln2 : hs.length = n2 := Sl.lenE h2
            subst hln
            subst hln2
            have S1 : Aside (Sl w 4 ao bl.length c1 (bl.map Pc.enc)) := h1
            have S2 : Aside (Sl w 3 ao2 hs.length c2 (hs.map Hd.enc)) := h2
            have hb0 : Below w.heap.size w ((w.alloc (.cells #[.int .i64 cp, .slice ao bl.length c1, .slice ao2 hs.length c2] 25)).alloc (.cells #[.int .i64 0, .slice none 0 0, .slice none 0 0] 25)) := by
              repeat (first | (with_reducible exact Below.refl _ _) | (with_reducible assumption) | (with_reducible refine below_to_plus ?_ ?_ _) | (with_reducible refine below_holds ?_ ?_ _ _) | (with_reducible refine Below.alloc ?_ ?_ _) | (with_reducible refine Below.drew ?_) | (with_reducible refine below_drewN ?_ _) | (with_reducible refine Below.setCell ?_ ?_ _))
              all_goals first | omega | (simp; done) | (simp [go_sem]; done) | (simp [go_sem]; omega)
            have HB : Aside (Below w.heap.size w ((w.alloc (.cells #[.int .i64 cp, .slice ao bl.length c1, .slice ao2 hs.length c2] 25)).alloc (.cells #[.int .i64 0, .slice none 0 0, .slice none 0 0] 25))) := hb0
            have Hc : Aside (((w.alloc (.cells #[.int .i64 cp, .slice ao bl.length c1, .slice ao2 hs.length c2] 25)).alloc (.cells #[.int .i64 0, .slice none 0 0, .slice none 0 0] 25)).heap[w.heap.size]? = some (.cells #[.int .i64 cp, .slice ao bl.length c1, .slice ao2 hs.length c2] 25 (0, 0))) := by repeat (first | exact hp_new (by first | rfl | (simp; done) | (simp; omega)) | refine hp_old ?_)
            have Hr : Aside (((w.alloc (.cells #[.int .i64 cp, .slice ao bl.length c1, .slice ao2 hs.length c2] 25)).alloc (.cells #[.int .i64 0, .slice none 0 0, .slice none 0 0] 25)).heap[w.heap.size + 1]? = some (.cells #[.int .i64 0, .slice none 0 0, .slice none 0 0] 25 (0, 0))) := by repeat (first | exact hp_new (by first | rfl | (simp; done) | (simp; omega)) | refine hp_old ?_)
            have ck := copied_calls cp ao bl.length c1 ao2 hs.length c2 bl hs ((w.alloc (.cells #[.int .i64 cp, .slice ao bl.length c1, .slice ao2 hs.length c2] 25)).alloc (.cells #[.int .i64 0, .slice none 0 0, .slice none 0 0] 25)) (h1.stays hb0) (h2.stays hb0) (by omega) hn2
            clear h1 h2
            go_enter Try.func22, Try.ntmps22
            go_wp2_with fail
            refine (ck).mono ?_
            rintro e u32 ⟨a1, k1, a2, k2, rfl, o1, o2, hb⟩
            have Hr' : Aside (u32.heap[w.heap.size + 1]? = some (.cells #[.int .i64 0, .slice none 0 0, .slice none 0 0] 25 (0, 0))) := heap_later (by repeat (first | exact Hc.out | exact Hr.out | exact hp_new (by first | rfl | (simp [size_plus, size_holds]; done) | (simp [size_plus, size_holds]; omega)) | (with_reducible refine hp_old ?_) | (with_reducible refine hp_plus ?_) | (with_reducible refine hh_eq (by first | assumption | (simp only [size_holds]; assumption))) | (with_reducible refine hh_ne (by omega) ?_))) hb
            have Rbl' : Aside (u32.ownsRow w.heap.size 47 4 (.slice a1 bl.length k1) bl.length (flatE Pc.enc bl)) := own_lower o1 (by simp; omega)
            have Rhs' : Aside (u32.ownsRow w.heap.size 36 3 (.slice a2 hs.length k2) hs.length (flatE Hd.enc hs)) := own_lower o2 (by simp; omega)
            have HB' : Aside (Below w.heap.size w u32) := below_step (by
              have hHB := HB.out
              repeat (first | (with_reducible exact Below.refl _ _) | (with_reducible assumption) | (with_reducible refine below_to_plus ?_ ?_ _) | (with_reducible refine below_holds ?_ ?_ _ _) | (with_reducible refine Below.alloc ?_ ?_ _) | (with_reducible refine Below.drew ?_) | (with_reducible refine below_drewN ?_ _) | (with_reducible refine Below.setCell ?_ ?_ _))
              all_goals first | omega | (simp; done) | (simp [go_sem]; done) | (simp [go_sem]; omega)) hb
            clear Hc Hr HB hb ck o1 o2 hb0
            have Hr := Hr'
            clear Hr'
            have Rbl := Rbl'
            clear Rbl'
            have Rhs := Rhs'
            clear Rhs'
            have HB := HB'
            clear HB'
            have ltr : w.heap.size + 1 < u32.heap.size := (Array.getElem?_eq_some_iff.1 Hr.out).1
            have nblr : (.slice a1 bl.length k1 : Value).ownBlock ≠ some (w.heap.size + 1) := own_ne Rbl.out Hr.out (by decide)
            have nhsr : (.slice a2 hs.length k2 : Value).ownBlock ≠ some (w.heap.size + 1) := own_ne Rhs.out Hr.out (by decide)
            rw [holds_self Hr.out]
            have hal : ∀ c o, (holds u32 (w.heap.size + 1) c 25).alloc o = holds (u32.alloc o) (w.heap.size + 1) c 25 := fun c o => alloc_holds ltr o
            have nr1 : ¬ u32.heap.size = w.heap.size + 1 := by omega
            have nr2 : ¬ w.heap.size + 1 = u32.heap.size := by omega
            go_wp2
            refine bodyPost_ret (v := .agg #[.int .i64 cp, .slice a1 bl.length k1, .slice a2 hs.length k2]) (by simp [results, Try.results22, go_sem, ↓IntWalk.iteOmega, *]) rfl ⟨_, _, _, _, rfl, (by repeat (first | exact Rbl.out | (with_reducible refine own_alloc ?_) | (with_reducible refine own_plus ?_) | (with_reducible refine own_holds ?_ ?_) | assumption)), (by repeat (first | exact Rhs.out | (with_reducible refine own_alloc ?_) | (with_reducible refine own_plus ?_) | (with_reducible refine own_holds ?_ ?_) | assumption)), (by
              have hHB := HB.out
              repeat (first | (with_reducible exact Below.refl _ _) | (with_reducible assumption) | (with_reducible refine below_to_plus ?_ ?_ _) | (with_reducible refine below_holds ?_ ?_ _ _) | (with_reducible refine Below.alloc ?_ ?_ _) | (with_reducible refine Below.drew ?_) | (with_reducible refine below_drewN ?_ _) | (with_reducible refine Below.setCell ?_ ?_ _))
              all_goals first | omega | (simp; done) | (simp [go_sem]; done) | (simp [go_sem]; omega))⟩
          · skip
            by_cases d6 : 1099512676352 < til
            · clear HR
              have hln : bl.length = n := Sl.lenE h1
              have hln2 : hs.length = n2 := Sl.lenE h2
              subst hln
              subst hln2
              have S1 : Aside (Sl w 4 ao bl.length c1 (bl.map Pc.enc)) := h1
              have S2 : Aside (Sl w 3 ao2 hs.length c2 (hs.map Hd.enc)) := h2
              have hb0 : Below w.heap.size w ((w.alloc (.cells #[.int .i64 cp, .slice ao bl.length c1, .slice ao2 hs.length c2] 25)).alloc (.cells #[.int .i64 0, .slice none 0 0, .slice none 0 0] 25)) := by
                repeat (first | (with_reducible exact Below.refl _ _) | (with_reducible assumption) | (with_reducible refine below_to_plus ?_ ?_ _) | (with_reducible refine below_holds ?_ ?_ _ _) | (with_reducible refine Below.alloc ?_ ?_ _) | (with_reducible refine Below.drew ?_) | (with_reducible refine below_drewN ?_ _) | (with_reducible refine Below.setCell ?_ ?_ _))
                all_goals first | omega | (simp; done) | (simp [go_sem]; done) | (simp [go_sem]; omega)
              have HB : Aside (Below w.heap.size w ((w.alloc (.cells #[.int .i64 cp, .slice ao bl.length c1, .slice ao2 hs.length c2] 25)).alloc (.cells #[.int .i64 0, .slice none 0 0, .slice none 0 0] 25))) := hb0
              have Hc : Aside (((w.alloc (.cells #[.int .i64 cp, .slice ao bl.length c1, .slice ao2 hs.length c2] 25)).alloc (.cells #[.int .i64 0, .slice none 0 0, .slice none 0 0] 25)).heap[w.heap.size]? = some (.cells #[.int .i64 cp, .slice ao bl.length c1, .slice ao2 hs.length c2] 25 (0, 0))) := by repeat (first | exact hp_new (by first | rfl | (simp; done) | (simp; omega)) | refine hp_old ?_)
              have Hr : Aside (((w.alloc (.cells #[.int .i64 cp, .slice ao bl.length c1, .slice ao2 hs.length c2] 25)).alloc (.cells #[.int .i64 0, .slice none 0 0, .slice none 0 0] 25)).heap[w.heap.size + 1]? = some (.cells #[.int .i64 0, .slice none 0 0, .slice none 0 0] 25 (0, 0))) := by repeat (first | exact hp_new (by first | rfl | (simp; done) | (simp; omega)) | refine hp_old ?_)
              have ck := copied_calls cp ao bl.length c1 ao2 hs.length c2 bl hs ((w.alloc (.cells #[.int .i64 cp, .slice ao bl.length c1, .slice ao2 hs.length c2] 25)).alloc (.cells #[.int .i64 0, .slice none 0 0, .slice none 0 0] 25)) (h1.stays hb0) (h2.stays hb0) (by omega) hn2
              clear h1 h2
              go_enter Try.func22, Try.ntmps22
              go_wp2_with fail
              refine (ck).mono ?_
              rintro e u33 ⟨a1, k1, a2, k2, rfl, o1, o2, hb⟩
              have Hr' : Aside (u33.heap[w.heap.size + 1]? = some (.cells #[.int .i64 0, .slice none 0 0, .slice none 0 0] 25 (0, 0))) := heap_later (by repeat (first | exact Hc.out | exact Hr.out | exact hp_new (by first | rfl | (simp [size_plus, size_holds]; done) | (simp [size_plus, size_holds]; omega)) | (with_reducible refine hp_old ?_) | (with_reducible refine hp_plus ?_) | (with_reducible refine hh_eq (by first | assumption | (simp only [size_holds]; assumption))) | (with_reducible refine hh_ne (by omega) ?_))) hb
              have Rbl' : Aside (u33.ownsRow w.heap.size 47 4 (.slice a1 bl.length k1) bl.length (flatE Pc.enc bl)) := own_lower o1 (by simp; omega)
              have Rhs' : Aside (u33.ownsRow w.heap.size 36 3 (.slice a2 hs.length k2) hs.length (flatE Hd.enc hs)) := own_lower o2 (by simp; omega)
              have HB' : Aside (Below w.heap.size w u33) := below_step (by
                have hHB := HB.out
                repeat (first | (with_reducible exact Below.refl _ _) | (with_reducible assumption) | (with_reducible refine below_to_plus ?_ ?_ _) | (with_reducible refine below_holds ?_ ?_ _ _) | (with_reducible refine Below.alloc ?_ ?_ _) | (with_reducible refine Below.drew ?_) | (with_reducible refine below_drewN ?_ _) | (with_reducible refine Below.setCell ?_ ?_ _))
                all_goals first | omega | (simp; done) | (simp [go_sem]; done) | (simp [go_sem]; omega)) hb
              clear Hc Hr HB hb ck o1 o2 hb0
              have Hr := Hr'
              clear Hr'
              have Rbl := Rbl'
              clear Rbl'
              have Rhs := Rhs'
              clear Rhs'
              have HB := HB'
              clear HB'
              have ltr : w.heap.size + 1 < u33.heap.size := (Array.getElem?_eq_some_iff.1 Hr.out).1
              have nblr : (.slice a1 bl.length k1 : Value).ownBlock ≠ some (w.heap.size + 1) := own_ne Rbl.out Hr.out (by decide)
              have nhsr : (.slice a2 hs.length k2 : Value).ownBlock ≠ some (w.heap.size + 1) := own_ne Rhs.out Hr.out (by decide)
              rw [holds_self Hr.out]
              have hal : ∀ c o, (holds u33 (w.heap.size + 1) c 25).alloc o = holds (u33.alloc o) (w.heap.size + 1) c 25 := fun c o => alloc_holds ltr o
              have nr1 : ¬ u33.heap.size = w.heap.size + 1 := by omega
              have nr2 : ¬ w.heap.size + 1 = u33.heap.size := by omega
              go_wp2
              refine bodyPost_ret (v := .agg #[.int .i64 cp, .slice a1 bl.length k1, .slice a2 hs.length k2]) (by simp [results, Try.results22, go_sem, ↓IntWalk.iteOmega, *]) rfl ⟨_, _, _, _, rfl, (by repeat (first | exact Rbl.out | (with_reducible refine own_alloc ?_) | (with_reducible refine own_plus ?_) | (with_reducible refine own_holds ?_ ?_) | assumption)), (by repeat (first | exact Rhs.out | (with_reducible refine own_alloc ?_) | (with_reducible refine own_plus ?_) | (with_reducible refine own_holds ?_ ?_) | assumption)), (by
                have hHB := HB.out
                repeat (first | (with_reducible exact Below.refl _ _) | (with_reducible assumption) | (with_reducible refine below_to_plus ?_ ?_ _) | (with_reducible refine below_holds ?_ ?_ _ _) | (with_reducible refine Below.alloc ?_ ?_ _) | (with_reducible refine Below.drew ?_) | (with_reducible refine below_drewN ?_ _) | (with_reducible refine Below.setCell ?_ ?_ _))
                all_goals first | omega | (simp; done) | (simp [go_sem]; done) | (simp [go_sem]; omega))⟩
            · exact absurd ⟨by omega, by omega, by omega, by omega, by omega, by omega⟩ HR.out

set_option maxHeartbeats 8000000 in
theorem hold_full (cp : Int) (ao : Option Addr) (n c1 : Nat) (ao2 : Option Addr) (n2 c2 : Nat) (bl : List Pc) (hs : List Hd) (id vers til : Int) (w : World) (h1 : Sl w 4 ao n c1 (bl.map Pc.enc)) (h2 : Sl w 3 ao2 n2 c2 (hs.map Hd.enc)) (hn : n ≤ 1000000) (hn2 : n2 ≤ 100000) (g1 : 1 ≤ id ∧ id ≤ 1099511627776) (g2 : 0 ≤ vers ∧ vers ≤ 2147483647) (g3 : 0 ≤ til ∧ til ≤ 1099512676352) (ha : AscH hs) (he : ∀ j, j < hs.length → hs[j]!.hid ≠ id) (hf : 64 ≤ n2) :
    Calls Try.prog 22 #[.agg #[.int .i64 cp, .slice ao n c1, .slice ao2 n2 c2], .int .i64 id, .int .i64 vers, .int .i64 til] w fun e w' => CopPost w cp bl (hs) e w' := by
  have x1 : ¬ id < 1 := by omega
  have x2 : ¬ 1099511627776 < id := by omega
  have x3 : ¬ vers < 0 := by omega
  have x4 : ¬ 2147483647 < vers := by omega
  have x5 : ¬ til < 0 := by omega
  have x6 : ¬ 1099512676352 < til := by omega
  clear g1 g2 g3
  have hln : bl.length = n := Sl.lenE h1
  have hln2 : hs.length = n2 := Sl.lenE h2
  subst hln
  subst hln2
  have S1 : Aside (Sl w 4 ao bl.length c1 (bl.map Pc.enc)) := h1
  have S2 : Aside (Sl w 3 ao2 hs.length c2 (hs.map Hd.enc)) := h2
  have hb0 : Below w.heap.size w ((w.alloc (.cells #[.int .i64 cp, .slice ao bl.length c1, .slice ao2 hs.length c2] 25)).alloc (.cells #[.int .i64 0, .slice none 0 0, .slice none 0 0] 25)) := by
    repeat (first | (with_reducible exact Below.refl _ _) | (with_reducible assumption) | (with_reducible refine below_to_plus ?_ ?_ _) | (with_reducible refine below_holds ?_ ?_ _ _) | (with_reducible refine Below.alloc ?_ ?_ _) | (with_reducible refine Below.drew ?_) | (with_reducible refine below_drewN ?_ _) | (with_reducible refine Below.setCell ?_ ?_ _))
    all_goals first | omega | (simp; done) | (simp [go_sem]; done) | (simp [go_sem]; omega)
  have HB : Aside (Below w.heap.size w ((w.alloc (.cells #[.int .i64 cp, .slice ao bl.length c1, .slice ao2 hs.length c2] 25)).alloc (.cells #[.int .i64 0, .slice none 0 0, .slice none 0 0] 25))) := hb0
  have Hc : Aside (((w.alloc (.cells #[.int .i64 cp, .slice ao bl.length c1, .slice ao2 hs.length c2] 25)).alloc (.cells #[.int .i64 0, .slice none 0 0, .slice none 0 0] 25)).heap[w.heap.size]? = some (.cells #[.int .i64 cp, .slice ao bl.length c1, .slice ao2 hs.length c2] 25 (0, 0))) := by repeat (first | exact hp_new (by first | rfl | (simp; done) | (simp; omega)) | refine hp_old ?_)
  have Hr : Aside (((w.alloc (.cells #[.int .i64 cp, .slice ao bl.length c1, .slice ao2 hs.length c2] 25)).alloc (.cells #[.int .i64 0, .slice none 0 0, .slice none 0 0] 25)).heap[w.heap.size + 1]? = some (.cells #[.int .i64 0, .slice none 0 0, .slice none 0 0] 25 (0, 0))) := by repeat (first | exact hp_new (by first | rfl | (simp; done) | (simp; omega)) | refine hp_old ?_)
  have ck := copied_calls cp ao bl.length c1 ao2 hs.length c2 bl hs ((w.alloc (.cells #[.int .i64 cp, .slice ao bl.length c1, .slice ao2 hs.length c2] 25)).alloc (.cells #[.int .i64 0, .slice none 0 0, .slice none 0 0] 25)) (h1.stays hb0) (h2.stays hb0) hn (by omega)
  have ch := fun U hU => hold_miss cp ao bl.length c1 ao2 hs.length c2 hs id U (S2.out.stays hU) (by omega) ha he
  have hps : posH id hs ≤ hs.length := posE_le _ _
  generalize posH id hs = ps at ch
  have hfz : ¬ (hs.length : Int) < 64 := by omega
  clear h1 h2 ha he hps hf
  go_enter Try.func22, Try.ntmps22
  go_wp2_with fail
  refine (ck).mono ?_
  rintro e u34 ⟨a1, k1, a2, k2, rfl, o1, o2, hb⟩
  have Hc' : Aside (u34.heap[w.heap.size]? = some (.cells #[.int .i64 cp, .slice ao bl.length c1, .slice ao2 hs.length c2] 25 (0, 0))) := heap_later (by repeat (first | exact Hc.out | exact Hr.out | exact hp_new (by first | rfl | (simp [size_plus, size_holds]; done) | (simp [size_plus, size_holds]; omega)) | (with_reducible refine hp_old ?_) | (with_reducible refine hp_plus ?_) | (with_reducible refine hh_eq (by first | assumption | (simp only [size_holds]; assumption))) | (with_reducible refine hh_ne (by omega) ?_))) hb
  have Hr' : Aside (u34.heap[w.heap.size + 1]? = some (.cells #[.int .i64 0, .slice none 0 0, .slice none 0 0] 25 (0, 0))) := heap_later (by repeat (first | exact Hc.out | exact Hr.out | exact hp_new (by first | rfl | (simp [size_plus, size_holds]; done) | (simp [size_plus, size_holds]; omega)) | (with_reducible refine hp_old ?_) | (with_reducible refine hp_plus ?_) | (with_reducible refine hh_eq (by first | assumption | (simp only [size_holds]; assumption))) | (with_reducible refine hh_ne (by omega) ?_))) hb
  have Rbl' : Aside (u34.ownsRow w.heap.size 47 4 (.slice a1 bl.length k1) bl.length (flatE Pc.enc bl)) := own_lower o1 (by simp; omega)
  have Rhs' : Aside (u34.ownsRow w.heap.size 36 3 (.slice a2 hs.length k2) hs.length (flatE Hd.enc hs)) := own_lower o2 (by simp; omega)
  have HB' : Aside (Below w.heap.size w u34) := below_step (by
    have hHB := HB.out
    repeat (first | (with_reducible exact Below.refl _ _) | (with_reducible assumption) | (with_reducible refine below_to_plus ?_ ?_ _) | (with_reducible refine below_holds ?_ ?_ _ _) | (with_reducible refine Below.alloc ?_ ?_ _) | (with_reducible refine Below.drew ?_) | (with_reducible refine below_drewN ?_ _) | (with_reducible refine Below.setCell ?_ ?_ _))
    all_goals first | omega | (simp; done) | (simp [go_sem]; done) | (simp [go_sem]; omega)) hb
  clear Hc Hr HB hb ck o1 o2 hb0
  have Hc := Hc'
  clear Hc'
  have Hr := Hr'
  clear Hr'
  have Rbl := Rbl'
  clear Rbl'
  have Rhs := Rhs'
  clear Rhs'
  have HB := HB'
  clear HB'
  have hltb : ∀ j, (Value.slice a1 bl.length k1).ownBlock = some j → j < u34.heap.size := fun j hj => (Rbl.out.lt j hj).2
  have bc0 := cell_heap Hc.out 0 _ rfl
  have bc1 := cell_heap Hc.out 1 _ rfl
  have bc2 := cell_heap Hc.out 2 _ rfl
  have ltc : w.heap.size < u34.heap.size := (Array.getElem?_eq_some_iff.1 Hc.out).1
  have oob : w.heap.size + 1 < u34.heap.size := by
    first | exact (Array.getElem?_eq_some_iff.1 Hr.out).1 | omega
  have Ho' : Aside ((u34.alloc (.cells #[.int .i64 cp, .slice a1 bl.length k1, .slice a2 hs.length k2] 25)).heap[u34.heap.size]? = some (.cells #[.int .i64 cp, .slice a1 bl.length k1, .slice a2 hs.length k2] 25 (0, 0))) := hp_new rfl
  have Hc' : Aside ((u34.alloc (.cells #[.int .i64 cp, .slice a1 bl.length k1, .slice a2 hs.length k2] 25)).heap[w.heap.size]? = some (.cells #[.int .i64 cp, .slice ao bl.length c1, .slice ao2 hs.length c2] 25 (0, 0))) := hp_old Hc.out
  have Hr' : Aside ((u34.alloc (.cells #[.int .i64 cp, .slice a1 bl.length k1, .slice a2 hs.length k2] 25)).heap[w.heap.size + 1]? = some (.cells #[.int .i64 0, .slice none 0 0, .slice none 0 0] 25 (0, 0))) := hp_old Hr.out
  have Rbl' : Aside ((u34.alloc (.cells #[.int .i64 cp, .slice a1 bl.length k1, .slice a2 hs.length k2] 25)).ownsRow w.heap.size 47 4 (.slice a1 bl.length k1) bl.length (flatE Pc.enc bl)) := own_alloc Rbl.out
  have Rhs' : Aside ((u34.alloc (.cells #[.int .i64 cp, .slice a1 bl.length k1, .slice a2 hs.length k2] 25)).ownsRow w.heap.size 36 3 (.slice a2 hs.length k2) hs.length (flatE Hd.enc hs)) := own_alloc Rhs.out
  have HB' : Aside (Below w.heap.size w (u34.alloc (.cells #[.int .i64 cp, .slice a1 bl.length k1, .slice a2 hs.length k2] 25))) := HB.out.alloc HB.out.size _
  clear Hc Hr Rbl Rhs HB
  go_wp2_with fail
  obtain ⟨ob, eob⟩ : ∃ b, u34.heap.size = b := ⟨_, rfl⟩
  generalize (u34.alloc (.cells #[.int .i64 cp, .slice a1 bl.length k1, .slice a2 hs.length k2] 25)) = u35 at Hc' Hr' Rbl' Rhs' HB' Ho' ⊢
  rw [eob] at Ho' oob ⊢
  have Hc := Hc'
  clear Hc'
  have Hr := Hr'
  clear Hr'
  have Ho := Ho'
  clear Ho'
  have Rbl := Rbl'
  clear Rbl'
  have Rhs := Rhs'
  clear Rhs'
  have HB := HB'
  clear HB'
  clear bc0 bc1 bc2 ltc
  refine (ch _ HB.out).mono ?_
  rintro e u36 ⟨rfl, hb⟩
  have Hc' : Aside (u36.heap[w.heap.size]? = some (.cells #[.int .i64 cp, .slice ao bl.length c1, .slice ao2 hs.length c2] 25 (0, 0))) := heap_later (by repeat (first | exact Hc.out | exact Hr.out | exact Ho.out | exact hp_new (by first | rfl | (simp [size_plus, size_holds]; done) | (simp [size_plus, size_holds]; omega)) | (with_reducible refine hp_old ?_) | (with_reducible refine hp_plus ?_) | (with_reducible refine hh_eq (by first | assumption | (simp only [size_holds]; assumption))) | (with_reducible refine hh_ne (by omega) ?_))) hb
  have Hr' : Aside (u36.heap[w.heap.size + 1]? = some (.cells #[.int .i64 0, .slice none 0 0, .slice none 0 0] 25 (0, 0))) := heap_later (by repeat (first | exact Hc.out | exact Hr.out | exact Ho.out | exact hp_new (by first | rfl | (simp [size_plus, size_holds]; done) | (simp [size_plus, size_holds]; omega)) | (with_reducible refine hp_old ?_) | (with_reducible refine hp_plus ?_) | (with_reducible refine hh_eq (by first | assumption | (simp only [size_holds]; assumption))) | (with_reducible refine hh_ne (by omega) ?_))) hb
  have Ho' : Aside (u36.heap[ob]? = some (.cells #[.int .i64 cp, .slice a1 bl.length k1, .slice a2 hs.length k2] 25 (0, 0))) := heap_later (by repeat (first | exact Hc.out | exact Hr.out | exact Ho.out | exact hp_new (by first | rfl | (simp [size_plus, size_holds]; done) | (simp [size_plus, size_holds]; omega)) | (with_reducible refine hp_old ?_) | (with_reducible refine hp_plus ?_) | (with_reducible refine hh_eq (by first | assumption | (simp only [size_holds]; assumption))) | (with_reducible refine hh_ne (by omega) ?_))) hb
  have Rbl' : Aside (u36.ownsRow w.heap.size 47 4 (.slice a1 bl.length k1) bl.length (flatE Pc.enc bl)) := own_from (by repeat (first | exact Rbl.out | (with_reducible refine own_alloc ?_) | (with_reducible refine own_plus ?_) | (with_reducible refine own_holds ?_ ?_) | assumption)) hb
  have Rhs' : Aside (u36.ownsRow w.heap.size 36 3 (.slice a2 hs.length k2) hs.length (flatE Hd.enc hs)) := own_from (by repeat (first | exact Rhs.out | (with_reducible refine own_alloc ?_) | (with_reducible refine own_plus ?_) | (with_reducible refine own_holds ?_ ?_) | assumption)) hb
  have HB' : Aside (Below w.heap.size w u36) := below_step (by
    have hHB := HB.out
    repeat (first | (with_reducible exact Below.refl _ _) | (with_reducible assumption) | (with_reducible refine below_to_plus ?_ ?_ _) | (with_reducible refine below_holds ?_ ?_ _ _) | (with_reducible refine Below.alloc ?_ ?_ _) | (with_reducible refine Below.drew ?_) | (with_reducible refine below_drewN ?_ _) | (with_reducible refine Below.setCell ?_ ?_ _))
    all_goals first | omega | (simp; done) | (simp [go_sem]; done) | (simp [go_sem]; omega)) hb
  clear Hc Hr Ho Rbl Rhs HB hb ch hltb
  have Hc := Hc'
  clear Hc'
  have Hr := Hr'
  clear Hr'
  have Ho := Ho'
  clear Ho'
  have Rbl := Rbl'
  clear Rbl'
  have Rhs := Rhs'
  clear Rhs'
  have HB := HB'
  clear HB'
  have ltc : w.heap.size < u36.heap.size := (Array.getElem?_eq_some_iff.1 Hc.out).1
  have bc0 := cell_heap Hc.out 0 _ rfl
  have bc1 := cell_heap Hc.out 1 _ rfl
  have bc2 := cell_heap Hc.out 2 _ rfl
  have ltr : w.heap.size + 1 < u36.heap.size := (Array.getElem?_eq_some_iff.1 Hr.out).1
  have lto : ob < u36.heap.size := (Array.getElem?_eq_some_iff.1 Ho.out).1
  have bo0 := cell_heap Ho.out 0 _ rfl
  have bo1 := cell_heap Ho.out 1 _ rfl
  have bo2 := cell_heap Ho.out 2 _ rfl
  have necr : ¬ w.heap.size = w.heap.size + 1 := by omega
  have nerc : ¬ w.heap.size + 1 = w.heap.size := by omega
  have neco : ¬ w.heap.size = ob := by omega
  have neoc : ¬ ob = w.heap.size := by omega
  have nero : ¬ w.heap.size + 1 = ob := by omega
  have neor : ¬ ob = w.heap.size + 1 := by omega
  have nblc : (.slice a1 bl.length k1 : Value).ownBlock ≠ some w.heap.size := own_ne Rbl.out Hc.out (by decide)
  have nblr : (.slice a1 bl.length k1 : Value).ownBlock ≠ some (w.heap.size + 1) := own_ne Rbl.out Hr.out (by decide)
  have nblo : (.slice a1 bl.length k1 : Value).ownBlock ≠ some ob := own_ne Rbl.out Ho.out (by decide)
  have nhsc : (.slice a2 hs.length k2 : Value).ownBlock ≠ some w.heap.size := own_ne Rhs.out Hc.out (by decide)
  have nhsr : (.slice a2 hs.length k2 : Value).ownBlock ≠ some (w.heap.size + 1) := own_ne Rhs.out Hr.out (by decide)
  have nhso : (.slice a2 hs.length k2 : Value).ownBlock ≠ some ob := own_ne Rhs.out Ho.out (by decide)
  rw [holds_self Hr.out]
  go_wp2
  refine bodyPost_ret (v := .agg #[.int .i64 cp, .slice a1 bl.length k1, .slice a2 hs.length k2]) (by simp [results, Try.results22, go_sem, ↓IntWalk.iteOmega, *]) rfl ⟨_, _, _, _, rfl, (by repeat (first | exact Rbl.out | (with_reducible refine own_alloc ?_) | (with_reducible refine own_plus ?_) | (with_reducible refine own_holds ?_ ?_) | assumption)), (by repeat (first | exact Rhs.out | (with_reducible refine own_alloc ?_) | (with_reducible refine own_plus ?_) | (with_reducible refine own_holds ?_ ?_) | assumption)), (by
    have hHB := HB.out
    repeat (first | (with_reducible exact Below.refl _ _) | (with_reducible assumption) | (with_reducible refine below_to_plus ?_ ?_ _) | (with_reducible refine below_holds ?_ ?_ _ _) | (with_reducible refine Below.alloc ?_ ?_ _) | (with_reducible refine Below.drew ?_) | (with_reducible refine below_drewN ?_ _) | (with_reducible refine Below.setCell ?_ ?_ _))
    all_goals first | omega | (simp; done) | (simp [go_sem]; done) | (simp [go_sem]; omega))⟩

set_option maxHeartbeats 8000000 in
theorem hold_insert (cp : Int) (ao : Option Addr) (n c1 : Nat) (ao2 : Option Addr) (n2 c2 : Nat) (bl : List Pc) (hs : List Hd) (id vers til : Int) (w : World) (h1 : Sl w 4 ao n c1 (bl.map Pc.enc)) (h2 : Sl w 3 ao2 n2 c2 (hs.map Hd.enc)) (hn : n ≤ 1000000) (hn2 : n2 ≤ 100000) (g1 : 1 ≤ id ∧ id ≤ 1099511627776) (g2 : 0 ≤ vers ∧ vers ≤ 2147483647) (g3 : 0 ≤ til ∧ til ≤ 1099512676352) (ha : AscH hs) (he : ∀ j, j < hs.length → hs[j]!.hid ≠ id) (hf : n2 < 64) :
    Calls Try.prog 22 #[.agg #[.int .i64 cp, .slice ao n c1, .slice ao2 n2 c2], .int .i64 id, .int .i64 vers, .int .i64 til] w fun e w' => CopPost w cp bl (hs.take (posH id hs) ++ (⟨id, vers, til⟩ : Hd) :: hs.drop (posH id hs)) e w' := by
  have x1 : ¬ id < 1 := by omega
  have x2 : ¬ 1099511627776 < id := by omega
  have x3 : ¬ vers < 0 := by omega
  have x4 : ¬ 2147483647 < vers := by omega
  have x5 : ¬ til < 0 := by omega
  have x6 : ¬ 1099512676352 < til := by omega
  clear g1 g2 g3
  have hln : bl.length = n := Sl.lenE h1
  have hln2 : hs.length = n2 := Sl.lenE h2
  subst hln
  subst hln2
  have S1 : Aside (Sl w 4 ao bl.length c1 (bl.map Pc.enc)) := h1
  have S2 : Aside (Sl w 3 ao2 hs.length c2 (hs.map Hd.enc)) := h2
  have hb0 : Below w.heap.size w ((w.alloc (.cells #[.int .i64 cp, .slice ao bl.length c1, .slice ao2 hs.length c2] 25)).alloc (.cells #[.int .i64 0, .slice none 0 0, .slice none 0 0] 25)) := by
    repeat (first | (with_reducible exact Below.refl _ _) | (with_reducible assumption) | (with_reducible refine below_to_plus ?_ ?_ _) | (with_reducible refine below_holds ?_ ?_ _ _) | (with_reducible refine Below.alloc ?_ ?_ _) | (with_reducible refine Below.drew ?_) | (with_reducible refine below_drewN ?_ _) | (with_reducible refine Below.setCell ?_ ?_ _))
    all_goals first | omega | (simp; done) | (simp [go_sem]; done) | (simp [go_sem]; omega)
  have HB : Aside (Below w.heap.size w ((w.alloc (.cells #[.int .i64 cp, .slice ao bl.length c1, .slice ao2 hs.length c2] 25)).alloc (.cells #[.int .i64 0, .slice none 0 0, .slice none 0 0] 25))) := hb0
  have Hc : Aside (((w.alloc (.cells #[.int .i64 cp, .slice ao bl.length c1, .slice ao2 hs.length c2] 25)).alloc (.cells #[.int .i64 0, .slice none 0 0, .slice none 0 0] 25)).heap[w.heap.size]? = some (.cells #[.int .i64 cp, .slice ao bl.length c1, .slice ao2 hs.length c2] 25 (0, 0))) := by repeat (first | exact hp_new (by first | rfl | (simp; done) | (simp; omega)) | refine hp_old ?_)
  have Hr : Aside (((w.alloc (.cells #[.int .i64 cp, .slice ao bl.length c1, .slice ao2 hs.length c2] 25)).alloc (.cells #[.int .i64 0, .slice none 0 0, .slice none 0 0] 25)).heap[w.heap.size + 1]? = some (.cells #[.int .i64 0, .slice none 0 0, .slice none 0 0] 25 (0, 0))) := by repeat (first | exact hp_new (by first | rfl | (simp; done) | (simp; omega)) | refine hp_old ?_)
  have ck := copied_calls cp ao bl.length c1 ao2 hs.length c2 bl hs ((w.alloc (.cells #[.int .i64 cp, .slice ao bl.length c1, .slice ao2 hs.length c2] 25)).alloc (.cells #[.int .i64 0, .slice none 0 0, .slice none 0 0] 25)) (h1.stays hb0) (h2.stays hb0) hn (by omega)
  have ch := fun U hU => hold_miss cp ao bl.length c1 ao2 hs.length c2 hs id U (S2.out.stays hU) (by omega) ha he
  have hps : posH id hs ≤ hs.length := posE_le _ _
  have hfz : (hs.length : Int) < 64 := by omega
  obtain ⟨il, hil⟩ : ∃ il, hs.take (posH id hs) ++ (⟨id, vers, til⟩ : Hd) :: hs.drop (posH id hs) = il := ⟨_, rfl⟩
  have IL : Aside (hs.take (posH id hs) ++ (⟨id, vers, til⟩ : Hd) :: hs.drop (posH id hs) = il) := hil
  have IN : Aside (il.length = hs.length + 1) := by show _ = _; rw [← hil]; simp; omega
  rw [hil]
  clear hil
  generalize posH id hs = ps at ch hps IL
  have hpz : (ps : Int) ≤ (hs.length : Int) := by omega
  clear h1 h2 ha he
  go_enter Try.func22, Try.ntmps22
  go_wp2_with fail
  refine (ck).mono ?_
  rintro e u37 ⟨a1, k1, a2, k2, rfl, o1, o2, hb⟩
  have Hc' : Aside (u37.heap[w.heap.size]? = some (.cells #[.int .i64 cp, .slice ao bl.length c1, .slice ao2 hs.length c2] 25 (0, 0))) := heap_later (by repeat (first | exact Hc.out | exact Hr.out | exact hp_new (by first | rfl | (simp [size_plus, size_holds]; done) | (simp [size_plus, size_holds]; omega)) | (with_reducible refine hp_old ?_) | (with_reducible refine hp_plus ?_) | (with_reducible refine hh_eq (by first | assumption | (simp only [size_holds]; assumption))) | (with_reducible refine hh_ne (by omega) ?_))) hb
  have Hr' : Aside (u37.heap[w.heap.size + 1]? = some (.cells #[.int .i64 0, .slice none 0 0, .slice none 0 0] 25 (0, 0))) := heap_later (by repeat (first | exact Hc.out | exact Hr.out | exact hp_new (by first | rfl | (simp [size_plus, size_holds]; done) | (simp [size_plus, size_holds]; omega)) | (with_reducible refine hp_old ?_) | (with_reducible refine hp_plus ?_) | (with_reducible refine hh_eq (by first | assumption | (simp only [size_holds]; assumption))) | (with_reducible refine hh_ne (by omega) ?_))) hb
  have Rbl' : Aside (u37.ownsRow w.heap.size 47 4 (.slice a1 bl.length k1) bl.length (flatE Pc.enc bl)) := own_lower o1 (by simp; omega)
  have Rhs' : Aside (u37.ownsRow w.heap.size 36 3 (.slice a2 hs.length k2) hs.length (flatE Hd.enc hs)) := own_lower o2 (by simp; omega)
  have HB' : Aside (Below w.heap.size w u37) := below_step (by
    have hHB := HB.out
    repeat (first | (with_reducible exact Below.refl _ _) | (with_reducible assumption) | (with_reducible refine below_to_plus ?_ ?_ _) | (with_reducible refine below_holds ?_ ?_ _ _) | (with_reducible refine Below.alloc ?_ ?_ _) | (with_reducible refine Below.drew ?_) | (with_reducible refine below_drewN ?_ _) | (with_reducible refine Below.setCell ?_ ?_ _))
    all_goals first | omega | (simp; done) | (simp [go_sem]; done) | (simp [go_sem]; omega)) hb
  clear Hc Hr HB hb ck o1 o2 hb0
  have Hc := Hc'
  clear Hc'
  have Hr := Hr'
  clear Hr'
  have Rbl := Rbl'
  clear Rbl'
  have Rhs := Rhs'
  clear Rhs'
  have HB := HB'
  clear HB'
  have hltb : ∀ j, (Value.slice a2 hs.length k2).ownBlock = some j → j < u37.heap.size := fun j hj => (Rhs.out.lt j hj).2
  have bc0 := cell_heap Hc.out 0 _ rfl
  have bc1 := cell_heap Hc.out 1 _ rfl
  have bc2 := cell_heap Hc.out 2 _ rfl
  have ltc : w.heap.size < u37.heap.size := (Array.getElem?_eq_some_iff.1 Hc.out).1
  have oob : w.heap.size + 1 < u37.heap.size := by
    first | exact (Array.getElem?_eq_some_iff.1 Hr.out).1 | omega
  have Ho' : Aside ((u37.alloc (.cells #[.int .i64 cp, .slice a1 bl.length k1, .slice a2 hs.length k2] 25)).heap[u37.heap.size]? = some (.cells #[.int .i64 cp, .slice a1 bl.length k1, .slice a2 hs.length k2] 25 (0, 0))) := hp_new rfl
  have Hc' : Aside ((u37.alloc (.cells #[.int .i64 cp, .slice a1 bl.length k1, .slice a2 hs.length k2] 25)).heap[w.heap.size]? = some (.cells #[.int .i64 cp, .slice ao bl.length c1, .slice ao2 hs.length c2] 25 (0, 0))) := hp_old Hc.out
  have Hr' : Aside ((u37.alloc (.cells #[.int .i64 cp, .slice a1 bl.length k1, .slice a2 hs.length k2] 25)).heap[w.heap.size + 1]? = some (.cells #[.int .i64 0, .slice none 0 0, .slice none 0 0] 25 (0, 0))) := hp_old Hr.out
  have Rbl' : Aside ((u37.alloc (.cells #[.int .i64 cp, .slice a1 bl.length k1, .slice a2 hs.length k2] 25)).ownsRow w.heap.size 47 4 (.slice a1 bl.length k1) bl.length (flatE Pc.enc bl)) := own_alloc Rbl.out
  have Rhs' : Aside ((u37.alloc (.cells #[.int .i64 cp, .slice a1 bl.length k1, .slice a2 hs.length k2] 25)).ownsRow w.heap.size 36 3 (.slice a2 hs.length k2) hs.length (flatE Hd.enc hs)) := own_alloc Rhs.out
  have HB' : Aside (Below w.heap.size w (u37.alloc (.cells #[.int .i64 cp, .slice a1 bl.length k1, .slice a2 hs.length k2] 25))) := HB.out.alloc HB.out.size _
  clear Hc Hr Rbl Rhs HB
  go_wp2_with fail
  obtain ⟨ob, eob⟩ : ∃ b, u37.heap.size = b := ⟨_, rfl⟩
  generalize (u37.alloc (.cells #[.int .i64 cp, .slice a1 bl.length k1, .slice a2 hs.length k2] 25)) = u38 at Hc' Hr' Rbl' Rhs' HB' Ho' ⊢
  rw [eob] at Ho' oob ⊢
  have Hc := Hc'
  clear Hc'
  have Hr := Hr'
  clear Hr'
  have Ho := Ho'
  clear Ho'
  have Rbl := Rbl'
  clear Rbl'
  have Rhs := Rhs'
  clear Rhs'
  have HB := HB'
  clear HB'
  clear bc0 bc1 bc2 ltc
  refine (ch _ HB.out).mono ?_
  rintro e u39 ⟨rfl, hb⟩
  have Hc' : Aside (u39.heap[w.heap.size]? = some (.cells #[.int .i64 cp, .slice ao bl.length c1, .slice ao2 hs.length c2] 25 (0, 0))) := heap_later (by repeat (first | exact Hc.out | exact Hr.out | exact Ho.out | exact hp_new (by first | rfl | (simp [size_plus, size_holds]; done) | (simp [size_plus, size_holds]; omega)) | (with_reducible refine hp_old ?_) | (with_reducible refine hp_plus ?_) | (with_reducible refine hh_eq (by first | assumption | (simp only [size_holds]; assumption))) | (with_reducible refine hh_ne (by omega) ?_))) hb
  have Hr' : Aside (u39.heap[w.heap.size + 1]? = some (.cells #[.int .i64 0, .slice none 0 0, .slice none 0 0] 25 (0, 0))) := heap_later (by repeat (first | exact Hc.out | exact Hr.out | exact Ho.out | exact hp_new (by first | rfl | (simp [size_plus, size_holds]; done) | (simp [size_plus, size_holds]; omega)) | (with_reducible refine hp_old ?_) | (with_reducible refine hp_plus ?_) | (with_reducible refine hh_eq (by first | assumption | (simp only [size_holds]; assumption))) | (with_reducible refine hh_ne (by omega) ?_))) hb
  have Ho' : Aside (u39.heap[ob]? = some (.cells #[.int .i64 cp, .slice a1 bl.length k1, .slice a2 hs.length k2] 25 (0, 0))) := heap_later (by repeat (first | exact Hc.out | exact Hr.out | exact Ho.out | exact hp_new (by first | rfl | (simp [size_plus, size_holds]; done) | (simp [size_plus, size_holds]; omega)) | (with_reducible refine hp_old ?_) | (with_reducible refine hp_plus ?_) | (with_reducible refine hh_eq (by first | assumption | (simp only [size_holds]; assumption))) | (with_reducible refine hh_ne (by omega) ?_))) hb
  have Rbl' : Aside (u39.ownsRow w.heap.size 47 4 (.slice a1 bl.length k1) bl.length (flatE Pc.enc bl)) := own_from (by repeat (first | exact Rbl.out | (with_reducible refine own_alloc ?_) | (with_reducible refine own_plus ?_) | (with_reducible refine own_holds ?_ ?_) | assumption)) hb
  have Rhs' : Aside (u39.ownsRow w.heap.size 36 3 (.slice a2 hs.length k2) hs.length (flatE Hd.enc hs)) := own_from (by repeat (first | exact Rhs.out | (with_reducible refine own_alloc ?_) | (with_reducible refine own_plus ?_) | (with_reducible refine own_holds ?_ ?_) | assumption)) hb
  have HB' : Aside (Below w.heap.size w u39) := below_step (by
    have hHB := HB.out
    repeat (first | (with_reducible exact Below.refl _ _) | (with_reducible assumption) | (with_reducible refine below_to_plus ?_ ?_ _) | (with_reducible refine below_holds ?_ ?_ _ _) | (with_reducible refine Below.alloc ?_ ?_ _) | (with_reducible refine Below.drew ?_) | (with_reducible refine below_drewN ?_ _) | (with_reducible refine Below.setCell ?_ ?_ _))
    all_goals first | omega | (simp; done) | (simp [go_sem]; done) | (simp [go_sem]; omega)) hb
  clear Hc Hr Ho Rbl Rhs HB hb ch
  have Hc := Hc'
  clear Hc'
  have Hr := Hr'
  clear Hr'
  have Ho := Ho'
  clear Ho'
  have Rbl := Rbl'
  clear Rbl'
  have Rhs := Rhs'
  clear Rhs'
  have HB := HB'
  clear HB'
  have bc0 := cell_heap Hc.out 0 _ rfl
  have bc1 := cell_heap Hc.out 1 _ rfl
  have bc2 := cell_heap Hc.out 2 _ rfl
  have ltc : w.heap.size < u39.heap.size := (Array.getElem?_eq_some_iff.1 Hc.out).1
  have bo0 := cell_heap Ho.out 0 _ rfl
  have bo1 := cell_heap Ho.out 1 _ rfl
  have bo2 := cell_heap Ho.out 2 _ rfl
  have lto : ob < u39.heap.size := (Array.getElem?_eq_some_iff.1 Ho.out).1
  have okb : ob < u39.heap.size := by
    first | exact (Array.getElem?_eq_some_iff.1 Ho.out).1 | omega
  have Hh' : Aside (((u39.alloc (.cells #[.int .i64 id, .int .i64 vers, .int .i64 til] 36)).alloc (.cells #[.int .i64 id, .int .i64 vers, .int .i64 til] 36)).heap[u39.heap.size]? = some (.cells #[.int .i64 id, .int .i64 vers, .int .i64 til] 36 (0, 0))) := hp_old (hp_new (by simp))
  have Hv' : Aside (((u39.alloc (.cells #[.int .i64 id, .int .i64 vers, .int .i64 til] 36)).alloc (.cells #[.int .i64 id, .int .i64 vers, .int .i64 til] 36)).heap[u39.heap.size + 1]? = some (.cells #[.int .i64 id, .int .i64 vers, .int .i64 til] 36 (0, 0))) := hp_new (by simp)
  have Hc' : Aside (((u39.alloc (.cells #[.int .i64 id, .int .i64 vers, .int .i64 til] 36)).alloc (.cells #[.int .i64 id, .int .i64 vers, .int .i64 til] 36)).heap[w.heap.size]? = some (.cells #[.int .i64 cp, .slice ao bl.length c1, .slice ao2 hs.length c2] 25 (0, 0))) := hp_old (hp_old (Hc.out))
  have Hr' : Aside (((u39.alloc (.cells #[.int .i64 id, .int .i64 vers, .int .i64 til] 36)).alloc (.cells #[.int .i64 id, .int .i64 vers, .int .i64 til] 36)).heap[w.heap.size + 1]? = some (.cells #[.int .i64 0, .slice none 0 0, .slice none 0 0] 25 (0, 0))) := hp_old (hp_old (Hr.out))
  have Ho' : Aside (((u39.alloc (.cells #[.int .i64 id, .int .i64 vers, .int .i64 til] 36)).alloc (.cells #[.int .i64 id, .int .i64 vers, .int .i64 til] 36)).heap[ob]? = some (.cells #[.int .i64 cp, .slice a1 bl.length k1, .slice a2 hs.length k2] 25 (0, 0))) := hp_old (hp_old (Ho.out))
  have Rbl' : Aside (((u39.alloc (.cells #[.int .i64 id, .int .i64 vers, .int .i64 til] 36)).alloc (.cells #[.int .i64 id, .int .i64 vers, .int .i64 til] 36)).ownsRow w.heap.size 47 4 (.slice a1 bl.length k1) bl.length (flatE Pc.enc bl)) := own_alloc (own_alloc (Rbl.out))
  have Rhs' : Aside (((u39.alloc (.cells #[.int .i64 id, .int .i64 vers, .int .i64 til] 36)).alloc (.cells #[.int .i64 id, .int .i64 vers, .int .i64 til] 36)).ownsRow w.heap.size 36 3 (.slice a2 hs.length k2) hs.length (flatE Hd.enc hs)) := own_alloc (own_alloc (Rhs.out))
  have HB' : Aside (Below w.heap.size w ((u39.alloc (.cells #[.int .i64 id, .int .i64 vers, .int .i64 til] 36)).alloc (.cells #[.int .i64 id, .int .i64 vers, .int .i64 til] 36))) := by
    show Below _ _ _
    have hHB := HB.out
    have hsz := HB.out.size
    repeat (first | (with_reducible exact Below.refl _ _) | (with_reducible assumption) | (with_reducible refine below_to_plus ?_ ?_ _) | (with_reducible refine below_holds ?_ ?_ _ _) | (with_reducible refine Below.alloc ?_ ?_ _) | (with_reducible refine Below.drew ?_) | (with_reducible refine below_drewN ?_ _) | (with_reducible refine Below.setCell ?_ ?_ _))
    all_goals first | omega | (simp; done) | (simp [go_sem]; done) | (simp [go_sem]; omega)
  clear Hc Hr Ho Rbl Rhs HB
  go_wp2_with fail
  generalize ((u39.alloc (.cells #[.int .i64 id, .int .i64 vers, .int .i64 til] 36)).alloc (.cells #[.int .i64 id, .int .i64 vers, .int .i64 til] 36)) = u40 at Hc' Hr' Ho' Rbl' Rhs' HB' Hh' Hv' ⊢
  obtain ⟨vb, evb⟩ : ∃ b, u39.heap.size + 1 = b := ⟨_, rfl⟩
  rw [evb] at Hv' ⊢
  obtain ⟨kb, ekb⟩ : ∃ b, u39.heap.size = b := ⟨_, rfl⟩
  rw [ekb] at Hh' okb ⊢
  have ovb : kb < vb := by omega
  have Hc := Hc'
  clear Hc'
  have Hr := Hr'
  clear Hr'
  have Ho := Ho'
  clear Ho'
  have Hh := Hh'
  clear Hh'
  have Hv := Hv'
  clear Hv'
  have Rbl := Rbl'
  clear Rbl'
  have Rhs := Rhs'
  clear Rhs'
  have HB := HB'
  clear HB'
  clear bc0 bc1 bc2 bo0 bo1 bo2 ltc lto
  have nv : (Value.slice a2 hs.length k2).ownBlock ≠ some vb := fun e => by
    have := hltb _ e
    omega
  have hg0 : ∀ j, (Value.slice a2 hs.length k2).ownBlock = some j → w.heap.size ≤ j := fun j hj => (Rhs.out.lt j hj).1
  have nh := own_ne_own Rbl.out Rhs.out (by decide)
  have nhsc : (.slice a2 hs.length k2 : Value).ownBlock ≠ some w.heap.size := own_ne Rhs.out Hc.out (by decide)
  have nhsr : (.slice a2 hs.length k2 : Value).ownBlock ≠ some (w.heap.size + 1) := own_ne Rhs.out Hr.out (by decide)
  have nhso : (.slice a2 hs.length k2 : Value).ownBlock ≠ some ob := own_ne Rhs.out Ho.out (by decide)
  refine (hdInsert_calls (.slice a2 hs.length k2) hs.length ps vb w.heap.size (flatE Hd.enc hs) (Hd.enc (⟨id, vers, til⟩ : Hd)) 36 _ Rhs.out hps (by omega) rfl (flatE_cells hd_one hs) (hd_one _) Hv.out nv HB.out.size).mono ?_
  rintro e u41 ⟨v', rfl, o1, hg⟩
  have Hr' : Aside (u41.heap[w.heap.size + 1]? = some (.cells #[.int .i64 0, .slice none 0 0, .slice none 0 0] 25 (0, 0))) := heap_grown hg (by repeat (first | exact Hc.out | exact Hr.out | exact Ho.out | exact Hh.out | exact Hv.out | exact hp_new (by first | rfl | (simp [size_plus, size_holds]; done) | (simp [size_plus, size_holds]; omega)) | (with_reducible refine hp_old ?_) | (with_reducible refine hp_plus ?_) | (with_reducible refine hh_eq (by first | assumption | (simp only [size_holds]; assumption))) | (with_reducible refine hh_ne (by omega) ?_))) (by assumption)
  have Ho' : Aside (u41.heap[ob]? = some (.cells #[.int .i64 cp, .slice a1 bl.length k1, .slice a2 hs.length k2] 25 (0, 0))) := heap_grown hg (by repeat (first | exact Hc.out | exact Hr.out | exact Ho.out | exact Hh.out | exact Hv.out | exact hp_new (by first | rfl | (simp [size_plus, size_holds]; done) | (simp [size_plus, size_holds]; omega)) | (with_reducible refine hp_old ?_) | (with_reducible refine hp_plus ?_) | (with_reducible refine hh_eq (by first | assumption | (simp only [size_holds]; assumption))) | (with_reducible refine hh_ne (by omega) ?_))) (by assumption)
  have Rbl' : Aside (u41.ownsRow w.heap.size 47 4 (.slice a1 bl.length k1) bl.length (flatE Pc.enc bl)) := World.ownsRow.kept (by repeat (first | exact Rbl.out | (with_reducible refine own_alloc ?_) | (with_reducible refine own_plus ?_) | (with_reducible refine own_holds ?_ ?_) | assumption)) hg (by assumption)
  have Rhs' : Aside (u41.ownsRow w.heap.size 36 3 (v') il.length (flatE Hd.enc il)) := by
    have h := o1
    rw [flatE_insert hd_len, IL.out, ← IN.out] at h
    exact h
  have HB' : Aside (Below w.heap.size w u41) := below_grown (by
    have hHB := HB.out
    repeat (first | (with_reducible exact Below.refl _ _) | (with_reducible assumption) | (with_reducible refine below_to_plus ?_ ?_ _) | (with_reducible refine below_holds ?_ ?_ _ _) | (with_reducible refine Below.alloc ?_ ?_ _) | (with_reducible refine Below.drew ?_) | (with_reducible refine below_drewN ?_ _) | (with_reducible refine Below.setCell ?_ ?_ _))
    all_goals first | omega | (simp; done) | (simp [go_sem]; done) | (simp [go_sem]; omega)) hg (by assumption)
  clear Hc Hr Ho Hh Hv Rbl Rhs HB hg nhsc nhsr nhso o1 nh hg0 nv hltb IL
  have Hr := Hr'
  clear Hr'
  have Ho := Ho'
  clear Ho'
  have Rbl := Rbl'
  clear Rbl'
  have Rhs := Rhs'
  clear Rhs'
  have HB := HB'
  clear HB'
  obtain ⟨a3, k3, ev, _⟩ := ownE_sl hd_len (by omega) Rhs.out
  subst ev
  have ltr : w.heap.size + 1 < u41.heap.size := (Array.getElem?_eq_some_iff.1 Hr.out).1
  have lto : ob < u41.heap.size := (Array.getElem?_eq_some_iff.1 Ho.out).1
  have nero : ¬ w.heap.size + 1 = ob := by omega
  have neor : ¬ ob = w.heap.size + 1 := by omega
  have nblr : (.slice a1 bl.length k1 : Value).ownBlock ≠ some (w.heap.size + 1) := own_ne Rbl.out Hr.out (by decide)
  have nblo : (.slice a1 bl.length k1 : Value).ownBlock ≠ some ob := own_ne Rbl.out Ho.out (by decide)
  have nhsr : (.slice a3 il.length k3 : Value).ownBlock ≠ some (w.heap.size + 1) := own_ne Rhs.out Hr.out (by decide)
  have nhso : (.slice a3 il.length k3 : Value).ownBlock ≠ some ob := own_ne Rhs.out Ho.out (by decide)
  rw [holds_add (holds_self Ho.out) Hr.out]
  go_wp2
  refine bodyPost_ret (v := .agg #[.int .i64 cp, .slice a1 bl.length k1, .slice a3 il.length k3]) (by simp [results, Try.results22, go_sem, ↓IntWalk.iteOmega, *]) rfl ⟨_, _, _, _, rfl, (by repeat (first | exact Rbl.out | (with_reducible refine own_alloc ?_) | (with_reducible refine own_plus ?_) | (with_reducible refine own_holds ?_ ?_) | assumption)), (by repeat (first | exact Rhs.out | (with_reducible refine own_alloc ?_) | (with_reducible refine own_plus ?_) | (with_reducible refine own_holds ?_ ?_) | assumption)), (by
    have hHB := HB.out
    repeat (first | (with_reducible exact Below.refl _ _) | (with_reducible assumption) | (with_reducible refine below_to_plus ?_ ?_ _) | (with_reducible refine below_holds ?_ ?_ _ _) | (with_reducible refine Below.alloc ?_ ?_ _) | (with_reducible refine Below.drew ?_) | (with_reducible refine below_drewN ?_ _) | (with_reducible refine Below.setCell ?_ ?_ _))
    all_goals first | omega | (simp; done) | (simp [go_sem]; done) | (simp [go_sem]; omega))⟩

set_option maxHeartbeats 8000000 in
theorem hold_same (cp : Int) (ao : Option Addr) (n c1 : Nat) (ao2 : Option Addr) (n2 c2 : Nat) (bl : List Pc) (hs : List Hd) (id vers til : Int) (w : World) (h1 : Sl w 4 ao n c1 (bl.map Pc.enc)) (h2 : Sl w 3 ao2 n2 c2 (hs.map Hd.enc)) (hn : n ≤ 1000000) (hn2 : n2 ≤ 1000000) (g1 : 1 ≤ id ∧ id ≤ 1099511627776) (g2 : 0 ≤ vers ∧ vers ≤ 2147483647) (g3 : 0 ≤ til ∧ til ≤ 1099512676352) (ha : AscH hs) {k : Nat} (hk : k < hs.length) (he : hs[k]!.hid = id) (hv : hs[k]!.vers = vers) :
    Calls Try.prog 22 #[.agg #[.int .i64 cp, .slice ao n c1, .slice ao2 n2 c2], .int .i64 id, .int .i64 vers, .int .i64 til] w fun e w' => CopPost w cp (bl) (hs.set k (⟨id, vers, til⟩ : Hd)) e w' := by
  have x1 : ¬ id < 1 := by omega
  have x2 : ¬ 1099511627776 < id := by omega
  have x3 : ¬ vers < 0 := by omega
  have x4 : ¬ 2147483647 < vers := by omega
  have x5 : ¬ til < 0 := by omega
  have x6 : ¬ 1099512676352 < til := by omega
  clear g1 g2 g3
  have hln : bl.length = n := Sl.lenE h1
  have hln2 : hs.length = n2 := Sl.lenE h2
  subst hln
  subst hln2
  have S1 : Aside (Sl w 4 ao bl.length c1 (bl.map Pc.enc)) := h1
  have S2 : Aside (Sl w 3 ao2 hs.length c2 (hs.map Hd.enc)) := h2
  have hb0 : Below w.heap.size w ((w.alloc (.cells #[.int .i64 cp, .slice ao bl.length c1, .slice ao2 hs.length c2] 25)).alloc (.cells #[.int .i64 0, .slice none 0 0, .slice none 0 0] 25)) := by
    repeat (first | (with_reducible exact Below.refl _ _) | (with_reducible assumption) | (with_reducible refine below_to_plus ?_ ?_ _) | (with_reducible refine below_holds ?_ ?_ _ _) | (with_reducible refine Below.alloc ?_ ?_ _) | (with_reducible refine Below.drew ?_) | (with_reducible refine below_drewN ?_ _) | (with_reducible refine Below.setCell ?_ ?_ _))
    all_goals first | omega | (simp; done) | (simp [go_sem]; done) | (simp [go_sem]; omega)
  have HB : Aside (Below w.heap.size w ((w.alloc (.cells #[.int .i64 cp, .slice ao bl.length c1, .slice ao2 hs.length c2] 25)).alloc (.cells #[.int .i64 0, .slice none 0 0, .slice none 0 0] 25))) := hb0
  have Hc : Aside (((w.alloc (.cells #[.int .i64 cp, .slice ao bl.length c1, .slice ao2 hs.length c2] 25)).alloc (.cells #[.int .i64 0, .slice none 0 0, .slice none 0 0] 25)).heap[w.heap.size]? = some (.cells #[.int .i64 cp, .slice ao bl.length c1, .slice ao2 hs.length c2] 25 (0, 0))) := by repeat (first | exact hp_new (by first | rfl | (simp; done) | (simp; omega)) | refine hp_old ?_)
  have Hr : Aside (((w.alloc (.cells #[.int .i64 cp, .slice ao bl.length c1, .slice ao2 hs.length c2] 25)).alloc (.cells #[.int .i64 0, .slice none 0 0, .slice none 0 0] 25)).heap[w.heap.size + 1]? = some (.cells #[.int .i64 0, .slice none 0 0, .slice none 0 0] 25 (0, 0))) := by repeat (first | exact hp_new (by first | rfl | (simp; done) | (simp; omega)) | refine hp_old ?_)
  have ck := copied_calls cp ao bl.length c1 ao2 hs.length c2 bl hs ((w.alloc (.cells #[.int .i64 cp, .slice ao bl.length c1, .slice ao2 hs.length c2] 25)).alloc (.cells #[.int .i64 0, .slice none 0 0, .slice none 0 0] 25)) (h1.stays hb0) (h2.stays hb0) hn hn2
  have ch := fun U hU => hold_hit cp ao bl.length c1 ao2 hs.length c2 hs id U (S2.out.stays hU) hn2 ha hk he
  obtain ⟨b, off, eao, hbw, q0, q1, q2⟩ := (cellsHd h2) k hk
  subst eao
  have hkz : (k : Int) < (hs.length : Int) := by omega
  have hbig2 : hs.length ≤ 9223372036854775807 := by omega
  clear h1 h2 ha he
  generalize hs[k]! = y at q0 q1 q2 hv
  obtain ⟨y1, y2, y3⟩ := y
  simp only [] at q0 q1 q2 hv
  have d1' : (y2 != vers) = false := by simp [hv]
  clear hv
  go_enter Try.func22, Try.ntmps22
  go_wp2_with fail
  refine (ck).mono ?_
  rintro e u42 ⟨a1, k1, a2, k2, rfl, o1, o2, hb⟩
  have Hc' : Aside (u42.heap[w.heap.size]? = some (.cells #[.int .i64 cp, .slice ao bl.length c1, .slice (some ⟨b, off, none⟩) hs.length c2] 25 (0, 0))) := heap_later (by repeat (first | exact Hc.out | exact Hr.out | exact hp_new (by first | rfl | (simp [size_plus, size_holds]; done) | (simp [size_plus, size_holds]; omega)) | (with_reducible refine hp_old ?_) | (with_reducible refine hp_plus ?_) | (with_reducible refine hh_eq (by first | assumption | (simp only [size_holds]; assumption))) | (with_reducible refine hh_ne (by omega) ?_))) hb
  have Hr' : Aside (u42.heap[w.heap.size + 1]? = some (.cells #[.int .i64 0, .slice none 0 0, .slice none 0 0] 25 (0, 0))) := heap_later (by repeat (first | exact Hc.out | exact Hr.out | exact hp_new (by first | rfl | (simp [size_plus, size_holds]; done) | (simp [size_plus, size_holds]; omega)) | (with_reducible refine hp_old ?_) | (with_reducible refine hp_plus ?_) | (with_reducible refine hh_eq (by first | assumption | (simp only [size_holds]; assumption))) | (with_reducible refine hh_ne (by omega) ?_))) hb
  have Rbl' : Aside (u42.ownsRow w.heap.size 47 4 (.slice a1 bl.length k1) bl.length (flatE Pc.enc bl)) := own_lower o1 (by simp; omega)
  have Rhs' : Aside (u42.ownsRow w.heap.size 36 3 (.slice a2 hs.length k2) hs.length (flatE Hd.enc hs)) := own_lower o2 (by simp; omega)
  have HB' : Aside (Below w.heap.size w u42) := below_step (by
    have hHB := HB.out
    repeat (first | (with_reducible exact Below.refl _ _) | (with_reducible assumption) | (with_reducible refine below_to_plus ?_ ?_ _) | (with_reducible refine below_holds ?_ ?_ _ _) | (with_reducible refine Below.alloc ?_ ?_ _) | (with_reducible refine Below.drew ?_) | (with_reducible refine below_drewN ?_ _) | (with_reducible refine Below.setCell ?_ ?_ _))
    all_goals first | omega | (simp; done) | (simp [go_sem]; done) | (simp [go_sem]; omega)) hb
  clear Hc Hr HB hb ck o1 o2 hb0
  have Hc := Hc'
  clear Hc'
  have Hr := Hr'
  clear Hr'
  have Rbl := Rbl'
  clear Rbl'
  have Rhs := Rhs'
  clear Rhs'
  have HB := HB'
  clear HB'
  have hltb : ∀ j, (Value.slice a1 bl.length k1).ownBlock = some j → j < u42.heap.size := fun j hj => (Rbl.out.lt j hj).2
  have bc0 := cell_heap Hc.out 0 _ rfl
  have bc1 := cell_heap Hc.out 1 _ rfl
  have bc2 := cell_heap Hc.out 2 _ rfl
  have ltc : w.heap.size < u42.heap.size := (Array.getElem?_eq_some_iff.1 Hc.out).1
  have oob : w.heap.size + 1 < u42.heap.size := by
    first | exact (Array.getElem?_eq_some_iff.1 Hr.out).1 | omega
  have Ho' : Aside ((u42.alloc (.cells #[.int .i64 cp, .slice a1 bl.length k1, .slice a2 hs.length k2] 25)).heap[u42.heap.size]? = some (.cells #[.int .i64 cp, .slice a1 bl.length k1, .slice a2 hs.length k2] 25 (0, 0))) := hp_new rfl
  have Hc' : Aside ((u42.alloc (.cells #[.int .i64 cp, .slice a1 bl.length k1, .slice a2 hs.length k2] 25)).heap[w.heap.size]? = some (.cells #[.int .i64 cp, .slice ao bl.length c1, .slice (some ⟨b, off, none⟩) hs.length c2] 25 (0, 0))) := hp_old Hc.out
  have Hr' : Aside ((u42.alloc (.cells #[.int .i64 cp, .slice a1 bl.length k1, .slice a2 hs.length k2] 25)).heap[w.heap.size + 1]? = some (.cells #[.int .i64 0, .slice none 0 0, .slice none 0 0] 25 (0, 0))) := hp_old Hr.out
  have Rbl' : Aside ((u42.alloc (.cells #[.int .i64 cp, .slice a1 bl.length k1, .slice a2 hs.length k2] 25)).ownsRow w.heap.size 47 4 (.slice a1 bl.length k1) bl.length (flatE Pc.enc bl)) := own_alloc Rbl.out
  have Rhs' : Aside ((u42.alloc (.cells #[.int .i64 cp, .slice a1 bl.length k1, .slice a2 hs.length k2] 25)).ownsRow w.heap.size 36 3 (.slice a2 hs.length k2) hs.length (flatE Hd.enc hs)) := own_alloc Rhs.out
  have HB' : Aside (Below w.heap.size w (u42.alloc (.cells #[.int .i64 cp, .slice a1 bl.length k1, .slice a2 hs.length k2] 25))) := HB.out.alloc HB.out.size _
  clear Hc Hr Rbl Rhs HB
  go_wp2_with fail
  obtain ⟨ob, eob⟩ : ∃ b, u42.heap.size = b := ⟨_, rfl⟩
  generalize (u42.alloc (.cells #[.int .i64 cp, .slice a1 bl.length k1, .slice a2 hs.length k2] 25)) = u43 at Hc' Hr' Rbl' Rhs' HB' Ho' ⊢
  rw [eob] at Ho' oob ⊢
  have Hc := Hc'
  clear Hc'
  have Hr := Hr'
  clear Hr'
  have Ho := Ho'
  clear Ho'
  have Rbl := Rbl'
  clear Rbl'
  have Rhs := Rhs'
  clear Rhs'
  have HB := HB'
  clear HB'
  clear bc0 bc1 bc2 ltc
  refine (ch _ HB.out).mono ?_
  rintro e u44 ⟨rfl, hb⟩
  have Hc' : Aside (u44.heap[w.heap.size]? = some (.cells #[.int .i64 cp, .slice ao bl.length c1, .slice (some ⟨b, off, none⟩) hs.length c2] 25 (0, 0))) := heap_later (by repeat (first | exact Hc.out | exact Hr.out | exact Ho.out | exact hp_new (by first | rfl | (simp [size_plus, size_holds]; done) | (simp [size_plus, size_holds]; omega)) | (with_reducible refine hp_old ?_) | (with_reducible refine hp_plus ?_) | (with_reducible refine hh_eq (by first | assumption | (simp only [size_holds]; assumption))) | (with_reducible refine hh_ne (by omega) ?_))) hb
  have Hr' : Aside (u44.heap[w.heap.size + 1]? = some (.cells #[.int .i64 0, .slice none 0 0, .slice none 0 0] 25 (0, 0))) := heap_later (by repeat (first | exact Hc.out | exact Hr.out | exact Ho.out | exact hp_new (by first | rfl | (simp [size_plus, size_holds]; done) | (simp [size_plus, size_holds]; omega)) | (with_reducible refine hp_old ?_) | (with_reducible refine hp_plus ?_) | (with_reducible refine hh_eq (by first | assumption | (simp only [size_holds]; assumption))) | (with_reducible refine hh_ne (by omega) ?_))) hb
  have Ho' : Aside (u44.heap[ob]? = some (.cells #[.int .i64 cp, .slice a1 bl.length k1, .slice a2 hs.length k2] 25 (0, 0))) := heap_later (by repeat (first | exact Hc.out | exact Hr.out | exact Ho.out | exact hp_new (by first | rfl | (simp [size_plus, size_holds]; done) | (simp [size_plus, size_holds]; omega)) | (with_reducible refine hp_old ?_) | (with_reducible refine hp_plus ?_) | (with_reducible refine hh_eq (by first | assumption | (simp only [size_holds]; assumption))) | (with_reducible refine hh_ne (by omega) ?_))) hb
  have Rbl' : Aside (u44.ownsRow w.heap.size 47 4 (.slice a1 bl.length k1) bl.length (flatE Pc.enc bl)) := own_from (by repeat (first | exact Rbl.out | (with_reducible refine own_alloc ?_) | (with_reducible refine own_plus ?_) | (with_reducible refine own_holds ?_ ?_) | assumption)) hb
  have Rhs' : Aside (u44.ownsRow w.heap.size 36 3 (.slice a2 hs.length k2) hs.length (flatE Hd.enc hs)) := own_from (by repeat (first | exact Rhs.out | (with_reducible refine own_alloc ?_) | (with_reducible refine own_plus ?_) | (with_reducible refine own_holds ?_ ?_) | assumption)) hb
  have HB' : Aside (Below w.heap.size w u44) := below_step (by
    have hHB := HB.out
    repeat (first | (with_reducible exact Below.refl _ _) | (with_reducible assumption) | (with_reducible refine below_to_plus ?_ ?_ _) | (with_reducible refine below_holds ?_ ?_ _ _) | (with_reducible refine Below.alloc ?_ ?_ _) | (with_reducible refine Below.drew ?_) | (with_reducible refine below_drewN ?_ _) | (with_reducible refine Below.setCell ?_ ?_ _))
    all_goals first | omega | (simp; done) | (simp [go_sem]; done) | (simp [go_sem]; omega)) hb
  clear Hc Hr Ho Rbl Rhs HB hb ch hltb
  have Hc := Hc'
  clear Hc'
  have Hr := Hr'
  clear Hr'
  have Ho := Ho'
  clear Ho'
  have Rbl := Rbl'
  clear Rbl'
  have Rhs := Rhs'
  clear Rhs'
  have HB := HB'
  clear HB'
  have m0 := (HB.out.cell (p := ⟨b, off + k * 3, none⟩) hbw).trans q0
  have m1 := (HB.out.cell (p := ⟨b, off + k * 3 + 1, none⟩) hbw).trans q1
  have m2 := (HB.out.cell (p := ⟨b, off + k * 3 + 2, none⟩) hbw).trans q2
  have hbr : b < u44.heap.size := Nat.lt_of_lt_of_le hbw HB.out.size
  obtain ⟨_, ⟨_, h09⟩ | ⟨g, cap3, cur, hv9, hBg, hh, hnc, hcm, hcs, htk⟩⟩ := Rhs.out
  · omega
  injection hv9 with e91 _ e93
  subst e91
  subst e93
  have Hg : Aside (u44.heap[g]? = some (.cells cur 36 (0, 0))) := hh
  have KG : Aside (w.heap.size ≤ g ∧ hs.length ≤ k2 ∧ k2 ≤ maxLen ∧ cur.size = k2 * 3 ∧ cur.toList.take (hs.length * 3) = flatE Hd.enc hs) := ⟨hBg, hnc, hcm, hcs, htk⟩
  have gc : ¬ g = w.heap.size := fun e => own_ne Rhs.out Hc.out (by decide) (by rw [← e]; rfl)
  have gr : ¬ g = w.heap.size + 1 := fun e => own_ne Rhs.out Hr.out (by decide) (by rw [← e]; rfl)
  have go : ¬ g = ob := fun e => own_ne Rhs.out Ho.out (by decide) (by rw [← e]; rfl)
  obtain ⟨z0, t0⟩ : ∃ z, cur[k * 3]? = some z := ⟨_, Array.getElem?_eq_getElem (by omega)⟩
  obtain ⟨z1, t1⟩ : ∃ z, cur[k * 3 + 1]? = some z := ⟨_, Array.getElem?_eq_getElem (by omega)⟩
  obtain ⟨z2, t2⟩ : ∃ z, cur[k * 3 + 2]? = some z := ⟨_, Array.getElem?_eq_getElem (by omega)⟩
  have hnc' : k < k2 := by omega
  clear hh hnc hcm hcs htk hBg Rhs
  have nbg : ¬ b = g := by have := KG.out.1; omega
  have ltc : w.heap.size < u44.heap.size := (Array.getElem?_eq_some_iff.1 Hc.out).1
  have bc0 := cell_heap Hc.out 0 _ rfl
  have bc1 := cell_heap Hc.out 1 _ rfl
  have bc2 := cell_heap Hc.out 2 _ rfl
  have ltr : w.heap.size + 1 < u44.heap.size := (Array.getElem?_eq_some_iff.1 Hr.out).1
  have lto : ob < u44.heap.size := (Array.getElem?_eq_some_iff.1 Ho.out).1
  have ltg : g < u44.heap.size := (Array.getElem?_eq_some_iff.1 Hg.out).1
  have necr : ¬ w.heap.size = w.heap.size + 1 := by omega
  have nerc : ¬ w.heap.size + 1 = w.heap.size := by omega
  have neco : ¬ w.heap.size = ob := by omega
  have neoc : ¬ ob = w.heap.size := by omega
  have necg : ¬ w.heap.size = g := by omega
  have negc : ¬ g = w.heap.size := by omega
  have nero : ¬ w.heap.size + 1 = ob := by omega
  have neor : ¬ ob = w.heap.size + 1 := by omega
  have nerg : ¬ w.heap.size + 1 = g := by omega
  have negr : ¬ g = w.heap.size + 1 := by omega
  have neog : ¬ ob = g := by omega
  have nego : ¬ g = ob := by omega
  have nblc : (.slice a1 bl.length k1 : Value).ownBlock ≠ some w.heap.size := own_ne Rbl.out Hc.out (by decide)
  have nblr : (.slice a1 bl.length k1 : Value).ownBlock ≠ some (w.heap.size + 1) := own_ne Rbl.out Hr.out (by decide)
  have nblo : (.slice a1 bl.length k1 : Value).ownBlock ≠ some ob := own_ne Rbl.out Ho.out (by decide)
  have nblg : (.slice a1 bl.length k1 : Value).ownBlock ≠ some g := own_ne Rbl.out Hg.out (by decide)
  rw [holds_add (holds_add (holds_self Ho.out) Hr.out) Hg.out]
  have nbc : ¬ b = w.heap.size := by omega
  have nbr : ¬ b = w.heap.size + 1 := by omega
  have nbo : ¬ b = ob := by omega
  go_wp2
  refine bodyPost_ret (v := .agg #[.int .i64 cp, .slice a1 bl.length k1, .slice (some ⟨g, 0, none⟩) hs.length k2]) (by simp [results, Try.results22, go_sem, ↓IntWalk.iteOmega, *]) rfl ?_
  have hfin := fun (W : World) (h : W.heap[g]? = some (.cells (hdPut cur (k * 3) (⟨id, vers, til⟩ : Hd)) 36 (0, 0))) => own_put (⟨id, vers, til⟩ : Hd) h KG.out.1 KG.out.2.1 KG.out.2.2.1 KG.out.2.2.2.1 KG.out.2.2.2.2 hk
  have hsl9 : (hs.set k (⟨id, vers, til⟩ : Hd)).length = hs.length := List.length_set
  have hKG := KG.out.1
  refine ⟨_, _, some ⟨g, 0, none⟩, k2, by rw [hsl9], (by repeat (first | exact Rbl.out | (with_reducible refine own_alloc ?_) | (with_reducible refine own_plus ?_) | (with_reducible refine own_holds ?_ ?_) | assumption)), hfin _ (by unfold hdPut; repeat (first | exact Hc.out | exact Hr.out | exact Ho.out | exact Hg.out | exact hp_new (by first | rfl | (simp [size_plus, size_holds]; done) | (simp [size_plus, size_holds]; omega)) | (with_reducible refine hp_old ?_) | (with_reducible refine hp_plus ?_) | (with_reducible refine hh_eq (by first | assumption | (simp only [size_holds]; assumption))) | (with_reducible refine hh_ne (by omega) ?_))), (by
    have hHB := HB.out
    repeat (first | (with_reducible exact Below.refl _ _) | (with_reducible assumption) | (with_reducible refine below_to_plus ?_ ?_ _) | (with_reducible refine below_holds ?_ ?_ _ _) | (with_reducible refine Below.alloc ?_ ?_ _) | (with_reducible refine Below.drew ?_) | (with_reducible refine below_drewN ?_ _) | (with_reducible refine Below.setCell ?_ ?_ _))
    all_goals first | omega | (simp; done) | (simp [go_sem]; done) | (simp [go_sem]; omega))⟩

set_option maxHeartbeats 8000000 in
theorem hold_other (cp : Int) (ao : Option Addr) (n c1 : Nat) (ao2 : Option Addr) (n2 c2 : Nat) (bl : List Pc) (hs : List Hd) (id vers til : Int) (w : World) (h1 : Sl w 4 ao n c1 (bl.map Pc.enc)) (h2 : Sl w 3 ao2 n2 c2 (hs.map Hd.enc)) (hn : n ≤ 1000000) (hn2 : n2 ≤ 1000000) (g1 : 1 ≤ id ∧ id ≤ 1099511627776) (g2 : 0 ≤ vers ∧ vers ≤ 2147483647) (g3 : 0 ≤ til ∧ til ≤ 1099512676352) (ha : AscH hs) {k : Nat} (hk : k < hs.length) (he : hs[k]!.hid = id) (hv : hs[k]!.vers ≠ vers) :
    Calls Try.prog 22 #[.agg #[.int .i64 cp, .slice ao n c1, .slice ao2 n2 c2], .int .i64 id, .int .i64 vers, .int .i64 til] w fun e w' => CopPost w cp ((bl.filter fun y => !decide (y.pid = id))) (hs.set k (⟨id, vers, til⟩ : Hd)) e w' := by
  have x1 : ¬ id < 1 := by omega
  have x2 : ¬ 1099511627776 < id := by omega
  have x3 : ¬ vers < 0 := by omega
  have x4 : ¬ 2147483647 < vers := by omega
  have x5 : ¬ til < 0 := by omega
  have x6 : ¬ 1099512676352 < til := by omega
  clear g1 g2 g3
  have hln : bl.length = n := Sl.lenE h1
  have hln2 : hs.length = n2 := Sl.lenE h2
  subst hln
  subst hln2
  have S1 : Aside (Sl w 4 ao bl.length c1 (bl.map Pc.enc)) := h1
  have S2 : Aside (Sl w 3 ao2 hs.length c2 (hs.map Hd.enc)) := h2
  have hb0 : Below w.heap.size w ((w.alloc (.cells #[.int .i64 cp, .slice ao bl.length c1, .slice ao2 hs.length c2] 25)).alloc (.cells #[.int .i64 0, .slice none 0 0, .slice none 0 0] 25)) := by
    repeat (first | (with_reducible exact Below.refl _ _) | (with_reducible assumption) | (with_reducible refine below_to_plus ?_ ?_ _) | (with_reducible refine below_holds ?_ ?_ _ _) | (with_reducible refine Below.alloc ?_ ?_ _) | (with_reducible refine Below.drew ?_) | (with_reducible refine below_drewN ?_ _) | (with_reducible refine Below.setCell ?_ ?_ _))
    all_goals first | omega | (simp; done) | (simp [go_sem]; done) | (simp [go_sem]; omega)
  have HB : Aside (Below w.heap.size w ((w.alloc (.cells #[.int .i64 cp, .slice ao bl.length c1, .slice ao2 hs.length c2] 25)).alloc (.cells #[.int .i64 0, .slice none 0 0, .slice none 0 0] 25))) := hb0
  have Hc : Aside (((w.alloc (.cells #[.int .i64 cp, .slice ao bl.length c1, .slice ao2 hs.length c2] 25)).alloc (.cells #[.int .i64 0, .slice none 0 0, .slice none 0 0] 25)).heap[w.heap.size]? = some (.cells #[.int .i64 cp, .slice ao bl.length c1, .slice ao2 hs.length c2] 25 (0, 0))) := by repeat (first | exact hp_new (by first | rfl | (simp; done) | (simp; omega)) | refine hp_old ?_)
  have Hr : Aside (((w.alloc (.cells #[.int .i64 cp, .slice ao bl.length c1, .slice ao2 hs.length c2] 25)).alloc (.cells #[.int .i64 0, .slice none 0 0, .slice none 0 0] 25)).heap[w.heap.size + 1]? = some (.cells #[.int .i64 0, .slice none 0 0, .slice none 0 0] 25 (0, 0))) := by repeat (first | exact hp_new (by first | rfl | (simp; done) | (simp; omega)) | refine hp_old ?_)
  have ck := copied_calls cp ao bl.length c1 ao2 hs.length c2 bl hs ((w.alloc (.cells #[.int .i64 cp, .slice ao bl.length c1, .slice ao2 hs.length c2] 25)).alloc (.cells #[.int .i64 0, .slice none 0 0, .slice none 0 0] 25)) (h1.stays hb0) (h2.stays hb0) hn hn2
  have ch := fun U hU => hold_hit cp ao bl.length c1 ao2 hs.length c2 hs id U (S2.out.stays hU) hn2 ha hk he
  obtain ⟨b, off, eao, hbw, q0, q1, q2⟩ := (cellsHd h2) k hk
  subst eao
  have hkz : (k : Int) < (hs.length : Int) := by omega
  have hbig2 : hs.length ≤ 9223372036854775807 := by omega
  clear h1 h2 ha he
  generalize hs[k]! = y at q0 q1 q2 hv
  obtain ⟨y1, y2, y3⟩ := y
  simp only [] at q0 q1 q2 hv
  have d1' : (y2 != vers) = true := by simp [hv]
  have cw := fun U hU => without_calls cp ao bl.length c1 (some ⟨b, off, none⟩) hs.length c2 bl hs id U (S1.out.stays hU) (S2.out.stays hU) hn hn2
  obtain ⟨fl, hfl⟩ : ∃ fl, (bl.filter fun y => !decide (y.pid = id)) = fl := ⟨_, rfl⟩
  rw [hfl] at cw ⊢
  clear hv hfl
  go_enter Try.func22, Try.ntmps22
  go_wp2_with fail
  refine (ck).mono ?_
  rintro e u45 ⟨a1, k1, a2, k2, rfl, o1, o2, hb⟩
  have Hc' : Aside (u45.heap[w.heap.size]? = some (.cells #[.int .i64 cp, .slice ao bl.length c1, .slice (some ⟨b, off, none⟩) hs.length c2] 25 (0, 0))) := heap_later (by repeat (first | exact Hc.out | exact Hr.out | exact hp_new (by first | rfl | (simp [size_plus, size_holds]; done) | (simp [size_plus, size_holds]; omega)) | (with_reducible refine hp_old ?_) | (with_reducible refine hp_plus ?_) | (with_reducible refine hh_eq (by first | assumption | (simp only [size_holds]; assumption))) | (with_reducible refine hh_ne (by omega) ?_))) hb
  have Hr' : Aside (u45.heap[w.heap.size + 1]? = some (.cells #[.int .i64 0, .slice none 0 0, .slice none 0 0] 25 (0, 0))) := heap_later (by repeat (first | exact Hc.out | exact Hr.out | exact hp_new (by first | rfl | (simp [size_plus, size_holds]; done) | (simp [size_plus, size_holds]; omega)) | (with_reducible refine hp_old ?_) | (with_reducible refine hp_plus ?_) | (with_reducible refine hh_eq (by first | assumption | (simp only [size_holds]; assumption))) | (with_reducible refine hh_ne (by omega) ?_))) hb
  have Rbl' : Aside (u45.ownsRow w.heap.size 47 4 (.slice a1 bl.length k1) bl.length (flatE Pc.enc bl)) := own_lower o1 (by simp; omega)
  have Rhs' : Aside (u45.ownsRow w.heap.size 36 3 (.slice a2 hs.length k2) hs.length (flatE Hd.enc hs)) := own_lower o2 (by simp; omega)
  have HB' : Aside (Below w.heap.size w u45) := below_step (by
    have hHB := HB.out
    repeat (first | (with_reducible exact Below.refl _ _) | (with_reducible assumption) | (with_reducible refine below_to_plus ?_ ?_ _) | (with_reducible refine below_holds ?_ ?_ _ _) | (with_reducible refine Below.alloc ?_ ?_ _) | (with_reducible refine Below.drew ?_) | (with_reducible refine below_drewN ?_ _) | (with_reducible refine Below.setCell ?_ ?_ _))
    all_goals first | omega | (simp; done) | (simp [go_sem]; done) | (simp [go_sem]; omega)) hb
  clear Hc Hr HB hb ck o1 o2 hb0
  have Hc := Hc'
  clear Hc'
  have Hr := Hr'
  clear Hr'
  have Rbl := Rbl'
  clear Rbl'
  have Rhs := Rhs'
  clear Rhs'
  have HB := HB'
  clear HB'
  have hltb : ∀ j, (Value.slice a1 bl.length k1).ownBlock = some j → j < u45.heap.size := fun j hj => (Rbl.out.lt j hj).2
  have bc0 := cell_heap Hc.out 0 _ rfl
  have bc1 := cell_heap Hc.out 1 _ rfl
  have bc2 := cell_heap Hc.out 2 _ rfl
  have ltc : w.heap.size < u45.heap.size := (Array.getElem?_eq_some_iff.1 Hc.out).1
  have oob : w.heap.size + 1 < u45.heap.size := by
    first | exact (Array.getElem?_eq_some_iff.1 Hr.out).1 | omega
  have Ho' : Aside ((u45.alloc (.cells #[.int .i64 cp, .slice a1 bl.length k1, .slice a2 hs.length k2] 25)).heap[u45.heap.size]? = some (.cells #[.int .i64 cp, .slice a1 bl.length k1, .slice a2 hs.length k2] 25 (0, 0))) := hp_new rfl
  have Hc' : Aside ((u45.alloc (.cells #[.int .i64 cp, .slice a1 bl.length k1, .slice a2 hs.length k2] 25)).heap[w.heap.size]? = some (.cells #[.int .i64 cp, .slice ao bl.length c1, .slice (some ⟨b, off, none⟩) hs.length c2] 25 (0, 0))) := hp_old Hc.out
  have Hr' : Aside ((u45.alloc (.cells #[.int .i64 cp, .slice a1 bl.length k1, .slice a2 hs.length k2] 25)).heap[w.heap.size + 1]? = some (.cells #[.int .i64 0, .slice none 0 0, .slice none 0 0] 25 (0, 0))) := hp_old Hr.out
  have Rbl' : Aside ((u45.alloc (.cells #[.int .i64 cp, .slice a1 bl.length k1, .slice a2 hs.length k2] 25)).ownsRow w.heap.size 47 4 (.slice a1 bl.length k1) bl.length (flatE Pc.enc bl)) := own_alloc Rbl.out
  have Rhs' : Aside ((u45.alloc (.cells #[.int .i64 cp, .slice a1 bl.length k1, .slice a2 hs.length k2] 25)).ownsRow w.heap.size 36 3 (.slice a2 hs.length k2) hs.length (flatE Hd.enc hs)) := own_alloc Rhs.out
  have HB' : Aside (Below w.heap.size w (u45.alloc (.cells #[.int .i64 cp, .slice a1 bl.length k1, .slice a2 hs.length k2] 25))) := HB.out.alloc HB.out.size _
  clear Hc Hr Rbl Rhs HB
  go_wp2_with fail
  obtain ⟨ob, eob⟩ : ∃ b, u45.heap.size = b := ⟨_, rfl⟩
  generalize (u45.alloc (.cells #[.int .i64 cp, .slice a1 bl.length k1, .slice a2 hs.length k2] 25)) = u46 at Hc' Hr' Rbl' Rhs' HB' Ho' ⊢
  rw [eob] at Ho' oob ⊢
  have Hc := Hc'
  clear Hc'
  have Hr := Hr'
  clear Hr'
  have Ho := Ho'
  clear Ho'
  have Rbl := Rbl'
  clear Rbl'
  have Rhs := Rhs'
  clear Rhs'
  have HB := HB'
  clear HB'
  clear bc0 bc1 bc2 ltc
  refine (ch _ HB.out).mono ?_
  rintro e u47 ⟨rfl, hb⟩
  have Hc' : Aside (u47.heap[w.heap.size]? = some (.cells #[.int .i64 cp, .slice ao bl.length c1, .slice (some ⟨b, off, none⟩) hs.length c2] 25 (0, 0))) := heap_later (by repeat (first | exact Hc.out | exact Hr.out | exact Ho.out | exact hp_new (by first | rfl | (simp [size_plus, size_holds]; done) | (simp [size_plus, size_holds]; omega)) | (with_reducible refine hp_old ?_) | (with_reducible refine hp_plus ?_) | (with_reducible refine hh_eq (by first | assumption | (simp only [size_holds]; assumption))) | (with_reducible refine hh_ne (by omega) ?_))) hb
  have Hr' : Aside (u47.heap[w.heap.size + 1]? = some (.cells #[.int .i64 0, .slice none 0 0, .slice none 0 0] 25 (0, 0))) := heap_later (by repeat (first | exact Hc.out | exact Hr.out | exact Ho.out | exact hp_new (by first | rfl | (simp [size_plus, size_holds]; done) | (simp [size_plus, size_holds]; omega)) | (with_reducible refine hp_old ?_) | (with_reducible refine hp_plus ?_) | (with_reducible refine hh_eq (by first | assumption | (simp only [size_holds]; assumption))) | (with_reducible refine hh_ne (by omega) ?_))) hb
  have Ho' : Aside (u47.heap[ob]? = some (.cells #[.int .i64 cp, .slice a1 bl.length k1, .slice a2 hs.length k2] 25 (0, 0))) := heap_later (by repeat (first | exact Hc.out | exact Hr.out | exact Ho.out | exact hp_new (by first | rfl | (simp [size_plus, size_holds]; done) | (simp [size_plus, size_holds]; omega)) | (with_reducible refine hp_old ?_) | (with_reducible refine hp_plus ?_) | (with_reducible refine hh_eq (by first | assumption | (simp only [size_holds]; assumption))) | (with_reducible refine hh_ne (by omega) ?_))) hb
  have Rbl' : Aside (u47.ownsRow w.heap.size 47 4 (.slice a1 bl.length k1) bl.length (flatE Pc.enc bl)) := own_from (by repeat (first | exact Rbl.out | (with_reducible refine own_alloc ?_) | (with_reducible refine own_plus ?_) | (with_reducible refine own_holds ?_ ?_) | assumption)) hb
  have Rhs' : Aside (u47.ownsRow w.heap.size 36 3 (.slice a2 hs.length k2) hs.length (flatE Hd.enc hs)) := own_from (by repeat (first | exact Rhs.out | (with_reducible refine own_alloc ?_) | (with_reducible refine own_plus ?_) | (with_reducible refine own_holds ?_ ?_) | assumption)) hb
  have HB' : Aside (Below w.heap.size w u47) := below_step (by
    have hHB := HB.out
    repeat (first | (with_reducible exact Below.refl _ _) | (with_reducible assumption) | (with_reducible refine below_to_plus ?_ ?_ _) | (with_reducible refine below_holds ?_ ?_ _ _) | (with_reducible refine Below.alloc ?_ ?_ _) | (with_reducible refine Below.drew ?_) | (with_reducible refine below_drewN ?_ _) | (with_reducible refine Below.setCell ?_ ?_ _))
    all_goals first | omega | (simp; done) | (simp [go_sem]; done) | (simp [go_sem]; omega)) hb
  clear Hc Hr Ho Rbl Rhs HB hb ch hltb
  have Hc := Hc'
  clear Hc'
  have Hr := Hr'
  clear Hr'
  have Ho := Ho'
  clear Ho'
  have Rbl := Rbl'
  clear Rbl'
  have Rhs := Rhs'
  clear Rhs'
  have HB := HB'
  clear HB'
  have m0 := (HB.out.cell (p := ⟨b, off + k * 3, none⟩) hbw).trans q0
  have m1 := (HB.out.cell (p := ⟨b, off + k * 3 + 1, none⟩) hbw).trans q1
  have m2 := (HB.out.cell (p := ⟨b, off + k * 3 + 2, none⟩) hbw).trans q2
  have hbr : b < u47.heap.size := Nat.lt_of_lt_of_le hbw HB.out.size
  have bc0 := cell_heap Hc.out 0 _ rfl
  have bc1 := cell_heap Hc.out 1 _ rfl
  have bc2 := cell_heap Hc.out 2 _ rfl
  have ltc : w.heap.size < u47.heap.size := (Array.getElem?_eq_some_iff.1 Hc.out).1
  have bo0 := cell_heap Ho.out 0 _ rfl
  have bo1 := cell_heap Ho.out 1 _ rfl
  have bo2 := cell_heap Ho.out 2 _ rfl
  have lto : ob < u47.heap.size := (Array.getElem?_eq_some_iff.1 Ho.out).1
  have okb : ob < u47.heap.size := by
    first | exact (Array.getElem?_eq_some_iff.1 Ho.out).1 | omega
  have Hh' : Aside ((u47.alloc (.cells #[.int .i64 id, .int .i64 vers, .int .i64 til] 36)).heap[u47.heap.size]? = some (.cells #[.int .i64 id, .int .i64 vers, .int .i64 til] 36 (0, 0))) := hp_new rfl
  have Hc' : Aside ((u47.alloc (.cells #[.int .i64 id, .int .i64 vers, .int .i64 til] 36)).heap[w.heap.size]? = some (.cells #[.int .i64 cp, .slice ao bl.length c1, .slice (some ⟨b, off, none⟩) hs.length c2] 25 (0, 0))) := hp_old Hc.out
  have Hr' : Aside ((u47.alloc (.cells #[.int .i64 id, .int .i64 vers, .int .i64 til] 36)).heap[w.heap.size + 1]? = some (.cells #[.int .i64 0, .slice none 0 0, .slice none 0 0] 25 (0, 0))) := hp_old Hr.out
  have Ho' : Aside ((u47.alloc (.cells #[.int .i64 id, .int .i64 vers, .int .i64 til] 36)).heap[ob]? = some (.cells #[.int .i64 cp, .slice a1 bl.length k1, .slice a2 hs.length k2] 25 (0, 0))) := hp_old Ho.out
  have Rbl' : Aside ((u47.alloc (.cells #[.int .i64 id, .int .i64 vers, .int .i64 til] 36)).ownsRow w.heap.size 47 4 (.slice a1 bl.length k1) bl.length (flatE Pc.enc bl)) := own_alloc Rbl.out
  have Rhs' : Aside ((u47.alloc (.cells #[.int .i64 id, .int .i64 vers, .int .i64 til] 36)).ownsRow w.heap.size 36 3 (.slice a2 hs.length k2) hs.length (flatE Hd.enc hs)) := own_alloc Rhs.out
  have HB' : Aside (Below w.heap.size w (u47.alloc (.cells #[.int .i64 id, .int .i64 vers, .int .i64 til] 36))) := HB.out.alloc HB.out.size _
  clear Hc Hr Ho Rbl Rhs HB
  go_wp2_with fail
  obtain ⟨kb, ekb⟩ : ∃ b, u47.heap.size = b := ⟨_, rfl⟩
  generalize (u47.alloc (.cells #[.int .i64 id, .int .i64 vers, .int .i64 til] 36)) = u48 at Hc' Hr' Ho' Rbl' Rhs' HB' Hh' ⊢
  rw [ekb] at Hh' okb ⊢
  have Hc := Hc'
  clear Hc'
  have Hr := Hr'
  clear Hr'
  have Ho := Ho'
  clear Ho'
  have Hh := Hh'
  clear Hh'
  have Rbl := Rbl'
  clear Rbl'
  have Rhs := Rhs'
  clear Rhs'
  have HB := HB'
  clear HB'
  clear bc0 bc1 bc2 bo0 bo1 bo2 ltc lto m0 m1 m2 hbr
  have LTK : kb < u48.heap.size := (Array.getElem?_eq_some_iff.1 Hh.out).1
  refine (cw _ HB.out).mono ?_
  rintro e u49 ⟨a5, k5, a6, k6, rfl, o1, o2, hb⟩
  have Hr' : Aside (u49.heap[w.heap.size + 1]? = some (.cells #[.int .i64 0, .slice none 0 0, .slice none 0 0] 25 (0, 0))) := heap_later (by repeat (first | exact Hc.out | exact Hr.out | exact Ho.out | exact Hh.out | exact hp_new (by first | rfl | (simp [size_plus, size_holds]; done) | (simp [size_plus, size_holds]; omega)) | (with_reducible refine hp_old ?_) | (with_reducible refine hp_plus ?_) | (with_reducible refine hh_eq (by first | assumption | (simp only [size_holds]; assumption))) | (with_reducible refine hh_ne (by omega) ?_))) hb
  have Ho' : Aside (u49.heap[ob]? = some (.cells #[.int .i64 cp, .slice a1 bl.length k1, .slice a2 hs.length k2] 25 (0, 0))) := heap_later (by repeat (first | exact Hc.out | exact Hr.out | exact Ho.out | exact Hh.out | exact hp_new (by first | rfl | (simp [size_plus, size_holds]; done) | (simp [size_plus, size_holds]; omega)) | (with_reducible refine hp_old ?_) | (with_reducible refine hp_plus ?_) | (with_reducible refine hh_eq (by first | assumption | (simp only [size_holds]; assumption))) | (with_reducible refine hh_ne (by omega) ?_))) hb
  have Hh' : Aside (u49.heap[kb]? = some (.cells #[.int .i64 id, .int .i64 vers, .int .i64 til] 36 (0, 0))) := heap_later (by repeat (first | exact Hc.out | exact Hr.out | exact Ho.out | exact Hh.out | exact hp_new (by first | rfl | (simp [size_plus, size_holds]; done) | (simp [size_plus, size_holds]; omega)) | (with_reducible refine hp_old ?_) | (with_reducible refine hp_plus ?_) | (with_reducible refine hh_eq (by first | assumption | (simp only [size_holds]; assumption))) | (with_reducible refine hh_ne (by omega) ?_))) hb
  have Rbl' : Aside (u49.ownsRow w.heap.size 47 4 (.slice a5 fl.length k5) fl.length (flatE Pc.enc fl)) := own_lower o1 HB.out.size
  have Rhs' : Aside (u49.ownsRow w.heap.size 36 3 (.slice a6 hs.length k6) hs.length (flatE Hd.enc hs)) := own_lower o2 HB.out.size
  have HB' : Aside (Below w.heap.size w u49) := below_step (by
    have hHB := HB.out
    repeat (first | (with_reducible exact Below.refl _ _) | (with_reducible assumption) | (with_reducible refine below_to_plus ?_ ?_ _) | (with_reducible refine below_holds ?_ ?_ _ _) | (with_reducible refine Below.alloc ?_ ?_ _) | (with_reducible refine Below.drew ?_) | (with_reducible refine below_drewN ?_ _) | (with_reducible refine Below.setCell ?_ ?_ _))
    all_goals first | omega | (simp; done) | (simp [go_sem]; done) | (simp [go_sem]; omega)) hb
  clear Hc Hr Ho Hh Rbl Rhs HB hb cw
  have Hr := Hr'
  clear Hr'
  have Ho := Ho'
  clear Ho'
  have Hh := Hh'
  clear Hh'
  have Rbl := Rbl'
  clear Rbl'
  have Rhs := Rhs'
  clear Rhs'
  have HB := HB'
  clear HB'
  have n9h : (Value.slice a6 hs.length k6).ownBlock ≠ some kb := fun e => by
    have h9 := (o2.lt _ e).1
    have h8 := LTK
    omega
  clear o1 o2 LTK
  obtain ⟨_, ⟨_, h09⟩ | ⟨g, cap3, cur, hv9, hBg, hh, hnc, hcm, hcs, htk⟩⟩ := Rhs.out
  · omega
  injection hv9 with e91 _ e93
  subst e91
  subst e93
  have Hg : Aside (u49.heap[g]? = some (.cells cur 36 (0, 0))) := hh
  have KG : Aside (w.heap.size ≤ g ∧ hs.length ≤ k6 ∧ k6 ≤ maxLen ∧ cur.size = k6 * 3 ∧ cur.toList.take (hs.length * 3) = flatE Hd.enc hs) := ⟨hBg, hnc, hcm, hcs, htk⟩
  have gr : ¬ g = w.heap.size + 1 := fun e => own_ne Rhs.out Hr.out (by decide) (by rw [← e]; rfl)
  have go : ¬ g = ob := fun e => own_ne Rhs.out Ho.out (by decide) (by rw [← e]; rfl)
  have gh : ¬ g = kb := fun e => n9h (by rw [← e]; rfl)
  obtain ⟨z0, t0⟩ : ∃ z, cur[k * 3]? = some z := ⟨_, Array.getElem?_eq_getElem (by omega)⟩
  obtain ⟨z1, t1⟩ : ∃ z, cur[k * 3 + 1]? = some z := ⟨_, Array.getElem?_eq_getElem (by omega)⟩
  obtain ⟨z2, t2⟩ : ∃ z, cur[k * 3 + 2]? = some z := ⟨_, Array.getElem?_eq_getElem (by omega)⟩
  have hnc' : k < k6 := by omega
  clear hh hnc hcm hcs htk hBg Rhs
  have ltr : w.heap.size + 1 < u49.heap.size := (Array.getElem?_eq_some_iff.1 Hr.out).1
  have lto : ob < u49.heap.size := (Array.getElem?_eq_some_iff.1 Ho.out).1
  have lth : kb < u49.heap.size := (Array.getElem?_eq_some_iff.1 Hh.out).1
  have bh0 := cell_heap Hh.out 0 _ rfl
  have bh1 := cell_heap Hh.out 1 _ rfl
  have bh2 := cell_heap Hh.out 2 _ rfl
  have ltg : g < u49.heap.size := (Array.getElem?_eq_some_iff.1 Hg.out).1
  have nero : ¬ w.heap.size + 1 = ob := by omega
  have neor : ¬ ob = w.heap.size + 1 := by omega
  have nerh : ¬ w.heap.size + 1 = kb := by omega
  have nehr : ¬ kb = w.heap.size + 1 := by omega
  have nerg : ¬ w.heap.size + 1 = g := by omega
  have negr : ¬ g = w.heap.size + 1 := by omega
  have neoh : ¬ ob = kb := by omega
  have neho : ¬ kb = ob := by omega
  have neog : ¬ ob = g := by omega
  have nego : ¬ g = ob := by omega
  have nehg : ¬ kb = g := by omega
  have negh : ¬ g = kb := by omega
  have nblr : (.slice a5 fl.length k5 : Value).ownBlock ≠ some (w.heap.size + 1) := own_ne Rbl.out Hr.out (by decide)
  have nblo : (.slice a5 fl.length k5 : Value).ownBlock ≠ some ob := own_ne Rbl.out Ho.out (by decide)
  have nblh : (.slice a5 fl.length k5 : Value).ownBlock ≠ some kb := own_ne Rbl.out Hh.out (by decide)
  have nblg : (.slice a5 fl.length k5 : Value).ownBlock ≠ some g := own_ne Rbl.out Hg.out (by decide)
  rw [holds_add (holds_add (holds_self Ho.out) Hr.out) Hg.out]
  go_wp2
  refine bodyPost_ret (v := .agg #[.int .i64 cp, .slice a5 fl.length k5, .slice (some ⟨g, 0, none⟩) hs.length k6]) (by simp [results, Try.results22, go_sem, ↓IntWalk.iteOmega, *]) rfl ?_
  have hfin := fun (W : World) (h : W.heap[g]? = some (.cells (hdPut cur (k * 3) (⟨id, vers, til⟩ : Hd)) 36 (0, 0))) => own_put (⟨id, vers, til⟩ : Hd) h KG.out.1 KG.out.2.1 KG.out.2.2.1 KG.out.2.2.2.1 KG.out.2.2.2.2 hk
  have hsl9 : (hs.set k (⟨id, vers, til⟩ : Hd)).length = hs.length := List.length_set
  have hKG := KG.out.1
  refine ⟨_, _, some ⟨g, 0, none⟩, k6, by rw [hsl9], (by repeat (first | exact Rbl.out | (with_reducible refine own_alloc ?_) | (with_reducible refine own_plus ?_) | (with_reducible refine own_holds ?_ ?_) | assumption)), hfin _ (by unfold hdPut; repeat (first | exact Hr.out | exact Ho.out | exact Hh.out | exact Hg.out | exact hp_new (by first | rfl | (simp [size_plus, size_holds]; done) | (simp [size_plus, size_holds]; omega)) | (with_reducible refine hp_old ?_) | (with_reducible refine hp_plus ?_) | (with_reducible refine hh_eq (by first | assumption | (simp only [size_holds]; assumption))) | (with_reducible refine hh_ne (by omega) ?_))), (by
    have hHB := HB.out
    repeat (first | (with_reducible exact Below.refl _ _) | (with_reducible assumption) | (with_reducible refine below_to_plus ?_ ?_ _) | (with_reducible refine below_holds ?_ ?_ _ _) | (with_reducible refine Below.alloc ?_ ?_ _) | (with_reducible refine Below.drew ?_) | (with_reducible refine below_drewN ?_ _) | (with_reducible refine Below.setCell ?_ ?_ _))
    all_goals first | omega | (simp; done) | (simp [go_sem]; done) | (simp [go_sem]; omega))⟩

end Go.Proofs.Ytcgajlobbjoefaa
