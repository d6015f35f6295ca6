/- This text proves the walk of move of package fds. Conditions: those that each theorem names. -/
import Derived.Test.YtbifanenoejjgaaFdsJ
namespace Go.Proofs.Ytbifanenoejjgaa
open Go.ChangeShapes Go.WideShapes Go.ChangeAt Go.RowKit
set_option linter.unusedVariables false
set_option linter.unusedSimpArgs false

theorem flatE_set {α : Type} {enc : α → List Value} {k : Nat} (hk : ∀ x, (enc x).length = k) (y : α) (i : Nat) (v : Value) (hi : i < k) : ∀ (xs : List α) (j : Nat) (x : α), xs[j]? = some x → enc y = (enc x).set i v → flatE enc (xs.set j y) = (flatE enc xs).set (j * k + i) v
  | [], j, x, h, _ => by cases h
  | z :: xs, 0, x, h, he => by
    simp only [List.getElem?_cons_zero, Option.some.injEq] at h
    subst h
    rw [List.set_cons_zero, flatE_cons, flatE_cons, he, Nat.zero_mul, Nat.zero_add, List.set_append_left _ _ (by rw [hk]; exact hi)]
  | z :: xs, j + 1, x, h, he => by
    rw [List.getElem?_cons_succ] at h
    rw [List.set_cons_succ, flatE_cons, flatE_cons, flatE_set hk y i v hi xs j x h he, List.set_append_right _ _ (by rw [hk, Nat.add_mul]; omega), hk]
    congr 2
    rw [Nat.add_mul]; omega

theorem List.set_getElem?_self' {α : Type} : ∀ {l : List α} {i : Nat} {x : α}, l[i]? = some x → l.set i x = l
  | [], _, _, h => by cases h
  | y :: l, 0, x, h => by simp only [List.getElem?_cons_zero, Option.some.injEq] at h; subst h; rfl
  | y :: l, i + 1, x, h => by rw [List.getElem?_cons_succ] at h; rw [List.set_cons_succ, List.set_getElem?_self' h]
/-- A descriptor of a copy moved. -/
def mvF (s off : Int) (y : Fd) : Fd := if y.copy = s then { y with offset := off } else y
/-- The first k moved. -/
def mvs (s off : Int) (xs : List Fd) (k : Nat) : List Fd := (xs.take k).map (mvF s off) ++ xs.drop k
theorem mvs_len (s off : Int) (xs : List Fd) (k : Nat) (hk : k ≤ xs.length) : (mvs s off xs k).length = xs.length := by simp [mvs]; omega
theorem mvs_get (s off : Int) (xs : List Fd) (k : Nat) (hk : k < xs.length) : (mvs s off xs k)[k]? = some xs[k]! := by
  unfold mvs
  rw [List.getElem?_append_right (by simp; omega), List.getElem?_drop, getElem!_pos xs k hk]
  simp [Nat.min_eq_left (Nat.le_of_lt hk), hk]
theorem mvs_succ (s off : Int) (xs : List Fd) (k : Nat) (hk : k < xs.length) : mvs s off xs (k + 1) = (mvs s off xs k).set k (mvF s off xs[k]!) := by
  apply List.ext_getElem?
  intro j
  unfold mvs
  rw [List.getElem?_set, List.take_add_one, List.getElem?_eq_getElem hk, getElem!_pos xs k hk]
  have hl : (List.map (mvF s off) (List.take k xs)).length = k := by simp; omega
  by_cases h1 : j < k
  · rw [if_neg (by omega), List.getElem?_append_left (by simp; omega), List.getElem?_append_left (by omega), List.map_append, List.getElem?_append_left (by omega)]
  · by_cases h2 : j = k
    · subst h2
      rw [if_pos rfl, if_pos (by simp; omega), List.getElem?_append_left (by simp; omega), List.map_append, List.getElem?_append_right (by omega), hl]
      simp
    · rw [if_neg (fun e => h2 e.symm), List.getElem?_append_right (by simp; omega), List.getElem?_append_right (by omega)]
      simp
      congr 1
      omega
theorem mvs_all (s off : Int) (xs : List Fd) : mvs s off xs xs.length = xs.map (mvF s off) := by simp [mvs]

set_option maxHeartbeats 4000000 in
theorem move_calls (id num offset : Int) (ao : Option Addr) (n cap k : Nat) (xs : List Fd) (w : World) (h : Sl w 9 ao n cap (xs.map Fd.enc)) (hn : n ≤ 1000) (hk : k < xs.length) (hf : findI num xs = (k : Int)) :
    Calls Try.prog 40 #[.agg #[.int .i64 id, .slice ao n cap], .int .i64 num, .int .i64 offset] w fun e w' => CopyPost w id (xs.map (mvF xs[k]!.copy offset)) e w' := by
  have hln := Sl.lenE h
  have HL : Aside (xs.length = n) := hln
  have hb0 : Below w.heap.size w ((w.alloc (.cells #[.int .i64 id, .slice ao n cap] 24)).alloc (.cells #[.int .i64 0, .slice none 0 0] 24)) := by
    repeat (first | (with_reducible exact Below.refl _ _) | (with_reducible assumption) | (with_reducible refine below_to_plus ?_ ?_ _) | (with_reducible refine below_holds ?_ ?_ _ _) | (with_reducible refine Below.alloc ?_ ?_ _) | (with_reducible refine Below.drew ?_) | (with_reducible refine below_drewN ?_ _) | (with_reducible refine Below.setCell ?_ ?_ _))
    all_goals first | omega | (simp; done) | (simp [go_sem]; done) | (simp [go_sem]; omega)
  have HB0 : Aside (Below w.heap.size w ((w.alloc (.cells #[.int .i64 id, .slice ao n cap] 24)).alloc (.cells #[.int .i64 0, .slice none 0 0] 24))) := hb0
  have c1 := copy_calls id id ao n cap xs ((w.alloc (.cells #[.int .i64 id, .slice ao n cap] 24)).alloc (.cells #[.int .i64 0, .slice none 0 0] 24)) (h.stays hb0) (by omega)
  have c2 : ∀ U, Below w.heap.size w U → Calls Try.prog 28 #[.agg #[.int .i64 id, .slice ao n cap], .int .i64 num] U fun e w' => e = .returned (.int .i64 (k : Nat)) ∧ Below U.heap.size U w' := fun U hU => by
    have := find_calls id num ao n cap xs U (h.stays hU)
    rwa [hf] at this
  have hkn : k < n := by omega
  have hbig : n ≤ 9223372036854775807 := by omega
  obtain ⟨b, off, rfl, hbw, l0, l1, l2, l3, l4, l5, l6, l7, l8⟩ := cellsFd h k hk
  clear l0 l1 l2 l3 l4 l5 l6 l7 h hf hb0
  generalize xs[k]!.copy = s at l8 ⊢
  go_enter Try.func40, Try.ntmps40
  go_wp2_with fail
  refine c1.mono ?_
  rintro e w1 ⟨ao2, cap2, rfl, hown, hb⟩
  rw [HL.out] at hown ⊢
  have HO : Aside (w1.ownsRow ((w.alloc (.cells #[.int .i64 id, .slice (some ⟨b, off, none⟩) n cap] 24)).alloc (.cells #[.int .i64 0, .slice none 0 0] 24)).heap.size 30 9 (.slice ao2 n cap2) n (flatE Fd.enc xs)) := hown
  obtain ⟨x, rfl⟩ := plus_of_below hb
  clear hb c1 hown
  go_wp2
  go_region_held3 (fun w3 => w3.cell? ⟨w.heap.size, 0, none⟩ = some (.int .i64 id) ∧ w3.cell? ⟨w.heap.size, 1, none⟩ = some (.slice (some ⟨b, off, none⟩) n cap) ∧ w3.cell? ⟨b, off + k * 9 + 8, none⟩ = some (.int .i64 s)) (first | (simp [go_sem, ↓IntWalk.iteOmega, *]; done))
      ((first | (go_at_call 28; refine (c2 _ (by (repeat (first | (with_reducible exact Below.refl _ _) | (with_reducible assumption) | (with_reducible refine below_to_plus ?_ ?_ _) | (with_reducible refine below_holds ?_ ?_ _ _) | (with_reducible refine Below.alloc ?_ ?_ _) | (with_reducible refine Below.drew ?_) | (with_reducible refine below_drewN ?_ _) | (with_reducible refine Below.setCell ?_ ?_ _))); (all_goals first | omega | (simp; done) | (simp [go_sem]; done) | (simp [go_sem]; omega)))).mono ?_; rintro e w2 ⟨rfl, hb⟩; obtain ⟨y, hx⟩ := plus_of_below hb; subst hx; clear hb)))
  have hO2 : (plus ((plus ((w.alloc (.cells #[.int .i64 id, .slice (some ⟨b, off, none⟩) n cap] 24)).alloc (.cells #[.int .i64 0, .slice none 0 0] 24)) x).alloc (.cells #[.int .i64 id, .slice ao2 n cap2] 24)).drew y).ownsRow ((w.alloc (.cells #[.int .i64 id, .slice (some ⟨b, off, none⟩) n cap] 24)).alloc (.cells #[.int .i64 0, .slice none 0 0] 24)).heap.size 30 9 (.slice ao2 n cap2) n (flatE Fd.enc xs) := own_plus (x := y) (w := ((plus ((w.alloc (.cells #[.int .i64 id, .slice (some ⟨b, off, none⟩) n cap] 24)).alloc (.cells #[.int .i64 0, .slice none 0 0] 24)) x).alloc (.cells #[.int .i64 id, .slice ao2 n cap2] 24)).drew) (own_alloc (o := (.cells #[.int .i64 id, .slice ao2 n cap2] 24)) HO.out)
  have hob : (plus ((plus ((w.alloc (.cells #[.int .i64 id, .slice (some ⟨b, off, none⟩) n cap] 24)).alloc (.cells #[.int .i64 0, .slice none 0 0] 24)) x).alloc (.cells #[.int .i64 id, .slice ao2 n cap2] 24)).drew y).heap[(w.heap.size + 1 + 1 + x.heap.size)]? = some (.cells #[.int .i64 id, .slice ao2 n cap2] 24 (0, 0)) := hp_plus (w := ((plus ((w.alloc (.cells #[.int .i64 id, .slice (some ⟨b, off, none⟩) n cap] 24)).alloc (.cells #[.int .i64 0, .slice none 0 0] 24)) x).alloc (.cells #[.int .i64 id, .slice ao2 n cap2] 24)).drew) (hp_new (w := plus ((w.alloc (.cells #[.int .i64 id, .slice (some ⟨b, off, none⟩) n cap] 24)).alloc (.cells #[.int .i64 0, .slice none 0 0] 24)) x) (by simp [size_plus]))
  have hrb : (plus ((plus ((w.alloc (.cells #[.int .i64 id, .slice (some ⟨b, off, none⟩) n cap] 24)).alloc (.cells #[.int .i64 0, .slice none 0 0] 24)) x).alloc (.cells #[.int .i64 id, .slice ao2 n cap2] 24)).drew y).heap[(w.heap.size + 1)]? = some (.cells #[.int .i64 0, .slice none 0 0] 24 (0, 0)) := hp_plus (w := ((plus ((w.alloc (.cells #[.int .i64 id, .slice (some ⟨b, off, none⟩) n cap] 24)).alloc (.cells #[.int .i64 0, .slice none 0 0] 24)) x).alloc (.cells #[.int .i64 id, .slice ao2 n cap2] 24)).drew) (hp_old (w := plus ((w.alloc (.cells #[.int .i64 id, .slice (some ⟨b, off, none⟩) n cap] 24)).alloc (.cells #[.int .i64 0, .slice none 0 0] 24)) x) (hp_plus (hp_new (by simp))))
  have hb2 : Below w.heap.size w (plus ((plus ((w.alloc (.cells #[.int .i64 id, .slice (some ⟨b, off, none⟩) n cap] 24)).alloc (.cells #[.int .i64 0, .slice none 0 0] 24)) x).alloc (.cells #[.int .i64 id, .slice ao2 n cap2] 24)).drew y) := by
    repeat (first | (with_reducible exact Below.refl _ _) | (with_reducible assumption) | (with_reducible refine below_to_plus ?_ ?_ _) | (with_reducible refine below_holds ?_ ?_ _ _) | (with_reducible refine Below.alloc ?_ ?_ _) | (with_reducible refine Below.drew ?_) | (with_reducible refine below_drewN ?_ _) | (with_reducible refine Below.setCell ?_ ?_ _))
    all_goals first | omega | (simp; done) | (simp [go_sem]; done) | (simp [go_sem]; omega)
  have nob := own_ne hO2 hob (by decide)
  have nrb := own_ne hO2 hrb (by decide)
  have hle : w.heap.size ≤ (w.heap.size + 1 + 1 + x.heap.size) ∧ w.heap.size ≤ (w.heap.size + 1) := by omega
  have hne : ¬ (w.heap.size + 1) = (w.heap.size + 1 + 1 + x.heap.size) ∧ ¬ (w.heap.size + 1 + 1 + x.heap.size) = (w.heap.size + 1) := by omega
  have hB : w.heap.size ≤ ((w.alloc (.cells #[.int .i64 id, .slice (some ⟨b, off, none⟩) n cap] 24)).alloc (.cells #[.int .i64 0, .slice none 0 0] 24)).heap.size := by simp; omega
  clear HO HB0
  generalize (plus ((plus ((w.alloc (.cells #[.int .i64 id, .slice (some ⟨b, off, none⟩) n cap] 24)).alloc (.cells #[.int .i64 0, .slice none 0 0] 24)) x).alloc (.cells #[.int .i64 id, .slice ao2 n cap2] 24)).drew y) = w5 at hO2 hob hrb hb2 ⊢
  obtain ⟨ob, eob⟩ : ∃ ob, (w.heap.size + 1 + 1 + x.heap.size) = ob := ⟨_, rfl⟩
  rw [eob] at hob nob hle hne ⊢
  obtain ⟨rb, erb⟩ : ∃ rb, (w.heap.size + 1) = rb := ⟨_, rfl⟩
  rw [erb] at hrb nrb hle hne ⊢
  generalize ((w.alloc (.cells #[.int .i64 id, .slice (some ⟨b, off, none⟩) n cap] 24)).alloc (.cells #[.int .i64 0, .slice none 0 0] 24)).heap.size = B at hO2 hB
  obtain ⟨hl, ⟨_, hn0⟩ | ⟨g, cap3, cur, hv, hBg, hh, hnc, hcm, hcs, htk⟩⟩ := hO2
  · omega
  cases hv
  have hgo : ¬ g = ob := fun e => nob (by rw [e]; rfl)
  have hgr : ¬ g = rb := fun e => nrb (by rw [e]; rfl)
  have hog : ¬ ob = g := fun e => hgo e.symm
  have hrg : ¬ rb = g := fun e => hgr e.symm
  obtain ⟨hro, hor⟩ := hne
  have hgs : g < w5.heap.size := (Array.getElem?_eq_some_iff.1 hh).1
  have hos : ob < w5.heap.size := (Array.getElem?_eq_some_iff.1 hob).1
  have hrs : rb < w5.heap.size := (Array.getElem?_eq_some_iff.1 hrb).1
  rw [holds_add (holds_add (holds_self hob) hrb) hh]
  have H5 : Aside (Below w.heap.size w w5 ∧ w.heap.size ≤ ob ∧ w.heap.size ≤ rb ∧ w.heap.size ≤ g) := ⟨hb2, hle.1, hle.2, by omega⟩
  have HT : Aside (cur.toList.take (n * 9) = flatE Fd.enc xs) := htk
  have HCM : Aside (cap2 ≤ maxLen ∧ B ≤ g) := ⟨hcm, hBg⟩
  clear hb2 hle hob hrb hh htk nob nrb hcm hBg hB hl c2
  go_wp2
  go_loopg [25, 9] n (fun k s25 s9 wr => ∃ (j : Nat) (c : Array Value), s25 = .int .i64 (j : Int) ∧ wr = holds (holds (holds w5 ob #[.int .i64 id, .slice (some ⟨g, 0, none⟩) n cap2] 24) rb #[.int .i64 0, .slice none 0 0] 24) g c 30 ∧ k + j = n ∧ c.size = cap2 * 9 ∧ Aside (c.toList.take (n * 9) = flatE Fd.enc (mvs s offset xs j)))
  case atStart => exact ⟨0, cur, rfl, rfl, by omega, hcs, by show _ = _; rw [HT.out]; simp [mvs]⟩
  case round =>
    obtain ⟨j, c, rfl, rfl, hkj, hcz, KK⟩ := hrel
    by_cases hj : j < n
    · have hjz : (j : Int) < (n : Int) := by omega
      have hjx : j < xs.length := by have := HL.out; omega
      have hg0 : ∀ i u, i < 9 → (Fd.enc xs[j]!)[i]? = some u → c[j * 9 + i]? = some u := fun i u hi hu => by
        have h1 := flatE_get fd_len (mvs s offset xs j) j i hi
        rw [mvs_get s offset xs j hjx, ← KK.out, List.getElem?_take, if_pos (by omega), Array.getElem?_toList] at h1
        rw [h1]; exact hu
      have q8 : c[j * 9 + 8]? = some (.int .i64 xs[j]!.copy) := hg0 8 _ (by omega) rfl
      have q7 : ∃ z, c[j * 9 + 7]? = some z := ⟨_, hg0 7 _ (by omega) rfl⟩
      obtain ⟨z, q7⟩ := q7
      have KT : Aside (xs[j]!.copy = s → (c.setIfInBounds (j * 9 + 7) (.int .i64 offset)).toList.take (n * 9) = flatE Fd.enc (mvs s offset xs (j + 1))) := fun e => by
        rw [Array.toList_setIfInBounds, List.take_set, KK.out, mvs_succ s offset xs j hjx]
        refine (flatE_set fd_len (mvF s offset xs[j]!) 7 _ (by omega) _ j xs[j]! (mvs_get s offset xs j hjx) ?_).symm
        unfold mvF
        rw [if_pos e]
        rfl
      have KF : Aside (¬ xs[j]!.copy = s → c.toList.take (n * 9) = flatE Fd.enc (mvs s offset xs (j + 1))) := fun e => by
        rw [KK.out, mvs_succ s offset xs j hjx]
        congr 1
        unfold mvF
        rw [if_neg e]
        exact (List.set_getElem?_self' (mvs_get s offset xs j hjx)).symm
      clear hg0 KK
      generalize xs[j]!.copy = q at q8 KT KF
      by_cases hq : q = s
      · have K2 := KT.out hq
        have K3 : Aside _ := K2
        have e1 : (q == s) = true := by simp [hq]
        clear hq K2 KT KF
        go_wp2
        go_roundg (gk - 1)
        case measure => omega
        case rel => exact ⟨j + 1, _, by simp, rfl, by omega, by simp [hcz], K3⟩
      · have K2 := KF.out hq
        have K3 : Aside _ := K2
        have e1 : (q == s) = false := by simp [hq]
        clear hq K2 KT KF
        go_wp2
        go_roundg (gk - 1)
        case measure => omega
        case rel => exact ⟨j + 1, _, by simp, rfl, by omega, hcz, K3⟩
    · have hjn : j = n := by omega
      subst hjn
      have hjz : ¬ (j : Int) < (j : Int) := by omega
      go_wp2
      refine bodyPost_ret (v := .agg #[.int .i64 id, .slice (some ⟨g, 0, none⟩) j cap2]) (by simp [results, Try.results40, go_sem, ↓IntWalk.iteOmega, hgs, hos, hrs, hgo, hgr, hog, hrg, hro, hor]) rfl ⟨some ⟨g, 0, none⟩, cap2, by rw [List.length_map, HL.out], ?_, ?_⟩
      · rw [List.length_map, HL.out]
        have hK := KK.out
        rw [show mvs s offset xs j = xs.map (mvF s offset) by rw [← mvs_all, HL.out]] at hK
        refine ⟨by rw [flatE_length fd_len, List.length_map, HL.out], .inr ⟨g, cap2, c, rfl, H5.out.2.2.2, ?_, hnc, HCM.out.1, hcz, hK⟩⟩
        rw [heap_holds, if_pos ⟨rfl, by rw [size_holds, size_holds]; exact hgs⟩]
      · obtain ⟨p1, p2, p3, p4⟩ := H5.out
        exact below_holds (below_holds (below_holds p1 p2 _ _) p3 _ _) p4 _ _

end Go.Proofs.Ytbifanenoejjgaa
