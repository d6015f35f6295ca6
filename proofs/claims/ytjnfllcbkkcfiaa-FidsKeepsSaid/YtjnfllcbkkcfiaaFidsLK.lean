/- This text proves the walks of the statements FidsCounts and FidsKeeps. Conditions: those that each theorem names. -/
import Derived.Test.YtjnfllcbkkcfiaaFidsLB
namespace Go.Proofs.Ytjnfllcbkkcfiaa
open Go.ChangeShapes Go.WideShapes Go.ChangeAt Go.RowKit
set_option linter.unusedVariables false
set_option linter.unusedSimpArgs false

theorem uses_count (z : Int) (xs : List Fi) : usesF z xs = (idsF xs).count z := by
  unfold usesF idsF
  induction xs with
  | nil => rfl
  | cons x xs ih =>
    cases ha : x.auth with
    | true =>
      rw [List.filter_cons_of_neg (by simp [usB, ha]), List.filter_cons_of_neg (by simp [ha])]
      exact ih
    | false =>
      rw [List.filter_cons_of_pos (p := fun y : Fi => !y.auth) (by simp [ha]), List.map_cons, List.count_cons]
      by_cases e : x.id = z
      · rw [List.filter_cons_of_pos (by simp [usB, ha, e]), List.length_cons, ih]
        simp [e]
      · rw [List.filter_cons_of_neg (by simp [usB, ha, e]), ih]
        simp [e]
def sumU (xs : List Fi) (fl : List Int) : Nat := (fl.map fun z => usesF z xs).sum
theorem count_one (x : Int) : ∀ fl : List Int, fl.Pairwise (· < ·) → x ∈ fl → ((fl.map fun z => if x = z then 1 else 0) : List Nat).sum = 1
  | [], _, h => by cases h
  | y :: fl, hp, h => by
    rw [List.pairwise_cons] at hp
    rw [List.map_cons, List.sum_cons]
    by_cases e : x = y
    · have h0 : ∀ l : List Int, (∀ z ∈ l, ¬ x = z) → ((l.map fun z => if x = z then 1 else 0) : List Nat).sum = 0 := by
        intro l hl
        induction l with
        | nil => rfl
        | cons z l ih => rw [List.map_cons, List.sum_cons, if_neg (hl z (by simp)), ih (fun t ht => hl t (by simp [ht]))]
      rw [if_pos e, h0 fl (fun z hz hxz => by have := hp.1 z hz; omega)]
    · rw [if_neg e, count_one x fl hp.2 (by rcases List.mem_cons.1 h with h | h; exact absurd h e; exact h)]
theorem sum_count (fl : List Int) (hp : fl.Pairwise (· < ·)) : ∀ l : List Int, (∀ z ∈ l, z ∈ fl) → ((fl.map fun z => l.count z) : List Nat).sum = l.length
  | [], _ => by
    have : ∀ f : List Int, ((f.map fun z => ([] : List Int).count z) : List Nat).sum = 0 := by
      intro f
      induction f with
      | nil => rfl
      | cons z f ih => rw [List.map_cons, List.sum_cons, ih]; rfl
    exact this fl
  | x :: l, h => by
    have h1 := sum_count fl hp l (fun z hz => h z (by simp [hz]))
    have h2 := count_one x fl hp (h x (by simp))
    have h3 : ∀ f : List Int, ((f.map fun z => (x :: l).count z) : List Nat).sum = ((f.map fun z => l.count z) : List Nat).sum + ((f.map fun z => if x = z then 1 else 0) : List Nat).sum := by
      intro f
      induction f with
      | nil => rfl
      | cons z f ih =>
        rw [List.map_cons, List.sum_cons, ih, List.count_cons, List.map_cons, List.sum_cons, List.map_cons, List.sum_cons]
        simp only [beq_iff_eq]
        by_cases e : x = z
        · simp only [if_pos e]; omega
        · simp only [if_neg e]; omega
    rw [h3 fl, h1, h2, List.length_cons]
theorem sum_files (xs : List Fi) : sumU xs (filesF xs) = (idsF xs).length := by
  unfold sumU
  rw [← sum_count (filesF xs) (files_asc xs) (idsF xs) (fun z hz => (files_mem xs z).2 hz)]
  congr 1
  exact List.map_congr_left fun z _ => uses_count z xs
theorem sum_take (xs : List Fi) (fl : List Int) (i : Nat) (hi : i < fl.length) : sumU xs (fl.take (i + 1)) = sumU xs (fl.take i) + usesF fl[i]! xs := by
  unfold sumU
  rw [List.take_add_one, List.getElem?_eq_getElem hi, List.map_append, List.sum_append, getElem!_pos fl i hi]
  simp
theorem sum_le (xs : List Fi) (fl : List Int) (i : Nat) : sumU xs (fl.take i) ≤ sumU xs fl := by
  unfold sumU
  conv => rhs; rw [← List.take_append_drop i fl, List.map_append, List.sum_append]
  omega
theorem uses_pos (xs : List Fi) (z : Int) (h : z ∈ filesF xs) : 0 < usesF z xs := by
  rw [uses_count]
  exact List.count_pos_iff.2 ((files_mem xs z).1 h)

set_option maxHeartbeats 16000000 in
set_option maxRecDepth 100000 in
theorem lawCounts_calls (ao : Option Addr) (n cap : Nat) (xs : List Fi) (w : World) (h : Sl w 7 ao n cap (xs.map Fi.enc)) :
    Calls Try.prog 5 #[.slice ao n cap] w fun e w' => e = .returned (.bool true) ∧ Below w.heap.size w w' := by
  have HL : Aside (xs.length = n) := Sl.lenE h
  have H : Aside (Sl w 7 ao n cap (xs.map Fi.enc)) := h
  by_cases i1 : 300 < n
  · have hnz : (300 : Int) < (n : Int) := by omega
    clear h H
    go_enter Try.func5, Try.ntmps5
    go_wp2_with fail
    refine (alive_calls _).mono ?_
    rintro e w2 ⟨rfl, hb⟩
    obtain ⟨x9, rfl⟩ := plus_of_below hb
    clear hb
    go_wp2
    go_ret
    exact ⟨rfl, below_plus _ _⟩
  have hnz : ¬ (300 : Int) < (n : Int) := by omega
  have c1 : ∀ U, Below w.heap.size w U → Calls Try.prog 8 #[.slice ao n cap] U fun e w' => e = .returned (.bool (rightB xs)) ∧ Below U.heap.size U w' := fun U hU => rright_calls ao n cap xs U (h.stays hU)
  cases hr : rightB xs with
  | false =>
    rw [hr] at c1
    clear h H hr
    go_enter Try.func5, Try.ntmps5
    go_wp2_with fail
    refine (c1 _ ?_).mono ?_
    · repeat (first | (with_reducible exact Below.refl _ _) | (with_reducible assumption) | (with_reducible refine below_to_plus ?_ ?_ _) | (with_reducible refine below_holds ?_ ?_ _ _) | (with_reducible refine Below.alloc ?_ ?_ _) | (with_reducible refine Below.drew ?_) | (with_reducible refine below_drewN ?_ _) | (with_reducible refine Below.setCell ?_ ?_ _))
      all_goals first | omega | (simp; done) | (simp [go_sem]; done) | (simp [go_sem]; omega)
    rintro e w2 ⟨rfl, hb⟩
    obtain ⟨x1, rfl⟩ := plus_of_below hb
    clear hb
    go_wp2_with fail
    refine (alive_calls _).mono ?_
    rintro e w2 ⟨rfl, hb⟩
    obtain ⟨x3, rfl⟩ := plus_next hb
    clear hb
    go_wp2
    go_ret
    exact ⟨rfl, below_plus _ _⟩
  | true =>
  rw [hr] at c1
  have HC : Aside (CellsFi w ao xs) := cellsFi h
  have c5 : ∀ z U, Below w.heap.size w U → Calls Try.prog 19 #[.slice ao n cap, .int .i64 z] U fun e w' => e = .returned (.int .i64 (usesF z xs : Nat)) ∧ Below U.heap.size U w' := fun z U hU => uses_calls z ao n cap xs U (h.stays hU)
  have c7 : ∀ U, Below w.heap.size w U → Calls Try.prog 18 #[.slice ao n cap] U fun e w' => ∃ a7 c7, e = .returned (.slice a7 (filesF xs).length c7) ∧ Sl w' 1 a7 (filesF xs).length c7 ((filesF xs).map iEnc) ∧ Below U.heap.size U w' := fun U hU => files_calls ao n cap xs U (h.stays hU) (by omega)
  have HSF : Aside (sumU xs (filesF xs) = (idsF xs).length) := sum_files xs
  have HFA : Aside ((filesF xs).Pairwise (· < ·)) := files_asc xs
  have HFP : Aside (∀ z ∈ filesF xs, 0 < usesF z xs) := uses_pos xs
  have hfl0 := files_len xs xs.length
  rw [List.take_length] at hfl0
  generalize filesF xs = fl at c7 HSF HFA HFP hfl0
  have hfl : fl.length ≤ 300 := by have := HL.out; omega
  clear h H hr hfl0
  go_enter Try.func5, Try.ntmps5
  go_wp2_with fail
  refine (c1 _ ?_).mono ?_
  · repeat (first | (with_reducible exact Below.refl _ _) | (with_reducible assumption) | (with_reducible refine below_to_plus ?_ ?_ _) | (with_reducible refine below_holds ?_ ?_ _ _) | (with_reducible refine Below.alloc ?_ ?_ _) | (with_reducible refine Below.drew ?_) | (with_reducible refine below_drewN ?_ _) | (with_reducible refine Below.setCell ?_ ?_ _))
    all_goals first | omega | (simp; done) | (simp [go_sem]; done) | (simp [go_sem]; omega)
  rintro e w2 ⟨rfl, hb⟩
  obtain ⟨x1, rfl⟩ := plus_of_below hb
  clear hb
  go_wp2
  go_loopg [3, 20] n (fun k s3 s20 wr => ∃ (idx m : Nat), s20 = .int .i64 (idx : Int) ∧ s3 = .int .i64 (m : Int) ∧ wr = plus w x1 ∧ k + idx = n ∧ m ≤ idx ∧ Aside ((idsF (xs.take idx)).length = m))
  case atStart => exact ⟨0, 0, rfl, rfl, rfl, by omega, by omega, rfl⟩
  case round =>
    obtain ⟨idx, m, rfl, rfl, rfl, hk, hm, A⟩ := hrel
    by_cases hi : idx < n
    · have hiz : (idx : Int) < (n : Int) := by omega
      have AK : Aside (xs[idx]!.auth = false → (idsF (xs.take (idx + 1))).length = m + 1) := fun hh => by rw [ids_keep xs idx (by have := HL.out; omega) hh, List.length_append, A.out]; rfl
      have AS : Aside (xs[idx]!.auth = true → (idsF (xs.take (idx + 1))).length = m) := fun hh => by rw [ids_skip xs idx (by have := HL.out; omega) hh, A.out]
      obtain ⟨b, off, rfl, hbw, l0, l1, l2, l3, l4, l5, l6⟩ := HC.out idx (by have := HL.out; omega)
      clear l0 l1 l2 l4 l5 l6 HC A HSF HFA HFP
      generalize xs[idx]!.auth = y4 at l3 AK AS
      cases y4 with
      | true =>
        have A2 := AS.out rfl
        have A3 : Aside (_ = m) := A2
        clear A2 AK AS
        go_wp2
        go_roundg (gk - 1)
        case measure => omega
        case rel => exact ⟨idx + 1, m, by simp, rfl, rfl, by omega, by omega, A3⟩
      | false =>
        have A2 := AK.out rfl
        have A3 : Aside (_ = m + 1) := A2
        clear A2 AK AS
        go_wp2
        go_roundg (gk - 1)
        case measure => omega
        case rel => exact ⟨idx + 1, m + 1, by simp, by simp, rfl, by omega, by omega, A3⟩
    · have hiz : ¬ (idx : Int) < (n : Int) := by omega
      have HM : Aside (sumU xs fl = m) := by show _ = _; rw [HSF.out, ← A.out, List.take_of_length_le (by have := HL.out; omega)]
      have hmn : m ≤ 300 := by omega
      clear A HC HSF
      go_wp2_with fail
      refine (c7 _ (below_plus _ _)).mono ?_
      rintro e w2 ⟨a7, k7, rfl, hsl, hb⟩
      have HLI : Aside (fl.length = fl.length) := rfl
      have HI : Aside (CellsI w2 a7 fl) := cellsI hsl
      have HBW : Aside (Below w.heap.size w w2) := (below_plus _ _).trans (hb.mono (below_plus _ _).size)
      clear hb hsl c7
      go_wp2
      go_loopg [4, 36] fl.length (fun k2 s4 s36 wr2 => ∃ (j sm : Nat) (y : World), s36 = .int .i64 (j : Int) ∧ s4 = .int .i64 (sm : Int) ∧ wr2 = plus w2 y ∧ k2 + j = fl.length ∧ sm ≤ 300 ∧ Aside (sumU xs (fl.take j) = sm))
      case atStart => exact ⟨0, 0, _, rfl, rfl, plus_self _, by omega, by omega, rfl⟩
      case round =>
        obtain ⟨j, sm, y, rfl, rfl, rfl, hk2, hsm, A⟩ := hrel
        by_cases hj : j < fl.length
        · have hjz : (j : Int) < (fl.length : Int) := by omega
          have ST := sum_take xs fl j hj
          have SLE := sum_le xs fl (j + 1)
          rw [HM.out] at SLE
          rw [A.out] at ST
          rw [ST] at SLE
          have hu := HFP.out fl[j]! (by rw [getElem!_pos fl j hj]; exact List.getElem_mem _)
          have HA2 : Aside (sumU xs (fl.take (j + 1)) = sm + usesF fl[j]! xs) := ST
          have HLT : Aside (0 < j → fl[j - 1]! < fl[j]!) := fun h0 => ascI_get HFA.out (by omega) hj
          obtain ⟨b, off, hb7, hbw, l0⟩ := HI.out j hj
          have PL : Aside (0 < j → w2.cell? ⟨b, off + (j - 1), none⟩ = some (.int .i64 fl[j - 1]!)) := fun h0 => by
            obtain ⟨b2, o2, e2, _, m0⟩ := HI.out (j - 1) (by omega)
            rw [hb7] at e2
            cases e2
            exact m0
          subst hb7
          have cu := fun y => c5 fl[j]! (plus w2 y) (HBW.out.trans ((below_plus w2 y).mono HBW.out.size))
          clear ST HI A HFP HFA
          generalize usesF fl[j]! xs = u at cu hu SLE HA2
          generalize fl[j]! = q at l0 cu HLT
          generalize fl[j - 1]! = pv at PL HLT
          have f1 : decide ((u : Int) < 1) = false := decide_eq_false (by omega)
          have f1n : decide (u < 1) = false := decide_eq_false (by omega)
          go_wp2_with fail
          refine (cu _).mono ?_
          rintro e w3 ⟨rfl, hb⟩
          obtain ⟨y2, rfl⟩ := plus_next hb
          clear hb cu
          by_cases z0 : j = 0
          · have fz : decide ((0 : Int) < (j : Int)) = false := decide_eq_false (by omega)
            have fn : decide (0 < j) = false := decide_eq_false (by omega)
            clear z0 PL HLT
            go_wp2
            refine wp_region_plus (by kernel_rfl) (by kernel_rfl) ?_
            repeat (go_big_quiet_step (fail))
            refine wpQuiet_nil ?_
            rintro _ ⟨x1, rfl⟩
            go_wp2
            go_roundg (fl.length - (j + 1))
            case measure => omega
            case rel =>
              obtain ⟨z5, hz5⟩ := plus_plus w2 y2 x1
              exact ⟨j + 1, sm + u, z5, by simp, by simp, hz5, by omega, by omega, HA2⟩
          · have zp : (0 : Int) < (j : Int) := by omega
            have zr : (j : Int) - 1 < (fl.length : Int) := by omega
            have fz : decide ((0 : Int) < (j : Int)) = true := decide_eq_true zp
            have fn : decide (0 < j) = true := decide_eq_true (by omega)
            have pl := PL.out (by omega)
            have f2 : decide (q ≤ pv) = false := decide_eq_false (by have := HLT.out (by omega); omega)
            clear z0 PL HLT
            go_wp2
            refine wp_region_plus (by kernel_rfl) (by kernel_rfl) ?_
            repeat (go_big_quiet_step (fail))
            refine wpQuiet_nil ?_
            rintro _ ⟨x1, rfl⟩
            go_wp2
            go_roundg (fl.length - (j + 1))
            case measure => omega
            case rel =>
              obtain ⟨z5, hz5⟩ := plus_plus w2 y2 x1
              exact ⟨j + 1, sm + u, z5, by simp, by simp, hz5, by omega, by omega, HA2⟩
        · have hjz : ¬ (j : Int) < (fl.length : Int) := by omega
          have es : sm = m := by rw [← A.out, List.take_of_length_le (by omega), HM.out]
          subst es
          clear A HI HFP HFA
          go_wp2_with fail
          refine (alive_calls _).mono ?_
          rintro e w3 ⟨rfl, hb⟩
          have HB3 : Aside (Below w.heap.size w w3) := (HBW.out.trans ((below_plus w2 y).mono HBW.out.size)).trans (hb.mono (Nat.le_trans HBW.out.size (below_plus w2 y).size))
          clear hb
          go_wp2
          go_ret
          exact ⟨rfl, HB3.out⟩

structure Opf where
  kind : Int
  num : Int
  id : Int
  user : ByteArray
  auth : Bool
  opn : Bool
  mode : Int
  nxt : Int
instance : Inhabited Opf := ⟨⟨0, 0, 0, .empty, false, false, 0, 0⟩⟩
def Opf.enc (x : Opf) : List Value := [.int .i64 x.kind, .int .i64 x.num, .int .i64 x.id, .string x.user, .bool x.auth, .bool x.opn, .int .i64 x.mode, .int .i64 x.nxt]
def Opf.val (x : Opf) : Value := .agg #[.int .i64 x.kind, .int .i64 x.num, .int .i64 x.id, .string x.user, .bool x.auth, .bool x.opn, .int .i64 x.mode, .int .i64 x.nxt]
theorem opf_len (x : Opf) : x.enc.length = 8 := rfl
theorem opf_one (x : Opf) : ∀ u ∈ x.enc, u.oneCell' = true := by
  intro u hu
  simp only [Opf.enc, List.mem_cons, List.not_mem_nil, or_false] at hu
  rcases hu with rfl | rfl | rfl | rfl | rfl | rfl | rfl | rfl <;> rfl
/-- The cells of a slice of these elements. -/
def CellsOpf (W : World) (ao : Option Addr) (ys : List Opf) : Prop := ∀ j, j < ys.length → ∃ b off, ao = some ⟨b, off, none⟩ ∧ b < W.heap.size ∧ W.cell? ⟨b, off + j * 8, none⟩ = some (.int .i64 ys[j]!.kind) ∧ W.cell? ⟨b, off + j * 8 + 1, none⟩ = some (.int .i64 ys[j]!.num) ∧ W.cell? ⟨b, off + j * 8 + 2, none⟩ = some (.int .i64 ys[j]!.id) ∧ W.cell? ⟨b, off + j * 8 + 3, none⟩ = some (.string ys[j]!.user) ∧ W.cell? ⟨b, off + j * 8 + 4, none⟩ = some (.bool ys[j]!.auth) ∧ W.cell? ⟨b, off + j * 8 + 5, none⟩ = some (.bool ys[j]!.opn) ∧ W.cell? ⟨b, off + j * 8 + 6, none⟩ = some (.int .i64 ys[j]!.mode) ∧ W.cell? ⟨b, off + j * 8 + 7, none⟩ = some (.int .i64 ys[j]!.nxt)
theorem cellsOpf {W : World} {ao : Option Addr} {n cap : Nat} {ys : List Opf} (h : Sl W 8 ao n cap (ys.map Opf.enc)) : CellsOpf W ao ys := by
  intro j hj
  have hl := Sl.lenE h
  obtain ⟨b, off, rfl, hb, hc⟩ := h.here (by omega)
  have hx : (ys.map Opf.enc)[j]? = some ys[j]!.enc := by rw [List.getElem?_map, List.getElem?_eq_getElem hj, getElem!_pos ys j hj]; rfl
  exact ⟨b, off, rfl, hb, hc j _ hx 0 _ rfl, hc j _ hx 1 _ rfl, hc j _ hx 2 _ rfl, hc j _ hx 3 _ rfl, hc j _ hx 4 _ rfl, hc j _ hx 5 _ rfl, hc j _ hx 6 _ rfl, hc j _ hx 7 _ rfl⟩
theorem CellsOpf.later {W W' : World} {ao : Option Addr} {ys : List Opf} (h : CellsOpf W ao ys) (hb : Below W.heap.size W W') : CellsOpf W' ao ys := fun j hj => by
  obtain ⟨b, off, e, hlt, h0, h1, h2, h3, h4, h5, h6, h7⟩ := h j hj
  exact ⟨b, off, e, Nat.lt_of_lt_of_le hlt hb.size, (hb.cell (p := ⟨b, off + j * 8, none⟩) hlt).trans h0, (hb.cell (p := ⟨b, off + j * 8 + 1, none⟩) hlt).trans h1, (hb.cell (p := ⟨b, off + j * 8 + 2, none⟩) hlt).trans h2, (hb.cell (p := ⟨b, off + j * 8 + 3, none⟩) hlt).trans h3, (hb.cell (p := ⟨b, off + j * 8 + 4, none⟩) hlt).trans h4, (hb.cell (p := ⟨b, off + j * 8 + 5, none⟩) hlt).trans h5, (hb.cell (p := ⟨b, off + j * 8 + 6, none⟩) hlt).trans h6, (hb.cell (p := ⟨b, off + j * 8 + 7, none⟩) hlt).trans h7⟩
theorem opfLeaves : leavesOf Try.prog 8 35 = some [some (some .i64), some (some .i64), some (some .i64), some none, none, none, some (some .i64), some (some .i64)] := by kernel_rfl
/-- What the leaves tell of an element: strings are no longer than an int says. -/
def Opf.fit (x : Opf) : Prop := x.user.size ≤ maxLen ∧ (Lit.int .i64 x.kind).wf = true ∧ (Lit.int .i64 x.num).wf = true ∧ (Lit.int .i64 x.id).wf = true ∧ (Lit.int .i64 x.mode).wf = true ∧ (Lit.int .i64 x.nxt).wf = true
theorem opf_cells (l : List Value) (h0 : leavesOk [some (some .i64), some (some .i64), some (some .i64), some none, none, none, some (some .i64), some (some .i64)] l) : ∃ y : Opf, l = y.enc ∧ y.fit := by
  obtain ⟨a0, r0, e0, ⟨v0, rfl, g0⟩, h1⟩ := leavesOk_cons h0
  obtain ⟨a1, r1, e1, ⟨v1, rfl, g1⟩, h2⟩ := leavesOk_cons h1
  obtain ⟨a2, r2, e2, ⟨v2, rfl, g2⟩, h3⟩ := leavesOk_cons h2
  obtain ⟨a3, r3, e3, ⟨v3, rfl, g3⟩, h4⟩ := leavesOk_cons h3
  obtain ⟨a4, r4, e4, ⟨v4, rfl⟩, h5⟩ := leavesOk_cons h4
  obtain ⟨a5, r5, e5, ⟨v5, rfl⟩, h6⟩ := leavesOk_cons h5
  obtain ⟨a6, r6, e6, ⟨v6, rfl, g6⟩, h7⟩ := leavesOk_cons h6
  obtain ⟨a7, r7, e7, ⟨v7, rfl, g7⟩, h8⟩ := leavesOk_cons h7
  have e8 := leavesOk_nil h8
  exact ⟨⟨v0, v1, v2, v3, v4, v5, v6, v7⟩, by rw [e0, e1, e2, e3, e4, e5, e6, e7, e8]; rfl, ⟨g3, g0, g1, g2, g6, g7⟩⟩
theorem opfs_of : ∀ (xs : List (List Value)), (∀ x ∈ xs, leavesOk [some (some .i64), some (some .i64), some (some .i64), some none, none, none, some (some .i64), some (some .i64)] x) → ∃ ys : List Opf, xs = ys.map Opf.enc ∧ ∀ y ∈ ys, y.fit
  | [], _ => ⟨[], rfl, fun y h => by cases h⟩
  | x :: xs, h => by
    obtain ⟨y, rfl, hy⟩ := opf_cells x (h x (by simp))
    obtain ⟨ys, rfl, hys⟩ := opfs_of xs (fun z hz => h z (by simp [hz]))
    exact ⟨y :: ys, rfl, fun z hz => by
      rcases List.mem_cons.1 hz with e | hz'
      · rw [e]; exact hy
      · exact hys z hz'⟩
theorem opfInfo : ∃ i0 : TypeInfo, Try.prog.info? 35 = some i0 ∧ i0.zero = some (.agg #[.int .i64 0, .int .i64 0, .int .i64 0, .string ⟨#[]⟩, .bool false, .bool false, .int .i64 0, .int .i64 0]) ∧ i0.size = 8 ∧ i0.bytes = 64 := by
  have h : (Try.prog.info? 35).map (fun i => (i.zero, i.size, i.bytes)) = some (some (.agg #[.int .i64 0, .int .i64 0, .int .i64 0, .string ⟨#[]⟩, .bool false, .bool false, .int .i64 0, .int .i64 0]), 8, 64) := by kernel_rfl
  cases hi : Try.prog.info? 35 with
  | none => rw [hi] at h; cases h
  | some i0 =>
    rw [hi] at h
    simp only [Option.map_some, Option.some.injEq, Prod.mk.injEq] at h
    exact ⟨i0, rfl, h.1, h.2.1, h.2.2⟩


set_option maxHeartbeats 16000000 in
set_option maxRecDepth 100000 in
theorem lawKeeps_calls (ao : Option Addr) (n cap : Nat) (os : List Opf) (w : World) (h : Sl w 8 ao n cap (os.map Opf.enc)) :
    Calls Try.prog 4 #[.slice ao n cap] w fun e w' => e = .returned (.bool true) ∧ Below w.heap.size w w' := by
  have HL : Aside (os.length = n) := Sl.lenE h
  have HC : Aside (CellsOpf w ao os) := cellsOpf h
  by_cases i1 : 40 < n
  · have hnz : (40 : Int) < (n : Int) := by omega
    clear h
    go_enter Try.func4, Try.ntmps4
    go_wp2_with fail
    refine (alive_calls _).mono ?_
    rintro e w2 ⟨rfl, hb⟩
    obtain ⟨x9, rfl⟩ := plus_of_below hb
    clear hb
    go_wp2
    go_ret
    exact ⟨rfl, below_plus _ _⟩
  have hnz : ¬ (40 : Int) < (n : Int) := by omega
  clear h
  go_enter Try.func4, Try.ntmps4
  go_wp2
  go_loopg [3, 4, 15] n (fun k s3 s4 s15 wr => ∃ (idx : Nat) (a1 : Option Addr) (c1 : Nat) (a2 : Option Addr) (c2 : Nat) (zs : List Fi), s15 = .int .i64 (idx : Int) ∧ s3 = .slice a1 zs.length c1 ∧ s4 = .slice a2 zs.length c2 ∧ k + idx = n ∧
    Aside (Below w.heap.size w wr ∧ Sl wr 7 a1 zs.length c1 (zs.map Fi.enc) ∧ Sl wr 7 a2 zs.length c2 (zs.map Fi.enc) ∧ RightP zs))
  case atStart => exact ⟨0, none, 0, none, 0, [], rfl, rfl, rfl, by omega, (show _ ∧ _ ∧ _ ∧ _ from ⟨Below.refl _ _, ⟨rfl, Nat.le_refl _, by omega, by simp, fun h => absurd h (Nat.lt_irrefl _), fun _ => rfl⟩, ⟨rfl, Nat.le_refl _, by omega, by simp, fun h => absurd h (Nat.lt_irrefl _), fun _ => rfl⟩, ⟨by simp, by simp, List.Pairwise.nil⟩⟩)⟩
  case round =>
    obtain ⟨idx, a1, c1, a2, c2, zs, rfl, rfl, rfl, hk, ST⟩ := hrel
    by_cases hi : idx < n
    · have hiz : (idx : Int) < (n : Int) := by omega
      obtain ⟨b, off, rfl, hby, q0, q1, q2, q3, q4, q5, q6, q7⟩ := HC.out idx (by have := HL.out; omega)
      have l0 := (ST.out.1.cell (p := ⟨b, off + idx * 8, none⟩) hby).trans q0
      have l1 := (ST.out.1.cell (p := ⟨b, off + idx * 8 + 1, none⟩) hby).trans q1
      have l2 := (ST.out.1.cell (p := ⟨b, off + idx * 8 + 2, none⟩) hby).trans q2
      have l3 := (ST.out.1.cell (p := ⟨b, off + idx * 8 + 3, none⟩) hby).trans q3
      have l4 := (ST.out.1.cell (p := ⟨b, off + idx * 8 + 4, none⟩) hby).trans q4
      have l5 := (ST.out.1.cell (p := ⟨b, off + idx * 8 + 5, none⟩) hby).trans q5
      have l6 := (ST.out.1.cell (p := ⟨b, off + idx * 8 + 6, none⟩) hby).trans q6
      have l7 := (ST.out.1.cell (p := ⟨b, off + idx * 8 + 7, none⟩) hby).trans q7
      have hbr : b < wr.heap.size := Nat.lt_of_lt_of_le hby ST.out.1.size
      clear q0 q1 q2 q3 q4 q5 q6 q7 HC
      generalize os[idx]! = y at l0 l1 l2 l3 l4 l5 l6 l7
      obtain ⟨kd, f1, f2, f3, f4, f5, f6, f7⟩ := y
      simp only [] at l0 l1 l2 l3 l4 l5 l6 l7
      have RP : Aside (RightP zs) := ST.out.2.2.2
      have hzl : zs.length ≤ 256 := RP.out.len
      have hV : ∃ V0, V0 = wr.alloc (.cells #[.int .i64 kd, .int .i64 f1, .int .i64 f2, .string f3, .bool f4, .bool f5, .int .i64 f6, .int .i64 f7] 35) := ⟨_, rfl⟩
      obtain ⟨V0, hV⟩ := hV
      have HO : Aside (V0.heap[wr.heap.size]? = some (.cells #[.int .i64 kd, .int .i64 f1, .int .i64 f2, .string f3, .bool f4, .bool f5, .int .i64 f6, .int .i64 f7] 35 (0, 0))) := by rw [hV]; exact hp_new rfl
      have HB : Aside (Below w.heap.size w V0) := by rw [hV]; exact ST.out.1.alloc ST.out.1.size _
      have hal : Below wr.heap.size wr V0 := by rw [hV]; exact (Below.refl _ _).alloc (Nat.le_refl _) _
      have SA : Aside (Sl V0 7 a1 zs.length c1 (zs.map Fi.enc)) := ST.out.2.1.stays hal
      have SB : Aside (Sl V0 7 a2 zs.length c2 (zs.map Fi.enc)) := ST.out.2.2.1.stays hal
      have HV : Aside (V0 = wr.alloc (.cells #[.int .i64 kd, .int .i64 f1, .int .i64 f2, .string f3, .bool f4, .bool f5, .int .i64 f6, .int .i64 f7] 35)) := hV
      clear hal hV ST
      by_cases k0 : kd = 0
      · subst k0
        go_wp2_with fail
        rw [← HV.out]
        clear HV l0 l1 l2 l3 l4 l5 l6 l7 hbr
        have hzr := add_right (f := ⟨f1, f2, f3, f4, f5, f6, f7⟩) RP.out
        have ca : ∀ U, Sl U 7 a1 zs.length c1 (zs.map Fi.enc) → Calls Try.prog 11 #[.slice a1 zs.length c1, .agg #[.int .i64 f1, .int .i64 f2, .string f3, .bool f4, .bool f5, .int .i64 f6, .int .i64 f7]] U fun e w' => TPost U (addF ⟨f1, f2, f3, f4, f5, f6, f7⟩ zs) e w' := fun U hU => (add_calls f1 f2 f3 f4 f5 f6 f7 a1 zs.length c1 zs U hU (by omega)).mono fun e w' hh => .of_own hh
        have cb : ∀ U, Sl U 7 a2 zs.length c2 (zs.map Fi.enc) → Calls Try.prog 12 #[.slice a2 zs.length c2, .agg #[.int .i64 f1, .int .i64 f2, .string f3, .bool f4, .bool f5, .int .i64 f6, .int .i64 f7]] U fun e w' => TPost U (addF ⟨f1, f2, f3, f4, f5, f6, f7⟩ zs) e w' := fun U hU => (radd_calls f1 f2 f3 f4 f5 f6 f7 a2 zs.length c2 zs U hU (by omega) RP.out.asc).mono fun e w' hh => .of_r hU hh
        generalize addF ⟨f1, f2, f3, f4, f5, f6, f7⟩ zs = rr at ca cb hzr
        obtain ⟨ys, ec⟩ := rr
        have RY : Aside (RightP ys) := hzr
        have hec : (ec != ec) = false := by simp
        clear hzr
        have hoc0 := cell_heap HO.out 0 _ rfl
        have hoc1 := cell_heap HO.out 1 _ rfl
        have hoc2 := cell_heap HO.out 2 _ rfl
        have hoc3 := cell_heap HO.out 3 _ rfl
        have hoc4 := cell_heap HO.out 4 _ rfl
        have hoc5 := cell_heap HO.out 5 _ rfl
        have hoc6 := cell_heap HO.out 6 _ rfl
        have hoc7 := cell_heap HO.out 7 _ rfl
        have hoclt : wr.heap.size < V0.heap.size := (Array.getElem?_eq_some_iff.1 HO.out).1
        refine (ca _ SA.out).mono ?_
        rintro e w1 ⟨a3, c3, rfl, hSC, hb⟩
        have HO' : Aside (w1.heap[wr.heap.size]? = some (.cells #[.int .i64 0, .int .i64 f1, .int .i64 f2, .string f3, .bool f4, .bool f5, .int .i64 f6, .int .i64 f7] 35 (0, 0))) := heap_later HO.out hb
        have SA' : Aside (Sl w1 7 a1 zs.length c1 (zs.map Fi.enc)) := SA.out.stays hb
        have SB' : Aside (Sl w1 7 a2 zs.length c2 (zs.map Fi.enc)) := SB.out.stays hb
        have SC' : Aside (Sl w1 7 a3 ys.length c3 (ys.map Fi.enc)) := hSC
        have HB' : Aside (Below w.heap.size w w1) := HB.out.trans (hb.mono HB.out.size)
        clear hb HB HO SA SB hSC hoc0 hoc1 hoc2 hoc3 hoc4 hoc5 hoc6 hoc7 hoclt
        have HO : Aside (w1.heap[wr.heap.size]? = some (.cells #[.int .i64 0, .int .i64 f1, .int .i64 f2, .string f3, .bool f4, .bool f5, .int .i64 f6, .int .i64 f7] 35 (0, 0))) := HO'.out
        clear HO'
        have SA : Aside (Sl w1 7 a1 zs.length c1 (zs.map Fi.enc)) := SA'.out
        clear SA'
        have SB : Aside (Sl w1 7 a2 zs.length c2 (zs.map Fi.enc)) := SB'.out
        clear SB'
        have SC : Aside (Sl w1 7 a3 ys.length c3 (ys.map Fi.enc)) := SC'.out
        clear SC'
        have HB : Aside (Below w.heap.size w w1) := HB'.out
        clear HB'
        have hoc0 := cell_heap HO.out 0 _ rfl
        have hoc1 := cell_heap HO.out 1 _ rfl
        have hoc2 := cell_heap HO.out 2 _ rfl
        have hoc3 := cell_heap HO.out 3 _ rfl
        have hoc4 := cell_heap HO.out 4 _ rfl
        have hoc5 := cell_heap HO.out 5 _ rfl
        have hoc6 := cell_heap HO.out 6 _ rfl
        have hoc7 := cell_heap HO.out 7 _ rfl
        have hoclt : wr.heap.size < w1.heap.size := (Array.getElem?_eq_some_iff.1 HO.out).1
        go_wp2_with fail
        refine (cb _ SB.out).mono ?_
        rintro e w2 ⟨a4, c4, rfl, hSD, hb⟩
        have HO' : Aside (w2.heap[wr.heap.size]? = some (.cells #[.int .i64 0, .int .i64 f1, .int .i64 f2, .string f3, .bool f4, .bool f5, .int .i64 f6, .int .i64 f7] 35 (0, 0))) := heap_later HO.out hb
        have SC' : Aside (Sl w2 7 a3 ys.length c3 (ys.map Fi.enc)) := SC.out.stays hb
        have SD' : Aside (Sl w2 7 a4 ys.length c4 (ys.map Fi.enc)) := hSD
        have HB' : Aside (Below w.heap.size w w2) := HB.out.trans (hb.mono HB.out.size)
        clear hb HB HO SC SA SB hSD hoc0 hoc1 hoc2 hoc3 hoc4 hoc5 hoc6 hoc7 hoclt
        have HO : Aside (w2.heap[wr.heap.size]? = some (.cells #[.int .i64 0, .int .i64 f1, .int .i64 f2, .string f3, .bool f4, .bool f5, .int .i64 f6, .int .i64 f7] 35 (0, 0))) := HO'.out
        clear HO'
        have SC : Aside (Sl w2 7 a3 ys.length c3 (ys.map Fi.enc)) := SC'.out
        clear SC'
        have SD : Aside (Sl w2 7 a4 ys.length c4 (ys.map Fi.enc)) := SD'.out
        clear SD'
        have HB : Aside (Below w.heap.size w w2) := HB'.out
        clear HB'
        have hoc0 := cell_heap HO.out 0 _ rfl
        have hoc1 := cell_heap HO.out 1 _ rfl
        have hoc2 := cell_heap HO.out 2 _ rfl
        have hoc3 := cell_heap HO.out 3 _ rfl
        have hoc4 := cell_heap HO.out 4 _ rfl
        have hoc5 := cell_heap HO.out 5 _ rfl
        have hoc6 := cell_heap HO.out 6 _ rfl
        have hoc7 := cell_heap HO.out 7 _ rfl
        have hoclt : wr.heap.size < w2.heap.size := (Array.getElem?_eq_some_iff.1 HO.out).1
        go_wp2_with fail
        refine ((show Calls Try.prog 9 _ _ (fun e w' => e = .returned (.bool true) ∧ Below _ _ w') from by have := right_calls _ _ _ _ _ SC.out; rwa [(rightB_iff _).2 RY.out] at this)).mono ?_
        rintro e w3 ⟨rfl, hb⟩
        have HO' : Aside (w3.heap[wr.heap.size]? = some (.cells #[.int .i64 0, .int .i64 f1, .int .i64 f2, .string f3, .bool f4, .bool f5, .int .i64 f6, .int .i64 f7] 35 (0, 0))) := heap_later HO.out hb
        have SC' : Aside (Sl w3 7 a3 ys.length c3 (ys.map Fi.enc)) := SC.out.stays hb
        have SD' : Aside (Sl w3 7 a4 ys.length c4 (ys.map Fi.enc)) := SD.out.stays hb
        have HB' : Aside (Below w.heap.size w w3) := HB.out.trans (hb.mono HB.out.size)
        clear hb HB HO SC SD hoc0 hoc1 hoc2 hoc3 hoc4 hoc5 hoc6 hoc7 hoclt
        have HO : Aside (w3.heap[wr.heap.size]? = some (.cells #[.int .i64 0, .int .i64 f1, .int .i64 f2, .string f3, .bool f4, .bool f5, .int .i64 f6, .int .i64 f7] 35 (0, 0))) := HO'.out
        clear HO'
        have SC : Aside (Sl w3 7 a3 ys.length c3 (ys.map Fi.enc)) := SC'.out
        clear SC'
        have SD : Aside (Sl w3 7 a4 ys.length c4 (ys.map Fi.enc)) := SD'.out
        clear SD'
        have HB : Aside (Below w.heap.size w w3) := HB'.out
        clear HB'
        go_wp2_with fail
        refine ((show Calls Try.prog 17 _ _ (fun e w' => e = .returned (.bool true) ∧ Below _ _ w') from by have := same_calls _ _ _ _ _ _ _ _ _ SC.out SD.out; rwa [(same_iff _ _).2 rfl] at this)).mono ?_
        rintro e w4 ⟨rfl, hb⟩
        have HO' : Aside (w4.heap[wr.heap.size]? = some (.cells #[.int .i64 0, .int .i64 f1, .int .i64 f2, .string f3, .bool f4, .bool f5, .int .i64 f6, .int .i64 f7] 35 (0, 0))) := heap_later HO.out hb
        have SC' : Aside (Sl w4 7 a3 ys.length c3 (ys.map Fi.enc)) := SC.out.stays hb
        have SD' : Aside (Sl w4 7 a4 ys.length c4 (ys.map Fi.enc)) := SD.out.stays hb
        have HB' : Aside (Below w.heap.size w w4) := HB.out.trans (hb.mono HB.out.size)
        clear hb HB HO SC SD
        have HO : Aside (w4.heap[wr.heap.size]? = some (.cells #[.int .i64 0, .int .i64 f1, .int .i64 f2, .string f3, .bool f4, .bool f5, .int .i64 f6, .int .i64 f7] 35 (0, 0))) := HO'.out
        clear HO'
        have SC : Aside (Sl w4 7 a3 ys.length c3 (ys.map Fi.enc)) := SC'.out
        clear SC'
        have SD : Aside (Sl w4 7 a4 ys.length c4 (ys.map Fi.enc)) := SD'.out
        clear SD'
        have HB : Aside (Below w.heap.size w w4) := HB'.out
        clear HB'
        go_wp2
        go_roundg (gk - 1)
        case measure => omega
        case rel => exact ⟨idx + 1, a3, c3, a4, c4, ys, by simp, rfl, rfl, by omega, (show _ ∧ _ ∧ _ ∧ _ from ⟨HB.out, SC.out, SD.out, RY.out⟩)⟩
      · by_cases k1 : kd = 1
        · subst k1
          go_wp2_with fail
          rw [← HV.out]
          clear HV l0 l1 l2 l3 l4 l5 l6 l7 hbr
          have hzr := set_right (f := ⟨f1, f2, f3, f4, f5, f6, f7⟩) RP.out
          have ca : ∀ U, Sl U 7 a1 zs.length c1 (zs.map Fi.enc) → Calls Try.prog 13 #[.slice a1 zs.length c1, .agg #[.int .i64 f1, .int .i64 f2, .string f3, .bool f4, .bool f5, .int .i64 f6, .int .i64 f7]] U fun e w' => TPost U (setF ⟨f1, f2, f3, f4, f5, f6, f7⟩ zs) e w' := fun U hU => (set_calls f1 f2 f3 f4 f5 f6 f7 a1 zs.length c1 zs U hU (by omega)).mono fun e w' hh => .of_own hh
          have cb : ∀ U, Sl U 7 a2 zs.length c2 (zs.map Fi.enc) → Calls Try.prog 14 #[.slice a2 zs.length c2, .agg #[.int .i64 f1, .int .i64 f2, .string f3, .bool f4, .bool f5, .int .i64 f6, .int .i64 f7]] U fun e w' => TPost U (setF ⟨f1, f2, f3, f4, f5, f6, f7⟩ zs) e w' := fun U hU => (rset_calls f1 f2 f3 f4 f5 f6 f7 a2 zs.length c2 zs U hU (by omega) RP.out.asc).mono fun e w' hh => .of_r hU hh
          generalize setF ⟨f1, f2, f3, f4, f5, f6, f7⟩ zs = rr at ca cb hzr
          obtain ⟨ys, ec⟩ := rr
          have RY : Aside (RightP ys) := hzr
          have hec : (ec != ec) = false := by simp
          clear hzr
          have hoc0 := cell_heap HO.out 0 _ rfl
          have hoc1 := cell_heap HO.out 1 _ rfl
          have hoc2 := cell_heap HO.out 2 _ rfl
          have hoc3 := cell_heap HO.out 3 _ rfl
          have hoc4 := cell_heap HO.out 4 _ rfl
          have hoc5 := cell_heap HO.out 5 _ rfl
          have hoc6 := cell_heap HO.out 6 _ rfl
          have hoc7 := cell_heap HO.out 7 _ rfl
          have hoclt : wr.heap.size < V0.heap.size := (Array.getElem?_eq_some_iff.1 HO.out).1
          refine (ca _ SA.out).mono ?_
          rintro e w1 ⟨a3, c3, rfl, hSC, hb⟩
          have HO' : Aside (w1.heap[wr.heap.size]? = some (.cells #[.int .i64 1, .int .i64 f1, .int .i64 f2, .string f3, .bool f4, .bool f5, .int .i64 f6, .int .i64 f7] 35 (0, 0))) := heap_later HO.out hb
          have SA' : Aside (Sl w1 7 a1 zs.length c1 (zs.map Fi.enc)) := SA.out.stays hb
          have SB' : Aside (Sl w1 7 a2 zs.length c2 (zs.map Fi.enc)) := SB.out.stays hb
          have SC' : Aside (Sl w1 7 a3 ys.length c3 (ys.map Fi.enc)) := hSC
          have HB' : Aside (Below w.heap.size w w1) := HB.out.trans (hb.mono HB.out.size)
          clear hb HB HO SA SB hSC hoc0 hoc1 hoc2 hoc3 hoc4 hoc5 hoc6 hoc7 hoclt
          have HO : Aside (w1.heap[wr.heap.size]? = some (.cells #[.int .i64 1, .int .i64 f1, .int .i64 f2, .string f3, .bool f4, .bool f5, .int .i64 f6, .int .i64 f7] 35 (0, 0))) := HO'.out
          clear HO'
          have SA : Aside (Sl w1 7 a1 zs.length c1 (zs.map Fi.enc)) := SA'.out
          clear SA'
          have SB : Aside (Sl w1 7 a2 zs.length c2 (zs.map Fi.enc)) := SB'.out
          clear SB'
          have SC : Aside (Sl w1 7 a3 ys.length c3 (ys.map Fi.enc)) := SC'.out
          clear SC'
          have HB : Aside (Below w.heap.size w w1) := HB'.out
          clear HB'
          have hoc0 := cell_heap HO.out 0 _ rfl
          have hoc1 := cell_heap HO.out 1 _ rfl
          have hoc2 := cell_heap HO.out 2 _ rfl
          have hoc3 := cell_heap HO.out 3 _ rfl
          have hoc4 := cell_heap HO.out 4 _ rfl
          have hoc5 := cell_heap HO.out 5 _ rfl
          have hoc6 := cell_heap HO.out 6 _ rfl
          have hoc7 := cell_heap HO.out 7 _ rfl
          have hoclt : wr.heap.size < w1.heap.size := (Array.getElem?_eq_some_iff.1 HO.out).1
          go_wp2_with fail
          refine (cb _ SB.out).mono ?_
          rintro e w2 ⟨a4, c4, rfl, hSD, hb⟩
          have HO' : Aside (w2.heap[wr.heap.size]? = some (.cells #[.int .i64 1, .int .i64 f1, .int .i64 f2, .string f3, .bool f4, .bool f5, .int .i64 f6, .int .i64 f7] 35 (0, 0))) := heap_later HO.out hb
          have SC' : Aside (Sl w2 7 a3 ys.length c3 (ys.map Fi.enc)) := SC.out.stays hb
          have SD' : Aside (Sl w2 7 a4 ys.length c4 (ys.map Fi.enc)) := hSD
          have HB' : Aside (Below w.heap.size w w2) := HB.out.trans (hb.mono HB.out.size)
          clear hb HB HO SC SA SB hSD hoc0 hoc1 hoc2 hoc3 hoc4 hoc5 hoc6 hoc7 hoclt
          have HO : Aside (w2.heap[wr.heap.size]? = some (.cells #[.int .i64 1, .int .i64 f1, .int .i64 f2, .string f3, .bool f4, .bool f5, .int .i64 f6, .int .i64 f7] 35 (0, 0))) := HO'.out
          clear HO'
          have SC : Aside (Sl w2 7 a3 ys.length c3 (ys.map Fi.enc)) := SC'.out
          clear SC'
          have SD : Aside (Sl w2 7 a4 ys.length c4 (ys.map Fi.enc)) := SD'.out
          clear SD'
          have HB : Aside (Below w.heap.size w w2) := HB'.out
          clear HB'
          have hoc0 := cell_heap HO.out 0 _ rfl
          have hoc1 := cell_heap HO.out 1 _ rfl
          have hoc2 := cell_heap HO.out 2 _ rfl
          have hoc3 := cell_heap HO.out 3 _ rfl
          have hoc4 := cell_heap HO.out 4 _ rfl
          have hoc5 := cell_heap HO.out 5 _ rfl
          have hoc6 := cell_heap HO.out 6 _ rfl
          have hoc7 := cell_heap HO.out 7 _ rfl
          have hoclt : wr.heap.size < w2.heap.size := (Array.getElem?_eq_some_iff.1 HO.out).1
          go_wp2_with fail
          refine ((show Calls Try.prog 9 _ _ (fun e w' => e = .returned (.bool true) ∧ Below _ _ w') from by have := right_calls _ _ _ _ _ SC.out; rwa [(rightB_iff _).2 RY.out] at this)).mono ?_
          rintro e w3 ⟨rfl, hb⟩
          have HO' : Aside (w3.heap[wr.heap.size]? = some (.cells #[.int .i64 1, .int .i64 f1, .int .i64 f2, .string f3, .bool f4, .bool f5, .int .i64 f6, .int .i64 f7] 35 (0, 0))) := heap_later HO.out hb
          have SC' : Aside (Sl w3 7 a3 ys.length c3 (ys.map Fi.enc)) := SC.out.stays hb
          have SD' : Aside (Sl w3 7 a4 ys.length c4 (ys.map Fi.enc)) := SD.out.stays hb
          have HB' : Aside (Below w.heap.size w w3) := HB.out.trans (hb.mono HB.out.size)
          clear hb HB HO SC SD hoc0 hoc1 hoc2 hoc3 hoc4 hoc5 hoc6 hoc7 hoclt
          have HO : Aside (w3.heap[wr.heap.size]? = some (.cells #[.int .i64 1, .int .i64 f1, .int .i64 f2, .string f3, .bool f4, .bool f5, .int .i64 f6, .int .i64 f7] 35 (0, 0))) := HO'.out
          clear HO'
          have SC : Aside (Sl w3 7 a3 ys.length c3 (ys.map Fi.enc)) := SC'.out
          clear SC'
          have SD : Aside (Sl w3 7 a4 ys.length c4 (ys.map Fi.enc)) := SD'.out
          clear SD'
          have HB : Aside (Below w.heap.size w w3) := HB'.out
          clear HB'
          go_wp2_with fail
          refine ((show Calls Try.prog 17 _ _ (fun e w' => e = .returned (.bool true) ∧ Below _ _ w') from by have := same_calls _ _ _ _ _ _ _ _ _ SC.out SD.out; rwa [(same_iff _ _).2 rfl] at this)).mono ?_
          rintro e w4 ⟨rfl, hb⟩
          have HO' : Aside (w4.heap[wr.heap.size]? = some (.cells #[.int .i64 1, .int .i64 f1, .int .i64 f2, .string f3, .bool f4, .bool f5, .int .i64 f6, .int .i64 f7] 35 (0, 0))) := heap_later HO.out hb
          have SC' : Aside (Sl w4 7 a3 ys.length c3 (ys.map Fi.enc)) := SC.out.stays hb
          have SD' : Aside (Sl w4 7 a4 ys.length c4 (ys.map Fi.enc)) := SD.out.stays hb
          have HB' : Aside (Below w.heap.size w w4) := HB.out.trans (hb.mono HB.out.size)
          clear hb HB HO SC SD
          have HO : Aside (w4.heap[wr.heap.size]? = some (.cells #[.int .i64 1, .int .i64 f1, .int .i64 f2, .string f3, .bool f4, .bool f5, .int .i64 f6, .int .i64 f7] 35 (0, 0))) := HO'.out
          clear HO'
          have SC : Aside (Sl w4 7 a3 ys.length c3 (ys.map Fi.enc)) := SC'.out
          clear SC'
          have SD : Aside (Sl w4 7 a4 ys.length c4 (ys.map Fi.enc)) := SD'.out
          clear SD'
          have HB : Aside (Below w.heap.size w w4) := HB'.out
          clear HB'
          go_wp2
          go_roundg (gk - 1)
          case measure => omega
          case rel => exact ⟨idx + 1, a3, c3, a4, c4, ys, by simp, rfl, rfl, by omega, (show _ ∧ _ ∧ _ ∧ _ from ⟨HB.out, SC.out, SD.out, RY.out⟩)⟩
        · have e0 : (kd == 0) = false := by simp [k0]
          have e1 : (kd == 1) = false := by simp [k1]
          clear k0 k1
          go_wp2_with fail
          rw [← HV.out]
          clear HV l0 l1 l2 l3 l4 l5 l6 l7 hbr
          have hzr := drop_right (num := f1) RP.out
          have ca : ∀ U, Sl U 7 a1 zs.length c1 (zs.map Fi.enc) → Calls Try.prog 15 #[.slice a1 zs.length c1, .int .i64 f1] U fun e w' => TPost U (dropF f1 zs) e w' := fun U hU => (drop_calls f1 a1 zs.length c1 zs U hU (by omega)).mono fun e w' hh => .of_own hh
          have cb : ∀ U, Sl U 7 a2 zs.length c2 (zs.map Fi.enc) → Calls Try.prog 16 #[.slice a2 zs.length c2, .int .i64 f1] U fun e w' => TPost U (dropF f1 zs) e w' := fun U hU => (rdrop_calls f1 a2 zs.length c2 zs U hU (by omega) RP.out.asc).mono fun e w' hh => .of_r hU hh
          generalize dropF f1 zs = rr at ca cb hzr
          obtain ⟨ys, ec⟩ := rr
          have RY : Aside (RightP ys) := hzr
          have hec : (ec != ec) = false := by simp
          clear hzr
          have hoc0 := cell_heap HO.out 0 _ rfl
          have hoc1 := cell_heap HO.out 1 _ rfl
          have hoc2 := cell_heap HO.out 2 _ rfl
          have hoc3 := cell_heap HO.out 3 _ rfl
          have hoc4 := cell_heap HO.out 4 _ rfl
          have hoc5 := cell_heap HO.out 5 _ rfl
          have hoc6 := cell_heap HO.out 6 _ rfl
          have hoc7 := cell_heap HO.out 7 _ rfl
          have hoclt : wr.heap.size < V0.heap.size := (Array.getElem?_eq_some_iff.1 HO.out).1
          refine (ca _ SA.out).mono ?_
          rintro e w1 ⟨a3, c3, rfl, hSC, hb⟩
          have HO' : Aside (w1.heap[wr.heap.size]? = some (.cells #[.int .i64 kd, .int .i64 f1, .int .i64 f2, .string f3, .bool f4, .bool f5, .int .i64 f6, .int .i64 f7] 35 (0, 0))) := heap_later HO.out hb
          have SA' : Aside (Sl w1 7 a1 zs.length c1 (zs.map Fi.enc)) := SA.out.stays hb
          have SB' : Aside (Sl w1 7 a2 zs.length c2 (zs.map Fi.enc)) := SB.out.stays hb
          have SC' : Aside (Sl w1 7 a3 ys.length c3 (ys.map Fi.enc)) := hSC
          have HB' : Aside (Below w.heap.size w w1) := HB.out.trans (hb.mono HB.out.size)
          clear hb HB HO SA SB hSC hoc0 hoc1 hoc2 hoc3 hoc4 hoc5 hoc6 hoc7 hoclt
          have HO : Aside (w1.heap[wr.heap.size]? = some (.cells #[.int .i64 kd, .int .i64 f1, .int .i64 f2, .string f3, .bool f4, .bool f5, .int .i64 f6, .int .i64 f7] 35 (0, 0))) := HO'.out
          clear HO'
          have SA : Aside (Sl w1 7 a1 zs.length c1 (zs.map Fi.enc)) := SA'.out
          clear SA'
          have SB : Aside (Sl w1 7 a2 zs.length c2 (zs.map Fi.enc)) := SB'.out
          clear SB'
          have SC : Aside (Sl w1 7 a3 ys.length c3 (ys.map Fi.enc)) := SC'.out
          clear SC'
          have HB : Aside (Below w.heap.size w w1) := HB'.out
          clear HB'
          have hoc0 := cell_heap HO.out 0 _ rfl
          have hoc1 := cell_heap HO.out 1 _ rfl
          have hoc2 := cell_heap HO.out 2 _ rfl
          have hoc3 := cell_heap HO.out 3 _ rfl
          have hoc4 := cell_heap HO.out 4 _ rfl
          have hoc5 := cell_heap HO.out 5 _ rfl
          have hoc6 := cell_heap HO.out 6 _ rfl
          have hoc7 := cell_heap HO.out 7 _ rfl
          have hoclt : wr.heap.size < w1.heap.size := (Array.getElem?_eq_some_iff.1 HO.out).1
          go_wp2_with fail
          refine (cb _ SB.out).mono ?_
          rintro e w2 ⟨a4, c4, rfl, hSD, hb⟩
          have HO' : Aside (w2.heap[wr.heap.size]? = some (.cells #[.int .i64 kd, .int .i64 f1, .int .i64 f2, .string f3, .bool f4, .bool f5, .int .i64 f6, .int .i64 f7] 35 (0, 0))) := heap_later HO.out hb
          have SC' : Aside (Sl w2 7 a3 ys.length c3 (ys.map Fi.enc)) := SC.out.stays hb
          have SD' : Aside (Sl w2 7 a4 ys.length c4 (ys.map Fi.enc)) := hSD
          have HB' : Aside (Below w.heap.size w w2) := HB.out.trans (hb.mono HB.out.size)
          clear hb HB HO SC SA SB hSD hoc0 hoc1 hoc2 hoc3 hoc4 hoc5 hoc6 hoc7 hoclt
          have HO : Aside (w2.heap[wr.heap.size]? = some (.cells #[.int .i64 kd, .int .i64 f1, .int .i64 f2, .string f3, .bool f4, .bool f5, .int .i64 f6, .int .i64 f7] 35 (0, 0))) := HO'.out
          clear HO'
          have SC : Aside (Sl w2 7 a3 ys.length c3 (ys.map Fi.enc)) := SC'.out
          clear SC'
          have SD : Aside (Sl w2 7 a4 ys.length c4 (ys.map Fi.enc)) := SD'.out
          clear SD'
          have HB : Aside (Below w.heap.size w w2) := HB'.out
          clear HB'
          have hoc0 := cell_heap HO.out 0 _ rfl
          have hoc1 := cell_heap HO.out 1 _ rfl
          have hoc2 := cell_heap HO.out 2 _ rfl
          have hoc3 := cell_heap HO.out 3 _ rfl
          have hoc4 := cell_heap HO.out 4 _ rfl
          have hoc5 := cell_heap HO.out 5 _ rfl
          have hoc6 := cell_heap HO.out 6 _ rfl
          have hoc7 := cell_heap HO.out 7 _ rfl
          have hoclt : wr.heap.size < w2.heap.size := (Array.getElem?_eq_some_iff.1 HO.out).1
          go_wp2_with fail
          refine ((show Calls Try.prog 9 _ _ (fun e w' => e = .returned (.bool true) ∧ Below _ _ w') from by have := right_calls _ _ _ _ _ SC.out; rwa [(rightB_iff _).2 RY.out] at this)).mono ?_
          rintro e w3 ⟨rfl, hb⟩
          have HO' : Aside (w3.heap[wr.heap.size]? = some (.cells #[.int .i64 kd, .int .i64 f1, .int .i64 f2, .string f3, .bool f4, .bool f5, .int .i64 f6, .int .i64 f7] 35 (0, 0))) := heap_later HO.out hb
          have SC' : Aside (Sl w3 7 a3 ys.length c3 (ys.map Fi.enc)) := SC.out.stays hb
          have SD' : Aside (Sl w3 7 a4 ys.length c4 (ys.map Fi.enc)) := SD.out.stays hb
          have HB' : Aside (Below w.heap.size w w3) := HB.out.trans (hb.mono HB.out.size)
          clear hb HB HO SC SD hoc0 hoc1 hoc2 hoc3 hoc4 hoc5 hoc6 hoc7 hoclt
          have HO : Aside (w3.heap[wr.heap.size]? = some (.cells #[.int .i64 kd, .int .i64 f1, .int .i64 f2, .string f3, .bool f4, .bool f5, .int .i64 f6, .int .i64 f7] 35 (0, 0))) := HO'.out
          clear HO'
          have SC : Aside (Sl w3 7 a3 ys.length c3 (ys.map Fi.enc)) := SC'.out
          clear SC'
          have SD : Aside (Sl w3 7 a4 ys.length c4 (ys.map Fi.enc)) := SD'.out
          clear SD'
          have HB : Aside (Below w.heap.size w w3) := HB'.out
          clear HB'
          go_wp2_with fail
          refine ((show Calls Try.prog 17 _ _ (fun e w' => e = .returned (.bool true) ∧ Below _ _ w') from by have := same_calls _ _ _ _ _ _ _ _ _ SC.out SD.out; rwa [(same_iff _ _).2 rfl] at this)).mono ?_
          rintro e w4 ⟨rfl, hb⟩
          have HO' : Aside (w4.heap[wr.heap.size]? = some (.cells #[.int .i64 kd, .int .i64 f1, .int .i64 f2, .string f3, .bool f4, .bool f5, .int .i64 f6, .int .i64 f7] 35 (0, 0))) := heap_later HO.out hb
          have SC' : Aside (Sl w4 7 a3 ys.length c3 (ys.map Fi.enc)) := SC.out.stays hb
          have SD' : Aside (Sl w4 7 a4 ys.length c4 (ys.map Fi.enc)) := SD.out.stays hb
          have HB' : Aside (Below w.heap.size w w4) := HB.out.trans (hb.mono HB.out.size)
          clear hb HB HO SC SD
          have HO : Aside (w4.heap[wr.heap.size]? = some (.cells #[.int .i64 kd, .int .i64 f1, .int .i64 f2, .string f3, .bool f4, .bool f5, .int .i64 f6, .int .i64 f7] 35 (0, 0))) := HO'.out
          clear HO'
          have SC : Aside (Sl w4 7 a3 ys.length c3 (ys.map Fi.enc)) := SC'.out
          clear SC'
          have SD : Aside (Sl w4 7 a4 ys.length c4 (ys.map Fi.enc)) := SD'.out
          clear SD'
          have HB : Aside (Below w.heap.size w w4) := HB'.out
          clear HB'
          go_wp2
          go_roundg (gk - 1)
          case measure => omega
          case rel => exact ⟨idx + 1, a3, c3, a4, c4, ys, by simp, rfl, rfl, by omega, (show _ ∧ _ ∧ _ ∧ _ from ⟨HB.out, SC.out, SD.out, RY.out⟩)⟩
    · have hiz : ¬ (idx : Int) < (n : Int) := by omega
      have HB : Aside (Below w.heap.size w wr) := ST.out.1
      clear HC ST
      go_wp2_with fail
      refine (alive_calls _).mono ?_
      rintro e w3 ⟨rfl, hb⟩
      have HB3 : Aside (Below w.heap.size w w3) := HB.out.trans (hb.mono HB.out.size)
      clear hb
      go_wp2
      go_ret
      exact ⟨rfl, HB3.out⟩

end Go.Proofs.Ytjnfllcbkkcfiaa
