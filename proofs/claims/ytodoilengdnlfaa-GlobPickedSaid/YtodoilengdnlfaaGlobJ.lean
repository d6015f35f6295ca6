/- This text proves the walks of Same of the reference and of has and ones of the laws. Conditions: those that each theorem names. -/
import Derived.Test.YtodoilengdnlfaaGlobI
namespace Go.Proofs.Ytodoilengdnlfaa
open Go.ChangeShapes Go.WideShapes Go.ChangeAt Go.RowKit
set_option linter.unusedVariables false
set_option linter.unusedSimpArgs false

/-! ### Lists of names -/
theorem str_inj (a b : ByteArray) : a.toList = b.toList ↔ a = b := ⟨fun h => bytes_inj (by rw [ByteArray.toList_eq, ByteArray.toList_eq] at h; exact h), fun h => by rw [h]⟩
def sEnc (s : ByteArray) : List Value := [.string s]
theorem s_len (s : ByteArray) : (sEnc s).length = 1 := rfl
theorem s_one (s : ByteArray) : ∀ u ∈ sEnc s, u.oneCell' = true := by
  intro u hu
  simp only [sEnc, List.mem_cons, List.not_mem_nil, or_false] at hu
  subst hu; rfl
def nth (ys : List ByteArray) (j : Nat) : ByteArray := ys[j]?.getD ⟨#[]⟩
theorem nth_get {ys : List ByteArray} {j : Nat} (h : j < ys.length) : ys[j]? = some (nth ys j) := by unfold nth; rw [List.getElem?_eq_getElem h]; rfl
theorem nth_mem {ys : List ByteArray} {j : Nat} (h : j < ys.length) : nth ys j ∈ ys := List.mem_of_getElem? (nth_get h)
def inB (t : ByteArray) (xs : List ByteArray) : Bool := xs.any fun y => decide (y = t)
theorem inB_iff {t : ByteArray} {xs : List ByteArray} : inB t xs = true ↔ t ∈ xs := by
  unfold inB
  rw [List.any_eq_true]
  exact ⟨fun ⟨y, h1, h2⟩ => (of_decide_eq_true h2) ▸ h1, fun h => ⟨t, h, decide_eq_true rfl⟩⟩
def CellsS (W : World) (ao : Option Addr) (ys : List ByteArray) : Prop := ∀ j, j < ys.length → ∃ b off, ao = some ⟨b, off, none⟩ ∧ b < W.heap.size ∧ W.cell? ⟨b, off + j, none⟩ = some (.string (nth ys j))
theorem cellsS {W : World} {ao : Option Addr} {n cap : Nat} {ys : List ByteArray} (h : Sl W 1 ao n cap (ys.map sEnc)) : CellsS W ao ys := by
  intro j hj
  have hl := Sl.lenE h
  obtain ⟨b, off, rfl, hb, hc⟩ := h.here (by omega)
  have hx : (ys.map sEnc)[j]? = some (sEnc (nth ys j)) := by rw [List.getElem?_map, nth_get hj]; rfl
  have := hc j _ hx 0 _ rfl
  rw [Nat.mul_one] at this
  exact ⟨b, off, rfl, hb, this⟩
theorem nth_ext {xs ys : List ByteArray} (hl : xs.length = ys.length) (h : ∀ j, j < xs.length → nth xs j = nth ys j) : xs = ys := by
  apply List.ext_getElem?
  intro j
  by_cases hj : j < xs.length
  · rw [nth_get hj, nth_get (by omega), h j hj]
  · rw [List.getElem?_eq_none (by omega), List.getElem?_eq_none (by omega)]

set_option maxHeartbeats 4000000 in
theorem same_calls (ao bo : Option Addr) (n cap m cap2 : Nat) (xs ys : List ByteArray) (w : World) (ha : Sl w 1 ao n cap (xs.map sEnc)) (hb : Sl w 1 bo m cap2 (ys.map sEnc)) :
    Calls Try.prog 14 #[.slice ao n cap, .slice bo m cap2] w fun e w' => e = .returned (.bool (decide (xs = ys))) ∧ Below w.heap.size w w' := by
  have hbig : n ≤ 9223372036854775807 := Nat.le_trans ha.hcap ha.hmax
  have hbig2 : m ≤ 9223372036854775807 := Nat.le_trans hb.hcap hb.hmax
  have HL : Aside (xs.length = n) := Sl.lenE ha
  have HM : Aside (ys.length = m) := Sl.lenE hb
  have HA : Aside (CellsS w ao xs) := cellsS ha
  have HB : Aside (CellsS w bo ys) := cellsS hb
  have HS : Aside (decide (xs = ys) = true ↔ xs = ys) := decide_eq_true_iff
  generalize decide (xs = ys) = r at HS ⊢
  clear ha hb
  by_cases h2 : n = m
  · subst h2
    go_enter Try.func14, Try.ntmps14
    go_wp2
    go_loopg [13] n (fun k s13 wr => ∃ (idx : Nat) (x : World), s13 = .int .i64 (idx : Int) ∧ wr = plus w x ∧ k + idx = n ∧ Aside (∀ j, j < idx → nth xs j = nth ys j))
    case atStart => exact ⟨0, _, rfl, plus_self _, by omega, fun j hj => absurd hj (Nat.not_lt_zero _)⟩
    case round =>
      obtain ⟨idx, x, rfl, rfl, hk, A⟩ := hrel
      by_cases hi : idx < n
      · have hiz : (idx : Int) < (n : Int) := by omega
        obtain ⟨b, off, rfl, hbw, l0⟩ := HA.out idx (by have := HL.out; omega)
        obtain ⟨b2, off2, rfl, hbw2, m0⟩ := HB.out idx (by have := HM.out; omega)
        have AS : Aside (nth xs idx = nth ys idx → ∀ j, j < idx + 1 → nth xs j = nth ys j) := fun hh j hj => by
          rcases (by omega : j < idx ∨ j = idx) with h' | h'
          · exact A.out j h'
          · rw [h']; exact hh
        have AN : Aside (¬ nth xs idx = nth ys idx → r = false) := fun e => by
          cases r with
          | false => rfl
          | true =>
            have := HS.out.1 rfl
            subst this
            exact absurd rfl e
        generalize nth xs idx = y at l0 AS AN
        generalize nth ys idx = z at m0 AS AN
        by_cases hq : y = z
        · have A2 := AS.out hq
          have A3 : Aside (∀ j, j < idx + 1 → nth xs j = nth ys j) := A2
          have hf : (y.toList == z.toList) = true := by simp [hq]
          clear hq A2 AS AN A HA HB HS
          go_wp2
          refine wp_region_plus (by kernel_rfl) (by kernel_rfl) ?_
          repeat (go_big_quiet_step (fail))
          refine wpQuiet_nil ?_
          rintro _ ⟨x1, rfl⟩
          go_wp2
          go_roundg (gk - 1)
          case measure => omega
          case rel =>
            obtain ⟨z5, hz5⟩ := plus_plus w _ x1
            exact ⟨idx + 1, z5, by simp, hz5, by omega, A3⟩
        · have e1 := AN.out hq
          subst e1
          have hf : (y.toList == z.toList) = false := by simp [str_inj, hq]
          clear hq AS AN A HA HB HS
          go_wp2
          refine wp_region_plus (by kernel_rfl) (by kernel_rfl) ?_
          repeat (go_big_quiet_step (fail))
          refine wpQuiet_nil ?_
          rintro _ ⟨x1, rfl⟩
          go_wp2
          go_ret
          refine ⟨rfl, ?_⟩
          repeat (first | (with_reducible exact Below.refl _ _) | (with_reducible assumption) | (with_reducible refine below_to_plus ?_ ?_ _) | (with_reducible refine below_holds ?_ ?_ _ _) | (with_reducible refine Below.alloc ?_ ?_ _) | (with_reducible refine Below.drew ?_) | (with_reducible refine below_drewN ?_ _) | (with_reducible refine Below.setCell ?_ ?_ _))
          all_goals first | omega | (simp; done) | (simp [go_sem]; done) | (simp [go_sem]; omega)
      · have hiz : ¬ (idx : Int) < (n : Int) := by omega
        have exy : xs = ys := nth_ext (by rw [HL.out, HM.out]) (fun j h1 => A.out j (by have := HL.out; omega))
        have e1 : r = true := HS.out.2 exy
        subst e1
        clear HA HB HS A
        go_wp2
        go_ret
        refine ⟨rfl, ?_⟩
        repeat (first | (with_reducible exact Below.refl _ _) | (with_reducible assumption) | (with_reducible refine below_to_plus ?_ ?_ _) | (with_reducible refine below_holds ?_ ?_ _ _) | (with_reducible refine Below.alloc ?_ ?_ _) | (with_reducible refine Below.drew ?_) | (with_reducible refine below_drewN ?_ _) | (with_reducible refine Below.setCell ?_ ?_ _))
        all_goals first | omega | (simp; done) | (simp [go_sem]; done) | (simp [go_sem]; omega)
  · have e1 : r = false := by
      cases r with
      | false => rfl
      | true =>
        have := HS.out.1 rfl
        subst this
        have := HL.out
        have := HM.out
        omega
    subst e1
    have hne : ((n : Int) != (m : Int)) = true := by simp; omega
    clear HA HB HS
    go_enter Try.func14, Try.ntmps14
    go_wp2
    go_ret
    exact ⟨rfl, Below.refl _ _⟩

set_option maxHeartbeats 4000000 in
theorem lhas_calls (ao : Option Addr) (n cap : Nat) (xs : List ByteArray) (t : ByteArray) (w : World) (ha : Sl w 1 ao n cap (xs.map sEnc)) :
    Calls Try.prog 20 #[.slice ao n cap, .string t] w fun e w' => e = .returned (.bool (inB t xs)) ∧ Below w.heap.size w w' := by
  have hbig : n ≤ 9223372036854775807 := Nat.le_trans ha.hcap ha.hmax
  have HL : Aside (xs.length = n) := Sl.lenE ha
  have HA : Aside (CellsS w ao xs) := cellsS ha
  have HS : Aside (inB t xs = true ↔ t ∈ xs) := inB_iff
  generalize (inB t xs) = r at HS ⊢
  clear ha
  go_enter Try.func20, Try.ntmps20
  go_wp2
  go_loopg [8] n (fun k s8 wr => ∃ (idx : Nat) (x : World), s8 = .int .i64 (idx : Int) ∧ wr = plus w x ∧ k + idx = n ∧ Aside (∀ j, j < idx → nth xs j ≠ t))
  case atStart => exact ⟨0, _, rfl, plus_self _, by omega, fun j hj => absurd hj (Nat.not_lt_zero _)⟩
  case round =>
    obtain ⟨idx, x, rfl, rfl, hk, A⟩ := hrel
    by_cases hi : idx < n
    · have hiz : (idx : Int) < (n : Int) := by omega
      have hix : idx < xs.length := by have := HL.out; omega
      obtain ⟨b, off, rfl, hbw, l0⟩ := HA.out idx hix
      have AS : Aside (nth xs idx ≠ t → ∀ j, j < idx + 1 → nth xs j ≠ t) := fun hh j hj => by
        rcases (by omega : j < idx ∨ j = idx) with h' | h'
        · exact A.out j h'
        · rw [h']; exact hh
      have AN : Aside (nth xs idx = t → r = true) := fun e => HS.out.2 (e ▸ nth_mem hix)
      generalize nth xs idx = y at l0 AS AN
      by_cases hq : y = t
      · have e1 := AN.out hq
        subst e1
        have hf : (y.toList == t.toList) = true := by simp [hq]
        clear hq AS AN A HA HS hix
        go_wp2
        go_ret
        refine ⟨rfl, ?_⟩
        repeat (first | (with_reducible exact Below.refl _ _) | (with_reducible assumption) | (with_reducible refine below_to_plus ?_ ?_ _) | (with_reducible refine below_holds ?_ ?_ _ _) | (with_reducible refine Below.alloc ?_ ?_ _) | (with_reducible refine Below.drew ?_) | (with_reducible refine below_drewN ?_ _) | (with_reducible refine Below.setCell ?_ ?_ _))
        all_goals first | omega | (simp; done) | (simp [go_sem]; done) | (simp [go_sem]; omega)
      · have A2 := AS.out hq
        have A3 : Aside (∀ j, j < idx + 1 → nth xs j ≠ t) := A2
        have hf : (y.toList == t.toList) = false := by simp [str_inj, hq]
        clear hq A2 AS AN A HA HS hix
        go_wp2
        go_roundg (n - (idx + 1))
        case measure => omega
        case rel => exact ⟨idx + 1, x, by simp, rfl, by omega, A3⟩
    · have hiz : ¬ (idx : Int) < (n : Int) := by omega
      have e1 : r = false := by
        cases r with
        | false => rfl
        | true =>
          obtain ⟨j, hj⟩ := List.mem_iff_getElem?.1 (HS.out.1 rfl)
          have hjl := (List.getElem?_eq_some_iff.1 hj).1
          rw [nth_get hjl] at hj
          exact absurd (Option.some.inj hj) (A.out j (by have := HL.out; omega))
      subst e1
      clear HA HS A
      go_wp2
      go_ret
      refine ⟨rfl, ?_⟩
      repeat (first | (with_reducible exact Below.refl _ _) | (with_reducible assumption) | (with_reducible refine below_to_plus ?_ ?_ _) | (with_reducible refine below_holds ?_ ?_ _ _) | (with_reducible refine Below.alloc ?_ ?_ _) | (with_reducible refine Below.drew ?_) | (with_reducible refine below_drewN ?_ _) | (with_reducible refine Below.setCell ?_ ?_ _))
      all_goals first | omega | (simp; done) | (simp [go_sem]; done) | (simp [go_sem]; omega)

/-- n characters 1. -/
def onesB (n : Nat) : ByteArray := ⟨(List.replicate n 49).toArray⟩
theorem onesB_size (n : Nat) : (onesB n).size = n := by show (List.replicate n (49 : UInt8)).toArray.size = n; simp
theorem onesB_succ (n : Nat) : onesB n ++ ⟨#[49]⟩ = onesB (n + 1) := by
  apply bytes_inj
  simp [onesB, List.replicate_succ']
set_option maxHeartbeats 4000000 in
theorem ones_calls (n : Nat) (hn : n ≤ 100000) (w : World) :
    Calls Try.prog 19 #[.int .i64 (n : Int)] w fun e w' => e = .returned (.string (onesB n)) ∧ w' = w := by
  go_enter Try.func19, Try.ntmps19
  go_wp2
  go_loopg [3] n (fun k s3 wr => ∃ (j : Nat) (t : ByteArray), s3 = .string t ∧ wr = w ∧ k + j = n ∧ t.size = j ∧ Aside (t = onesB j))
  case atStart => exact ⟨0, _, rfl, rfl, by omega, rfl, rfl⟩
  case round =>
    obtain ⟨j, t, rfl, rfl, hk, hts, TE⟩ := hrel
    by_cases hj : j < n
    · have hjz : (j : Int) < (n : Int) := by omega
      have T2 : Aside (t ++ ⟨#[49]⟩ = onesB (j + 1)) := by show _ = _; rw [TE.out, onesB_succ]
      have hlen : t.size + 1 ≤ maxLen := by unfold maxLen; omega
      clear TE
      go_wp2
      go_roundg (n - (j + 1))
      case measure => omega
      case rel => exact ⟨j + 1, _, rfl, rfl, by omega, by rw [T2.out, onesB_size], T2⟩
    · have hjz : ¬ (j : Int) < (n : Int) := by omega
      have ej : j = n := by omega
      subst ej
      go_wp2
      go_ret
      exact ⟨by rw [TE.out]; rfl, rfl⟩

end Go.Proofs.Ytodoilengdnlfaa
