/- This text proves the walks of Has of package glob and of the reference. Conditions: those that each theorem names. -/
import Derived.Test.YtodoilengdnlfaaGlobE
namespace Go.Proofs.Ytodoilengdnlfaa
open Go.ChangeShapes Go.WideShapes Go.ChangeAt Go.RowKit
set_option linter.unusedVariables false
set_option linter.unusedSimpArgs false

/-- The cells of a row of elements. -/
def CE (enc : Em → List Value) (W : World) (ao : Option Addr) (es : List Em) : Prop := ∀ j, j < es.length → ∃ b off, ao = some ⟨b, off, none⟩ ∧ b < W.heap.size ∧ ∀ i v, (enc es[j]!)[i]? = some v → W.cell? ⟨b, off + j * 4 + i, none⟩ = some v
theorem ce_of {enc : Em → List Value} (hk : ∀ e, (enc e).length = 4) {W : World} {ao : Option Addr} {n cap : Nat} {es : List Em} (h : Sl W 4 ao n cap (es.map enc)) : CE enc W ao es := by
  intro j hj
  have hl := Sl.lenE h
  obtain ⟨b, off, rfl, hb, hc⟩ := h.here (by omega)
  have hx : (es.map enc)[j]? = some (enc es[j]!) := by rw [List.getElem?_map, List.getElem?_eq_getElem hj, getElem!_pos es j hj]; rfl
  exact ⟨b, off, rfl, hb, fun i v hv => hc j _ hx i v hv⟩
theorem pk_ne {k : Nat} (h : k ≠ 0) : pk k ≠ 1 := by
  unfold pk
  rw [if_neg h]
  split
  · decide
  · split <;> decide
/-- A pattern has an element that is no ordinary byte. -/
def hasB (s q : ByteArray) : Bool := (elems s q).any fun e => decide (e.kind ≠ 0)

set_option maxHeartbeats 4000000 in
theorem has_calls (s q : ByteArray) (hs : s.size ≤ 20000) (w : World) :
    Calls Try.prog 10 #[.string s, .string q] w fun e w' => e = .returned (.bool (hasB s q)) ∧ Below w.heap.size w w' := by
  have cp := parse_calls s q hs w
  have HR : Aside (hasB s q = (elems s q).any (fun e => decide (e.kind ≠ 0))) := rfl
  have hlen := elems_len s q
  generalize elems s q = es at cp HR hlen
  generalize hasB s q = r at HR ⊢
  go_enter Try.func10, Try.ntmps10
  go_wp2_with fail
  refine cp.mono ?_
  rintro e w1 ⟨ao, cap, rfl, ho, hb⟩
  obtain ⟨a9, c9, hv9, hsl⟩ := ownE_sl encP_len (by omega) ho
  injection hv9 with v1 v2 v3
  subst v1
  subst v3
  have HC : Aside (CE encP w1 ao es) := ce_of encP_len hsl
  have HB : Aside (Below w.heap.size w w1) := hb
  have hnz : es.length ≤ 20000 := by omega
  clear ho hb cp hsl hlen
  go_wp2
  go_loopg [11] es.length (fun k s11 wr => ∃ (j : Nat) (x : World), s11 = .int .i64 (j : Int) ∧ wr = plus w1 x ∧ k + j = es.length ∧ Aside (∀ a, a < j → es[a]!.kind = 0))
  case atStart => exact ⟨0, _, rfl, plus_self _, by omega, fun a ha => absurd ha (Nat.not_lt_zero _)⟩
  case round =>
    obtain ⟨j, x, rfl, rfl, hk, A⟩ := hrel
    by_cases hj : j < es.length
    · have hjz : (j : Int) < (es.length : Int) := by omega
      have AH : Aside (es[j]!.kind ≠ 0 → r = true) := fun hh => by rw [HR.out, List.any_eq_true]; exact ⟨es[j]!, by rw [getElem!_pos es j hj]; exact List.getElem_mem _, by simpa using hh⟩
      have AS : Aside (es[j]!.kind = 0 → ∀ a, a < j + 1 → es[a]!.kind = 0) := fun hh a ha => by
        rcases (by omega : a < j ∨ a = j) with h' | h'
        · exact A.out a h'
        · rw [h']; exact hh
      obtain ⟨b, off, rfl, hbw, hc⟩ := HC.out j hj
      clear HC A HR
      generalize es[j]! = y at hc AH AS
      obtain ⟨yk, yc, yn, ys⟩ := y
      have l0 := hc 0 _ rfl
      have l1 := hc 1 _ rfl
      have l2 := hc 2 _ rfl
      have l3 := hc 3 _ rfl
      rw [Nat.add_zero] at l0
      clear hc
      by_cases hk0 : yk = 0
      · have hf : (pk yk != 1) = false := by subst hk0; rfl
        have A2 := AS.out hk0
        have A3 : Aside (∀ a, a < j + 1 → es[a]!.kind = 0) := A2
        clear A2 AS AH hk0
        go_wp2
        go_roundg (es.length - (j + 1))
        case measure => omega
        case rel =>
          obtain ⟨z5, hz5⟩ := plus_of_below (show Below w1.heap.size w1 ((plus w1 x).alloc (.cells #[.int .i64 (pk yk), .int .u8 yc, .bool yn, .string ys] 35)) from by
            repeat (first | (with_reducible exact Below.refl _ _) | (with_reducible assumption) | (with_reducible refine below_to_plus ?_ ?_ _) | (with_reducible refine below_holds ?_ ?_ _ _) | (with_reducible refine Below.alloc ?_ ?_ _) | (with_reducible refine Below.drew ?_) | (with_reducible refine below_drewN ?_ _) | (with_reducible refine Below.setCell ?_ ?_ _))
            all_goals first | omega | (simp; done) | (simp [go_sem]; done) | (simp [go_sem]; omega))
          exact ⟨j + 1, z5, by simp, hz5, by omega, A3⟩
      · have hf : (pk yk != 1) = true := bne_iff_ne.2 (pk_ne hk0)
        have er := AH.out hk0
        subst er
        clear AS AH hk0
        go_wp2
        go_ret
        refine ⟨rfl, HB.out.trans ?_⟩
        refine Below.mono (B := w1.heap.size) ?_ HB.out.size
        repeat (first | (with_reducible exact Below.refl _ _) | (with_reducible assumption) | (with_reducible refine below_to_plus ?_ ?_ _) | (with_reducible refine below_holds ?_ ?_ _ _) | (with_reducible refine Below.alloc ?_ ?_ _) | (with_reducible refine Below.drew ?_) | (with_reducible refine below_drewN ?_ _) | (with_reducible refine Below.setCell ?_ ?_ _))
        all_goals first | omega | (simp; done) | (simp [go_sem]; done) | (simp [go_sem]; omega)
    · have hjz : ¬ (j : Int) < (es.length : Int) := by omega
      have er : r = false := by rw [HR.out]; exact any_missE _ _ (fun a ha => by simpa using A.out a (by omega))
      subst er
      clear HC A HR
      go_wp2
      go_ret
      exact ⟨rfl, HB.out.trans ((below_plus w1 x).mono HB.out.size)⟩

set_option maxHeartbeats 4000000 in
theorem rhas_calls (s q : ByteArray) (hs : s.size ≤ 20000) (w : World) :
    Calls Try.prog 11 #[.string s, .string q] w fun e w' => e = .returned (.bool (hasB s q)) ∧ Below w.heap.size w w' := by
  have cp := elements_calls s q hs w
  have HR : Aside (hasB s q = (elems s q).any (fun e => decide (e.kind ≠ 0))) := rfl
  have hlen := elems_len s q
  generalize elems s q = es at cp HR hlen
  generalize hasB s q = r at HR ⊢
  go_enter Try.func11, Try.ntmps11
  go_wp2_with fail
  refine cp.mono ?_
  rintro e w1 ⟨ao, cap, rfl, ho, hb⟩
  obtain ⟨a9, c9, hv9, hsl⟩ := ownE_sl encR_len (by omega) ho
  injection hv9 with v1 v2 v3
  subst v1
  subst v3
  have HC : Aside (CE encR w1 ao es) := ce_of encR_len hsl
  have HB : Aside (Below w.heap.size w w1) := hb
  have hnz : es.length ≤ 20000 := by omega
  clear ho hb cp hsl hlen
  go_wp2
  go_loopg [12] es.length (fun k s12 wr => ∃ (j : Nat) (x : World), s12 = .int .i64 (j : Int) ∧ wr = plus w1 x ∧ k + j = es.length ∧ Aside (∀ a, a < j → es[a]!.kind = 0))
  case atStart => exact ⟨0, _, rfl, plus_self _, by omega, fun a ha => absurd ha (Nat.not_lt_zero _)⟩
  case round =>
    obtain ⟨j, x, rfl, rfl, hk, A⟩ := hrel
    by_cases hj : j < es.length
    · have hjz : (j : Int) < (es.length : Int) := by omega
      have AH : Aside (es[j]!.kind ≠ 0 → r = true) := fun hh => by rw [HR.out, List.any_eq_true]; exact ⟨es[j]!, by rw [getElem!_pos es j hj]; exact List.getElem_mem _, by simpa using hh⟩
      have AS : Aside (es[j]!.kind = 0 → ∀ a, a < j + 1 → es[a]!.kind = 0) := fun hh a ha => by
        rcases (by omega : a < j ∨ a = j) with h' | h'
        · exact A.out a h'
        · rw [h']; exact hh
      obtain ⟨b, off, rfl, hbw, hc⟩ := HC.out j hj
      clear HC A HR
      generalize es[j]! = y at hc AH AS
      obtain ⟨yk, yc, yn, ys⟩ := y
      have l0 := hc 0 _ rfl
      have l1 := hc 1 _ rfl
      have l2 := hc 2 _ rfl
      have l3 := hc 3 _ rfl
      rw [Nat.add_zero] at l0
      clear hc
      by_cases hk0 : yk = 0
      · have hf : (((yk : Nat) : Int) != 0) = false := by subst hk0; rfl
        have A2 := AS.out hk0
        have A3 : Aside (∀ a, a < j + 1 → es[a]!.kind = 0) := A2
        clear A2 AS AH hk0
        go_wp2
        go_roundg (es.length - (j + 1))
        case measure => omega
        case rel =>
          obtain ⟨z5, hz5⟩ := plus_of_below (show Below w1.heap.size w1 (plus w1 x) from by
            repeat (first | (with_reducible exact Below.refl _ _) | (with_reducible assumption) | (with_reducible refine below_to_plus ?_ ?_ _) | (with_reducible refine below_holds ?_ ?_ _ _) | (with_reducible refine Below.alloc ?_ ?_ _) | (with_reducible refine Below.drew ?_) | (with_reducible refine below_drewN ?_ _) | (with_reducible refine Below.setCell ?_ ?_ _))
            all_goals first | omega | (simp; done) | (simp [go_sem]; done) | (simp [go_sem]; omega))
          exact ⟨j + 1, z5, by simp, hz5, by omega, A3⟩
      · have hf : (((yk : Nat) : Int) != 0) = true := bne_iff_ne.2 (by omega)
        have er := AH.out hk0
        subst er
        clear AS AH hk0
        go_wp2
        go_ret
        refine ⟨rfl, HB.out.trans ?_⟩
        refine Below.mono (B := w1.heap.size) ?_ HB.out.size
        repeat (first | (with_reducible exact Below.refl _ _) | (with_reducible assumption) | (with_reducible refine below_to_plus ?_ ?_ _) | (with_reducible refine below_holds ?_ ?_ _ _) | (with_reducible refine Below.alloc ?_ ?_ _) | (with_reducible refine Below.drew ?_) | (with_reducible refine below_drewN ?_ _) | (with_reducible refine Below.setCell ?_ ?_ _))
        all_goals first | omega | (simp; done) | (simp [go_sem]; done) | (simp [go_sem]; omega)
    · have hjz : ¬ (j : Int) < (es.length : Int) := by omega
      have er : r = false := by rw [HR.out]; exact any_missE _ _ (fun a ha => by simpa using A.out a (by omega))
      subst er
      clear HC A HR
      go_wp2
      go_ret
      exact ⟨rfl, HB.out.trans ((below_plus w1 x).mono HB.out.size)⟩

end Go.Proofs.Ytodoilengdnlfaa
