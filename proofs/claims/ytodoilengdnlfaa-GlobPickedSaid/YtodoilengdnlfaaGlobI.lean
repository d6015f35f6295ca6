/- This text proves the walk of Match of the reference. Conditions: those that each theorem names. -/
import Derived.Test.YtodoilengdnlfaaGlobH
namespace Go.Proofs.Ytodoilengdnlfaa
open Go.ChangeShapes Go.WideShapes Go.ChangeAt Go.RowKit
set_option linter.unusedVariables false
set_option linter.unusedSimpArgs false

theorem own_from {w w' : World} {B : Nat} {E : TypeId} {k : Nat} {v : Value} {n : Nat} {l : List Value} (h : w.ownsRow B E k v n l) (hb : Below w.heap.size w w') : w'.ownsRow B E k v n l := by
  obtain ⟨x, rfl⟩ := plus_of_below hb
  exact own_plus h

set_option maxHeartbeats 16000000 in
set_option maxRecDepth 100000 in
theorem rmatch_calls (s q nm : ByteArray) (hs : s.size ≤ 20000) (hn : nm.size ≤ 2000000) (w : World) :
    Calls Try.prog 13 #[.string s, .string q, .string nm] w fun e w' => e = .returned (.bool (matchB s q nm)) ∧ Below w.heap.size w w' := by
  obtain ⟨i0, hi0, hz0, hs0, hb0⟩ := boInfo
  have cp := fun U => elements_calls s q hs U
  have HR : Aside (matchB s q nm = reachF nm (elems s q) nm.size) := rfl
  have hlen := elems_len s q
  have HOK : Aside (∀ e ∈ elems s q, OkE e) := elems_ok s q hs
  generalize elems s q = es at cp HR hlen HOK
  generalize matchB s q nm = res at HR ⊢
  have SI : ∀ j, 0 < j → rowL (j + 1) (fun i => decide (i = 0)) = rowL j (fun i => decide (i = 0)) ++ [false] := fun j hj => by rw [rowL_snoc, decide_eq_false (by omega)]
  have hO : (w.alloc (.cells #[.bool true] 4)).ownsRow w.heap.size 4 1 (.slice (some ⟨w.heap.size, 0, none⟩) 1 1) 1 (flatE oEnc (rowL 1 (fun i => decide (i = 0)))) :=
    ⟨rfl, .inr ⟨w.heap.size, 1, #[.bool true], rfl, Nat.le_refl _, heap_alloc_new w _, by decide, by unfold maxLen; omega, rfl, rfl⟩⟩
  have HO : Aside ((w.alloc (.cells #[.bool true] 4)).ownsRow w.heap.size 4 1 (.slice (some ⟨w.heap.size, 0, none⟩) 1 1) 1 (flatE oEnc (rowL 1 (fun i => decide (i = 0))))) := hO
  clear hO
  go_enter Try.func13, Try.ntmps13
  go_wp2_with fail
  go_loopg [7, 8] nm.size (fun k s7 s8 wr => ∃ (j : Nat) (ao' : Option Addr) (cap' : Nat), s8 = .int .i64 (j : Int) ∧ s7 = .slice ao' (j + 1) cap' ∧ k + j = nm.size ∧ Aside (Below w.heap.size w wr ∧ wr.ownsRow w.heap.size 4 1 (.slice ao' (j + 1) cap') (j + 1) (flatE oEnc (rowL (j + 1) (fun i => decide (i = 0))))))
  case atStart => exact ⟨0, _, _, rfl, rfl, by omega, ⟨(Below.refl _ w).alloc (Nat.le_refl _) _, HO.out⟩⟩
  case round =>
    obtain ⟨j, ao', cap', rfl, rfl, hk, ST⟩ := hrel
    by_cases hl : j < nm.size
    · have hlz : (j : Int) < (nm.size : Int) := by omega
      have S1 : Aside (rowL (j + 1 + 1) (fun i => decide (i = 0)) = rowL (j + 1) (fun i => decide (i = 0)) ++ [false]) := SI (j + 1) (by omega)
      have hown := ST.out.2
      have hsw := ST.out.1.size
      go_wp2_with (at_builtin; refine wpList_append_own _ rfl _ _ 40 rfl w.heap.size 4 i0 _ 1 1 Try.underlying40 hi0 hz0 hs0 hb0 rfl (by omega) _ _ _ rfl (hown.alloc _) ⟨wr.heap.size, 0, none⟩ 1 1 [.bool false] rfl rfl (cells_new _ _ _ _ rfl) (o_one false) (by unfold maxLen; omega) (by omega) (by first | (simp; omega) | (simp [size_plus]; omega)) ?_)
      intro v' w9 hown' hgrow _
      obtain ⟨ao9, cap9, rfl, hb9, ho9⟩ := app_stateN (U1 := w) (Nat.le_refl _) (Nat.le_refl _) o_len (by omega) (ys := [(false : Bool)]) (ST.out.1.alloc ST.out.1.size _) (hown.alloc _) (by rw [flatE_one]; exact hown') hgrow
      have ST9 : Aside (Below w.heap.size w w9 ∧ w9.ownsRow w.heap.size 4 1 (.slice ao9 (j + 1 + 1) cap9) (j + 1 + 1) (flatE oEnc (rowL (j + 1 + 1) (fun i => decide (i = 0))))) := ⟨hb9, by rw [S1.out]; exact ho9⟩
      clear hown hown' hgrow hb9 ho9 hsw S1
      go_wp2
      go_roundg (nm.size - (j + 1))
      case measure => omega
      case rel => exact ⟨j + 1, ao9, cap9, by simp, rfl, by omega, ST9⟩
    · have hlz : ¬ (j : Int) < (nm.size : Int) := by omega
      have ej : j = nm.size := by omega
      subst ej
      clear HO SI
      go_wp2_with fail
      refine (cp _).mono ?_
      rintro e w1 ⟨ae, ce, rfl, ho, hb⟩
      obtain ⟨a9, c9, hv9, hsl⟩ := ownE_sl encR_len (by omega) ho
      injection hv9 with v1 v2 v3
      subst v1
      subst v3
      have HC : Aside (CE encR w1 ae es) := ce_of encR_len hsl
      have HB : Aside (Below w.heap.size w w1) := ST.out.1.trans (hb.mono ST.out.1.size)
      obtain ⟨a8, c8, hv8, hsl8⟩ := ownE_sl o_len (by omega) (own_from ST.out.2 hb)
      injection hv8 with u1 u2 u3
      subst u1
      subst u3
      have HS0 : Aside (Sl w1 1 ao' (nm.size + 1) cap' ((rowL (nm.size + 1) (reachF nm (es.take 0))).map oEnc)) := hsl8
      have hnz : es.length ≤ 20000 := by omega
      clear ho hb cp hsl hlen hsl8 ST v2 u2
      go_wp2
      go_loopg [7, 26] es.length (fun k s7 s26 w2 => ∃ (idx cap2 : Nat) (ao2 : Option Addr), s26 = .int .i64 (idx : Int) ∧ s7 = .slice ao2 (nm.size + 1) cap2 ∧ k + idx = es.length ∧ Aside (Below w1.heap.size w1 w2 ∧ Sl w2 1 ao2 (nm.size + 1) cap2 ((rowL (nm.size + 1) (reachF nm (es.take idx))).map oEnc)))
      case atStart => exact ⟨0, cap', ao', rfl, rfl, by omega, (show _ ∧ _ from ⟨Below.refl _ _, HS0.out⟩)⟩
      case round =>
        obtain ⟨idx, cap2, ao2, rfl, rfl, hk3, ST⟩ := hrel
        by_cases hj : idx < es.length
        · have hjz : (idx : Int) < (es.length : Int) := by omega
          have RS : Aside (reachF nm (es.take (idx + 1)) = stepN es[idx]! nm (reachF nm (es.take idx))) := by show _ = _; unfold reachF; rw [take_foldE _ _ _ _ hj]
          have OK1 : OkE es[idx]! := HOK.out _ (by rw [getElem!_pos es idx hj]; exact List.getElem_mem _)
          obtain ⟨b, off, rfl, hbw, hc⟩ := HC.out idx hj
          have cs := fun U hU => step_calls es[idx]! nm (reachF nm (es.take idx)) ao2 cap2 hn OK1 U hU
          generalize es[idx]! = y at hc RS cs
          obtain ⟨yk, yc, yn, ys⟩ := y
          have l0 := (ST.out.1.cell (p := ⟨b, off + idx * 4, none⟩) hbw).trans (hc 0 _ rfl)
          have l1 := (ST.out.1.cell (p := ⟨b, off + idx * 4 + 1, none⟩) hbw).trans (hc 1 _ rfl)
          have l2 := (ST.out.1.cell (p := ⟨b, off + idx * 4 + 2, none⟩) hbw).trans (hc 2 _ rfl)
          have l3 := (ST.out.1.cell (p := ⟨b, off + idx * 4 + 3, none⟩) hbw).trans (hc 3 _ rfl)
          clear hc HC HR
          go_wp2_with fail
          refine (cs _ ST.out.2).mono ?_
          rintro e w3 ⟨a3, c3, rfl, ho3, hb3⟩
          obtain ⟨a4, c4, hv4, hsl4⟩ := ownE_sl o_len (by omega) ho3
          injection hv4 with t1 t2 t3
          subst t1
          subst t3
          have ST3 : Aside (Below w1.heap.size w1 w3 ∧ Sl w3 1 a3 (nm.size + 1) c3 ((rowL (nm.size + 1) (reachF nm (es.take (idx + 1)))).map oEnc)) := ⟨ST.out.1.trans (hb3.mono ST.out.1.size), by rw [RS.out]; exact hsl4⟩
          clear ho3 hb3 hsl4 ST RS cs t2
          go_wp2
          go_roundg (es.length - (idx + 1))
          case measure => omega
          case rel => exact ⟨idx + 1, c3, a3, by simp, rfl, by omega, ST3⟩
        · have hjz : ¬ (idx : Int) < (es.length : Int) := by omega
          have er : res = reachF nm (es.take idx) nm.size := by rw [HR.out, List.take_of_length_le (by omega)]
          obtain ⟨b, off, rfl, hbw, _⟩ := ST.out.2.here (by omega)
          have z0 := cellsO ST.out.2 nm.size (by omega)
          rw [← er] at z0
          have hnn : (nm.size : Int) < (nm.size : Int) + 1 := by omega
          have HB2 : Aside (Below w.heap.size w wr) := HB.out.trans (ST.out.1.mono HB.out.size)
          clear HC HR ST HB er HS0
          go_wp2
          go_ret
          exact ⟨rfl, HB2.out⟩

end Go.Proofs.Ytodoilengdnlfaa
