/- This text proves the walks of the statements GlobStars and GlobPicked. Conditions: those that each theorem names. -/
import Derived.Test.YtodoilengdnlfaaGlobV
namespace Go.Proofs.Ytodoilengdnlfaa
open Go.ChangeShapes Go.WideShapes Go.ChangeAt Go.RowKit
set_option linter.unusedVariables false
set_option linter.unusedSimpArgs false

theorem ext_eq {nm a : ByteArray} {i j : Nat} (hj : j = i + a.size) (h : j ≤ nm.size) : nm.extract i j = a ↔ ∀ t, t < a.size → ub a t = ub nm (i + t) := by
  subst hj
  have hsz : (nm.extract i (i + a.size)).size = a.size := by rw [ByteArray.size_extract]; omega
  have hub : ∀ t, t < a.size → ub (nm.extract i (i + a.size)) t = ub nm (i + t) := fun t ht => by
    rw [← ub_eq (by omega), ← ub_eq (by omega), ByteArray.getElem_extract]
  rw [← seqL_eq]
  constructor
  · rintro ⟨_, h2⟩ t ht
    rw [← h2 t (by omega), hub t ht]
  · intro h2
    exact ⟨hsz, fun t ht => by rw [hub t (by omega), h2 t (by omega)]⟩
theorem star_false {a b nm : ByteArray} (h : ¬ (a.size + b.size ≤ nm.size ∧ (∀ t, t < a.size → ub a t = ub nm t) ∧ (∀ t, t < b.size → ub b t = ub nm (nm.size - b.size + t)) ∧ ∀ t, a.size ≤ t → t < nm.size - b.size → gb nm t ≠ 47)) : matchB (starP a b) (starQ a b) nm = false := by
  cases hm : matchB (starP a b) (starQ a b) nm with
  | false => rfl
  | true => exact absurd ((star_match a b nm).1 hm) h

set_option maxHeartbeats 8000000 in
set_option maxRecDepth 100000 in
theorem lawStars_calls (a b nm : ByteArray) (w : World) :
    Calls Try.prog 7 #[.string a, .string b, .string nm] w fun e w' => e = .returned (.bool true) ∧ Below w.heap.size w w' := by
  by_cases i1 : 100 < a.size
  · have i1z : (100 : Int) < (a.size : Int) := by omega
    go_enter Try.func7, Try.ntmps7
    have HB0 : Aside (Below w.heap.size w w) := Below.refl _ _
    go_wp2_with fail
    refine (awake_calls _).mono ?_
    rintro e w58 ⟨rfl, hb⟩
    have HB58 : Aside (Below w.heap.size w w58) := HB0.out.trans (hb.mono HB0.out.size)
    clear hb HB0
    go_wp2
    go_ret
    exact ⟨rfl, HB58.out⟩
  have i1z : ¬ (100 : Int) < (a.size : Int) := by omega
  by_cases i2 : 100 < b.size
  · have i2z : (100 : Int) < (b.size : Int) := by omega
    go_enter Try.func7, Try.ntmps7
    have HB0 : Aside (Below w.heap.size w w) := Below.refl _ _
    go_wp2_with fail
    refine (awake_calls _).mono ?_
    rintro e w59 ⟨rfl, hb⟩
    have HB59 : Aside (Below w.heap.size w w59) := HB0.out.trans (hb.mono HB0.out.size)
    clear hb HB0
    go_wp2
    go_ret
    exact ⟨rfl, HB59.out⟩
  have i2z : ¬ (100 : Int) < (b.size : Int) := by omega
  by_cases i3 : 300 < nm.size
  · have i3z : (300 : Int) < (nm.size : Int) := by omega
    go_enter Try.func7, Try.ntmps7
    have HB0 : Aside (Below w.heap.size w w) := Below.refl _ _
    go_wp2_with fail
    refine (awake_calls _).mono ?_
    rintro e w60 ⟨rfl, hb⟩
    have HB60 : Aside (Below w.heap.size w w60) := HB0.out.trans (hb.mono HB0.out.size)
    clear hb HB0
    go_wp2
    go_ret
    exact ⟨rfl, HB60.out⟩
  have i3z : ¬ (300 : Int) < (nm.size : Int) := by omega
  have hsum : IntKind.i64.wrap ((a.size : Int) + (b.size : Int)) = (a.size : Int) + (b.size : Int) := by rw [IntKind.wrap_i64]; omega
  have hdif : IntKind.i64.wrap ((nm.size : Int) - (b.size : Int)) = (nm.size : Int) - (b.size : Int) := by rw [IntKind.wrap_i64]; omega
  by_cases h1 : a.size + b.size ≤ nm.size
  · have h1z : (a.size : Int) + (b.size : Int) ≤ (nm.size : Int) := by omega
    have h1n : ¬ (nm.size : Int) < (a.size : Int) + (b.size : Int) := by omega
    have hla : (a.size : Int) ≤ (nm.size : Int) := by omega
    have hlb : (0 : Int) ≤ (nm.size : Int) - (b.size : Int) := by omega
    have x1 : ∀ U, (Instr.slice 9 (.string nm) none (some (.int .i64 (a.size : Int))) none).run Try.prog U = .ok (.string (nm.extract 0 a.size)) U := fun U => by
      rw [run_slice_string_to_if (P := Try.prog) U 9 nm .i64 (a.size : Int) Try.underlying9, if_pos (by omega)]
      simp
    have x2 : ∀ U, (Instr.slice 9 (.string nm) (some (.int .i64 ((nm.size : Int) - (b.size : Int)))) none none).run Try.prog U = .ok (.string (nm.extract (nm.size - b.size) nm.size)) U := fun U => by
      rw [run_slice_string_from_if (P := Try.prog) U 9 nm .i64 ((nm.size : Int) - (b.size : Int)) Try.underlying9, if_pos (by omega), show ((nm.size : Int) - (b.size : Int)).toNat = nm.size - b.size by omega]
    by_cases h2 : nm.extract 0 a.size = a
    · have f2 : ((nm.extract 0 a.size).toList == a.toList) = true := by simp [h2]
      have P2 : Aside (∀ t, t < a.size → ub a t = ub nm t) := fun t ht => by
        have := (ext_eq (by omega) (by omega)).1 h2 t ht
        rwa [Nat.zero_add] at this
      by_cases h3 : nm.extract (nm.size - b.size) nm.size = b
      · have f3 : ((nm.extract (nm.size - b.size) nm.size).toList == b.toList) = true := by simp [h3]
        have P3 : Aside (∀ t, t < b.size → ub b t = ub nm (nm.size - b.size + t)) := (ext_eq (by omega) (by omega)).1 h3
        clear h2 h3
        go_enter Try.func7, Try.ntmps7
        go_wp2
        clear x1 x2 f2 f3
        go_loopg [7, 8] (nm.size - b.size - a.size) (fun k s7 s8 wr => ∃ (i : Nat) (wt : Bool), s7 = .bool wt ∧ s8 = .int .i64 (i : Int) ∧ w = wr ∧ k + i = nm.size - b.size ∧ a.size ≤ i ∧ Aside (wt = true → ∀ t, a.size ≤ t → t < i → gb nm t ≠ 47) ∧ Aside (wt = false → matchB (starP a b) (starQ a b) nm = false))
        case atStart => exact ⟨a.size, true, rfl, rfl, rfl, by omega, Nat.le_refl _, fun _ t h1 h2 => by omega, fun h => Bool.noConfusion h⟩
        case round =>
          obtain ⟨i, wt, rfl, rfl, rfl, hk, hai, A, AF⟩ := hrel
          cases wt with
          | false =>
            have hm := AF.out rfl
            clear A AF P2 P3
            have cm := fun U => ev_match hm (by rw [star_sz]; omega) (by omega) U
            have cm : ∀ U, Calls Try.prog 12 #[.string (a ++ ⟨#[42]⟩ ++ b), .string (onesB a.size ++ ⟨#[48]⟩ ++ onesB b.size), .string nm] U fun e w' => e = .returned (.bool false) ∧ Below U.heap.size U w' := cm
            have co1 := fun U => ones_calls a.size (by omega) U
            have co2 := fun U => ones_calls b.size (by omega) U
            have za := onesB_size a.size
            have zb := onesB_size b.size
            generalize onesB a.size = oa at cm co1 za
            generalize onesB b.size = ob at cm co2 zb
            have t1 : a.size + 1 ≤ maxLen := by unfold maxLen; omega
            have t2 : a.size + 1 + b.size ≤ maxLen := by unfold maxLen; omega
            have t3 : oa.size + 1 ≤ maxLen := by unfold maxLen; omega
            have t4 : oa.size + 1 + ob.size ≤ maxLen := by unfold maxLen; omega
            clear hm
            have HB0 : Aside (Below w.heap.size w w) := Below.refl _ _
            go_wp2_with fail
            refine (co1 _).mono ?_
            rintro e w61 ⟨rfl, hw⟩
            rw [hw]
            clear hw
            go_wp2_with fail
            refine (co2 _).mono ?_
            rintro e w62 ⟨rfl, hw⟩
            rw [hw]
            clear hw
            go_wp2_with fail
            refine (cm _).mono ?_
            rintro e w63 ⟨rfl, hb⟩
            have HB63 : Aside (Below w.heap.size w w63) := HB0.out.trans (hb.mono HB0.out.size)
            clear hb HB0
            go_wp2_with fail
            refine (awake_calls _).mono ?_
            rintro e w64 ⟨rfl, hb⟩
            have HB64 : Aside (Below w.heap.size w w64) := HB63.out.trans (hb.mono HB63.out.size)
            clear hb HB63
            go_wp2
            go_ret
            exact ⟨rfl, HB64.out⟩
          | true =>
            have A1 : Aside (∀ t, a.size ≤ t → t < i → gb nm t ≠ 47) := A.out rfl
            clear A AF
            by_cases hi : i < nm.size - b.size
            · have hiz : (i : Int) < (nm.size : Int) - (b.size : Int) := by omega
              have hin : i < nm.size := by omega
              have u0 := ub_eq hin
              by_cases hc : gb nm i = 47
              · have hf : (((ub nm i).toNat : Int) != 47) = false := by have : ((ub nm i).toNat : Int) = 47 := hc; simp [this]
                have M2 : Aside (matchB (starP a b) (starQ a b) nm = false) := star_false (fun h => h.2.2.2 i hai hi hc)
                clear hc P2 P3 A1
                go_wp2
                go_roundg (gk - 1)
                case measure => omega
                case rel => exact ⟨i + 1, false, rfl, by simp, rfl, by omega, by omega, fun h => Bool.noConfusion h, fun _ => M2.out⟩
              · have hf : (((ub nm i).toNat : Int) != 47) = true := bne_iff_ne.2 hc
                have A2 : Aside (∀ t, a.size ≤ t → t < i + 1 → gb nm t ≠ 47) := fun t h1 h2 => by
                  rcases (by omega : t < i ∨ t = i) with h' | h'
                  · exact A1.out t h1 h'
                  · rw [h']; exact hc
                clear hc P2 P3 A1
                go_wp2
                go_roundg (gk - 1)
                case measure => omega
                case rel => exact ⟨i + 1, true, rfl, by simp, rfl, by omega, by omega, fun _ => A2.out, fun h => Bool.noConfusion h⟩
            · have hiz : ¬ (i : Int) < (nm.size : Int) - (b.size : Int) := by omega
              have hm : matchB (starP a b) (starQ a b) nm = true := (star_match a b nm).2 ⟨h1, P2.out, P3.out, fun t h5 h6 => A1.out t h5 (by omega)⟩
              clear A1 P2 P3
              have cm := fun U => ev_match hm (by rw [star_sz]; omega) (by omega) U
              have cm : ∀ U, Calls Try.prog 12 #[.string (a ++ ⟨#[42]⟩ ++ b), .string (onesB a.size ++ ⟨#[48]⟩ ++ onesB b.size), .string nm] U fun e w' => e = .returned (.bool true) ∧ Below U.heap.size U w' := cm
              have co1 := fun U => ones_calls a.size (by omega) U
              have co2 := fun U => ones_calls b.size (by omega) U
              have za := onesB_size a.size
              have zb := onesB_size b.size
              generalize onesB a.size = oa at cm co1 za
              generalize onesB b.size = ob at cm co2 zb
              have t1 : a.size + 1 ≤ maxLen := by unfold maxLen; omega
              have t2 : a.size + 1 + b.size ≤ maxLen := by unfold maxLen; omega
              have t3 : oa.size + 1 ≤ maxLen := by unfold maxLen; omega
              have t4 : oa.size + 1 + ob.size ≤ maxLen := by unfold maxLen; omega
              clear hm
              have HB0 : Aside (Below w.heap.size w w) := Below.refl _ _
              go_wp2_with fail
              refine (co1 _).mono ?_
              rintro e w65 ⟨rfl, hw⟩
              rw [hw]
              clear hw
              go_wp2_with fail
              refine (co2 _).mono ?_
              rintro e w66 ⟨rfl, hw⟩
              rw [hw]
              clear hw
              go_wp2_with fail
              refine (cm _).mono ?_
              rintro e w67 ⟨rfl, hb⟩
              have HB67 : Aside (Below w.heap.size w w67) := HB0.out.trans (hb.mono HB0.out.size)
              clear hb HB0
              go_wp2_with fail
              refine (awake_calls _).mono ?_
              rintro e w68 ⟨rfl, hb⟩
              have HB68 : Aside (Below w.heap.size w w68) := HB67.out.trans (hb.mono HB67.out.size)
              clear hb HB67
              go_wp2
              go_ret
              exact ⟨rfl, HB68.out⟩
      · have f3 : ((nm.extract (nm.size - b.size) nm.size).toList == b.toList) = false := by simp [str_inj, h3]
        have hm : matchB (starP a b) (starQ a b) nm = false := star_false (fun h => h3 ((ext_eq (by omega) (by omega)).2 h.2.2.1))
        clear h2 h3 P2
        go_enter Try.func7, Try.ntmps7
        go_wp2
        go_loopg [7, 8] 0 (fun k s7 s8 wr => s7 = .bool false ∧ s8 = .int .i64 (a.size : Int) ∧ w = wr)
        case atStart => exact ⟨rfl, rfl, rfl⟩
        case round =>
          obtain ⟨rfl, rfl, rfl⟩ := hrel
          have cm := fun U => ev_match hm (by rw [star_sz]; omega) (by omega) U
          have cm : ∀ U, Calls Try.prog 12 #[.string (a ++ ⟨#[42]⟩ ++ b), .string (onesB a.size ++ ⟨#[48]⟩ ++ onesB b.size), .string nm] U fun e w' => e = .returned (.bool false) ∧ Below U.heap.size U w' := cm
          have co1 := fun U => ones_calls a.size (by omega) U
          have co2 := fun U => ones_calls b.size (by omega) U
          have za := onesB_size a.size
          have zb := onesB_size b.size
          generalize onesB a.size = oa at cm co1 za
          generalize onesB b.size = ob at cm co2 zb
          have t1 : a.size + 1 ≤ maxLen := by unfold maxLen; omega
          have t2 : a.size + 1 + b.size ≤ maxLen := by unfold maxLen; omega
          have t3 : oa.size + 1 ≤ maxLen := by unfold maxLen; omega
          have t4 : oa.size + 1 + ob.size ≤ maxLen := by unfold maxLen; omega
          clear hm
          have HB0 : Aside (Below w.heap.size w w) := Below.refl _ _
          go_wp2_with fail
          refine (co1 _).mono ?_
          rintro e w69 ⟨rfl, hw⟩
          rw [hw]
          clear hw
          go_wp2_with fail
          refine (co2 _).mono ?_
          rintro e w70 ⟨rfl, hw⟩
          rw [hw]
          clear hw
          go_wp2_with fail
          refine (cm _).mono ?_
          rintro e w71 ⟨rfl, hb⟩
          have HB71 : Aside (Below w.heap.size w w71) := HB0.out.trans (hb.mono HB0.out.size)
          clear hb HB0
          go_wp2_with fail
          refine (awake_calls _).mono ?_
          rintro e w72 ⟨rfl, hb⟩
          have HB72 : Aside (Below w.heap.size w w72) := HB71.out.trans (hb.mono HB71.out.size)
          clear hb HB71
          go_wp2
          go_ret
          exact ⟨rfl, HB72.out⟩
    · have f2 : ((nm.extract 0 a.size).toList == a.toList) = false := by simp [str_inj, h2]
      have hm : matchB (starP a b) (starQ a b) nm = false := star_false (fun h => h2 ((ext_eq (by omega) (by omega)).2 (fun t ht => by rw [Nat.zero_add]; exact h.2.1 t ht)))
      clear h2
      go_enter Try.func7, Try.ntmps7
      go_wp2
      go_loopg [7, 8] 0 (fun k s7 s8 wr => s7 = .bool false ∧ s8 = .int .i64 (a.size : Int) ∧ w = wr)
      case atStart => exact ⟨rfl, rfl, rfl⟩
      case round =>
        obtain ⟨rfl, rfl, rfl⟩ := hrel
        have cm := fun U => ev_match hm (by rw [star_sz]; omega) (by omega) U
        have cm : ∀ U, Calls Try.prog 12 #[.string (a ++ ⟨#[42]⟩ ++ b), .string (onesB a.size ++ ⟨#[48]⟩ ++ onesB b.size), .string nm] U fun e w' => e = .returned (.bool false) ∧ Below U.heap.size U w' := cm
        have co1 := fun U => ones_calls a.size (by omega) U
        have co2 := fun U => ones_calls b.size (by omega) U
        have za := onesB_size a.size
        have zb := onesB_size b.size
        generalize onesB a.size = oa at cm co1 za
        generalize onesB b.size = ob at cm co2 zb
        have t1 : a.size + 1 ≤ maxLen := by unfold maxLen; omega
        have t2 : a.size + 1 + b.size ≤ maxLen := by unfold maxLen; omega
        have t3 : oa.size + 1 ≤ maxLen := by unfold maxLen; omega
        have t4 : oa.size + 1 + ob.size ≤ maxLen := by unfold maxLen; omega
        clear hm
        have HB0 : Aside (Below w.heap.size w w) := Below.refl _ _
        go_wp2_with fail
        refine (co1 _).mono ?_
        rintro e w73 ⟨rfl, hw⟩
        rw [hw]
        clear hw
        go_wp2_with fail
        refine (co2 _).mono ?_
        rintro e w74 ⟨rfl, hw⟩
        rw [hw]
        clear hw
        go_wp2_with fail
        refine (cm _).mono ?_
        rintro e w75 ⟨rfl, hb⟩
        have HB75 : Aside (Below w.heap.size w w75) := HB0.out.trans (hb.mono HB0.out.size)
        clear hb HB0
        go_wp2_with fail
        refine (awake_calls _).mono ?_
        rintro e w76 ⟨rfl, hb⟩
        have HB76 : Aside (Below w.heap.size w w76) := HB75.out.trans (hb.mono HB75.out.size)
        clear hb HB75
        go_wp2
        go_ret
        exact ⟨rfl, HB76.out⟩
  · have h1z : ¬ (a.size : Int) + (b.size : Int) ≤ (nm.size : Int) := by omega
    have h1n : (nm.size : Int) < (a.size : Int) + (b.size : Int) := by omega
    have hm : matchB (starP a b) (starQ a b) nm = false := star_false (fun h => h1 h.1)
    go_enter Try.func7, Try.ntmps7
    go_wp2
    go_loopg [7, 8] 0 (fun k s7 s8 wr => s7 = .bool false ∧ s8 = .int .i64 (a.size : Int) ∧ w = wr)
    case atStart => exact ⟨rfl, rfl, rfl⟩
    case round =>
      obtain ⟨rfl, rfl, rfl⟩ := hrel
      have cm := fun U => ev_match hm (by rw [star_sz]; omega) (by omega) U
      have cm : ∀ U, Calls Try.prog 12 #[.string (a ++ ⟨#[42]⟩ ++ b), .string (onesB a.size ++ ⟨#[48]⟩ ++ onesB b.size), .string nm] U fun e w' => e = .returned (.bool false) ∧ Below U.heap.size U w' := cm
      have co1 := fun U => ones_calls a.size (by omega) U
      have co2 := fun U => ones_calls b.size (by omega) U
      have za := onesB_size a.size
      have zb := onesB_size b.size
      generalize onesB a.size = oa at cm co1 za
      generalize onesB b.size = ob at cm co2 zb
      have t1 : a.size + 1 ≤ maxLen := by unfold maxLen; omega
      have t2 : a.size + 1 + b.size ≤ maxLen := by unfold maxLen; omega
      have t3 : oa.size + 1 ≤ maxLen := by unfold maxLen; omega
      have t4 : oa.size + 1 + ob.size ≤ maxLen := by unfold maxLen; omega
      clear hm
      have HB0 : Aside (Below w.heap.size w w) := Below.refl _ _
      go_wp2_with fail
      refine (co1 _).mono ?_
      rintro e w77 ⟨rfl, hw⟩
      rw [hw]
      clear hw
      go_wp2_with fail
      refine (co2 _).mono ?_
      rintro e w78 ⟨rfl, hw⟩
      rw [hw]
      clear hw
      go_wp2_with fail
      refine (cm _).mono ?_
      rintro e w79 ⟨rfl, hb⟩
      have HB79 : Aside (Below w.heap.size w w79) := HB0.out.trans (hb.mono HB0.out.size)
      clear hb HB0
      go_wp2_with fail
      refine (awake_calls _).mono ?_
      rintro e w80 ⟨rfl, hb⟩
      have HB80 : Aside (Below w.heap.size w w80) := HB79.out.trans (hb.mono HB79.out.size)
      clear hb HB79
      go_wp2
      go_ret
      exact ⟨rfl, HB80.out⟩

end Go.Proofs.Ytodoilengdnlfaa
