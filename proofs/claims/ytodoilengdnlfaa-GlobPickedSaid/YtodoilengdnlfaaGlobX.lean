/- This text proves the walks of the statements GlobPicked. Conditions: those that each theorem names. -/
import Derived.Test.YtodoilengdnlfaaGlobV
namespace Go.Proofs.Ytodoilengdnlfaa
open Go.ChangeShapes Go.WideShapes Go.ChangeAt Go.RowKit
set_option linter.unusedVariables false
set_option linter.unusedSimpArgs false

theorem lt_bytes {z y : ByteArray} (h : dl z < dl y) : Op.bytesLess z.toList y.toList = true := by
  rw [bytesLess_eq, toL, toL]; exact decide_eq_true h

set_option maxHeartbeats 8000000 in
set_option maxRecDepth 100000 in
theorem lawPicked_calls (p q : ByteArray) (ao : Option Addr) (n cap : Nat) (xs : List ByteArray) (hx : ∀ y ∈ xs, y.size ≤ 140737488351232) (w : World) (ha : Sl w 1 ao n cap (xs.map sEnc)) :
    Calls Try.prog 8 #[.string p, .string q, .slice ao n cap] w fun e w' => e = .returned (.bool true) ∧ Below w.heap.size w w' := by
  have HL : Aside (xs.length = n) := Sl.lenE ha
  have HA : Aside (CellsS w ao xs) := cellsS ha
  have HS : Aside (Sl w 1 ao n cap (xs.map sEnc)) := ha
  have HX : Aside (∀ y ∈ xs, y.size ≤ 140737488351232) := hx
  have hbig : n ≤ 9223372036854775807 := Nat.le_trans ha.hcap ha.hmax
  clear ha hx
  by_cases i1 : 100 < p.size
  · have i1z : (100 : Int) < (p.size : Int) := by omega
    go_enter Try.func8, Try.ntmps8
    have HB0 : Aside (Below w.heap.size w w) := Below.refl _ _
    go_wp2_with fail
    refine (awake_calls _).mono ?_
    rintro e w81 ⟨rfl, hb⟩
    have HB81 : Aside (Below w.heap.size w w81) := HB0.out.trans (hb.mono HB0.out.size)
    clear hb HB0
    go_wp2
    go_ret
    exact ⟨rfl, HB81.out⟩
  have i1z : ¬ (100 : Int) < (p.size : Int) := by omega
  by_cases i2 : 200 < q.size
  · have i2z : (200 : Int) < (q.size : Int) := by omega
    go_enter Try.func8, Try.ntmps8
    have HB0 : Aside (Below w.heap.size w w) := Below.refl _ _
    go_wp2_with fail
    refine (awake_calls _).mono ?_
    rintro e w82 ⟨rfl, hb⟩
    have HB82 : Aside (Below w.heap.size w w82) := HB0.out.trans (hb.mono HB0.out.size)
    clear hb HB0
    go_wp2
    go_ret
    exact ⟨rfl, HB82.out⟩
  have i2z : ¬ (200 : Int) < (q.size : Int) := by omega
  by_cases i3 : 40 < n
  · have i3z : (40 : Int) < (n : Int) := by omega
    go_enter Try.func8, Try.ntmps8
    have HB0 : Aside (Below w.heap.size w w) := Below.refl _ _
    go_wp2_with fail
    refine (awake_calls _).mono ?_
    rintro e w83 ⟨rfl, hb⟩
    have HB83 : Aside (Below w.heap.size w w83) := HB0.out.trans (hb.mono HB0.out.size)
    clear hb HB0
    go_wp2
    go_ret
    exact ⟨rfl, HB83.out⟩
  have i3z : ¬ (40 : Int) < (n : Int) := by omega
  have HMEM : Aside (∀ z, z ∈ pickL p q xs ↔ z ∈ xs ∧ shownB p q z = true) := pick_mem p q xs
  have HASC : Aside (AscB (pickL p q xs)) := pick_asc p q xs
  have hlen := pick_len p q xs
  have hl0 := HL.out
  have c1 := pick_calls p q ao n cap xs (by omega) (by omega) HX.out w HS.out
  generalize pickL p q xs = r at c1 HMEM HASC hlen
  go_enter Try.func8, Try.ntmps8
  go_wp2_with fail
  refine c1.mono ?_
  rintro e u1 ⟨a1, k1, rfl, h1, hb⟩
  have HB1 : Aside (Below w.heap.size w u1) := hb
  have HS1 : Aside (Sl u1 1 a1 r.length k1 (r.map sEnc)) := h1
  have HR : Aside (CellsS u1 a1 r) := cellsS h1
  have hbig1 : r.length ≤ 9223372036854775807 := Nat.le_trans h1.hcap h1.hmax
  clear hb h1 c1
  go_wp2
  go_loopg [30] r.length (fun k s30 wr => ∃ (idx : Nat) (x : World), s30 = .int .i64 (idx : Int) ∧ wr = plus u1 x ∧ k + idx = r.length)
  case atStart => exact ⟨0, _, rfl, plus_self _, by omega⟩
  case round =>
    obtain ⟨idx, x, rfl, rfl, hk⟩ := hrel
    by_cases hi : idx < r.length
    · have hiz : (idx : Int) < (r.length : Int) := by omega
      obtain ⟨b, off, rfl, hbw, l0⟩ := HR.out idx hi
      have hym := (HMEM.out _).1 (nth_mem hi)
      have hin : inB (nth r idx) xs = true := inB_iff.2 hym.1
      have hmt : matchB p q (nth r idx) = true := by have := hym.2; unfold shownB at this; rw [Bool.and_eq_true] at this; exact this.2
      have hsz := HX.out _ hym.1
      have HPR : Aside (0 < idx → Op.bytesLess (nth r (idx - 1)).toList (nth r idx).toList = true) := fun h0 => by
        refine lt_bytes ?_
        have h2 := HASC.out
        unfold AscB at h2
        have := List.pairwise_iff_getElem.1 h2 (idx - 1) idx (by omega) hi (by omega)
        unfold nth
        rw [List.getElem?_eq_getElem hi, List.getElem?_eq_getElem (by omega : idx - 1 < r.length)]
        exact this
      have HPC : Aside (0 < idx → u1.cell? ⟨b, off + (idx - 1), none⟩ = some (.string (nth r (idx - 1)))) := fun h0 => by
        obtain ⟨b9, off9, e9, _, m0⟩ := HR.out (idx - 1) (by omega)
        cases e9
        exact m0
      generalize nth r (idx - 1) = z at HPR HPC
      generalize nth r idx = y at l0 hin hmt hsz HPR
      have ch : ∀ x1, Calls Try.prog 20 #[.slice ao n cap, .string y] (plus (plus u1 x) x1) fun e w' => e = .returned (.bool true) ∧ Below (plus (plus u1 x) x1).heap.size (plus (plus u1 x) x1) w' := fun x1 => by
        have hB1 := below_to_plus HB1.out HB1.out.size x
        have := lhas_calls ao n cap xs y (plus (plus u1 x) x1) (HS.out.stays (below_to_plus hB1 hB1.size x1))
        rwa [hin] at this
      have cm := fun x1 => ev_match hmt (by omega) hsz (plus (plus u1 x) x1)
      clear hym hin hmt hsz HMEM HASC HR
      by_cases h0 : 0 < idx
      · have h0z : (0 : Int) < (idx : Int) := by omega
        have d0 : decide ((0 : Int) < (idx : Int)) = true := decide_eq_true h0z
        have d0n : decide (0 < idx) = true := decide_eq_true h0
        have hpw : IntKind.i64.wrap ((idx : Int) - 1) = (idx : Int) - 1 := by rw [IntKind.wrap_i64]; omega
        have hpt : ((idx : Int) - 1).toNat = idx - 1 := by omega
        have hpg : (0 : Int) ≤ (idx : Int) - 1 := by omega
        have hpl : (idx : Int) - 1 < (r.length : Int) := by omega
        have m0 := HPC.out h0
        have fz := HPR.out h0
        clear HPC HPR
        go_wp2
        refine wp_region_plus (by kernel_rfl) (by kernel_rfl) ?_
        repeat (go_big_quiet_step (first | (go_at_call 20; exact calls_plus (ch _)) | (go_at_call 12; exact calls_plus (cm _))))
        refine wpQuiet_nil ?_
        rintro _ ⟨x1, rfl⟩
        go_wp2
        go_roundg (r.length - (idx + 1))
        case measure => omega
        case rel =>
          obtain ⟨z5, hz5⟩ := plus_plus u1 x x1
          exact ⟨idx + 1, z5, by simp, hz5, by omega⟩
      · have h0z : ¬ (0 : Int) < (idx : Int) := by omega
        have d0 : decide ((0 : Int) < (idx : Int)) = false := decide_eq_false h0z
        have d0n : decide (0 < idx) = false := decide_eq_false h0
        clear HPC HPR
        go_wp2
        refine wp_region_plus (by kernel_rfl) (by kernel_rfl) ?_
        repeat (go_big_quiet_step (first | (go_at_call 20; exact calls_plus (ch _)) | (go_at_call 12; exact calls_plus (cm _))))
        refine wpQuiet_nil ?_
        rintro _ ⟨x1, rfl⟩
        go_wp2
        go_roundg (r.length - (idx + 1))
        case measure => omega
        case rel =>
          obtain ⟨z5, hz5⟩ := plus_plus u1 x x1
          exact ⟨idx + 1, z5, by simp, hz5, by omega⟩
    · have hiz : ¬ (idx : Int) < (r.length : Int) := by omega
      have HB2 : Aside (Below w.heap.size w (plus u1 x)) := below_to_plus HB1.out HB1.out.size x
      have HS2 : Aside (Sl (plus u1 x) 1 a1 r.length k1 (r.map sEnc)) := HS1.out.stays (below_plus _ _)
      clear HB1 HS1 HR hk
      generalize plus u1 x = u2 at HB2 HS2 ⊢
      go_wp2
      clear hi hiz
      go_loopg [69] n (fun k s69 wr => ∃ (idx : Nat) (x : World), s69 = .int .i64 (idx : Int) ∧ wr = plus u2 x ∧ k + idx = n)
      case atStart => exact ⟨0, _, rfl, plus_self _, by omega⟩
      case round =>
        obtain ⟨idx, x, rfl, rfl, hk⟩ := hrel
        by_cases hi : idx < n
        · have hiz : (idx : Int) < (n : Int) := by omega
          have hix : idx < xs.length := by have := HL.out; omega
          obtain ⟨b, off, rfl, hbw0, l0⟩ := HA.out idx hix
          replace l0 := (HB2.out.cell (p := ⟨b, off + idx, none⟩) hbw0).trans l0
          have hbw : b < u2.heap.size := Nat.lt_of_lt_of_le hbw0 HB2.out.size
          have HIN : Aside (dotB (nth xs idx) = false → inB (nth xs idx) r = matchB p q (nth xs idx)) := fun hd => by
            have hs : shownB p q (nth xs idx) = matchB p q (nth xs idx) := by unfold shownB; rw [hd]; rfl
            rw [Bool.eq_iff_iff, inB_iff, HMEM.out, hs]
            exact ⟨fun h => h.2, fun h => ⟨nth_mem hix, h⟩⟩
          have hsz := HX.out _ (nth_mem hix)
          generalize nth xs idx = y at l0 HIN hsz
          clear HMEM HASC HA HX
          by_cases hy : 100 < y.size
          · have hyz : (100 : Int) < (y.size : Int) := by omega
            have HB0 : Aside (Below w.heap.size w (plus u2 x)) := below_to_plus HB2.out HB2.out.size x
            clear HIN HB2 HS2 HS HL
            go_wp2_with fail
            refine (awake_calls _).mono ?_
            rintro e w84 ⟨rfl, hb⟩
            have HB84 : Aside (Below w.heap.size w w84) := HB0.out.trans (hb.mono HB0.out.size)
            clear hb HB0
            go_wp2
            go_ret
            exact ⟨rfl, HB84.out⟩
          · have hyz : ¬ (100 : Int) < (y.size : Int) := by omega
            have ch0 := fun x1 => lhas_calls a1 r.length k1 r y (plus (plus u2 x) x1) (HS2.out.stays (below_to_plus (below_plus u2 x) (below_plus u2 x).size x1))
            have cm0 := fun x1 => match_calls p q y (by omega) hsz (plus (plus u2 x) x1)
            by_cases hy0 : 0 < y.size
            · have hyz0 : (0 : Int) < (y.size : Int) := by omega
              have u0 := ub_eq hy0
              have fe : ¬ y.toList = [] := by
                intro h
                rw [toL] at h
                have h2 : y.size = (dl y).length := by unfold dl; rw [Array.length_toList]; rfl
                rw [h] at h2
                have h3 : y.size = 0 := h2
                omega
              have fe2 : (y.toList == []) = false := by simpa using fe
              have fe3 : decide (y.toList = []) = false := decide_eq_false fe
              by_cases h46 : ((ub y 0).toNat : Int) = 46
              · have f46 : (((ub y 0).toNat : Int) != 46) = false := by simp [h46]
                clear h46 HIN ch0 cm0 HS HL HS2
                go_wp2
                refine wp_region_plus (by kernel_rfl) (by kernel_rfl) ?_
                repeat (go_big_quiet_step (fail))
                refine wpQuiet_nil ?_
                rintro _ ⟨x1, rfl⟩
                go_wp2
                go_roundg (n - (idx + 1))
                case measure => omega
                case rel =>
                  obtain ⟨z5, hz5⟩ := plus_plus u2 x x1
                  exact ⟨idx + 1, z5, by simp, hz5, by omega⟩
              · have f46 : (((ub y 0).toNat : Int) != 46) = true := by simp [h46]
                have hin := HIN.out (by unfold dotB gb; rw [decide_eq_false h46, Bool.and_false])
                rw [hin] at ch0
                generalize matchB p q y = mm at ch0 cm0
                have ch : ∀ x1, Calls Try.prog 20 #[.slice a1 r.length k1, .string y] (plus (plus u2 x) x1) fun e w' => e = .returned (.bool mm) ∧ Below (plus (plus u2 x) x1).heap.size (plus (plus u2 x) x1) w' := ch0
                have cm : ∀ x1, Calls Try.prog 12 #[.string p, .string q, .string y] (plus (plus u2 x) x1) fun e w' => e = .returned (.bool mm) ∧ Below (plus (plus u2 x) x1).heap.size (plus (plus u2 x) x1) w' := cm0
                have em : (mm != mm) = false := by simp
                clear h46 HIN ch0 cm0 hin HS HL HS2
                go_wp2
                refine wp_region_plus (by kernel_rfl) (by kernel_rfl) ?_
                repeat (go_big_quiet_step (first | (go_at_call 20; exact calls_plus (ch _)) | (go_at_call 12; exact calls_plus (cm _))))
                refine wpQuiet_nil ?_
                rintro _ ⟨x1, rfl⟩
                go_wp2
                go_roundg (n - (idx + 1))
                case measure => omega
                case rel =>
                  obtain ⟨z5, hz5⟩ := plus_plus u2 x x1
                  exact ⟨idx + 1, z5, by simp, hz5, by omega⟩
            · have hyE : y = ⟨#[]⟩ := bytes_inj (List.eq_nil_of_length_eq_zero (by rw [Array.length_toList]; show y.size = 0; omega))
              have hin := HIN.out (by unfold dotB; rw [decide_eq_false hy0, Bool.false_and])
              rw [hin] at ch0
              generalize matchB p q y = mm at ch0 cm0
              have ch : ∀ x1, Calls Try.prog 20 #[.slice a1 r.length k1, .string y] (plus (plus u2 x) x1) fun e w' => e = .returned (.bool mm) ∧ Below (plus (plus u2 x) x1).heap.size (plus (plus u2 x) x1) w' := ch0
              have cm : ∀ x1, Calls Try.prog 12 #[.string p, .string q, .string y] (plus (plus u2 x) x1) fun e w' => e = .returned (.bool mm) ∧ Below (plus (plus u2 x) x1).heap.size (plus (plus u2 x) x1) w' := cm0
              have em : (mm != mm) = false := by simp
              subst hyE
              clear HIN ch0 cm0 hin HS HL HS2
              go_wp2
              refine wp_region_plus (by kernel_rfl) (by kernel_rfl) ?_
              repeat (go_big_quiet_step (first | (go_at_call 20; exact calls_plus (ch _)) | (go_at_call 12; exact calls_plus (cm _))))
              refine wpQuiet_nil ?_
              rintro _ ⟨x1, rfl⟩
              go_wp2
              go_roundg (n - (idx + 1))
              case measure => omega
              case rel =>
                obtain ⟨z5, hz5⟩ := plus_plus u2 x x1
                exact ⟨idx + 1, z5, by simp, hz5, by omega⟩
        · have hiz : ¬ (idx : Int) < (n : Int) := by omega
          have HB0 : Aside (Below w.heap.size w (plus u2 x)) := below_to_plus HB2.out HB2.out.size x
          clear HB2 HS2 HS HL HA HX HMEM HASC
          go_wp2_with fail
          refine (awake_calls _).mono ?_
          rintro e w85 ⟨rfl, hb⟩
          have HB85 : Aside (Below w.heap.size w w85) := HB0.out.trans (hb.mono HB0.out.size)
          clear hb HB0
          go_wp2
          go_ret
          exact ⟨rfl, HB85.out⟩

end Go.Proofs.Ytodoilengdnlfaa
