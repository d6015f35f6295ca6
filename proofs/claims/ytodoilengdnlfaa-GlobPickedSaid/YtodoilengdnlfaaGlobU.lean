/- This text proves the walk of the fixed examples of the statements on glob. It has no conditions. -/
import Derived.Test.YtodoilengdnlfaaGlobT
import Derived.Test.YtodoilengdnlfaaLook
namespace Go.Proofs.Ytodoilengdnlfaa
open Go.ChangeShapes Go.WideShapes Go.ChangeAt Go.RowKit
set_option linter.unusedVariables false
set_option linter.unusedSimpArgs false

theorem ev_has {s q : ByteArray} {r : Bool} (h : hasB s q = r) (hs : s.size ≤ 20000) (U : World) : Calls Try.prog 10 #[.string s, .string q] U fun e w' => e = .returned (.bool r) ∧ Below U.heap.size U w' := by
  rw [← h]; exact has_calls s q hs U
theorem ev_match {s q nm : ByteArray} {r : Bool} (h : matchB s q nm = r) (hs : s.size ≤ 20000) (hn : nm.size ≤ 140737488351232) (U : World) : Calls Try.prog 12 #[.string s, .string q, .string nm] U fun e w' => e = .returned (.bool r) ∧ Below U.heap.size U w' := by
  rw [← h]; exact match_calls s q nm hs hn U
theorem ev_esc {s t : ByteArray} (h : escB s = t) (hs : s.size ≤ 20000) (U : World) : Calls Try.prog 17 #[.string s] U fun e w' => e = .returned (.string t) ∧ Below U.heap.size U w' := by
  rw [← h]; exact esc_calls s hs U
theorem ev_pick (a : Option Addr) (c : Nat) (U : World) (h : Sl U 1 a 4 c (([⟨#[98]⟩, ⟨#[46, 120]⟩, ⟨#[97]⟩, ⟨#[98]⟩] : List ByteArray).map sEnc)) : Calls Try.prog 15 #[.string ⟨#[42]⟩, .string ⟨#[48]⟩, .slice a 4 c] U fun e w' => ∃ v, e = .returned v ∧ Below U.heap.size U w' ∧ slV 1 2 (([⟨#[97]⟩, ⟨#[98]⟩] : List ByteArray).map sEnc) v U.heap.size w'.heap.size w' := by
  have hp : pickL ⟨#[42]⟩ ⟨#[48]⟩ ([⟨#[98]⟩, ⟨#[46, 120]⟩, ⟨#[97]⟩, ⟨#[98]⟩] : List ByteArray) = ([⟨#[97]⟩, ⟨#[98]⟩] : List ByteArray) := by kernel_rfl
  have := pick_calls ⟨#[42]⟩ ⟨#[48]⟩ a 4 c ([⟨#[98]⟩, ⟨#[46, 120]⟩, ⟨#[97]⟩, ⟨#[98]⟩] : List ByteArray) (by omega) (by decide) (by decide) U h
  rw [hp] at this
  refine this.mono ?_
  rintro e w2 ⟨a7, c7, rfl, hsl, hb⟩
  exact ⟨_, rfl, hb, a7, c7, rfl, hsl⟩
theorem ev_same (a b : Option Addr) (c d : Nat) (U : World) (h1 : Sl U 1 a 2 c (([⟨#[97]⟩, ⟨#[98]⟩] : List ByteArray).map sEnc)) (h2 : Sl U 1 b 2 d (([⟨#[97]⟩, ⟨#[98]⟩] : List ByteArray).map sEnc)) : Calls Try.prog 14 #[.slice a 2 c, .slice b 2 d] U fun e w' => e = .returned (.bool true) ∧ Below U.heap.size U w' := by
  have := same_calls a b 2 c 2 d ([⟨#[97]⟩, ⟨#[98]⟩] : List ByteArray) ([⟨#[97]⟩, ⟨#[98]⟩] : List ByteArray) U h1 h2
  rwa [decide_eq_true rfl] at this

theorem aw_x0 : hasB ⟨#[97, 42]⟩ ⟨#[48, 48]⟩ = true := by kernel_rfl
theorem aw_x2 : hasB ⟨#[97, 42]⟩ ⟨#[48, 49]⟩ = false := by kernel_rfl
theorem aw_x6 : hasB ⟨#[97, 91, 98]⟩ ⟨#[48, 48, 48]⟩ = false := by kernel_rfl
theorem aw_x10 : matchB ⟨#[42, 46, 91, 97, 45, 100, 93]⟩ ⟨#[]⟩ ⟨#[97, 46, 99]⟩ = true := by kernel_rfl
theorem aw_x13 : matchB ⟨#[42, 99]⟩ ⟨#[]⟩ ⟨#[97, 47, 99]⟩ = false := by kernel_rfl
theorem aw_x17 : matchB ⟨#[97, 63, 99]⟩ ⟨#[48, 49, 48]⟩ ⟨#[97, 63, 99]⟩ = true := by kernel_rfl
theorem aw_x20 : matchB ⟨#[97, 63, 99]⟩ ⟨#[48, 49, 48]⟩ ⟨#[97, 98, 99]⟩ = false := by kernel_rfl
theorem aw_x24 : matchB ⟨#[97, 63, 99]⟩ ⟨#[]⟩ ⟨#[97, 98, 99]⟩ = true := by kernel_rfl
theorem aw_x27 : matchB ⟨#[91, 94, 97, 45, 99, 93]⟩ ⟨#[]⟩ ⟨#[100]⟩ = true := by kernel_rfl
theorem aw_x30 : matchB ⟨#[91, 94, 97, 45, 99, 93]⟩ ⟨#[]⟩ ⟨#[98]⟩ = false := by kernel_rfl
theorem aw_x34 : escB ⟨#[97, 42, 91]⟩ = ⟨#[97, 91, 42, 93, 91, 91, 93]⟩ := by kernel_rfl

set_option maxHeartbeats 16000000 in
set_option maxRecDepth 100000 in
theorem awake_calls (w : World) : Calls Try.prog 9 #[] w fun e w' => e = .returned (.bool true) ∧ Below w.heap.size w w' := by
  have HB0 : Aside (Below w.heap.size w w) := Below.refl _ _
  go_enter Try.func9, Try.ntmps9
  go_wp2_with fail
  refine (ev_has aw_x0 (by decide) _).mono ?_
  rintro e w1 ⟨rfl, hb⟩
  have HB1 : Aside (Below w.heap.size w w1) := HB0.out.trans (hb.mono HB0.out.size)
  clear hb HB0
  go_wp2_with fail
  refine (ev_has aw_x2 (by decide) _).mono ?_
  rintro e w3 ⟨rfl, hb⟩
  have HB3 : Aside (Below w.heap.size w w3) := HB1.out.trans (hb.mono HB1.out.size)
  clear hb HB1
  go_wp2_with fail
  refine (ev_has aw_x6 (by decide) _).mono ?_
  rintro e w7 ⟨rfl, hb⟩
  have HB7 : Aside (Below w.heap.size w w7) := HB3.out.trans (hb.mono HB3.out.size)
  clear hb HB3
  go_wp2_with fail
  refine (ev_match aw_x10 (by decide) (by decide) _).mono ?_
  rintro e w11 ⟨rfl, hb⟩
  have HB11 : Aside (Below w.heap.size w w11) := HB7.out.trans (hb.mono HB7.out.size)
  clear hb HB7
  go_wp2_with fail
  refine (ev_match aw_x13 (by decide) (by decide) _).mono ?_
  rintro e w14 ⟨rfl, hb⟩
  have HB14 : Aside (Below w.heap.size w w14) := HB11.out.trans (hb.mono HB11.out.size)
  clear hb HB11
  go_wp2_with fail
  refine (ev_match aw_x17 (by decide) (by decide) _).mono ?_
  rintro e w18 ⟨rfl, hb⟩
  have HB18 : Aside (Below w.heap.size w w18) := HB14.out.trans (hb.mono HB14.out.size)
  clear hb HB14
  go_wp2_with fail
  refine (ev_match aw_x20 (by decide) (by decide) _).mono ?_
  rintro e w21 ⟨rfl, hb⟩
  have HB21 : Aside (Below w.heap.size w w21) := HB18.out.trans (hb.mono HB18.out.size)
  clear hb HB18
  go_wp2_with fail
  refine (ev_match aw_x24 (by decide) (by decide) _).mono ?_
  rintro e w25 ⟨rfl, hb⟩
  have HB25 : Aside (Below w.heap.size w w25) := HB21.out.trans (hb.mono HB21.out.size)
  clear hb HB21
  go_wp2_with fail
  refine (ev_match aw_x27 (by decide) (by decide) _).mono ?_
  rintro e w28 ⟨rfl, hb⟩
  have HB28 : Aside (Below w.heap.size w w28) := HB25.out.trans (hb.mono HB25.out.size)
  clear hb HB25
  go_wp2_with fail
  refine (ev_match aw_x30 (by decide) (by decide) _).mono ?_
  rintro e w31 ⟨rfl, hb⟩
  have HB31 : Aside (Below w.heap.size w w31) := HB28.out.trans (hb.mono HB28.out.size)
  clear hb HB28
  go_wp2_with fail
  refine (ev_esc aw_x34 (by decide) _).mono ?_
  rintro e w35 ⟨rfl, hb⟩
  have HB35 : Aside (Below w.heap.size w w35) := HB31.out.trans (hb.mono HB31.out.size)
  clear hb HB31
  have HS : Aside (Sl (w35.alloc (.cells #[.string ⟨#[98]⟩, .string ⟨#[46, 120]⟩, .string ⟨#[97]⟩, .string ⟨#[98]⟩] 9)) 1 (some ⟨w35.heap.size, 0, none⟩) 4 4 (([⟨#[98]⟩, ⟨#[46, 120]⟩, ⟨#[97]⟩, ⟨#[98]⟩] : List ByteArray).map sEnc)) := sl_block s_len (by omega) _ rfl (by omega) (hp_new rfl)
  have HBA : Aside (Below w.heap.size w (w35.alloc (.cells #[.string ⟨#[98]⟩, .string ⟨#[46, 120]⟩, .string ⟨#[97]⟩, .string ⟨#[98]⟩] 9))) := HB35.out.alloc HB35.out.size _
  clear HB35
  go_wp2_with fail
  refine (ev_pick _ _ _ HS.out).mono ?_
  rintro e w50 ⟨_, rfl, hb, a7, c7, rfl, hsl⟩
  have HBB : Aside (Below w.heap.size w w50) := HBA.out.trans (hb.mono HBA.out.size)
  have HS7 : Aside (Sl (w50.alloc (.cells #[.string ⟨#[97]⟩, .string ⟨#[98]⟩] 9)) 1 a7 2 c7 (([⟨#[97]⟩, ⟨#[98]⟩] : List ByteArray).map sEnc)) := Sl.stays hsl ((Below.refl _ _).alloc (Nat.le_refl _) _)
  have HS8 : Aside (Sl (w50.alloc (.cells #[.string ⟨#[97]⟩, .string ⟨#[98]⟩] 9)) 1 (some ⟨w50.heap.size, 0, none⟩) 2 2 (([⟨#[97]⟩, ⟨#[98]⟩] : List ByteArray).map sEnc)) := sl_block s_len (by omega) _ rfl (by omega) (hp_new rfl)
  have HBC : Aside (Below w.heap.size w (w50.alloc (.cells #[.string ⟨#[97]⟩, .string ⟨#[98]⟩] 9))) := HBB.out.alloc HBB.out.size _
  clear HBA HBB HS hsl hb
  go_wp2_with fail
  refine (ev_same _ _ _ _ _ HS7.out HS8.out).mono ?_
  rintro e w51 ⟨rfl, hb⟩
  have HBD : Aside (Below w.heap.size w w51) := HBC.out.trans (hb.mono HBC.out.size)
  clear hb HBC HS7 HS8
  go_wp2
  go_ret
  exact ⟨rfl, HBD.out⟩

end Go.Proofs.Ytodoilengdnlfaa
