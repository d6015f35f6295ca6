/- This text proves the walk of filled. Conditions: those that each theorem names. -/
import Derived.Test.YtfhccmegobbnaaaRegexZB
namespace Go.Proofs.Ytfhccmegobbnaaa
open Go.ChangeShapes Go.WideShapes Go.ChangeAt Go.RowKit
set_option linter.unusedVariables false
set_option linter.unusedSimpArgs false

/-- The replacement of a match, with fuel; none: it ends with a single backslash. -/
def fillF (r s : ByteArray) (cs : List Int) (a z : Nat) : Nat → Nat → List UInt8 → Option (List UInt8)
  | 0, _, l => some l
  | f + 1, i, l =>
    if r.size ≤ i then some l
    else if r[i]! = 38 then fillF r s cs a z f (i + 1) (l ++ (s.extract a z).data.toList)
    else if r[i]! ≠ 92 then fillF r s cs a z f (i + 1) (l ++ [r[i]!])
    else if i + 1 = r.size then none
    else if 48 ≤ r[i + 1]!.toNat ∧ r[i + 1]!.toNat ≤ 57 then fillF r s cs a z f (i + 2) (l ++ (partF s cs (r[i + 1]!.toNat - 48)).data.toList)
    else fillF r s cs a z f (i + 2) (l ++ [r[i + 1]!])
def fillTop (r s : ByteArray) (cs : List Int) (a z : Nat) : Option ByteArray := (fillF r s cs a z (r.size + 1) 0 []).map fun l => ⟨l.toArray⟩
theorem bc_snoc (l : List UInt8) (a : UInt8) : Lib.byteCells (l ++ [a]) = Lib.byteCells l ++ [.int .u8 (a.toNat : Int)] := by simp [Lib.byteCells]
theorem bc_str (l : List UInt8) (s : ByteArray) : Lib.byteCells (l ++ s.data.toList) = Lib.byteCells l ++ Lib.strCells s := by simp [Lib.byteCells, Lib.strCells]
theorem u8_is (a c : UInt8) : ((a.toNat : Int) = (c.toNat : Int)) ↔ a = c := by rw [← UInt8.toNat_inj]; omega
theorem part_size (s : ByteArray) (cs : List Int) (k : Nat) : (partF s cs k).size ≤ s.size := by
  unfold partF
  repeat' split
  all_goals first | exact Nat.zero_le _ | (rw [ByteArray.size_extract]; omega)
theorem ib_later {T e : TypeId} {B b : Nat} {bs : List Value} {w w' : World} (h : Lib.IsBuilder T e B b bs w) (hb : Below w.heap.size w w') : Lib.IsBuilder T e B b bs w' := by
  have k : ∀ p, Lib.BuilderAt T e B b p bs w → Lib.BuilderAt T e B b p bs w' := fun p ⟨h1, v, h2, h3, h4⟩ => ⟨h1, v, heap_later h2 hb, own_from h3 hb, h4⟩
  exact h.imp (k _) (k _)
def FillPost (w : World) (r : Option ByteArray) (e : Ending) (W : World) : Prop :=
  (match r with
  | none => e = .returned (.tuple #[.string ⟨#[]⟩, .bool false])
  | some t => e = .returned (.tuple #[.string t, .bool true])) ∧ Below w.heap.size w W
set_option maxRecDepth 20000 in
set_option maxHeartbeats 64000000 in
theorem filled_calls (r s : ByteArray) (hs : s.size ≤ 60) (hr : r.size ≤ 2000) (cv : Value) (cs : List Int) (a z : Nat) (haz : a ≤ z) (hz : z ≤ s.size) (w : World) (h : Offs cv cs w) (hl : cs.length ≤ 1000) (hn : ∀ x ∈ cs, -1 ≤ x ∧ x ≤ (s.size : Int)) :
    Calls Try.prog 29 #[.string r, .string s, cv, .int .i64 (a : Int), .int .i64 (z : Int)] w (FillPost w (fillTop r s cs a z)) := by
  obtain ⟨R, hR⟩ : ∃ R, fillTop r s cs a z = R := ⟨_, rfl⟩
  rw [hR]
  have HR : Aside ((fillF r s cs a z (r.size + 1) 0 []).map (fun l => (⟨l.toArray⟩ : ByteArray)) = R) := hR
  have HO : Aside (Offs cv cs w) := h
  obtain ⟨ca, cc, rfl, -⟩ := h.form
  have HNN : Aside (∀ x ∈ cs, -1 ≤ x ∧ x ≤ (s.size : Int)) := hn
  obtain ⟨Q, hQ⟩ : ∃ Q : Ending → World → Prop, FillPost w R = Q := ⟨_, rfl⟩
  rw [hQ]
  have HQ : Aside (∀ e W, FillPost w R e W → Q e W) := fun e W h1 => by rw [← hQ]; exact h1
  have HB0 : Aside (Lib.IsBuilder 84 5 w.heap.size w.heap.size (Lib.byteCells []) (w.alloc (.cells #[.pointer none, .slice none 0 0] 84)) ∧ Below w.heap.size w (w.alloc (.cells #[.pointer none, .slice none 0 0] 84))) := ⟨Lib.fresh_isBuilder 84 5 w, (Below.refl _ _).alloc (Nat.le_refl _) _⟩
  have azz : (a : Int) ≤ (z : Int) := by omega
  have zzz : (z : Int) ≤ (s.size : Int) := by omega
  have CS : Aside (a ≤ z ∧ z ≤ s.size) := ⟨haz, hz⟩
  clear hR hQ h hn
  go_enter Try.func29, Try.ntmps29
  go_wp2
  go_loopg [13] (r.size + 1) (fun gk s13 wr => ∃ (i : Nat) (l : List UInt8), s13 = .int .i64 (i : Int) ∧ r.size + 1 ≤ gk + i ∧ i ≤ r.size ∧ Aside (l.length ≤ 61 * i) ∧ Aside ((fillF r s cs a z gk i l).map (fun l => (⟨l.toArray⟩ : ByteArray)) = R) ∧ Aside (Lib.IsBuilder 84 5 w.heap.size w.heap.size (Lib.byteCells l) wr ∧ Below w.heap.size w wr))
  case atStart => exact ⟨0, [], rfl, by omega, by omega, Nat.zero_le _, HR.out, HB0.out⟩
  case round =>
    obtain ⟨i, l, rfl, hg, hi, LB, HF, ST⟩ := hrel
    clear HR HB0
    obtain ⟨f, rfl⟩ : ∃ f, gk = f + 1 := ⟨gk - 1, by omega⟩
    have wi1 : IntKind.i64.wrap ((i : Int) + 1) = ((i + 1 : Nat) : Int) := by rw [IntKind.wrap_i64]; omega
    by_cases hin : r.size ≤ i
    · have hin2 : ¬ (i : Int) < (r.size : Int) := by omega
      have hin3 : decide ((i : Int) < (r.size : Int)) = false := decide_eq_false hin2
      have eR : R = some ⟨l.toArray⟩ := by
        have h := HF.out
        unfold fillF at h
        rw [if_pos hin] at h
        exact h.symm
      subst eR
      have cb := Go.Proofs.Ytfhccmegobbnaaa.sh_Builder_String_any w.heap.size w.heap.size l wr ST.out.1 ST.out.2.size
      go_wp2_with fail
      refine cb.mono ?_
      rintro e w3 ⟨rfl, hb⟩
      have B3 : Aside (Below w.heap.size w w3) := ST.out.2.trans hb
      clear hb cb
      go_wp2
      first | exact HQ.out _ _ ⟨rfl, B3.out⟩ | (go_ret2; exact HQ.out _ _ ⟨rfl, B3.out⟩)
    have hin1 : i < r.size := by omega
    have hin2 : (i : Int) < (r.size : Int) := by omega
    have hin3 : decide ((i : Int) < (r.size : Int)) = true := decide_eq_true hin2
    have EQ : Aside (fillF r s cs a z (f + 1) i l = if r[i]! = 38 then fillF r s cs a z f (i + 1) (l ++ (s.extract a z).data.toList)
        else if r[i]! ≠ 92 then fillF r s cs a z f (i + 1) (l ++ [r[i]!])
        else if i + 1 = r.size then none
        else if 48 ≤ r[i + 1]!.toNat ∧ r[i + 1]!.toNat ≤ 57 then fillF r s cs a z f (i + 2) (l ++ (partF s cs (r[i + 1]!.toNat - 48)).data.toList)
        else fillF r s cs a z f (i + 2) (l ++ [r[i + 1]!])) := by
      show _ = _
      conv => lhs; unfold fillF
      rw [if_neg hin]
    obtain ⟨y, hy⟩ : ∃ y, r[i] = y := ⟨_, rfl⟩
    have hyb : r[i]! = y := by rw [getElem!_pos r i hin1, hy]
    rw [hyb] at EQ
    have k38 := u8_is y 38
    have k92 := u8_is y 92
    have HY : Aside (r[i] = y) := hy
    clear hyb
    by_cases c38 : y = 38
    · have NX : Aside ((fillF r s cs a z f (i + 1) (l ++ (s.extract a z).data.toList)).map (fun l => (⟨l.toArray⟩ : ByteArray)) = R) := by
        show _ = _; rw [← HF.out, EQ.out, if_pos c38]
      subst c38
      have HSZ : Aside ((s.extract a z).size ≤ 60) := by show _ ≤ _; have := CS.out; rw [ByteArray.size_extract]; omega
      clear k38 k92 EQ HF
      go_wp2_with fail
      refine (bstr_calls _ _ _ (s.extract a z) _ ST.out.1 (by rw [Lib.byteCells_length]; have := LB.out; have := HSZ.out; omega) ST.out.2.size).mono ?_
      rintro e w3 ⟨rfl, hB, hb⟩
      have ST3 : Aside (Lib.IsBuilder 84 5 w.heap.size w.heap.size (Lib.byteCells (l ++ (s.extract a z).data.toList)) w3 ∧ Below w.heap.size w w3) := ⟨by rw [bc_str]; exact hB, ST.out.2.trans hb⟩
      clear hB hb
      go_wp2_with fail
      go_roundg (f)
      case measure => omega
      case rel => exact ⟨(i + 1), l ++ (s.extract a z).data.toList, rfl, by omega, by omega, by show _ ≤ _; have := LB.out; have := HSZ.out; rw [List.length_append, Array.length_toList]; show l.length + (s.extract a z).size ≤ _; omega, NX.out, ST3.out⟩

    have e38 : ((y.toNat : Int) == 38) = false := by rw [beq_eq_false_iff_ne]; exact fun h => c38 (k38.1 h)
    have f38 : decide ((y.toNat : Int) = 38) = false := decide_eq_false (fun h => c38 (k38.1 h))
    rw [if_neg c38] at EQ
    by_cases c92 : y = 92
    rotate_left
    · have e92 : ((y.toNat : Int) != 92) = true := by rw [bne_iff_ne]; exact fun h => c92 (k92.1 h)
      have NX : Aside ((fillF r s cs a z f (i + 1) (l ++ [y])).map (fun l => (⟨l.toArray⟩ : ByteArray)) = R) := by
        show _ = _; rw [← HF.out, EQ.out, if_pos c92]
      clear k38 k92 c38 c92 EQ HF
      go_wp2_with fail
      refine (bwrite_calls _ _ _ (y.toNat : Int) _ ST.out.1 (by rw [Lib.byteCells_length]; have := LB.out; omega) ST.out.2.size).mono ?_
      rintro e w3 ⟨rfl, hB, hb⟩
      have ST3 : Aside (Lib.IsBuilder 84 5 w.heap.size w.heap.size (Lib.byteCells (l ++ [y])) w3 ∧ Below w.heap.size w w3) := ⟨by rw [bc_snoc]; exact hB, ST.out.2.trans hb⟩
      clear hB hb
      go_wp2_with fail
      go_roundg (f)
      case measure => omega
      case rel => exact ⟨(i + 1), l ++ [y], rfl, by omega, by omega, by show _ ≤ _; have := LB.out; simp; omega, NX.out, ST3.out⟩

    rw [if_neg (fun h => h c92)] at EQ
    subst c92
    clear k38 k92 c38 e38 f38
    by_cases hie : i + 1 = r.size
    · have h1 : (((i + 1 : Nat) : Int) == (r.size : Int)) = true := by rw [hie]; simp
      have h2 : (((i : Int) + 1) == (r.size : Int)) = true := by rw [beq_iff_eq]; omega
      have h3 : (i : Int) + 1 = (r.size : Int) := by omega
      have eR : R = none := by
        have h := HF.out
        rw [EQ.out, if_pos hie] at h
        exact h.symm
      subst eR
      have B3 : Aside (Below w.heap.size w wr) := ST.out.2
      clear hie EQ HF wi1
      go_wp2
      first | exact HQ.out _ _ ⟨rfl, B3.out⟩ | (go_ret2; exact HQ.out _ _ ⟨rfl, B3.out⟩)
    rw [if_neg hie] at EQ
    have hi1 : i + 1 < r.size := by omega
    have h2 : (((i : Int) + 1) == (r.size : Int)) = false := by rw [beq_eq_false_iff_ne]; omega
    have h3 : ¬ (i : Int) + 1 = (r.size : Int) := by omega
    have h4 : (i : Int) + 1 < (r.size : Int) := by omega
    have h5 : (0 : Int) ≤ (i : Int) + 1 := by omega
    have h6 : ((i : Int) + 1).toNat = i + 1 := by omega
    have wi1 : IntKind.i64.wrap ((i : Int) + 1) = (i : Int) + 1 := by rw [IntKind.wrap_i64]; omega
    have wi2 : IntKind.i64.wrap ((i : Int) + 1 + 1) = ((i + 2 : Nat) : Int) := by rw [IntKind.wrap_i64]; omega
    obtain ⟨d, hd⟩ : ∃ d, r[i + 1] = d := ⟨_, rfl⟩
    have hdb : r[i + 1]! = d := by rw [getElem!_pos r (i + 1) hi1, hd]
    rw [hdb] at EQ
    clear hdb
    have dlt : d.toNat < 256 := d.toNat_lt
    by_cases hdg : 48 ≤ d.toNat ∧ d.toNat ≤ 57
    · have g1 : decide ((48 : Int) ≤ (d.toNat : Int)) = true := decide_eq_true (by omega)
      have g1z : (48 : Int) ≤ (d.toNat : Int) := by omega
      have g2 : decide ((d.toNat : Int) ≤ (57 : Int)) = true := decide_eq_true (by omega)
      have g2z : (d.toNat : Int) ≤ (57 : Int) := by omega
      obtain ⟨k, hk⟩ : ∃ k, d.toNat - 48 = k := ⟨_, rfl⟩
      have wd : IntKind.u8.wrap ((d.toNat : Int) - 48) = (k : Int) := by rw [IntKind.wrap_u8]; omega
      have NX : Aside ((fillF r s cs a z f (i + 2) (l ++ (partF s cs k).data.toList)).map (fun l => (⟨l.toArray⟩ : ByteArray)) = R) := by
        show _ = _; rw [← HF.out, EQ.out, if_pos hdg, hk]
      have HSZ : Aside ((partF s cs k).size ≤ 60) := Nat.le_trans (part_size s cs k) hs
      have cp := part_calls s (by omega) (.slice ca cs.length cc) cs k wr (HO.out.later (ST.out.2.mono (Nat.le_refl _))) hl (by omega) HNN.out
      have wk : IntKind.i64.wrap (k : Int) = (k : Int) := by rw [IntKind.wrap_i64]; omega
      clear hk EQ HF hie hdg
      go_wp2_with fail
      refine cp.mono ?_
      rintro e w2 ⟨rfl, hb2⟩
      have ST2 : Aside (Lib.IsBuilder 84 5 w.heap.size w.heap.size (Lib.byteCells l) w2 ∧ Below w.heap.size w w2) := ⟨ib_later ST.out.1 hb2, ST.out.2.trans (hb2.mono ST.out.2.size)⟩
      clear ST hb2 cp
      have ST := ST2
      clear ST2
      go_wp2_with fail
      refine (bstr_calls _ _ _ (partF s cs k) _ ST.out.1 (by rw [Lib.byteCells_length]; have := LB.out; have := HSZ.out; omega) ST.out.2.size).mono ?_
      rintro e w3 ⟨rfl, hB, hb⟩
      have ST3 : Aside (Lib.IsBuilder 84 5 w.heap.size w.heap.size (Lib.byteCells (l ++ (partF s cs k).data.toList)) w3 ∧ Below w.heap.size w w3) := ⟨by rw [bc_str]; exact hB, ST.out.2.trans hb⟩
      clear hB hb
      go_wp2_with fail
      go_roundg (f)
      case measure => omega
      case rel => exact ⟨(i + 2), l ++ (partF s cs k).data.toList, rfl, by omega, by omega, by show _ ≤ _; have := LB.out; have := HSZ.out; rw [List.length_append, Array.length_toList]; show l.length + (partF s cs k).size ≤ _; omega, NX.out, ST3.out⟩

    have NX : Aside ((fillF r s cs a z f (i + 2) (l ++ [d])).map (fun l => (⟨l.toArray⟩ : ByteArray)) = R) := by
      show _ = _; rw [← HF.out, EQ.out, if_neg hdg]
    by_cases h48 : (48 : Int) ≤ (d.toNat : Int)
    · have g1 : decide ((48 : Int) ≤ (d.toNat : Int)) = true := decide_eq_true h48
      have g2 : decide ((d.toNat : Int) ≤ (57 : Int)) = false := decide_eq_false (by omega)
      have g2z : ¬ (d.toNat : Int) ≤ (57 : Int) := by omega
      clear hdg EQ HF hie
      go_wp2_with fail
      refine (bwrite_calls _ _ _ (d.toNat : Int) _ ST.out.1 (by rw [Lib.byteCells_length]; have := LB.out; omega) ST.out.2.size).mono ?_
      rintro e w3 ⟨rfl, hB, hb⟩
      have ST3 : Aside (Lib.IsBuilder 84 5 w.heap.size w.heap.size (Lib.byteCells (l ++ [d])) w3 ∧ Below w.heap.size w w3) := ⟨by rw [bc_snoc]; exact hB, ST.out.2.trans hb⟩
      clear hB hb
      go_wp2_with fail
      go_roundg (f)
      case measure => omega
      case rel => exact ⟨(i + 2), l ++ [d], rfl, by omega, by omega, by show _ ≤ _; have := LB.out; simp; omega, NX.out, ST3.out⟩

    · have g1 : decide ((48 : Int) ≤ (d.toNat : Int)) = false := decide_eq_false h48
      clear hdg EQ HF hie
      go_wp2_with fail
      refine (bwrite_calls _ _ _ (d.toNat : Int) _ ST.out.1 (by rw [Lib.byteCells_length]; have := LB.out; omega) ST.out.2.size).mono ?_
      rintro e w3 ⟨rfl, hB, hb⟩
      have ST3 : Aside (Lib.IsBuilder 84 5 w.heap.size w.heap.size (Lib.byteCells (l ++ [d])) w3 ∧ Below w.heap.size w w3) := ⟨by rw [bc_snoc]; exact hB, ST.out.2.trans hb⟩
      clear hB hb
      go_wp2_with fail
      go_roundg (f)
      case measure => omega
      case rel => exact ⟨(i + 2), l ++ [d], rfl, by omega, by omega, by show _ ≤ _; have := LB.out; simp; omega, NX.out, ST3.out⟩


end Go.Proofs.Ytfhccmegobbnaaa
