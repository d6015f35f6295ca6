/- This text proves the walk of fill of the reference: it answers as the package's filled. Conditions: those that each theorem names. This text proves the walk of Replace of the reference, and of the statement RegexReplaces. Conditions: those that each theorem names. -/
import Derived.Test.YtfhccmegobbnaaaRegexRJ
import Derived.BigQuiet
namespace Go.Proofs.Ytfhccmegobbnaaa
open Go.ChangeShapes Go.WideShapes Go.ChangeAt Go.RowKit
set_option linter.unusedVariables false
set_option linter.unusedSimpArgs false

theorem bapp (l : List UInt8) (t : ByteArray) : (⟨l.toArray⟩ : ByteArray) ++ t = ⟨(l ++ t.data.toList).toArray⟩ := by
  apply ByteArray.ext
  rw [ByteArray.data_append]
  apply Array.toList_inj.1
  simp
theorem ext_one (r : ByteArray) (i : Nat) (h : i < r.size) : (r.extract i (i + 1)).data.toList = [r[i]!] := by
  have h9 : i < r.data.size := h
  rw [getElem!_pos r i h]
  apply List.ext_getElem?
  intro j
  rw [ByteArray.data_extract, Array.getElem?_toList, Array.getElem?_extract]
  cases j with
  | zero =>
    rw [if_pos (by omega), Array.getElem?_eq_getElem (by omega)]
    rfl
  | succ j => rw [if_neg (by omega)]; simp
set_option maxRecDepth 20000 in
set_option maxHeartbeats 64000000 in
theorem rfill_calls (r s : ByteArray) (hs : s.size ≤ 60) (hr : r.size ≤ 2000) (cv : Value) (cs : List Int) (a z : Nat) (b3 : Bool) (haz : a ≤ z) (hz : z ≤ s.size) (w : World) (h : Offs cv cs w) (hl : cs.length ≤ 1000) (hev : cs.length % 2 = 0) (hn : ∀ x ∈ cs, -1 ≤ x ∧ x ≤ (s.size : Int)) :
    Calls Try.prog 34 #[.string r, .string s, .agg #[cv, .int .i64 (a : Int), .int .i64 (z : Int), .bool b3]] w (FillPost w (fillTop r s cs a z)) := by
  obtain ⟨R, hR⟩ : ∃ R, fillTop r s cs a z = R := ⟨_, rfl⟩
  rw [hR]
  have HR : Aside ((fillF r s cs a z (r.size + 1) 0 []).map (fun l => (⟨l.toArray⟩ : ByteArray)) = R) := hR
  obtain ⟨ca, cc, rfl, hca⟩ := h.form
  have HNN : Aside (∀ x ∈ cs, -1 ≤ x ∧ x ≤ (s.size : Int)) := hn
  obtain ⟨m, hm⟩ : ∃ m, cs.length = m := ⟨_, rfl⟩
  have HM : Aside (cs.length = m) := hm
  have CA : Aside (∀ j, j < m → ∃ cb, ca = some ⟨cb, 0, none⟩ ∧ cb < w.heap.size ∧ ∀ i, i < m → w.cell? ⟨cb, i, none⟩ = some (.int .i64 (cs.getD i 0))) := by rw [← hm]; exact hca
  obtain ⟨Q, hQ⟩ : ∃ Q : Ending → World → Prop, FillPost w R = Q := ⟨_, rfl⟩
  rw [hQ]
  have HQ : Aside (∀ e W, FillPost w R e W → Q e W) := fun e W h1 => by rw [← hQ]; exact h1
  have azz : (a : Int) ≤ (z : Int) := by omega
  have zzz : (z : Int) ≤ (s.size : Int) := by omega
  have CS : Aside (a ≤ z ∧ z ≤ s.size) := ⟨haz, hz⟩
  have HO : Aside ((w.alloc (.cells #[.slice ca m cc, .int .i64 (a : Int), .int .i64 (z : Int), .bool b3] 65)).heap[w.heap.size]? = some (.cells #[.slice ca m cc, .int .i64 (a : Int), .int .i64 (z : Int), .bool b3] 65 (0, 0))) := hp_new rfl
  have HB0 : Aside (Below w.heap.size w (w.alloc (.cells #[.slice ca m cc, .int .i64 (a : Int), .int .i64 (z : Int), .bool b3] 65))) := Below.alloc (Below.refl _ _) (Nat.le_refl _) _
  rw [hm] at hl hev ⊢
  clear hR hQ h hn hca hm
  go_enter Try.func34, Try.ntmps34
  go_wp2_with fail
  generalize w.alloc (.cells #[.slice ca m cc, .int .i64 (a : Int), .int .i64 (z : Int), .bool b3] 65) = W1 at HO HB0 ⊢
  go_loopg [8, 9] (r.size + 1) (fun gk s8 s9 wr => ∃ (i : Nat) (l : List UInt8) (o : ByteArray), s8 = .string o ∧ s9 = .int .i64 (i : Int) ∧ r.size + 1 ≤ gk + i ∧ i ≤ r.size ∧ Aside (o = ⟨l.toArray⟩) ∧ o.size ≤ 61 * i ∧ Aside ((fillF r s cs a z gk i l).map (fun l => (⟨l.toArray⟩ : ByteArray)) = R) ∧ Aside (wr.heap[w.heap.size]? = some (.cells #[.slice ca m cc, .int .i64 (a : Int), .int .i64 (z : Int), .bool b3] 65 (0, 0))) ∧ Aside (Below w.heap.size w wr))
  case atStart => exact ⟨0, [], _, rfl, rfl, by omega, by omega, rfl, by decide, HR.out, HO.out, HB0.out⟩
  case round =>
    obtain ⟨i, l, o, rfl, rfl, hg, hi, HOL, hos, HF, HX, HB⟩ := hrel
    clear HR HO HB0
    obtain ⟨f, rfl⟩ : ∃ f, gk = f + 1 := ⟨gk - 1, by omega⟩
    obtain ⟨ip, hip⟩ : ∃ x, i + 1 = x := ⟨_, rfl⟩
    obtain ⟨iq, hiq⟩ : ∃ x, ip + 1 = x := ⟨_, rfl⟩
    have wi1 : IntKind.i64.wrap ((i : Int) + 1) = (ip : Int) := by rw [IntKind.wrap_i64]; omega
    by_cases hin : r.size ≤ i
    · have hin2 : ¬ (i : Int) < (r.size : Int) := by omega
      have hin3 : decide ((i : Int) < (r.size : Int)) = false := decide_eq_false hin2
      have eR : R = some o := by
        have h := HF.out
        unfold fillF at h
        rw [if_pos hin] at h
        rw [HOL.out]
        exact h.symm
      subst eR
      clear HF hin
      go_wp2
      first | exact HQ.out _ _ ⟨rfl, HB.out⟩ | (go_ret2; exact HQ.out _ _ ⟨rfl, HB.out⟩)
    have hin1 : i < r.size := by omega
    have hin2 : (i : Int) < (r.size : Int) := by omega
    have hin3 : decide ((i : Int) < (r.size : Int)) = true := decide_eq_true hin2
    have c50 := cell_heap HX.out 0 _ rfl
    have c51 := cell_heap HX.out 1 _ rfl
    have c52 := cell_heap HX.out 2 _ rfl
    have lx : w.heap.size < wr.heap.size := (Array.getElem?_eq_some_iff.1 HX.out).1
    have EQ : Aside (fillF r s cs a z (f + 1) i l = if r[i]! = 38 then fillF r s cs a z f (i + 1) (l ++ (s.extract a z).data.toList)
        else if r[i]! ≠ 92 then fillF r s cs a z f (i + 1) (l ++ [r[i]!])
        else if i + 1 = r.size then none
        else if 48 ≤ r[i + 1]!.toNat ∧ r[i + 1]!.toNat ≤ 57 then fillF r s cs a z f (i + 2) (l ++ (partF s cs (r[i + 1]!.toNat - 48)).data.toList)
        else fillF r s cs a z f (i + 2) (l ++ [r[i + 1]!])) := by
      show _ = _
      conv => lhs; unfold fillF
      rw [if_neg hin]
    have hi2 : i + 2 = iq := by omega
    rw [hip, hi2] at EQ
    have X1 := ext_one r i hin1
    rw [hip] at X1
    obtain ⟨y, hy⟩ : ∃ y, r[i] = y := ⟨_, rfl⟩
    have hyb : r[i]! = y := by rw [getElem!_pos r i hin1, hy]
    rw [hyb] at EQ X1
    have X1A : Aside ((r.extract i ip).data.toList = [y]) := X1
    have k38 := u8_is y 38
    have k92 := u8_is y 92
    clear hyb X1
    by_cases c38 : y = 38
    · have NX : Aside ((fillF r s cs a z f ip (l ++ (s.extract a z).data.toList)).map (fun l => (⟨l.toArray⟩ : ByteArray)) = R) := by
        show _ = _; rw [← HF.out, EQ.out, if_pos c38]
      have HSZ : (s.extract a z).size ≤ 60 := by have := CS.out; rw [ByteArray.size_extract]; omega
      have sm : ¬ (9223372036854775807 : Int) < (o.size : Int) + ((s.extract a z).size : Int) := by omega
      have NO : Aside (o ++ s.extract a z = ⟨(l ++ (s.extract a z).data.toList).toArray⟩) := by show _ = _; rw [HOL.out]; exact bapp _ _
      have NS : Aside ((o ++ s.extract a z).size ≤ 61 * ip) := by show _ ≤ _; rw [ByteArray.size_append]; omega
      subst c38
      clear k38 k92 EQ HF hin
      go_wp2
      go_roundg f
      case measure => omega
      case rel => exact ⟨ip, _, _, rfl, rfl, by omega, by omega, NO.out, NS.out, NX.out, HX.out, HB.out⟩
    have e38 : ((y.toNat : Int) == 38) = false := by rw [beq_eq_false_iff_ne]; exact fun h => c38 (k38.1 h)
    have f38 : decide ((y.toNat : Int) = 38) = false := decide_eq_false (fun h => c38 (k38.1 h))
    rw [if_neg c38] at EQ
    by_cases c92 : y = 92
    rotate_left
    · have e92 : ((y.toNat : Int) != 92) = true := by rw [bne_iff_ne]; exact fun h => c92 (k92.1 h)
      have NX : Aside ((fillF r s cs a z f ip (l ++ [y])).map (fun l => (⟨l.toArray⟩ : ByteArray)) = R) := by
        show _ = _; rw [← HF.out, EQ.out, if_pos c92]
      have HSZ : (r.extract i ip).size = 1 := by rw [ByteArray.size_extract]; omega
      have sm : ¬ (9223372036854775807 : Int) < (o.size : Int) + ((r.extract i ip).size : Int) := by omega
      have NO : Aside (o ++ r.extract i ip = ⟨(l ++ [y]).toArray⟩) := by show _ = _; rw [HOL.out, bapp, X1A.out]
      have NS : Aside ((o ++ r.extract i ip).size ≤ 61 * ip) := by show _ ≤ _; rw [ByteArray.size_append]; omega
      have i1 : (ip : Int) ≤ (r.size : Int) := by omega
      have i2 : (i : Int) ≤ (ip : Int) := by omega
      clear k38 k92 c38 c92 EQ HF hin
      go_wp2
      go_roundg f
      case measure => omega
      case rel => exact ⟨ip, _, _, rfl, rfl, by omega, by omega, NO.out, NS.out, NX.out, HX.out, HB.out⟩
    rw [if_neg (fun h => h c92)] at EQ
    subst c92
    clear k38 k92 c38 e38 f38 X1A
    by_cases hie : ip = r.size
    · have h1 : ((ip : Int) == (r.size : Int)) = true := by rw [hie]; simp
      have h3 : (ip : Int) = (r.size : Int) := by omega
      have eR : R = none := by
        have h := HF.out
        rw [EQ.out, if_pos hie] at h
        exact h.symm
      subst eR
      clear hie EQ HF hin
      go_wp2
      first | exact HQ.out _ _ ⟨rfl, HB.out⟩ | (go_ret2; exact HQ.out _ _ ⟨rfl, HB.out⟩)
    rw [if_neg hie] at EQ
    have hi1 : ip < r.size := by omega
    have h1 : ((ip : Int) == (r.size : Int)) = false := by rw [beq_eq_false_iff_ne]; omega
    have h3 : ¬ (ip : Int) = (r.size : Int) := by omega
    have h4' : (ip : Int) < (r.size : Int) := by omega
    have wi2 : IntKind.i64.wrap ((ip : Int) + 1) = (iq : Int) := by rw [IntKind.wrap_i64]; omega
    have X2 := ext_one r ip hi1
    rw [hiq] at X2
    obtain ⟨d, hd⟩ : ∃ d, r[ip] = d := ⟨_, rfl⟩
    have hdb : r[ip]! = d := by rw [getElem!_pos r ip hi1, hd]
    rw [hdb] at EQ X2
    have X2A : Aside ((r.extract ip iq).data.toList = [d]) := X2
    clear hdb X2
    have dlt : d.toNat < 256 := d.toNat_lt
    have wk : IntKind.i64.wrap (d.toNat : Int) = (d.toNat : Int) := by rw [IntKind.wrap_i64]; omega
    by_cases hdg : 48 ≤ d.toNat ∧ d.toNat ≤ 57
    · have g1 : decide ((d.toNat : Int) < (48 : Int)) = false := decide_eq_false (by omega)
      have g1z : ¬ (d.toNat : Int) < (48 : Int) := by omega
      have g2 : decide ((57 : Int) < (d.toNat : Int)) = false := decide_eq_false (by omega)
      have g2z : ¬ (57 : Int) < (d.toNat : Int) := by omega
      have g1n : decide (d.toNat < 48) = false := decide_eq_false (by omega)
      have g2n : decide (57 < d.toNat) = false := decide_eq_false (by omega)
      obtain ⟨k, hk⟩ : ∃ k, d.toNat - 48 = k := ⟨_, rfl⟩
      have wd : IntKind.i64.wrap ((d.toNat : Int) - 48) = (k : Int) := by rw [IntKind.wrap_i64]; omega
      obtain ⟨kk, hkk⟩ : ∃ x, 2 * k = x := ⟨_, rfl⟩
      obtain ⟨kq, hkq⟩ : ∃ x, kk + 1 = x := ⟨_, rfl⟩
      have wm : IntKind.i64.wrap (2 * (k : Int)) = (kk : Int) := by rw [IntKind.wrap_i64]; omega
      have NX : Aside ((fillF r s cs a z f iq (l ++ (partF s cs k).data.toList)).map (fun l => (⟨l.toArray⟩ : ByteArray)) = R) := by
        show _ = _; rw [← HF.out, EQ.out, if_pos hdg, hk]
      clear EQ HF hie hin X2A
      by_cases hkl : kk < m
      rotate_left
      · have kz : decide ((kk : Int) < (m : Int)) = false := decide_eq_false (by omega)
        have kz' : decide (kk < m) = false := decide_eq_false hkl
        have EP : partF s cs k = ⟨#[]⟩ := by unfold partF; rw [if_pos (by rw [HM.out]; omega)]
        rw [EP] at NX
        have NX2 : Aside ((fillF r s cs a z f iq l).map (fun l => (⟨l.toArray⟩ : ByteArray)) = R) := by
          have h := NX.out
          rw [show (⟨#[]⟩ : ByteArray).data.toList = [] from rfl, List.append_nil] at h
          exact h
        clear EP hk hdg hkl
        go_wp2_with fail
        go_quiet (fail)
        go_wp2_with fail
        go_roundg f
        case measure => omega
        case rel => exact ⟨iq, l, o, rfl, rfl, by omega, by omega, HOL.out, by omega, NX2.out, HX.out, below_drewN HB.out _⟩
      obtain ⟨cb, rfl, hcb, hcc⟩ := CA.out (kk) hkl
      have hk1 : kq < m := by omega
      have y0 := (HB.out.cell (p := ⟨cb, kk, none⟩) hcb).trans (hcc (kk) hkl)
      have y1 := (HB.out.cell (p := ⟨cb, kq, none⟩) hcb).trans (hcc (kq) hk1)
      have kz : decide ((kk : Int) < (m : Int)) = true := decide_eq_true (by omega)
      have kz' : decide (kk < m) = true := decide_eq_true hkl
      have kzz : (kk : Int) < (m : Int) := by omega
      have kz2 : (kq : Int) < (m : Int) := by omega
      have wk1 : IntKind.i64.wrap ((kk : Int) + 1) = (kq : Int) := by rw [IntKind.wrap_i64]; omega
      have V0 := HNN.out (cs.getD (kk) 0) (by rw [List.getD_eq_getElem?_getD, List.getElem?_eq_getElem (by rw [HM.out]; exact hkl)]; exact List.getElem_mem _)
      have V1 := HNN.out (cs.getD (kq) 0) (by rw [List.getD_eq_getElem?_getD, List.getElem?_eq_getElem (by rw [HM.out]; exact hk1)]; exact List.getElem_mem _)
      have EP : Aside (partF s cs k = if cs.getD (kk) 0 < 0 then ⟨#[]⟩ else if cs.getD (kq) 0 < cs.getD (kk) 0 then ⟨#[]⟩ else s.extract (cs.getD (kk) 0).toNat (cs.getD (kq) 0).toNat) := by
        show _ = _
        unfold partF
        rw [if_neg (by rw [HM.out]; omega), hkk, hkq]
      generalize cs.getD (kk) 0 = x0 at y0 V0 EP
      generalize cs.getD (kq) 0 = x1 at y1 V1 EP
      clear hcc CA hk hdg hkl hk1
      by_cases hx0 : x0 < 0
      · have n0 : decide ((0 : Int) ≤ x0) = false := decide_eq_false (by omega)
        have n0z : ¬ (0 : Int) ≤ x0 := by omega
        rw [if_pos hx0] at EP
        rw [EP.out] at NX
        have NX2 : Aside ((fillF r s cs a z f iq l).map (fun l => (⟨l.toArray⟩ : ByteArray)) = R) := by
          have h := NX.out
          rw [show (⟨#[]⟩ : ByteArray).data.toList = [] from rfl, List.append_nil] at h
          exact h
        clear NX EP hx0
        go_wp2_with fail
        go_quiet (fail)
        go_wp2_with fail
        go_roundg f
        case measure => omega
        case rel => exact ⟨iq, l, o, rfl, rfl, by omega, by omega, HOL.out, by omega, NX2.out, HX.out, below_drewN HB.out _⟩
      rw [if_neg hx0] at EP
      have n0 : decide ((0 : Int) ≤ x0) = true := decide_eq_true (by omega)
      have n0z : (0 : Int) ≤ x0 := by omega
      by_cases hx1 : x1 < x0
      · have n1 : decide (x0 ≤ x1) = false := decide_eq_false (by omega)
        have n1z : ¬ x0 ≤ x1 := by omega
        rw [if_pos hx1] at EP
        rw [EP.out] at NX
        have NX2 : Aside ((fillF r s cs a z f iq l).map (fun l => (⟨l.toArray⟩ : ByteArray)) = R) := by
          have h := NX.out
          rw [show (⟨#[]⟩ : ByteArray).data.toList = [] from rfl, List.append_nil] at h
          exact h
        clear NX EP hx0 hx1
        go_wp2_with fail
        go_quiet (fail)
        go_wp2_with fail
        go_roundg f
        case measure => omega
        case rel => exact ⟨iq, l, o, rfl, rfl, by omega, by omega, HOL.out, by omega, NX2.out, HX.out, below_drewN HB.out _⟩
      rw [if_neg hx1] at EP
      have n1 : decide (x0 ≤ x1) = true := decide_eq_true (by omega)
      have n1z : x0 ≤ x1 := by omega
      have n2z : x1 ≤ (s.size : Int) := V1.2
      have HSZ : (s.extract x0.toNat x1.toNat).size ≤ 60 := by rw [ByteArray.size_extract]; omega
      have sm : ¬ (9223372036854775807 : Int) < (o.size : Int) + ((s.extract x0.toNat x1.toNat).size : Int) := by omega
      have NO : Aside (o ++ s.extract x0.toNat x1.toNat = ⟨(l ++ (s.extract x0.toNat x1.toNat).data.toList).toArray⟩) := by show _ = _; rw [HOL.out]; exact bapp _ _
      have NS : Aside ((o ++ s.extract x0.toNat x1.toNat).size ≤ 61 * iq) := by show _ ≤ _; rw [ByteArray.size_append]; omega
      rw [EP.out] at NX
      clear EP hx0 hx1 HOL
      go_wp2_with fail
      go_quiet (fail)
      go_wp2_with fail
      go_quiet (fail)
      go_wp2_with fail
      go_roundg f
      case measure => omega
      case rel => exact ⟨iq, _, _, rfl, rfl, by omega, by omega, NO.out, NS.out, NX.out, HX.out, below_drewN HB.out _⟩
    have NX : Aside ((fillF r s cs a z f iq (l ++ [d])).map (fun l => (⟨l.toArray⟩ : ByteArray)) = R) := by
      show _ = _; rw [← HF.out, EQ.out, if_neg hdg]
    have HSZ : (r.extract ip iq).size = 1 := by rw [ByteArray.size_extract]; omega
    have sm : ¬ (9223372036854775807 : Int) < (o.size : Int) + ((r.extract ip iq).size : Int) := by omega
    have NO : Aside (o ++ r.extract ip iq = ⟨(l ++ [d]).toArray⟩) := by show _ = _; rw [HOL.out, bapp, X2A.out]
    have NS : Aside ((o ++ r.extract ip iq).size ≤ 61 * iq) := by show _ ≤ _; rw [ByteArray.size_append]; omega
    have i1 : (iq : Int) ≤ (r.size : Int) := by omega
    have i2 : (ip : Int) ≤ (iq : Int) := by omega
    have wd : IntKind.i64.wrap ((d.toNat : Int) - 48) = (d.toNat : Int) - 48 := by rw [IntKind.wrap_i64]; omega
    have wm : IntKind.i64.wrap (2 * ((d.toNat : Int) - 48)) = 2 * ((d.toNat : Int) - 48) := by rw [IntKind.wrap_i64]; omega
    by_cases h48 : d.toNat < 48
    · have g1 : decide ((d.toNat : Int) < (48 : Int)) = true := decide_eq_true (by omega)
      have g1z : (d.toNat : Int) < (48 : Int) := by omega
      have g1n : decide (d.toNat < 48) = true := decide_eq_true h48
      clear hdg EQ HF hie hin
      go_wp2
      go_roundg f
      case measure => omega
      case rel => exact ⟨iq, _, _, rfl, rfl, by omega, by omega, NO.out, NS.out, NX.out, HX.out, HB.out⟩
    · have g1 : decide ((d.toNat : Int) < (48 : Int)) = false := decide_eq_false (by omega)
      have g1z : ¬ (d.toNat : Int) < (48 : Int) := by omega
      have g1n : decide (d.toNat < 48) = false := decide_eq_false h48
      have g2 : decide ((57 : Int) < (d.toNat : Int)) = true := decide_eq_true (by omega)
      have g2z : (57 : Int) < (d.toNat : Int) := by omega
      have g2n : decide (57 < d.toNat) = true := decide_eq_true (by omega)
      clear hdg EQ HF hie hin
      go_wp2
      go_roundg f
      case measure => omega
      case rel => exact ⟨iq, _, _, rfl, rfl, by omega, by omega, NO.out, NS.out, NX.out, HX.out, HB.out⟩


theorem ba_nil (x t : ByteArray) (h : t.size = 0) : x ++ t = x := by
  apply ByteArray.ext
  rw [ByteArray.data_append]
  have : t.data = #[] := Array.eq_empty_of_size_eq_zero h
  rw [this]
  simp
theorem repl_end {L : List In} {g f : Nat} {s r o : ByteArray} {last : Int} : replF L g s r (f + 1) o (s.size + 1) last = if 65536 < o.size then (⟨#[]⟩, 4) else (o, 0) := by
  unfold replF
  rw [if_pos (by omega)]
  unfold finF
  rw [ba_nil o _ (by rw [ByteArray.size_extract]; omega)]

set_option maxRecDepth 20000 in
set_option maxHeartbeats 64000000 in
theorem rreplace_calls (L : List In) (ao : Option Addr) (cap g : Nat) (s r : ByteArray) (hs : s.size ≤ 60) (hr : r.size ≤ 2000) (w : World) (E : AEnv w L ao (g : Int) s) :
    Calls Try.prog 20 #[.agg #[.slice ao L.length cap, .int .i64 (g : Int)], .string s, .string r] w fun e W => e = .returned (.tuple #[.string (replTop L g s r).1, .int .i64 (replTop L g s r).2]) ∧ Below w.heap.size w W := by
  obtain ⟨R, hR⟩ : ∃ R, replTop L g s r = R := ⟨_, rfl⟩
  rw [hR]
  have HE : Aside (AEnv w L ao (g : Int) s) := E
  obtain ⟨n, hln⟩ : ∃ n, L.length = n := ⟨_, rfl⟩
  have HN : Aside (L.length = n) := hln
  obtain ⟨Q, hQ⟩ : ∃ Q : Ending → World → Prop, (fun e W => e = .returned (.tuple #[.string R.1, .int .i64 R.2]) ∧ Below w.heap.size w W) = Q := ⟨_, rfl⟩
  rw [hQ]
  have HQ : Aside (∀ W, Below w.heap.size w W → Q (.returned (.tuple #[.string R.1, .int .i64 R.2])) W) := fun W h1 => by rw [← hQ]; exact ⟨rfl, h1⟩
  obtain ⟨W1, hW1⟩ : ∃ V, w.alloc (.cells #[.slice ao n cap, .int .i64 (g : Int)] 24) = V := ⟨_, rfl⟩
  obtain ⟨rb, hrb⟩ : ∃ b, w.heap.size = b := ⟨_, rfl⟩
  have R1 : Aside (W1.heap[rb]? = some (.cells #[.slice ao n cap, .int .i64 (g : Int)] 24 (0, 0))) := by show _ = _; rw [← hW1]; exact hp_new hrb.symm
  have B1 : Aside (Below w.heap.size w W1) := by show Below _ _ _; rw [← hW1]; exact Below.alloc (Below.refl _ _) (Nat.le_refl _) _
  have HW : Aside (w.alloc (.cells #[.slice ao n cap, .int .i64 (g : Int)] 24) = W1) := hW1
  have cf := rfill_calls r ⟨#[]⟩ (by decide) hr (.slice none 0 0) [] 0 0 false (Nat.le_refl _) (Nat.le_refl _) W1 (.inl ⟨rfl, rfl⟩) (by decide) (by decide) (fun x hx => by cases hx)
  have RT0 : Aside (replTop L g s r = R) := hR
  rw [hln]
  clear hln hQ E hW1 hR
  go_enter Try.func20, Try.ntmps20
  go_wp2_with fail
  rw [HW.out]
  refine cf.mono ?_
  rintro e w2 ⟨he, hb2⟩
  have R2 : Aside (w2.heap[rb]? = some (.cells #[.slice ao n cap, .int .i64 (g : Int)] 24 (0, 0))) := heap_later R1.out hb2
  have B2 : Aside (Below w.heap.size w w2) := B1.out.trans (hb2.mono B1.out.size)
  clear hb2 R1 B1 HW cf
  cases hft : fillTop r ⟨#[]⟩ [] 0 0 with
  | none =>
    rw [hft] at he
    have he : e = .returned (.tuple #[.string ⟨#[]⟩, .bool false]) := he
    subst he
    have eR : R = (⟨#[]⟩, 49) := by
      have h := RT0.out
      unfold replTop at h
      rw [hft] at h
      exact h.symm
    subst eR
    clear hft RT0
    go_wp2
    first | exact HQ.out _ B2.out | (go_ret2; exact HQ.out _ B2.out)
  | some t0 =>
    rw [hft] at he
    have he : e = .returned (.tuple #[.string t0, .bool true]) := he
    subst he
    have HF0 : Aside (replF L g s r (s.size + 2) ⟨#[]⟩ 0 (-1) = R) := by
      have h := RT0.out
      unfold replTop at h
      rw [hft] at h
      exact h
    clear hft RT0
    go_wp2_with fail
    go_loopg [10, 11, 12, 13] (s.size + 2) (fun gk s10 s11 s12 s13 wr => ∃ (out : ByteArray) (p : Nat) (last : Int) (dn : Bool), s10 = .string out ∧ s11 = .int .i64 (p : Int) ∧ s12 = .int .i64 last ∧ s13 = .bool dn ∧ 0 < gk ∧ p ≤ s.size ∧ out.size ≤ 65536 ∧ (dn = false → s.size + 2 ≤ gk + p) ∧ Aside (dn = false → replF L g s r gk out p last = R) ∧ Aside (dn = true → R = (out, 0)) ∧ Aside (wr.heap[rb]? = some (.cells #[.slice ao n cap, .int .i64 (g : Int)] 24 (0, 0)) ∧ Below w.heap.size w wr))
    case atStart => exact ⟨⟨#[]⟩, 0, -1, false, rfl, rfl, rfl, rfl, by omega, by omega, Nat.zero_le _, fun _ => by omega, fun _ => HF0.out, fun h => (by cases h), R2.out, B2.out⟩
    case round =>
      obtain ⟨out, p, last, dn, rfl, rfl, rfl, rfl, hg0, hp, hout, hg, HF9, HD, HBX⟩ := hrel
      clear HF0 R2 B2
      cases dn with
      | true =>
        have eR : R = (out, 0) := HD.out rfl
        subst eR
        clear HD HF9 hg
        go_wp2
        first | exact HQ.out _ HBX.out.2 | (go_ret2; exact HQ.out _ HBX.out.2)
      | false =>
      have hg : s.size + 2 ≤ gk + p := hg rfl
      have HF : Aside (replF L g s r gk out p last = R) := HF9.out rfl
      clear HF9 HD
      obtain ⟨f, rfl⟩ : ∃ f, gk = f + 1 := ⟨gk - 1, by omega⟩
      have hf1 : 1 ≤ f := by omega
      have HSP : Aside (¬ s.size < p) := by show ¬ _; omega
      have pz : (p : Int) ≤ (s.size : Int) := by omega
      have c0 := cell_heap HBX.out.1 0 _ rfl
      have c1 := cell_heap HBX.out.1 1 _ rfl
      have lrb : rb < wr.heap.size := (Array.getElem?_eq_some_iff.1 HBX.out.1).1
      have cf := rafter_calls L ao cap g s p wr (HE.out.later HBX.out.2) (by omega)
      rw [HN.out] at cf
      go_wp2_with fail
      refine cf.mono ?_
      rintro e w3 ⟨va, vn, vc, b1, b2, b3, rfl, HFA, hb3⟩
      have HB3 : Aside (w3.heap[rb]? = some (.cells #[.slice ao n cap, .int .i64 (g : Int)] 24 (0, 0)) ∧ Below w.heap.size w w3) := ⟨heap_later HBX.out.1 hb3, HBX.out.2.trans (hb3.mono HBX.out.2.size)⟩
      clear hb3 cf HBX c0 c1 lrb
      cases hfr : firstTop L g s p with
      | none =>
        rw [hfr] at HFA
        obtain ⟨ev, rfl, rfl, rfl⟩ := HFA
        simp only [Value.slice.injEq] at ev
        obtain ⟨rfl, rfl, rfl⟩ := ev
        have HBX : Aside ((w3.alloc (.cells #[.slice none 0 0, .int .i64 0, .int .i64 0, .bool false] 65)).heap[rb]? = some (.cells #[.slice ao n cap, .int .i64 (g : Int)] 24 (0, 0)) ∧ Below w.heap.size w (w3.alloc (.cells #[.slice none 0 0, .int .i64 0, .int .i64 0, .bool false] 65))) := ⟨hp_old HB3.out.1, HB3.out.2.alloc HB3.out.2.size _⟩
        clear HB3
        obtain ⟨tl, htl⟩ : ∃ t, s.extract p s.size = t := ⟨_, rfl⟩
        have tlz : tl.size ≤ 60 := by rw [← htl, ByteArray.size_extract]; omega
        have sm : ¬ (9223372036854775807 : Int) < (out.size : Int) + (tl.size : Int) := by omega
        have FIN : Aside (R = if 65536 < (out ++ tl).size then (⟨#[]⟩, 4) else (out ++ tl, 0)) := by
          have h := HF.out
          unfold replF at h
          rw [if_neg HSP.out, hfr] at h
          show _ = _
          rw [← h]
          show finF s out p = _
          unfold finF
          rw [Nat.min_eq_left hp, htl]
        have ssz : (s.size : Int) ≤ (s.size : Int) := Int.le_refl _
        clear hfr HF
        obtain ⟨o2, ho2⟩ : ∃ t, out ++ tl = t := ⟨_, rfl⟩
        have bo2 : o2.size ≤ 65596 := by rw [← ho2, ByteArray.size_append]; omega
        rw [ho2] at FIN
        by_cases hbig : 65536 < o2.size
        · have hbz : (65536 : Int) < (o2.size : Int) := by omega
          have hbd : decide ((65536 : Int) < (o2.size : Int)) = true := decide_eq_true hbz
          have hbd' : decide (65536 < o2.size) = true := decide_eq_true hbig
          have eR : R = (⟨#[]⟩, 4) := FIN.out.trans (if_pos hbig)
          subst eR
          clear FIN hbig
          go_wp2
          first | exact HQ.out _ HBX.out.2 | (go_ret2; exact HQ.out _ HBX.out.2)
        · have hbz : ¬ (65536 : Int) < (o2.size : Int) := by omega
          have hbd : decide ((65536 : Int) < (o2.size : Int)) = false := decide_eq_false hbz
          have hbd' : decide (65536 < o2.size) = false := decide_eq_false hbig
          have EQ2 : Aside (R = (o2, 0)) := FIN.out.trans (if_neg hbig)
          clear FIN
          go_wp2
          go_roundg f
          case measure => omega
          case rel => exact ⟨o2, p, last, true, rfl, rfl, rfl, rfl, by omega, by omega, by omega, fun h => (by cases h), fun h => (by cases h), fun _ => EQ2.out, HBX.out⟩
      | some t =>
        obtain ⟨cs, a, z⟩ := t
        rw [hfr] at HFA
        obtain ⟨HRW, rfl, rfl, rfl⟩ := HFA
        obtain ⟨inb, pa, az, zs⟩ := firstF_in _ _ hfr
        have hcl := firstF_len HE.out.hr _ _ hfr
        have hg10 := (right_parts HE.out.hr).2.1
        have HBX : Aside ((w3.alloc (.cells #[.slice va vn vc, .int .i64 (a : Int), .int .i64 (z : Int), .bool true] 65)).heap[rb]? = some (.cells #[.slice ao n cap, .int .i64 (g : Int)] 24 (0, 0)) ∧ Below w.heap.size w (w3.alloc (.cells #[.slice va vn vc, .int .i64 (a : Int), .int .i64 (z : Int), .bool true] 65))) := ⟨hp_old HB3.out.1, HB3.out.2.alloc HB3.out.2.size _⟩
        have R14 : Aside ((w3.alloc (.cells #[.slice va vn vc, .int .i64 (a : Int), .int .i64 (z : Int), .bool true] 65)).heap[w3.heap.size]? = some (.cells #[.slice va vn vc, .int .i64 (a : Int), .int .i64 (z : Int), .bool true] 65 (0, 0))) := hp_new rfl
        clear HB3
        have EQ : Aside (R = if a < z then
            (if 65536 < (out ++ s.extract p a ++ (fillTop r s cs a z).getD ⟨#[]⟩).size then (⟨#[]⟩, 4) else replF L g s r f (out ++ s.extract p a ++ (fillTop r s cs a z).getD ⟨#[]⟩) z (z : Int))
          else if (a : Int) ≠ last then
            (if 65536 < (out ++ s.extract p a ++ (fillTop r s cs a z).getD ⟨#[]⟩ ++ s.extract a (min (a + 1) s.size)).size then (⟨#[]⟩, 4) else replF L g s r f (out ++ s.extract p a ++ (fillTop r s cs a z).getD ⟨#[]⟩ ++ s.extract a (min (a + 1) s.size)) (a + 1) (z : Int))
          else
            (if 65536 < (out ++ s.extract p a ++ s.extract a (min (a + 1) s.size)).size then (⟨#[]⟩, 4) else replF L g s r f (out ++ s.extract p a ++ s.extract a (min (a + 1) s.size)) (a + 1) (z : Int))) := by
          have h := HF.out
          unfold replF at h
          rw [if_neg HSP.out, hfr] at h
          exact h.symm
        have cfl := rfill_calls r s hs hr (.slice va vn vc) cs a z true az zs (w3.alloc (.cells #[.slice va vn vc, .int .i64 (a : Int), .int .i64 (z : Int), .bool true] 65)) (.inr ((HRW.lower (Nat.zero_le _)).later (Below.alloc (Below.refl _ _) (Nat.le_refl _) _))) (by omega) (by omega) inb
        have hfz := fillTop_len (r := r) (s := s) (cs := cs) (a := a) (z := z) hs hr
        obtain ⟨ft, hft⟩ : ∃ t, fillTop r s cs a z = t := ⟨_, rfl⟩
        rw [hft] at cfl hfz EQ
        obtain ⟨o1, ho1⟩ : ∃ o, s.extract p a = o := ⟨_, rfl⟩
        have o1z : o1.size ≤ 60 := by rw [← ho1, ByteArray.size_extract]; omega
        rw [ho1] at EQ
        have paz : (p : Int) ≤ (a : Int) := by omega
        have asz : (a : Int) ≤ (s.size : Int) := by omega
        have zsz : (z : Int) ≤ (s.size : Int) := by omega
        have sm1 : ¬ (9223372036854775807 : Int) < (out.size : Int) + (o1.size : Int) := by omega
        clear hfr HF hft inb hcl hg10 HRW
        by_cases haz : a < z
        · have g1 : decide ((a : Int) < (z : Int)) = true := decide_eq_true (by omega)
          have g1z : (a : Int) < (z : Int) := by omega
          have g1n : decide (a < z) = true := decide_eq_true haz
          have g3 : ((a : Int) == (z : Int)) = false := by rw [beq_eq_false_iff_ne]; omega
          have g3z : ¬ (a : Int) = (z : Int) := by omega
          rw [if_pos haz] at EQ
          obtain ⟨oo, hoo⟩ : ∃ t, out ++ o1 = t := ⟨_, rfl⟩
          have boo : oo.size ≤ 65596 := by rw [← hoo, ByteArray.size_append]; omega
          rw [hoo] at EQ
          go_wp2_with fail
          refine cfl.mono ?_
          rintro e w4 ⟨he, hb4⟩
          have HB4 : Aside (w4.heap[rb]? = some (.cells #[.slice ao n cap, .int .i64 (g : Int)] 24 (0, 0)) ∧ Below w.heap.size w w4) := ⟨heap_later HBX.out.1 hb4, HBX.out.2.trans (hb4.mono HBX.out.2.size)⟩
          have T14 := heap_later R14.out hb4
          have d141 := cell_heap T14 1 _ rfl
          have d142 := cell_heap T14 2 _ rfl
          clear hb4 cfl HBX R14 T14
          have HBX := HB4
          clear HB4
          have he2 : ∃ b, e = .returned (.tuple #[.string (ft.getD ⟨#[]⟩), .bool b]) := by
            cases ft with
            | none => exact ⟨false, he⟩
            | some t => exact ⟨true, he⟩
          clear he
          obtain ⟨b4, rfl⟩ := he2
          obtain ⟨t4, ht4⟩ : ∃ t, ft.getD ⟨#[]⟩ = t := ⟨_, rfl⟩
          rw [ht4] at EQ hfz ⊢
          clear ht4
          have sm2 : ¬ (9223372036854775807 : Int) < (oo.size : Int) + (t4.size : Int) := by omega
          obtain ⟨o2, ho2⟩ : ∃ t, oo ++ t4 = t := ⟨_, rfl⟩
          have bo2 : o2.size ≤ 265596 := by rw [← ho2, ByteArray.size_append]; omega
          rw [ho2] at EQ
          by_cases hbig : 65536 < o2.size
          · have hbz : (65536 : Int) < (o2.size : Int) := by omega
            have hbd : decide ((65536 : Int) < (o2.size : Int)) = true := decide_eq_true hbz
            have hbd' : decide (65536 < o2.size) = true := decide_eq_true hbig
            have eR : R = (⟨#[]⟩, 4) := EQ.out.trans (if_pos hbig)
            subst eR
            clear EQ hbig
            go_wp2
            first | exact HQ.out _ HBX.out.2 | (go_ret2; exact HQ.out _ HBX.out.2)
          · have hbz : ¬ (65536 : Int) < (o2.size : Int) := by omega
            have hbd : decide ((65536 : Int) < (o2.size : Int)) = false := decide_eq_false hbz
            have hbd' : decide (65536 < o2.size) = false := decide_eq_false hbig
            have EQ2 : Aside (replF L g s r f o2 z (z : Int) = R) := (EQ.out.trans (if_neg hbig)).symm
            clear EQ
            go_wp2
            go_roundg f
            case measure => omega
            case rel => exact ⟨o2, z, (z : Int), false, rfl, rfl, rfl, rfl, by omega, by omega, by omega, fun _ => by omega, fun _ => EQ2.out, fun h => (by cases h), HBX.out⟩
        have g1 : decide ((a : Int) < (z : Int)) = false := decide_eq_false (by omega)
        have g1z : ¬ (a : Int) < (z : Int) := by omega
        have g1n : decide (a < z) = false := decide_eq_false haz
        have eza : z = a := by omega
        subst eza
        have g3 : ((z : Int) == (z : Int)) = true := by simp
        rw [if_neg haz] at EQ
        by_cases hze : z = s.size
        · have e0 : (s.extract z (min (z + 1) s.size)).size = 0 := by rw [ByteArray.size_extract]; omega
          have zq : ((z : Int) == (s.size : Int)) = true := by rw [hze]; simp
          have END : ∀ o : ByteArray, replF L g s r f o (z + 1) (z : Int) = if 65536 < o.size then (⟨#[]⟩, 4) else (o, 0) := fun o => by
            obtain ⟨f', rfl⟩ : ∃ f', f = f' + 1 := ⟨f - 1, by omega⟩
            rw [hze]
            exact repl_end
          rw [ba_nil _ _ e0, ba_nil _ _ e0, END, END] at EQ
          have IF2 : ∀ o : ByteArray, (if 65536 < o.size then ((⟨#[]⟩, 4) : ByteArray × Int) else if 65536 < o.size then (⟨#[]⟩, 4) else (o, 0)) = if 65536 < o.size then (⟨#[]⟩, 4) else (o, 0) := fun o => by
            by_cases h : 65536 < o.size
            · rw [if_pos h, if_pos h]
            · rw [if_neg h, if_neg h]
          rw [IF2, IF2] at EQ
          clear END IF2 e0
          have wz : Aside (z = s.size) := hze
          clear hze
          by_cases hal : (z : Int) = last
          rotate_left
          · have g2 : ((z : Int) != last) = true := by rw [bne_iff_ne]; exact hal
            rw [if_pos hal] at EQ
            clear hal
            obtain ⟨oo, hoo⟩ : ∃ t, out ++ o1 = t := ⟨_, rfl⟩
            have boo : oo.size ≤ 65596 := by rw [← hoo, ByteArray.size_append]; omega
            rw [hoo] at EQ
            go_wp2_with fail
            refine cfl.mono ?_
            rintro e w4 ⟨he, hb4⟩
            have HB4 : Aside (w4.heap[rb]? = some (.cells #[.slice ao n cap, .int .i64 (g : Int)] 24 (0, 0)) ∧ Below w.heap.size w w4) := ⟨heap_later HBX.out.1 hb4, HBX.out.2.trans (hb4.mono HBX.out.2.size)⟩
            have T14 := heap_later R14.out hb4
            have d141 := cell_heap T14 1 _ rfl
            have d142 := cell_heap T14 2 _ rfl
            clear hb4 cfl HBX R14 T14
            have HBX := HB4
            clear HB4
            have he2 : ∃ b, e = .returned (.tuple #[.string (ft.getD ⟨#[]⟩), .bool b]) := by
              cases ft with
              | none => exact ⟨false, he⟩
              | some t => exact ⟨true, he⟩
            clear he
            obtain ⟨b4, rfl⟩ := he2
            obtain ⟨t4, ht4⟩ : ∃ t, ft.getD ⟨#[]⟩ = t := ⟨_, rfl⟩
            rw [ht4] at EQ hfz ⊢
            clear ht4
            have sm2 : ¬ (9223372036854775807 : Int) < (oo.size : Int) + (t4.size : Int) := by omega
            obtain ⟨o2, ho2⟩ : ∃ t, oo ++ t4 = t := ⟨_, rfl⟩
            have bo2 : o2.size ≤ 265596 := by rw [← ho2, ByteArray.size_append]; omega
            rw [ho2] at EQ
            by_cases hbig : 65536 < o2.size
            · have hbz : (65536 : Int) < (o2.size : Int) := by omega
              have hbd : decide ((65536 : Int) < (o2.size : Int)) = true := decide_eq_true hbz
              have hbd' : decide (65536 < o2.size) = true := decide_eq_true hbig
              have eR : R = (⟨#[]⟩, 4) := EQ.out.trans (if_pos hbig)
              subst eR
              clear EQ hbig
              go_wp2
              first | exact HQ.out _ HBX.out.2 | (go_ret2; exact HQ.out _ HBX.out.2)
            · have hbz : ¬ (65536 : Int) < (o2.size : Int) := by omega
              have hbd : decide ((65536 : Int) < (o2.size : Int)) = false := decide_eq_false hbz
              have hbd' : decide (65536 < o2.size) = false := decide_eq_false hbig
              have EQ2 : Aside (R = (o2, 0)) := EQ.out.trans (if_neg hbig)
              clear EQ
              go_wp2
              go_roundg f
              case measure => omega
              case rel => exact ⟨o2, z, (z : Int), true, rfl, rfl, rfl, rfl, by omega, by omega, by omega, fun h => (by cases h), fun h => (by cases h), fun _ => EQ2.out, HBX.out⟩
          · have g2 : ((z : Int) != last) = false := by rw [hal]; simp
            rw [if_neg (fun h => h hal)] at EQ
            subst hal
            obtain ⟨oo, hoo⟩ : ∃ t, out ++ o1 = t := ⟨_, rfl⟩
            have boo : oo.size ≤ 65596 := by rw [← hoo, ByteArray.size_append]; omega
            rw [hoo] at EQ
            by_cases hbig : 65536 < oo.size
            · have hbz : (65536 : Int) < (oo.size : Int) := by omega
              have hbd : decide ((65536 : Int) < (oo.size : Int)) = true := decide_eq_true hbz
              have hbd' : decide (65536 < oo.size) = true := decide_eq_true hbig
              have eR : R = (⟨#[]⟩, 4) := EQ.out.trans (if_pos hbig)
              subst eR
              clear EQ hbig
              go_wp2
              first | exact HQ.out _ HBX.out.2 | (go_ret2; exact HQ.out _ HBX.out.2)
            · have hbz : ¬ (65536 : Int) < (oo.size : Int) := by omega
              have hbd : decide ((65536 : Int) < (oo.size : Int)) = false := decide_eq_false hbz
              have hbd' : decide (65536 < oo.size) = false := decide_eq_false hbig
              have EQ2 : Aside (R = (oo, 0)) := EQ.out.trans (if_neg hbig)
              clear EQ
              go_wp2
              go_roundg f
              case measure => omega
              case rel => exact ⟨oo, z, (z : Int), true, rfl, rfl, rfl, rfl, by omega, by omega, by omega, fun h => (by cases h), fun h => (by cases h), fun _ => EQ2.out, HBX.out⟩
        have hzl : z < s.size := by omega
        have zq : ((z : Int) == (s.size : Int)) = false := by rw [beq_eq_false_iff_ne]; omega
        have zqz : ¬ (z : Int) = (s.size : Int) := by omega
        obtain ⟨zp, hzp⟩ : ∃ x, z + 1 = x := ⟨_, rfl⟩
        have wz1 : IntKind.i64.wrap ((z : Int) + 1) = (zp : Int) := by rw [IntKind.wrap_i64]; omega
        have hmn : min (z + 1) s.size = zp := by omega
        obtain ⟨o3, ho3⟩ : ∃ o, s.extract z zp = o := ⟨_, rfl⟩
        have o3z : o3.size ≤ 60 := by rw [← ho3, ByteArray.size_extract]; omega
        rw [hmn, ho3, hzp] at EQ
        have zzp : (z : Int) ≤ (zp : Int) := by omega
        have zps : (zp : Int) ≤ (s.size : Int) := by omega
        clear hmn
        by_cases hal : (z : Int) = last
        rotate_left
        · have g2 : ((z : Int) != last) = true := by rw [bne_iff_ne]; exact hal
          rw [if_pos hal] at EQ
          clear hal
          obtain ⟨oo, hoo⟩ : ∃ t, out ++ o1 = t := ⟨_, rfl⟩
          have boo : oo.size ≤ 65596 := by rw [← hoo, ByteArray.size_append]; omega
          rw [hoo] at EQ
          go_wp2_with fail
          refine cfl.mono ?_
          rintro e w4 ⟨he, hb4⟩
          have HB4 : Aside (w4.heap[rb]? = some (.cells #[.slice ao n cap, .int .i64 (g : Int)] 24 (0, 0)) ∧ Below w.heap.size w w4) := ⟨heap_later HBX.out.1 hb4, HBX.out.2.trans (hb4.mono HBX.out.2.size)⟩
          have T14 := heap_later R14.out hb4
          have d141 := cell_heap T14 1 _ rfl
          have d142 := cell_heap T14 2 _ rfl
          clear hb4 cfl HBX R14 T14
          have HBX := HB4
          clear HB4
          have he2 : ∃ b, e = .returned (.tuple #[.string (ft.getD ⟨#[]⟩), .bool b]) := by
            cases ft with
            | none => exact ⟨false, he⟩
            | some t => exact ⟨true, he⟩
          clear he
          obtain ⟨b4, rfl⟩ := he2
          obtain ⟨t4, ht4⟩ : ∃ t, ft.getD ⟨#[]⟩ = t := ⟨_, rfl⟩
          rw [ht4] at EQ hfz ⊢
          clear ht4
          have sm2 : ¬ (9223372036854775807 : Int) < (oo.size : Int) + (t4.size : Int) := by omega
          obtain ⟨o2, ho2⟩ : ∃ t, oo ++ t4 = t := ⟨_, rfl⟩
          have bo2 : o2.size ≤ 265596 := by rw [← ho2, ByteArray.size_append]; omega
          rw [ho2] at EQ
          have sm3 : ¬ (9223372036854775807 : Int) < (o2.size : Int) + (o3.size : Int) := by omega
          obtain ⟨o4, ho4⟩ : ∃ t, o2 ++ o3 = t := ⟨_, rfl⟩
          have bo4 : o4.size ≤ 265656 := by rw [← ho4, ByteArray.size_append]; omega
          rw [ho4] at EQ
          by_cases hbig : 65536 < o4.size
          · have hbz : (65536 : Int) < (o4.size : Int) := by omega
            have hbd : decide ((65536 : Int) < (o4.size : Int)) = true := decide_eq_true hbz
            have hbd' : decide (65536 < o4.size) = true := decide_eq_true hbig
            have eR : R = (⟨#[]⟩, 4) := EQ.out.trans (if_pos hbig)
            subst eR
            clear EQ hbig
            go_wp2
            first | exact HQ.out _ HBX.out.2 | (go_ret2; exact HQ.out _ HBX.out.2)
          · have hbz : ¬ (65536 : Int) < (o4.size : Int) := by omega
            have hbd : decide ((65536 : Int) < (o4.size : Int)) = false := decide_eq_false hbz
            have hbd' : decide (65536 < o4.size) = false := decide_eq_false hbig
            have EQ2 : Aside (replF L g s r f o4 zp (z : Int) = R) := (EQ.out.trans (if_neg hbig)).symm
            clear EQ
            go_wp2
            go_roundg f
            case measure => omega
            case rel => exact ⟨o4, zp, (z : Int), false, rfl, rfl, rfl, rfl, by omega, by omega, by omega, fun _ => by omega, fun _ => EQ2.out, fun h => (by cases h), HBX.out⟩
        · have g2 : ((z : Int) != last) = false := by rw [hal]; simp
          rw [if_neg (fun h => h hal)] at EQ
          subst hal
          obtain ⟨oo, hoo⟩ : ∃ t, out ++ o1 = t := ⟨_, rfl⟩
          have boo : oo.size ≤ 65596 := by rw [← hoo, ByteArray.size_append]; omega
          rw [hoo] at EQ
          have sm3 : ¬ (9223372036854775807 : Int) < (oo.size : Int) + (o3.size : Int) := by omega
          obtain ⟨o4, ho4⟩ : ∃ t, oo ++ o3 = t := ⟨_, rfl⟩
          have bo4 : o4.size ≤ 65656 := by rw [← ho4, ByteArray.size_append]; omega
          rw [ho4] at EQ
          by_cases hbig : 65536 < o4.size
          · have hbz : (65536 : Int) < (o4.size : Int) := by omega
            have hbd : decide ((65536 : Int) < (o4.size : Int)) = true := decide_eq_true hbz
            have hbd' : decide (65536 < o4.size) = true := decide_eq_true hbig
            have eR : R = (⟨#[]⟩, 4) := EQ.out.trans (if_pos hbig)
            subst eR
            clear EQ hbig
            go_wp2
            first | exact HQ.out _ HBX.out.2 | (go_ret2; exact HQ.out _ HBX.out.2)
          · have hbz : ¬ (65536 : Int) < (o4.size : Int) := by omega
            have hbd : decide ((65536 : Int) < (o4.size : Int)) = false := decide_eq_false hbz
            have hbd' : decide (65536 < o4.size) = false := decide_eq_false hbig
            have EQ2 : Aside (replF L g s r f o4 zp (z : Int) = R) := (EQ.out.trans (if_neg hbig)).symm
            clear EQ
            go_wp2
            go_roundg f
            case measure => omega
            case rel => exact ⟨o4, zp, (z : Int), false, rfl, rfl, rfl, rfl, by omega, by omega, by omega, fun _ => by omega, fun _ => EQ2.out, fun h => (by cases h), HBX.out⟩

set_option maxRecDepth 20000 in
set_option maxHeartbeats 64000000 in
theorem lawReplaces_calls (L : List In) (ao : Option Addr) (cap : Nat) (g : Int) (s r : ByteArray) (w : World) (hpr : Prg L ao w) (hl : L.length ≤ 9223372036854775807) :
    Calls Try.prog 6 #[.agg #[.slice ao L.length cap, .int .i64 g], .string s, .string r] w fun e W => e = .returned (.bool true) ∧ Below w.heap.size w W := by
  have HW : Aside (Below w.heap.size w w) := Below.refl _ _
  have P1 : Aside (Prg L ao w) := hpr
  obtain ⟨rb, hrb⟩ : ∃ b, w.heap.size = b := ⟨_, rfl⟩
  have RB0 : Aside ((w.alloc (.cells #[.slice ao L.length cap, .int .i64 g] 24)).heap[rb]? = some (.cells #[.slice ao L.length cap, .int .i64 g] 24 (0, 0))) := hp_new hrb.symm
  clear hpr
  have cw := fun W => fewg_calls L ao cap g s W
  cases hf : fewG L g s with
  | false =>
    rw [hf] at cw
    clear RB0 hf
    go_enter Try.func6, Try.ntmps6
    go_wp2_with fail
    refine (cw _).mono ?_
    rintro e w1 ⟨rfl, hb⟩
    have HBn : Aside (Below w.heap.size w w1) := Below.trans (by first | exact Below.refl _ _ | exact Below.alloc (Below.refl _ _) (Nat.le_refl _) _ | exact below_drewN (Below.refl _ _) _ | exact below_drewN (Below.alloc (Below.refl _ _) (Nat.le_refl _) _) _ | exact Below.alloc (Below.alloc (Below.refl _ _) (Nat.le_refl _) _) (by simp) _) (hb.mono (by first | exact Nat.le_refl _ | (simp; done) | (simp; omega)))
    have P1' : Aside (Prg L ao w1) := P1.out.later HBn.out
    have HW' : Aside (Below w.heap.size w w1) := HW.out.trans (HBn.out.mono HW.out.size)
    clear HW P1
    have P1 : Aside (Prg L ao w1) := P1'.out
    have HW : Aside (Below w.heap.size w w1) := HW'.out
    clear HW' HBn hb P1'
    clear cw
    go_wp2_with fail
    refine (alive_calls _).mono ?_
    rintro e w2 ⟨rfl, hb⟩
    have HBn : Aside (Below w1.heap.size w1 w2) := Below.trans (by first | exact Below.refl _ _ | exact Below.alloc (Below.refl _ _) (Nat.le_refl _) _ | exact below_drewN (Below.refl _ _) _ | exact below_drewN (Below.alloc (Below.refl _ _) (Nat.le_refl _) _) _ | exact Below.alloc (Below.alloc (Below.refl _ _) (Nat.le_refl _) _) (by simp) _) (hb.mono (by first | exact Nat.le_refl _ | (simp; done) | (simp; omega)))
    have P1' : Aside (Prg L ao w2) := P1.out.later HBn.out
    have HW' : Aside (Below w.heap.size w w2) := HW.out.trans (HBn.out.mono HW.out.size)
    clear HW P1
    have P1 : Aside (Prg L ao w2) := P1'.out
    have HW : Aside (Below w.heap.size w w2) := HW'.out
    clear HW' HBn hb P1'
    go_wp2_with fail
    refine bodyPost_ret (v := .bool true) (by simp [results, Try.results6, go_sem, ↓IntWalk.iteOmega]) rfl ⟨rfl, HW.out⟩
  | true =>
    rw [hf] at cw
    have hs : s.size ≤ 60 := by unfold fewG at hf; simp at hf; exact hf.2
    clear hf
    by_cases hr : r.size ≤ 2000
    rotate_left
    · have hz : decide ((2000 : Int) < (r.size : Int)) = true := decide_eq_true (by omega)
      have hz' : decide (2000 < r.size) = true := decide_eq_true (by omega)
      have hz2 : (2000 : Int) < (r.size : Int) := by omega
      clear hr
      go_enter Try.func6, Try.ntmps6
      go_wp2_with fail
      refine (cw _).mono ?_
      rintro e w1 ⟨rfl, hb⟩
      have RB : Aside (w1.heap[rb]? = some (.cells #[.slice ao L.length cap, .int .i64 g] 24 (0, 0))) := heap_later RB0.out hb
      have HBn : Aside (Below w.heap.size w w1) := Below.trans (by first | exact Below.refl _ _ | exact Below.alloc (Below.refl _ _) (Nat.le_refl _) _ | exact below_drewN (Below.refl _ _) _ | exact below_drewN (Below.alloc (Below.refl _ _) (Nat.le_refl _) _) _ | exact Below.alloc (Below.alloc (Below.refl _ _) (Nat.le_refl _) _) (by simp) _) (hb.mono (by first | exact Nat.le_refl _ | (simp; done) | (simp; omega)))
      have P1' : Aside (Prg L ao w1) := P1.out.later HBn.out
      have HW' : Aside (Below w.heap.size w w1) := HW.out.trans (HBn.out.mono HW.out.size)
      clear HW P1
      have P1 : Aside (Prg L ao w1) := P1'.out
      have HW : Aside (Below w.heap.size w w1) := HW'.out
      clear HW' HBn hb P1'
      clear RB0 cw
      have c0 := cell_heap RB.out 0 _ rfl
      have c1 := cell_heap RB.out 1 _ rfl
      have lrb : rb < w1.heap.size := (Array.getElem?_eq_some_iff.1 RB.out).1
      go_wp2_with fail
      refine (alive_calls _).mono ?_
      rintro e w2 ⟨rfl, hb⟩
      have HBn : Aside (Below w1.heap.size w1 w2) := Below.trans (by first | exact Below.refl _ _ | exact Below.alloc (Below.refl _ _) (Nat.le_refl _) _ | exact below_drewN (Below.refl _ _) _ | exact below_drewN (Below.alloc (Below.refl _ _) (Nat.le_refl _) _) _ | exact Below.alloc (Below.alloc (Below.refl _ _) (Nat.le_refl _) _) (by simp) _) (hb.mono (by first | exact Nat.le_refl _ | (simp; done) | (simp; omega)))
      have P1' : Aside (Prg L ao w2) := P1.out.later HBn.out
      have RB' : Aside (w2.heap[rb]? = some (.cells #[.slice ao L.length cap, .int .i64 g] 24 (0, 0))) := heap_later RB.out HBn.out
      have HW' : Aside (Below w.heap.size w w2) := HW.out.trans (HBn.out.mono HW.out.size)
      clear HW P1 RB
      have P1 : Aside (Prg L ao w2) := P1'.out
      have RB : Aside (w2.heap[rb]? = some (.cells #[.slice ao L.length cap, .int .i64 g] 24 (0, 0))) := RB'.out
      have HW : Aside (Below w.heap.size w w2) := HW'.out
      clear HW' HBn hb P1' RB'
      go_wp2_with fail
      refine bodyPost_ret (v := .bool true) (by simp [results, Try.results6, go_sem, ↓IntWalk.iteOmega]) rfl ⟨rfl, HW.out⟩
    have hz : decide ((2000 : Int) < (r.size : Int)) = false := decide_eq_false (by omega)
    have hz' : decide (2000 < r.size) = false := decide_eq_false (by omega)
    have hz2 : ¬ (2000 : Int) < (r.size : Int) := by omega
    have HR0 : Aside (r.size ≤ 2000) := hr
    clear hr
    go_enter Try.func6, Try.ntmps6
    go_wp2_with fail
    refine (cw _).mono ?_
    rintro e w1 ⟨rfl, hb⟩
    have RB : Aside (w1.heap[rb]? = some (.cells #[.slice ao L.length cap, .int .i64 g] 24 (0, 0))) := heap_later RB0.out hb
    have HBn : Aside (Below w.heap.size w w1) := Below.trans (by first | exact Below.refl _ _ | exact Below.alloc (Below.refl _ _) (Nat.le_refl _) _ | exact below_drewN (Below.refl _ _) _ | exact below_drewN (Below.alloc (Below.refl _ _) (Nat.le_refl _) _) _ | exact Below.alloc (Below.alloc (Below.refl _ _) (Nat.le_refl _) _) (by simp) _) (hb.mono (by first | exact Nat.le_refl _ | (simp; done) | (simp; omega)))
    have P1' : Aside (Prg L ao w1) := P1.out.later HBn.out
    have HW' : Aside (Below w.heap.size w w1) := HW.out.trans (HBn.out.mono HW.out.size)
    clear HW P1
    have P1 : Aside (Prg L ao w1) := P1'.out
    have HW : Aside (Below w.heap.size w w1) := HW'.out
    clear HW' HBn hb P1'
    clear RB0 cw
    have c0 := cell_heap RB.out 0 _ rfl
    have c1 := cell_heap RB.out 1 _ rfl
    have lrb : rb < w1.heap.size := (Array.getElem?_eq_some_iff.1 RB.out).1
    have cr := rright_calls L ao cap g w1 P1.out hl
    cases hr : rightF L g with
    | false =>
      rw [hr] at cr
      go_wp2_with fail
      refine (cr).mono ?_
      rintro e w2 ⟨rfl, hb⟩
      have HBn : Aside (Below w1.heap.size w1 w2) := Below.trans (by first | exact Below.refl _ _ | exact Below.alloc (Below.refl _ _) (Nat.le_refl _) _ | exact below_drewN (Below.refl _ _) _ | exact below_drewN (Below.alloc (Below.refl _ _) (Nat.le_refl _) _) _ | exact Below.alloc (Below.alloc (Below.refl _ _) (Nat.le_refl _) _) (by simp) _) (hb.mono (by first | exact Nat.le_refl _ | (simp; done) | (simp; omega)))
      have P1' : Aside (Prg L ao w2) := P1.out.later HBn.out
      have RB' : Aside (w2.heap[rb]? = some (.cells #[.slice ao L.length cap, .int .i64 g] 24 (0, 0))) := heap_later RB.out HBn.out
      have HW' : Aside (Below w.heap.size w w2) := HW.out.trans (HBn.out.mono HW.out.size)
      clear HW P1 RB
      have P1 : Aside (Prg L ao w2) := P1'.out
      have RB : Aside (w2.heap[rb]? = some (.cells #[.slice ao L.length cap, .int .i64 g] 24 (0, 0))) := RB'.out
      have HW : Aside (Below w.heap.size w w2) := HW'.out
      clear HW' HBn hb P1' RB'
      clear cr c0 c1 lrb
      have c0 := cell_heap RB.out 0 _ rfl
      have c1 := cell_heap RB.out 1 _ rfl
      have lrb : rb < w2.heap.size := (Array.getElem?_eq_some_iff.1 RB.out).1
      go_wp2_with fail
      refine (alive_calls _).mono ?_
      rintro e w4 ⟨rfl, hb⟩
      have HBn : Aside (Below w2.heap.size w2 w4) := Below.trans (by first | exact Below.refl _ _ | exact Below.alloc (Below.refl _ _) (Nat.le_refl _) _ | exact below_drewN (Below.refl _ _) _ | exact below_drewN (Below.alloc (Below.refl _ _) (Nat.le_refl _) _) _ | exact Below.alloc (Below.alloc (Below.refl _ _) (Nat.le_refl _) _) (by simp) _) (hb.mono (by first | exact Nat.le_refl _ | (simp; done) | (simp; omega)))
      have P1' : Aside (Prg L ao w4) := P1.out.later HBn.out
      have RB' : Aside (w4.heap[rb]? = some (.cells #[.slice ao L.length cap, .int .i64 g] 24 (0, 0))) := heap_later RB.out HBn.out
      have HW' : Aside (Below w.heap.size w w4) := HW.out.trans (HBn.out.mono HW.out.size)
      clear HW P1 RB
      have P1 : Aside (Prg L ao w4) := P1'.out
      have RB : Aside (w4.heap[rb]? = some (.cells #[.slice ao L.length cap, .int .i64 g] 24 (0, 0))) := RB'.out
      have HW : Aside (Below w.heap.size w w4) := HW'.out
      clear HW' HBn hb P1' RB'
      go_wp2_with fail
      refine bodyPost_ret (v := .bool true) (by simp [results, Try.results6, go_sem, ↓IntWalk.iteOmega]) rfl ⟨rfl, HW.out⟩
    | true =>
      rw [hr] at cr
      have HR9 : Aside (rightF L g = true) := hr
      obtain ⟨q1, q2, -⟩ := right_parts hr
      clear hr
      obtain ⟨G, hG⟩ : ∃ G : Nat, g = (G : Int) := ⟨g.toNat, by omega⟩
      subst hG
      have HR : Aside (rightF L (G : Int) = true) := HR9.out
      clear HR9
      go_wp2_with fail
      refine (cr).mono ?_
      rintro e w2 ⟨rfl, hb⟩
      have HBn : Aside (Below w1.heap.size w1 w2) := Below.trans (by first | exact Below.refl _ _ | exact Below.alloc (Below.refl _ _) (Nat.le_refl _) _ | exact below_drewN (Below.refl _ _) _ | exact below_drewN (Below.alloc (Below.refl _ _) (Nat.le_refl _) _) _ | exact Below.alloc (Below.alloc (Below.refl _ _) (Nat.le_refl _) _) (by simp) _) (hb.mono (by first | exact Nat.le_refl _ | (simp; done) | (simp; omega)))
      have P1' : Aside (Prg L ao w2) := P1.out.later HBn.out
      have RB' : Aside (w2.heap[rb]? = some (.cells #[.slice ao L.length cap, .int .i64 (G : Int)] 24 (0, 0))) := heap_later RB.out HBn.out
      have HW' : Aside (Below w.heap.size w w2) := HW.out.trans (HBn.out.mono HW.out.size)
      clear HW P1 RB
      have P1 : Aside (Prg L ao w2) := P1'.out
      have RB : Aside (w2.heap[rb]? = some (.cells #[.slice ao L.length cap, .int .i64 (G : Int)] 24 (0, 0))) := RB'.out
      have HW : Aside (Below w.heap.size w w2) := HW'.out
      clear HW' HBn hb P1' RB'
      clear cr c0 c1 lrb
      have c0 := cell_heap RB.out 0 _ rfl
      have c1 := cell_heap RB.out 1 _ rfl
      have lrb : rb < w2.heap.size := (Array.getElem?_eq_some_iff.1 RB.out).1
      obtain ⟨R1, hR1⟩ : ∃ x, (replTop L G s r).1 = x := ⟨_, rfl⟩
      obtain ⟨R2, hR2⟩ : ∃ x, (replTop L G s r).2 = x := ⟨_, rfl⟩
      have H1 : Aside ((replTop L G s r).1 = R1) := hR1
      have H2 : Aside ((replTop L G s r).2 = R2) := hR2
      clear hR1 hR2
      have cm := replace_calls L ao cap G s r hs HR0.out w2 ⟨P1.out, HR.out, by omega⟩
      rw [H1.out, H2.out] at cm
      go_wp2_with fail
      refine (cm).mono ?_
      rintro e w3 ⟨rfl, hb⟩
      have HBn : Aside (Below w2.heap.size w2 w3) := Below.trans (by first | exact Below.refl _ _ | exact Below.alloc (Below.refl _ _) (Nat.le_refl _) _ | exact below_drewN (Below.refl _ _) _ | exact below_drewN (Below.alloc (Below.refl _ _) (Nat.le_refl _) _) _ | exact Below.alloc (Below.alloc (Below.refl _ _) (Nat.le_refl _) _) (by simp) _) (hb.mono (by first | exact Nat.le_refl _ | (simp; done) | (simp; omega)))
      have P1' : Aside (Prg L ao w3) := P1.out.later HBn.out
      have RB' : Aside (w3.heap[rb]? = some (.cells #[.slice ao L.length cap, .int .i64 (G : Int)] 24 (0, 0))) := heap_later RB.out HBn.out
      have HW' : Aside (Below w.heap.size w w3) := HW.out.trans (HBn.out.mono HW.out.size)
      clear HW P1 RB
      have P1 : Aside (Prg L ao w3) := P1'.out
      have RB : Aside (w3.heap[rb]? = some (.cells #[.slice ao L.length cap, .int .i64 (G : Int)] 24 (0, 0))) := RB'.out
      have HW : Aside (Below w.heap.size w w3) := HW'.out
      clear HW' HBn hb P1' RB'
      clear cm c0 c1 lrb
      have c0 := cell_heap RB.out 0 _ rfl
      have c1 := cell_heap RB.out 1 _ rfl
      have lrb : rb < w3.heap.size := (Array.getElem?_eq_some_iff.1 RB.out).1
      have cm := rreplace_calls L ao cap G s r hs HR0.out w3 ⟨P1.out, HR.out, by omega⟩
      rw [H1.out, H2.out] at cm
      go_wp2_with fail
      refine (cm).mono ?_
      rintro e w4 ⟨rfl, hb⟩
      have HBn : Aside (Below w3.heap.size w3 w4) := Below.trans (by first | exact Below.refl _ _ | exact Below.alloc (Below.refl _ _) (Nat.le_refl _) _ | exact below_drewN (Below.refl _ _) _ | exact below_drewN (Below.alloc (Below.refl _ _) (Nat.le_refl _) _) _ | exact Below.alloc (Below.alloc (Below.refl _ _) (Nat.le_refl _) _) (by simp) _) (hb.mono (by first | exact Nat.le_refl _ | (simp; done) | (simp; omega)))
      have P1' : Aside (Prg L ao w4) := P1.out.later HBn.out
      have RB' : Aside (w4.heap[rb]? = some (.cells #[.slice ao L.length cap, .int .i64 (G : Int)] 24 (0, 0))) := heap_later RB.out HBn.out
      have HW' : Aside (Below w.heap.size w w4) := HW.out.trans (HBn.out.mono HW.out.size)
      clear HW P1 RB
      have P1 : Aside (Prg L ao w4) := P1'.out
      have RB : Aside (w4.heap[rb]? = some (.cells #[.slice ao L.length cap, .int .i64 (G : Int)] 24 (0, 0))) := RB'.out
      have HW : Aside (Below w.heap.size w w4) := HW'.out
      clear HW' HBn hb P1' RB'
      clear cm c0 c1 lrb
      go_wp2_with fail
      refine (alive_calls _).mono ?_
      rintro e w5 ⟨rfl, hb⟩
      have HBn : Aside (Below w4.heap.size w4 w5) := Below.trans (by first | exact Below.refl _ _ | exact Below.alloc (Below.refl _ _) (Nat.le_refl _) _ | exact below_drewN (Below.refl _ _) _ | exact below_drewN (Below.alloc (Below.refl _ _) (Nat.le_refl _) _) _ | exact Below.alloc (Below.alloc (Below.refl _ _) (Nat.le_refl _) _) (by simp) _) (hb.mono (by first | exact Nat.le_refl _ | (simp; done) | (simp; omega)))
      have P1' : Aside (Prg L ao w5) := P1.out.later HBn.out
      have RB' : Aside (w5.heap[rb]? = some (.cells #[.slice ao L.length cap, .int .i64 (G : Int)] 24 (0, 0))) := heap_later RB.out HBn.out
      have HW' : Aside (Below w.heap.size w w5) := HW.out.trans (HBn.out.mono HW.out.size)
      clear HW P1 RB
      have P1 : Aside (Prg L ao w5) := P1'.out
      have RB : Aside (w5.heap[rb]? = some (.cells #[.slice ao L.length cap, .int .i64 (G : Int)] 24 (0, 0))) := RB'.out
      have HW : Aside (Below w.heap.size w w5) := HW'.out
      clear HW' HBn hb P1' RB'
      go_wp2_with fail
      refine bodyPost_ret (v := .bool true) (by simp [results, Try.results6, go_sem, ↓IntWalk.iteOmega]) rfl ⟨rfl, HW.out⟩

end Go.Proofs.Ytfhccmegobbnaaa
