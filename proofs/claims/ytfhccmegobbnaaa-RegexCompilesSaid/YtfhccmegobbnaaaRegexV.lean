/- This text proves the walk of the machine's found. Conditions: those that each theorem names. -/
import Derived.Test.YtfhccmegobbnaaaRegexU
namespace Go.Proofs.Ytfhccmegobbnaaa
open Go.ChangeShapes Go.WideShapes Go.ChangeAt Go.RowKit
set_option linter.unusedVariables false
set_option linter.unusedSimpArgs false

instance : Inhabited ThM := ⟨⟨0, .slice none 0 0⟩⟩
/-- The offsets of the first thread at a match. -/
def foundF (L : List In) : List Th → Option (List Int)
  | [] => none
  | t :: l => if L[t.1]!.op = 9 then some t.2 else foundF L l
def FoundV (B vb : Nat) (r : Option (List Int)) (v : Value) (W : World) : Prop :=
  match r with
  | none => v = .slice none 0 0
  | some cs => Cap B vb v cs W
theorem thm_cells {W : World} {B : Nat} {lv : Value} {ms : List ThM} (h : W.ownsRow B 79 2 lv ms.length (flatE ThM.enc ms)) {j : Nat} (hj : j < ms.length) :
    ∃ lb lc, lv = .slice (some ⟨lb, 0, none⟩) ms.length lc ∧ lb < W.heap.size ∧ W.cell? ⟨lb, j * 2, none⟩ = some (.int .i64 (ms[j]!.k : Int)) ∧ W.cell? ⟨lb, j * 2 + 1, none⟩ = some ms[j]!.v := by
  obtain ⟨_, ⟨_, h0⟩ | ⟨lb, lc, cur, hv, hb, hh, hn, hm, hz, ht⟩⟩ := h
  · omega
  have q : ∀ f, f < 2 → cur[j * 2 + f]? = ms[j]!.enc[f]? := fun f hf => by
    have h1 : (cur.toList.take (ms.length * 2))[j * 2 + f]? = ms[j]!.enc[f]? := by
      rw [ht, flatE_get thm_len ms j f hf, List.getElem?_eq_getElem hj, getElem!_pos ms j hj]; rfl
    rw [List.getElem?_take, if_pos (by omega)] at h1
    rw [← Array.getElem?_toList]
    exact h1
  exact ⟨lb, lc, hv, (Array.getElem?_eq_some_iff.1 hh).1, cell_heap hh _ _ (q 0 (by omega)), cell_heap hh _ _ (q 1 (by omega))⟩

set_option maxRecDepth 20000 in
set_option maxHeartbeats 32000000 in
theorem found_calls (w0 : World) (L : List In) (ao : Option Addr) (cap : Nat) (g : Int) (s : ByteArray) (mb pos vb : Nat) (v : List Bool) (lv : Value) (l : List Th) (W : World) (E : AEnv w0 L ao g s) (h : MS w0 L ao cap g s mb pos vb v lv l W) (hth : ∀ t ∈ l, t.1 < L.length) :
    Calls Try.prog 43 #[.pointer (some ⟨mb, 0, none⟩)] W fun e W' => (∃ v, e = .returned v ∧ FoundV w0.heap.size vb (foundF L l) v W') ∧ Below W.heap.size W W' := by
  obtain ⟨R, hR⟩ : ∃ R, foundF L l = R := ⟨_, rfl⟩
  rw [hR]
  have HR : Aside (foundF L (l.drop 0) = R) := hR
  have HM : Aside (MS w0 L ao cap g s mb pos vb v lv l W) := h
  have HE : Aside (AEnv w0 L ao g s) := E
  have HT : Aside (∀ t ∈ l, t.1 < L.length) := hth
  obtain ⟨n, hln⟩ : ∃ n, L.length = n := ⟨_, rfl⟩
  have HN : Aside (L.length = n) := hln
  obtain ⟨ms, r1, r2⟩ := h.row
  have R1 : Aside (W.ownsRow w0.heap.size 79 2 lv ms.length (flatE ThM.enc ms)) := r1
  have R2 : Aside (All2 (fun m t => m.k = t.1 ∧ Cap w0.heap.size vb m.v t.2 W) ms l) := r2
  obtain ⟨m, hm⟩ : ∃ m, ms.length = m := ⟨_, rfl⟩
  have ML : Aside (ms.length = m ∧ l.length = m) := ⟨hm, r2.len.symm.trans hm⟩
  obtain ⟨la, lc, elv⟩ : ∃ la lc, lv = .slice la m lc := by
    obtain ⟨_, ⟨h9, h8⟩ | ⟨cb, ccap, _, h9, _⟩⟩ := r1
    · exact ⟨none, 0, by rw [h9, ← hm, h8]⟩
    · exact ⟨_, _, by rw [h9, hm]⟩
  subst elv
  have hml : m ≤ 1024 := by
    have h1 := h.cnt
    have h2 := (right_parts E.hr).2.2.2.1
    have h3 := h.len
    have := r2.len
    omega
  have lmb := h.lt.1
  have hbox := h.box
  unfold mBox at hbox
  rw [hln] at hbox
  have HBX : Aside (W.heap[mb]? = _) := hbox
  have b5 := cell_heap hbox 5 _ rfl
  clear hln hR r1 r2 h E hth hbox hm
  go_enter Try.func43, Try.ntmps43
  go_wp2
  go_loopg [10] (m + 1) (fun gk s10 wr => ∃ j : Nat, s10 = .int .i64 (j : Int) ∧ j + gk = m + 1 ∧ j ≤ m ∧ Aside (foundF L (l.drop j) = R) ∧ Aside (Below W.heap.size W wr))
  case atStart => exact ⟨0, rfl, by omega, by omega, HR.out, Below.refl _ _⟩
  case round =>
    obtain ⟨j, rfl, hg, hj, HR2, HB⟩ := hrel
    clear HR b5
    by_cases hjm : j < m
    rotate_left
    · have rr : R = none := by rw [← HR2.out, List.drop_of_length_le (by rw [ML.out.2]; omega)]; rfl
      subst rr
      go_wp2
      all_goals refine bodyPost_ret (v := .slice none 0 0) (by simp [results, Try.results43, go_sem, ↓IntWalk.iteOmega, *]) rfl ⟨⟨_, rfl, rfl⟩, HB.out⟩
    have hjl : j < l.length := by rw [ML.out.2]; exact hjm
    have hjs : j < ms.length := by rw [ML.out.1]; exact hjm
    obtain ⟨lb, lc', elv, hlb, t0, t1⟩ := thm_cells (own_from R1.out HB.out) hjs
    rw [ML.out.1] at elv
    simp only [Value.slice.injEq] at elv
    obtain ⟨rfl, -, rfl⟩ := elv
    obtain ⟨q1, q2⟩ := R2.out.get j hjs
    have q2 := q2.later HB.out
    obtain ⟨cb, ccap, ecv⟩ : ∃ cb ccap, ms[j]!.v = .slice (some ⟨cb, 0, none⟩) l[j]!.2.length ccap := by
      obtain ⟨_, ⟨_, h9⟩ | ⟨cb, ccap, _, h9, _⟩⟩ := q2.row
      · have := q2.pos
        omega
      · exact ⟨cb, ccap, h9⟩
    have hmem : l[j]! ∈ l := by rw [getElem!_pos l j hjl]; exact List.getElem_mem _
    have hkn := HT.out _ hmem
    have HS : Aside (foundF L (l.drop j) = if L[l[j]!.1]!.op = 9 then some l[j]!.2 else foundF L (l.drop (j + 1))) := by
      show _ = _
      rw [List.drop_eq_getElem_cons hjl, ← getElem!_pos l j hjl]
      rfl
    rw [q1] at t0
    rw [ecv] at t1 q2
    generalize l[j]! = t at t0 t1 q2 hkn HS
    obtain ⟨kj, cs⟩ := t
    have CPV : Aside (Cap w0.heap.size vb (.slice (some ⟨cb, 0, none⟩) cs.length ccap) cs wr) := q2
    simp only [] at t0 t1 hkn
    obtain ⟨ib, io, rfl, hib, -⟩ := HE.out.hp.c kj hkn
    obtain ⟨ib', io', hao, -, l0, -⟩ := (HE.out.hp.c.later ((HM.out.hb.trans (HB.out.mono HM.out.hb.size)).mono (Nat.le_refl _))) kj hkn
    simp only [Option.some.injEq, Addr.mk.injEq] at hao
    obtain ⟨rfl, rfl, -⟩ := hao
    have b0 : wr.cell? ⟨mb, 0, none⟩ = some (.slice (some ⟨ib, io, none⟩) n cap) := cell_heap (heap_later HBX.out HB.out) 0 _ rfl
    have lmr : mb < wr.heap.size := Nat.lt_of_lt_of_le lmb HB.out.size
    rw [HN.out] at hkn
    have hn9 : n ≤ 1024 := by have := (right_parts HE.out.hr).2.2.2.1; have := HN.out; omega
    have hibw : ib < wr.heap.size := Nat.lt_of_lt_of_le hib (Nat.le_trans HM.out.hb.size HB.out.size)
    have hwj : IntKind.i64.wrap ((j : Int) + 1) = ((j + 1 : Nat) : Int) := by rw [IntKind.wrap_i64]; omega
    have HS9 : Aside (R = if L[kj]!.op = 9 then some cs else foundF L (l.drop (j + 1))) := HR2.out.symm.trans HS.out
    have BX : Aside (Below W.heap.size W (wr.alloc (.cells #[.int .i64 (kj : Int), .slice (some ⟨cb, 0, none⟩) cs.length ccap] 79))) := Below.alloc HB.out HB.out.size _
    clear HR2 HS q1 q2 hmem ecv
    obtain ⟨o, ho⟩ : ∃ o, L[kj]!.op = o := ⟨_, rfl⟩
    rw [ho] at l0 HS9
    clear ho
    by_cases o9 : o = 9
    · subst o9
      have rr : R = some cs := HS9.out.trans (if_pos rfl)
      subst rr
      go_wp2
      go_quiet (fail)
      go_wp2
      all_goals refine bodyPost_ret (v := .slice (some ⟨cb, 0, none⟩) cs.length ccap) (by simp [results, Try.results43, go_sem, ↓IntWalk.iteOmega, *]) rfl ⟨⟨_, rfl, CPV.out.later (below_drewN (Below.alloc (Below.refl _ _) (Nat.le_refl _) _) _)⟩, below_drewN BX.out _⟩
    · have e9 : (o == 9) = false := by simpa using o9
      have HR3 : Aside (foundF L (l.drop (j + 1)) = R) := (HS9.out.trans (if_neg o9)).symm
      clear HS9 o9
      go_wp2
      go_quiet (fail)
      go_wp2
      go_roundg (m - j)
      case measure => omega
      case rel => exact ⟨j + 1, rfl, by omega, by omega, HR3.out, below_drewN BX.out _⟩

end Go.Proofs.Ytfhccmegobbnaaa
