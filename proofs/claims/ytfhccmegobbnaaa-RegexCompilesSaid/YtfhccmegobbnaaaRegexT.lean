/- This text proves the walk of the machine's add. Conditions: those that each theorem names. -/
import Derived.Test.YtfhccmegobbnaaaRegexR
import Derived.Test.YtfhccmegobbnaaaRegexS
namespace Go.Proofs.Ytfhccmegobbnaaa
open Go.ChangeShapes Go.WideShapes Go.ChangeAt Go.RowKit
set_option linter.unusedVariables false
set_option linter.unusedSimpArgs false

/-- The program is valid and lies in the first world. -/
structure AEnv (w0 : World) (L : List In) (ao : Option Addr) (g : Int) (s : ByteArray) : Prop where
  hp : Prg L ao w0
  hr : rightF L g = true
  hs : s.size ≤ 1000000
theorem right_parts {L : List In} {g : Int} (h : rightF L g = true) : 1 ≤ g ∧ g ≤ 10 ∧ 1 ≤ L.length ∧ L.length ≤ 1024 ∧ (L[L.length - 1]!.op = 9 ∨ L[L.length - 1]!.op = 7) ∧ ∀ k, k < L.length → soundF L.length g L[k]! = true := by
  unfold rightF at h
  split at h; · cases h
  split at h; · cases h
  split at h; · cases h
  split at h; · cases h
  split at h; · cases h
  rename_i h1 h2 h3 h4 h5
  refine ⟨by omega, by omega, by omega, by omega, by omega, fun k hk => ?_⟩
  rw [getElem!_pos L k hk]
  exact List.all_eq_true.1 h _ (List.getElem_mem _)
theorem sound_op {n : Nat} {g : Int} {i : In} (h : soundF n g i = true) : 1 ≤ i.op ∧ i.op ≤ 9 := by
  unfold soundF at h
  split at h; · cases h
  split at h; · cases h
  omega
theorem sound_in {n : Nat} {g : Int} {i : In} (h : soundF n g i = true) : (if i.op = 7 then inF i.x n else if i.op = 6 then inF i.x n && inF i.y n else if i.op = 8 then decide (0 ≤ i.x) && decide (i.x < 2 * g) else if i.op = 3 then setOk i.set else true) = true := by
  have ho := sound_op h
  by_cases hs : inSame i (onlyF i) = false
  · unfold soundF at h
    rw [if_neg (by omega), if_neg (by omega), if_pos hs] at h
    cases h
  · unfold soundF at h
    rw [if_neg (by omega), if_neg (by omega), if_neg hs] at h
    exact h
theorem sound_jump {n : Nat} {g : Int} {i : In} (h : soundF n g i = true) (ho : i.op = 7) : ∃ x : Nat, i.x = (x : Int) ∧ x < n := by
  have h := sound_in h
  simp [ho, inF] at h
  exact ⟨i.x.toNat, by omega, by omega⟩
theorem sound_split {n : Nat} {g : Int} {i : In} (h : soundF n g i = true) (ho : i.op = 6) : (∃ x : Nat, i.x = (x : Int) ∧ x < n) ∧ ∃ y : Nat, i.y = (y : Int) ∧ y < n := by
  have h := sound_in h
  simp [ho, inF] at h
  exact ⟨⟨i.x.toNat, by omega, by omega⟩, i.y.toNat, by omega, by omega⟩
theorem sound_save {n : Nat} {g : Int} {i : In} (h : soundF n g i = true) (ho : i.op = 8) : ∃ x : Nat, i.x = (x : Int) ∧ (x : Int) < 2 * g := by
  have h := sound_in h
  simp [ho] at h
  exact ⟨i.x.toNat, by omega, by omega⟩
theorem addF_step (f : Nat) (L : List In) (n pos k : Nat) (cs : List Int) (v : List Bool) (l : List Th) : addF (f + 1) L n pos k cs (v, l) = if v[k]! then (v, l) else
    if L[k]!.op = 7 then addF f L n pos L[k]!.x.toNat cs (v.set k true, l)
    else if L[k]!.op = 6 then addF f L n pos L[k]!.y.toNat cs (addF f L n pos L[k]!.x.toNat cs (v.set k true, l))
    else if L[k]!.op = 8 then addF f L n pos (k + 1) (cs.set L[k]!.x.toNat (pos : Int)) (v.set k true, l)
    else if L[k]!.op = 4 then (if pos = 0 then addF f L n pos (k + 1) cs (v.set k true, l) else (v.set k true, l))
    else if L[k]!.op = 5 then (if pos = n then addF f L n pos (k + 1) cs (v.set k true, l) else (v.set k true, l))
    else (v.set k true, l ++ [(k, cs)]) := by conv => lhs; unfold addF
section
variable {f : Nat} {L : List In} {n pos k : Nat} {cs : List Int} {v : List Bool} {l : List Th} {i : In} (hv : v[k]! = false) (hi : L[k]! = i)
include hv hi
theorem addF_7 (ho : i.op = 7) : addF (f + 1) L n pos k cs (v, l) = addF f L n pos i.x.toNat cs (v.set k true, l) := by rw [addF_step]; simp [hv, hi, ho]
theorem addF_6 (ho : i.op = 6) : addF (f + 1) L n pos k cs (v, l) = addF f L n pos i.y.toNat cs (addF f L n pos i.x.toNat cs (v.set k true, l)) := by rw [addF_step]; simp [hv, hi, ho]
theorem addF_8 (ho : i.op = 8) : addF (f + 1) L n pos k cs (v, l) = addF f L n pos (k + 1) (cs.set i.x.toNat (pos : Int)) (v.set k true, l) := by rw [addF_step]; simp [hv, hi, ho]
theorem addF_4 (ho : i.op = 4) (hp : pos = 0) : addF (f + 1) L n pos k cs (v, l) = addF f L n pos (k + 1) cs (v.set k true, l) := by rw [addF_step]; simp [hv, hi, ho, hp]
theorem addF_4n (ho : i.op = 4) (hp : ¬ pos = 0) : addF (f + 1) L n pos k cs (v, l) = (v.set k true, l) := by rw [addF_step]; simp [hv, hi, ho, hp]
theorem addF_5 (ho : i.op = 5) (hp : pos = n) : addF (f + 1) L n pos k cs (v, l) = addF f L n pos (k + 1) cs (v.set k true, l) := by rw [addF_step]; simp [hv, hi, ho, hp]
theorem addF_5n (ho : i.op = 5) (hp : ¬ pos = n) : addF (f + 1) L n pos k cs (v, l) = (v.set k true, l) := by rw [addF_step]; simp [hv, hi, ho, hp]
theorem addF_o (h7 : i.op ≠ 7) (h6 : i.op ≠ 6) (h8 : i.op ≠ 8) (h4 : i.op ≠ 4) (h5 : i.op ≠ 5) : addF (f + 1) L n pos k cs (v, l) = (v.set k true, l ++ [(k, cs)]) := by rw [addF_step]; simp [hv, hi, h7, h6, h8, h4, h5]
end
theorem right_next {L : List In} {g : Int} (h : rightF L g = true) {k : Nat} (hk : k < L.length) (h9 : L[k]!.op ≠ 9) (h7 : L[k]!.op ≠ 7) : k + 1 < L.length := by
  obtain ⟨_, _, _, _, h1, _⟩ := right_parts h
  rcases Nat.lt_or_ge (k + 1) L.length with h2 | h2
  · exact h2
  · have : L.length - 1 = k := by omega
    rw [this] at h1
    rcases h1 with h1 | h1
    · exact absurd h1 h9
    · exact absurd h1 h7
theorem thInfo : ∃ i0 : TypeInfo, Try.prog.info? 79 = some i0 ∧ i0.zero = some (.agg #[.int .i64 0, .slice none 0 0]) ∧ i0.size = 2 ∧ i0.bytes = 32 := by
  have h : (Try.prog.info? 79).map (fun i => (i.zero, i.size, i.bytes)) = some (some (.agg #[.int .i64 0, .slice none 0 0]), 2, 32) := by kernel_rfl
  cases hi : Try.prog.info? 79 with
  | none => rw [hi] at h; cases h
  | some i0 =>
    rw [hi] at h
    simp only [Option.map_some, Option.some.injEq, Prod.mk.injEq] at h
    exact ⟨i0, rfl, h.1, h.2.1, h.2.2⟩
/-- What add leaves. -/
def APost (w0 : World) (L : List In) (ao : Option Addr) (cap : Nat) (g : Int) (s : ByteArray) (mb pos vb : Nat) (lv : Value) (W : World) (st : List Bool × List Th) (e : Ending) (W' : World) : Prop :=
  e = .returned (.tuple #[]) ∧ ∃ lv', MS w0 L ao cap g s mb pos vb st.1 lv' st.2 W' ∧ Kept mb vb lv lv' W W'
def AddOK (w0 : World) (L : List In) (ao : Option Addr) (cap : Nat) (g : Int) (s : ByteArray) (mb : Nat) (f : Nat) : Prop :=
  ∀ (pos vb : Nat) (v : List Bool) (lv : Value) (l : List Th) (k : Nat) (cs : List Int) (cv : Value) (W : World), MS w0 L ao cap g s mb pos vb v lv l W → Cap w0.heap.size vb cv cs W → k < L.length → (cs.length : Int) = 2 * g → pos ≤ s.size → v.count false < f →
    Calls Try.prog 41 #[.pointer (some ⟨mb, 0, none⟩), .int .i64 (k : Int), cv] W (APost w0 L ao cap g s mb pos vb lv W (addF f L s.size pos k cs (v, l)))

set_option maxRecDepth 20000 in
set_option maxHeartbeats 32000000 in
theorem add_step (w0 : World) (L : List In) (ao : Option Addr) (cap : Nat) (g : Int) (s : ByteArray) (mb : Nat) (E : AEnv w0 L ao g s) (f : Nat) (ih : AddOK w0 L ao cap g s mb f) : AddOK w0 L ao cap g s mb (f + 1) := by
  intro pos vb v lv l k cs cv W hm hc hk hcs hps hcnt
  obtain ⟨n, hn⟩ : ∃ n, L.length = n := ⟨_, rfl⟩
  have HN : Aside (L.length = n) := hn
  have HE : Aside (AEnv w0 L ao g s) := E
  have HM : Aside (MS w0 L ao cap g s mb pos vb v lv l W) := hm
  have HC : Aside (Cap w0.heap.size vb cv cs W) := hc
  have IH : Aside (AddOK w0 L ao cap g s mb f) := ih
  obtain ⟨lmb, lvb, nmv⟩ := hm.lt
  have nvm : ¬ vb = mb := fun e => nmv e.symm
  obtain ⟨Q, hQ⟩ : ∃ Q : Ending → World → Prop, APost w0 L ao cap g s mb pos vb lv W (addF (f + 1) L s.size pos k cs (v, l)) = Q := ⟨_, rfl⟩
  rw [hQ]
  have HQ : Aside (∀ W' lv', MS w0 L ao cap g s mb pos vb (addF (f + 1) L s.size pos k cs (v, l)).1 lv' (addF (f + 1) L s.size pos k cs (v, l)).2 W' → Kept mb vb lv lv' W W' → Q (.returned (.tuple #[])) W') := fun W' lv' h1 h2 => by rw [← hQ]; exact ⟨rfl, lv', h1, h2⟩
  have hbox := hm.box
  unfold mBox at hbox
  rw [hn] at hbox hk
  have hvl : v.length = n := hm.len.trans hn
  obtain ⟨p1, p2, p3, p4, p5, p6⟩ := right_parts E.hr
  rw [hn] at p4
  clear hn hQ hc E ih p5
  by_cases hv : v[k]! = true
  · have b4 := cell_heap hbox 4 _ rfl
    have vk : W.cell? ⟨vb, k, none⟩ = some (.int .i64 1) := cell_heap hm.vis k _ (by rw [encV_get (by omega), hv]; rfl)
    rw [addF_seen hv] at HQ
    clear hbox hm p6 hv
    go_enter Try.func41, Try.ntmps41
    go_wp2
    go_end0
    exact HQ.out _ _ HM.out (Kept.of_below (Below.refl _ _))
  have hv : v[k]! = false := by simpa using hv
  obtain ⟨mk1, mk2⟩ := hm.mark (by rw [HN.out]; exact hk) hv
  have hcn := count_set v k (by omega) hv
  have hvis := hm.vis
  have hc0 : (encV v)[k]? = some (.int .i64 0) := by rw [encV_get (by omega), hv]; rfl
  rw [encV_set] at mk1 mk2
  generalize encV v = c0 at hvis hc0 mk1 mk2
  have MK1 : Aside (MS w0 L ao cap g s mb pos vb (v.set k true) lv l (holds W vb (c0.setIfInBounds k (.int .i64 1)) 3)) := mk1
  have MK2 : Aside (Kept mb vb lv lv W (holds W vb (c0.setIfInBounds k (.int .i64 1)) 3)) := mk2
  have CV2 : Aside (Cap w0.heap.size vb cv cs (holds W vb (c0.setIfInBounds k (.int .i64 1)) 3)) := by
    obtain ⟨ms, r1, r2⟩ := hm.row
    exact HC.out.kept hm.box r1 mk2
  have HV : Aside (v[k]! = false) := hv
  have b0 := cell_heap hbox 0 _ rfl
  have b1 := cell_heap hbox 1 _ rfl
  have b2 := cell_heap hbox 2 _ rfl
  have b3 := cell_heap hbox 3 _ rfl
  have b4 := cell_heap hbox 4 _ rfl
  have b5 := cell_heap hbox 5 _ rfl
  have LW : Aside (w0.heap.size ≤ W.heap.size ∧ w0.heap.size ≤ vb) := ⟨hm.hb.size, hm.hvb⟩
  obtain ⟨ib, io, rfl, hib, -⟩ := HE.out.hp.c k (by rw [HN.out]; exact hk)
  obtain ⟨ib', io', hao, -, l0, l1, l2, l3, l4, l5⟩ := (HE.out.hp.c.later (hm.hb.mono (Nat.le_refl _))) k (by rw [HN.out]; exact hk)
  simp only [Option.some.injEq, Addr.mk.injEq] at hao
  obtain ⟨rfl, rfl, -⟩ := hao
  have nbv : ¬ ib = vb := by have := LW.out; omega
  have nvb : ¬ vb = ib := by omega
  have SND := p6 k (by rw [HN.out]; exact hk)
  have SN : Aside (soundF n g L[k]! = true) := by show _ = _; rw [← HN.out]; exact SND
  have NX : Aside (L[k]!.op ≠ 9 → L[k]!.op ≠ 7 → k + 1 < n) := fun h9 h7 => by rw [← HN.out]; exact right_next HE.out.hr (by rw [HN.out]; exact hk) h9 h7
  obtain ⟨x, hx⟩ : ∃ x, L[k]! = x := ⟨_, rfl⟩
  rw [hx] at l0 l1 l2 l3 l4 l5 SN NX
  have HX : Aside (L[k]! = x) := hx
  obtain ⟨y1, y2, y3, y4, y5, y6⟩ := x
  simp only [] at l0 l1 l2 l3 l4 l5
  rw [holds_self hvis]
  clear hm mk1 mk2 hbox hv hx p6 hvis SND
  by_cases o7 : y1 = 7
  · subst o7
    obtain ⟨x, hx, hxn⟩ := sound_jump SN.out rfl
    simp only [] at hx
    subst hx
    rw [addF_7 HV.out HX.out rfl] at HQ
    have W2B : Aside (Below (holds W vb (c0.setIfInBounds k (.int .i64 1)) 3).heap.size (holds W vb (c0.setIfInBounds k (.int .i64 1)) 3) ((holds W vb (c0.setIfInBounds k (.int .i64 1)) 3).alloc (.cells #[.int .i64 7, .int .u8 y2, .string y3, .bool y4, .int .i64 (x : Int), .int .i64 y6] 34))) := Below.alloc (Below.refl _ _) (Nat.le_refl _) _
    have hcx : (v.set k true).count false < f := by omega
    have hnp : IntKind.i64.wrap ((k : Int) + 1) = ((k + 1 : Nat) : Int) := by rw [IntKind.wrap_i64]; omega
    clear SN NX HV HX
    go_enter Try.func41, Try.ntmps41
    go_wp2_with fail
    refine (IH.out pos vb (v.set k true) lv l x cs cv _ (MK1.out.later W2B.out) (CV2.out.later W2B.out) (by rw [HN.out]; assumption) hcs hps hcx).mono ?_
    rintro e w9 ⟨rfl, lv9, m9, k9⟩
    have M9 : Aside (MS w0 L _ cap g s mb pos vb _ lv9 _ w9) := m9
    have K9 : Aside (Kept mb vb lv lv9 W w9) := MK2.out.trans ((Kept.of_below W2B.out).trans k9)
    clear m9 k9
    go_wp2
    go_end0
    exact HQ.out _ _ M9.out K9.out
  by_cases o6 : y1 = 6
  · subst o6
    obtain ⟨⟨x, hx, hxn⟩, y, hy, hyn⟩ := sound_split SN.out rfl
    simp only [] at hx hy
    subst hx hy
    rw [addF_6 HV.out HX.out rfl] at HQ
    have W2B : Aside (Below (holds W vb (c0.setIfInBounds k (.int .i64 1)) 3).heap.size (holds W vb (c0.setIfInBounds k (.int .i64 1)) 3) ((holds W vb (c0.setIfInBounds k (.int .i64 1)) 3).alloc (.cells #[.int .i64 6, .int .u8 y2, .string y3, .bool y4, .int .i64 (x : Int), .int .i64 (y : Int)] 34))) := Below.alloc (Below.refl _ _) (Nat.le_refl _) _
    have hcx : (v.set k true).count false < f := by omega
    have hnp : IntKind.i64.wrap ((k : Int) + 1) = ((k + 1 : Nat) : Int) := by rw [IntKind.wrap_i64]; omega
    have SW : Aside (W.heap.size ≠ mb ∧ W.heap.size ≠ vb) := ⟨by omega, by omega⟩
    have HB6 : Aside (((holds W vb (c0.setIfInBounds k (.int .i64 1)) 3).alloc (.cells #[.int .i64 6, .int .u8 y2, .string y3, .bool y4, .int .i64 (x : Int), .int .i64 (y : Int)] 34)).heap[W.heap.size]? = some (.cells #[.int .i64 6, .int .u8 y2, .string y3, .bool y4, .int .i64 (x : Int), .int .i64 (y : Int)] 34 (0, 0))) := hp_new (by rw [size_holds])
    have RB6 : Aside (lv.ownBlock ≠ some W.heap.size) := fun e => by
      obtain ⟨ms, r1, _⟩ := HM.out.row
      have := (own_block r1 e).2.1
      omega
    clear SN NX HV HX
    go_enter Try.func41, Try.ntmps41
    go_wp2_with fail
    refine (IH.out pos vb (v.set k true) lv l x cs cv _ (MK1.out.later W2B.out) (CV2.out.later W2B.out) (by rw [HN.out]; assumption) hcs hps hcx).mono ?_
    rintro e w9 ⟨rfl, lv9, m9, k9⟩
    have T6 := k9.hp HB6.out SW.out.1 SW.out.2 RB6.out
    have d5 := cell_heap T6 5 _ rfl
    have C9 : Aside (Cap w0.heap.size vb cv cs w9) := by
      obtain ⟨ms, r1, _⟩ := (MK1.out.later W2B.out).row
      exact (CV2.out.later W2B.out).kept (MK1.out.later W2B.out).box r1 k9
    have hc2 := addF_count f L s.size pos x cs (v.set k true, l)
    have hcy : (addF f L s.size pos x cs (v.set k true, l)).1.count false < f := by simp only [] at hc2; omega
    clear hc2 T6
    have M9 : Aside (MS w0 L _ cap g s mb pos vb _ lv9 _ w9) := m9
    have K9 : Aside (Kept mb vb lv lv9 W w9) := MK2.out.trans ((Kept.of_below W2B.out).trans k9)
    clear m9 k9
    go_wp2_with fail
    refine (IH.out pos vb _ lv9 _ y cs cv _ M9.out C9.out (by rw [HN.out]; assumption) hcs hps hcy).mono ?_
    rintro e w10 ⟨rfl, lv10, m10, k10⟩
    have M10 : Aside (MS w0 L _ cap g s mb pos vb _ lv10 _ w10) := m10
    have K10 : Aside (Kept mb vb lv lv10 W w10) := K9.out.trans k10
    clear m10 k10
    go_wp2
    go_end0
    exact HQ.out _ _ M10.out K10.out
  by_cases o8 : y1 = 8
  · subst o8
    obtain ⟨x, hx, hxg⟩ := sound_save SN.out rfl
    simp only [] at hx
    subst hx
    rw [addF_8 HV.out HX.out rfl] at HQ
    have hkn : k + 1 < n := NX.out (by simp) (by simp)
    obtain ⟨m, hm⟩ : ∃ m, cs.length = m := ⟨_, rfl⟩
    obtain ⟨_, ⟨_, h0⟩ | ⟨cb, ccap, cur, rfl, hcb, hch, hcn2, hcm, hcz, hct⟩⟩ := HC.out.row
    · have := HC.out.pos
      omega
    have hxm : x < m := by omega
    have CR := (CV2.out.later (w' := ((holds W vb (c0.setIfInBounds k (.int .i64 1)) 3).alloc (.cells #[.int .i64 8, .int .u8 y2, .string y3, .bool y4, .int .i64 (x : Int), .int .i64 y6] 34))) (Below.alloc (Below.refl _ _) (Nat.le_refl _) _)).row
    have SLC : ∀ j, j < cs.length → ((holds W vb (c0.setIfInBounds k (.int .i64 1)) 3).alloc (.cells #[.int .i64 8, .int .u8 y2, .string y3, .bool y4, .int .i64 (x : Int), .int .i64 y6] 34)).cell? ⟨cb, 0 + j, none⟩ = some (.int .i64 (cs.getD j 0)) := by
      obtain ⟨_, ⟨h9, _⟩ | ⟨cb', ccap', cur', h9, _, h6, _, _, _, h10⟩⟩ := CR
      · cases h9
      · simp only [Value.slice.injEq, Option.some.injEq, Addr.mk.injEq] at h9
        obtain ⟨⟨rfl, -, -⟩, -, rfl⟩ := h9
        intro j hj
        refine cell_heap h6 _ _ ?_
        have h11 : (cur'.toList.take (cs.length * 1))[j]? = some (.int .i64 (cs.getD j 0)) := by rw [h10, List.getElem?_map, List.getElem?_eq_getElem hj, List.getD_eq_getElem?_getD, List.getElem?_eq_getElem hj]; rfl
        rw [List.getElem?_take, if_pos (by omega)] at h11
        rw [Nat.zero_add, ← Array.getElem?_toList]
        exact h11
    have cl := sh_slices_Clone_int cb 0 cs.length ccap cs ((holds W vb (c0.setIfInBounds k (.int .i64 1)) 3).alloc (.cells #[.int .i64 8, .int .u8 y2, .string y3, .bool y4, .int .i64 (x : Int), .int .i64 y6] 34)) (Nat.le_refl _) (by omega) SLC
    rw [List.take_length, hm] at cl
    have W2B : Aside (Below (holds W vb (c0.setIfInBounds k (.int .i64 1)) 3).heap.size (holds W vb (c0.setIfInBounds k (.int .i64 1)) 3) ((holds W vb (c0.setIfInBounds k (.int .i64 1)) 3).alloc (.cells #[.int .i64 8, .int .u8 y2, .string y3, .bool y4, .int .i64 (x : Int), .int .i64 y6] 34))) := Below.alloc (Below.refl _ _) (Nat.le_refl _) _
    have hcx : (v.set k true).count false < f := by omega
    have hnp : IntKind.i64.wrap ((k : Int) + 1) = ((k + 1 : Nat) : Int) := by rw [IntKind.wrap_i64]; omega
    have HMM : Aside (cs.length = m) := hm
    have SWL : Aside (((holds W vb (c0.setIfInBounds k (.int .i64 1)) 3).alloc (.cells #[.int .i64 8, .int .u8 y2, .string y3, .bool y4, .int .i64 (x : Int), .int .i64 y6] 34)).heap.size = W.heap.size + 1) := by show _ = _; simp [size_holds]
    have HB6 : Aside (((holds W vb (c0.setIfInBounds k (.int .i64 1)) 3).alloc (.cells #[.int .i64 8, .int .u8 y2, .string y3, .bool y4, .int .i64 (x : Int), .int .i64 y6] 34)).heap[W.heap.size]? = some (.cells #[.int .i64 8, .int .u8 y2, .string y3, .bool y4, .int .i64 (x : Int), .int .i64 y6] 34 (0, 0))) := hp_new (by rw [size_holds])
    clear SN NX HV HX CR SLC hch hct hm
    rw [HMM.out] at hcn2 ⊢
    go_enter Try.func41, Try.ntmps41
    go_wp2_with fail
    refine cl.mono ?_
    rintro e w5 ⟨v', rfl, hown, hnn, hb5⟩
    have OWN : Aside (w5.ownsRow ((holds W vb (c0.setIfInBounds k (.int .i64 1)) 3).alloc (.cells #[.int .i64 8, .int .u8 y2, .string y3, .bool y4, .int .i64 (x : Int), .int .i64 y6] 34)).heap.size 3 1 v' m (cs.map (Value.int .i64))) := hown
    have HB5 : Aside (Below ((holds W vb (c0.setIfInBounds k (.int .i64 1)) 3).alloc (.cells #[.int .i64 8, .int .u8 y2, .string y3, .bool y4, .int .i64 (x : Int), .int .i64 y6] 34)).heap.size ((holds W vb (c0.setIfInBounds k (.int .i64 1)) 3).alloc (.cells #[.int .i64 8, .int .u8 y2, .string y3, .bool y4, .int .i64 (x : Int), .int .i64 y6] 34)) w5) := hb5
    obtain ⟨_, ⟨h0, _⟩ | ⟨rb, rcap, rcur, rfl, hrb, hrh, hrn, hrm, hrz, hrt⟩⟩ := hown
    · exact absurd h0 hnn
    have MS5 := (MK1.out.later W2B.out).later HB5.out
    have e3 : w5.cell? ⟨mb, 3, none⟩ = some (.int .i64 (pos : Int)) := cell_heap MS5.box 3 _ rfl
    have d4 := cell_heap (heap_later HB6.out HB5.out) 4 _ rfl
    have lmb5 : mb < w5.heap.size := (Array.getElem?_eq_some_iff.1 MS5.box).1
    have lrb5 : rb < w5.heap.size := (Array.getElem?_eq_some_iff.1 hrh).1
    have hsw := SWL.out
    have nmr : ¬ mb = rb := by omega
    have nrm : ¬ rb = mb := by omega
    have nwr : ¬ W.heap.size = rb := by omega
    have nrw : ¬ rb = W.heap.size := by omega
    have hxr : rcur[x]? = some (.int .i64 (cs.getD x 0)) := by
      have h11 : (rcur.toList.take (m * 1))[x]? = some (.int .i64 (cs.getD x 0)) := by
        rw [hrt, List.getElem?_map, List.getElem?_eq_getElem (by rw [HMM.out]; exact hxm), List.getD_eq_getElem?_getD, List.getElem?_eq_getElem (by rw [HMM.out]; exact hxm)]; rfl
      rw [List.getElem?_take, if_pos (by omega)] at h11
      rw [← Array.getElem?_toList]
      exact h11
    have NEWC : Aside (Cap w0.heap.size vb (.slice (some ⟨rb, 0, none⟩) m rcap) (cs.set x (pos : Int)) (holds w5.drew rb (rcur.setIfInBounds x (.int .i64 (pos : Int))) 3)) := by
      refine ⟨⟨by simp, .inr ⟨rb, rcap, rcur.setIfInBounds x (.int .i64 (pos : Int)), by rw [List.length_set, HMM.out], by have := LW.out; omega, hh_eq lrb5, by rw [List.length_set, HMM.out]; exact hrn, hrm, by rw [Array.size_setIfInBounds]; exact hrz, ?_⟩⟩, fun e => by simp [Value.ownBlock] at e; omega, by rw [List.length_set]; have := HMM.out; omega⟩
      rw [Array.toList_setIfInBounds, List.length_set, HMM.out, List.take_set, hrt, List.map_set]
    have BR : Aside (Below ((holds W vb (c0.setIfInBounds k (.int .i64 1)) 3).alloc (.cells #[.int .i64 8, .int .u8 y2, .string y3, .bool y4, .int .i64 (x : Int), .int .i64 y6] 34)).heap.size ((holds W vb (c0.setIfInBounds k (.int .i64 1)) 3).alloc (.cells #[.int .i64 8, .int .u8 y2, .string y3, .bool y4, .int .i64 (x : Int), .int .i64 y6] 34)) (holds w5.drew rb (rcur.setIfInBounds x (.int .i64 (pos : Int))) 3)) := below_holds (Below.drew HB5.out) hrb _ _
    rw [holds_self hrh]
    clear hrh hrt MS5 hb5 hnn cl OWN
    go_wp2_with fail
    go_region
    all_goals go_wp2_with fail
    have hks : (k : Int) + 1 = ((k + 1 : Nat) : Int) := by omega
    rw [hks]
    clear hks
    refine (IH.out pos vb (v.set k true) lv l (k + 1) (cs.set x (pos : Int)) _ _ ((MK1.out.later W2B.out).later BR.out) NEWC.out (by rw [HN.out]; assumption) (by rw [List.length_set]; exact hcs) hps hcx).mono ?_
    rintro e w9 ⟨rfl, lv9, m9, k9⟩
    have M9 : Aside (MS w0 L _ cap g s mb pos vb _ lv9 _ w9) := m9
    have K9 : Aside (Kept mb vb lv lv9 W w9) := MK2.out.trans ((Kept.of_below W2B.out).trans ((Kept.of_below BR.out).trans k9))
    clear m9 k9
    go_wp2
    go_end0
    exact HQ.out _ _ M9.out K9.out
  by_cases o4 : y1 = 4
  · subst o4
    have W2B : Aside (Below (holds W vb (c0.setIfInBounds k (.int .i64 1)) 3).heap.size (holds W vb (c0.setIfInBounds k (.int .i64 1)) 3) ((holds W vb (c0.setIfInBounds k (.int .i64 1)) 3).alloc (.cells #[.int .i64 4, .int .u8 y2, .string y3, .bool y4, .int .i64 y5, .int .i64 y6] 34))) := Below.alloc (Below.refl _ _) (Nat.le_refl _) _
    have hcx : (v.set k true).count false < f := by omega
    have hnp : IntKind.i64.wrap ((k : Int) + 1) = ((k + 1 : Nat) : Int) := by rw [IntKind.wrap_i64]; omega
    by_cases hz : pos = 0
    · have ez : ((pos : Int) == 0) = true := by rw [hz]; simp
      have hkn : k + 1 < n := NX.out (by simp) (by simp)
      rw [addF_4 HV.out HX.out rfl hz] at HQ
      clear SN NX HV HX hz
      go_enter Try.func41, Try.ntmps41
      go_wp2_with fail
      have hks : (k : Int) + 1 = ((k + 1 : Nat) : Int) := by omega
      try rw [hks]
      clear hks
      refine (IH.out pos vb (v.set k true) lv l (k + 1) cs cv _ (MK1.out.later W2B.out) (CV2.out.later W2B.out) (by rw [HN.out]; assumption) hcs hps hcx).mono ?_
      rintro e w9 ⟨rfl, lv9, m9, k9⟩
      have M9 : Aside (MS w0 L _ cap g s mb pos vb _ lv9 _ w9) := m9
      have K9 : Aside (Kept mb vb lv lv9 W w9) := MK2.out.trans ((Kept.of_below W2B.out).trans k9)
      clear m9 k9
      go_wp2
      go_end0
      exact HQ.out _ _ M9.out K9.out
    · have ez : ((pos : Int) == 0) = false := by (rw [beq_eq_false_iff_ne]; omega)
      rw [addF_4n HV.out HX.out rfl hz] at HQ
      clear SN NX HV HX hz
      go_enter Try.func41, Try.ntmps41
      go_wp2_with fail
      go_end0
      exact HQ.out _ _ (MK1.out.later W2B.out) (MK2.out.trans (Kept.of_below W2B.out))
  by_cases o5 : y1 = 5
  · subst o5
    have W2B : Aside (Below (holds W vb (c0.setIfInBounds k (.int .i64 1)) 3).heap.size (holds W vb (c0.setIfInBounds k (.int .i64 1)) 3) ((holds W vb (c0.setIfInBounds k (.int .i64 1)) 3).alloc (.cells #[.int .i64 5, .int .u8 y2, .string y3, .bool y4, .int .i64 y5, .int .i64 y6] 34))) := Below.alloc (Below.refl _ _) (Nat.le_refl _) _
    have hcx : (v.set k true).count false < f := by omega
    have hnp : IntKind.i64.wrap ((k : Int) + 1) = ((k + 1 : Nat) : Int) := by rw [IntKind.wrap_i64]; omega
    by_cases hz : pos = s.size
    · have ez : ((pos : Int) == (s.size : Int)) = true := by rw [hz]; simp
      have hkn : k + 1 < n := NX.out (by simp) (by simp)
      rw [addF_5 HV.out HX.out rfl hz] at HQ
      clear SN NX HV HX hz
      go_enter Try.func41, Try.ntmps41
      go_wp2_with fail
      go_quiet (fail)
      go_wp2_with fail
      have hks : (k : Int) + 1 = ((k + 1 : Nat) : Int) := by omega
      try rw [hks]
      clear hks
      refine (IH.out pos vb (v.set k true) lv l (k + 1) cs cv _ (MK1.out.later (below_drewN W2B.out _)) (CV2.out.later (below_drewN W2B.out _)) (by rw [HN.out]; assumption) hcs hps hcx).mono ?_
      rintro e w9 ⟨rfl, lv9, m9, k9⟩
      have M9 : Aside (MS w0 L _ cap g s mb pos vb _ lv9 _ w9) := m9
      have K9 : Aside (Kept mb vb lv lv9 W w9) := MK2.out.trans ((Kept.of_below (below_drewN W2B.out _)).trans k9)
      clear m9 k9
      go_wp2
      go_end0
      exact HQ.out _ _ M9.out K9.out
    · have ez : ((pos : Int) == (s.size : Int)) = false := by (rw [beq_eq_false_iff_ne]; omega)
      rw [addF_5n HV.out HX.out rfl hz] at HQ
      clear SN NX HV HX hz
      go_enter Try.func41, Try.ntmps41
      go_wp2_with fail
      go_quiet (fail)
      go_wp2_with fail
      go_end0
      exact HQ.out _ _ (MK1.out.later (below_drewN W2B.out _)) (MK2.out.trans (Kept.of_below (below_drewN W2B.out _)))
  have e7 : (y1 == 7) = false := by simpa using o7
  have f7 : decide (y1 = 7) = false := decide_eq_false o7
  have e6 : (y1 == 6) = false := by simpa using o6
  have f6 : decide (y1 = 6) = false := decide_eq_false o6
  have e8 : (y1 == 8) = false := by simpa using o8
  have f8 : decide (y1 = 8) = false := decide_eq_false o8
  have e4 : (y1 == 4) = false := by simpa using o4
  have f4 : decide (y1 = 4) = false := decide_eq_false o4
  have e5 : (y1 == 5) = false := by simpa using o5
  have f5 : decide (y1 = 5) = false := decide_eq_false o5
  obtain ⟨cb, ccap, ecv⟩ : ∃ cb ccap, cv = .slice (some ⟨cb, 0, none⟩) cs.length ccap := by
    obtain ⟨_, ⟨_, h9⟩ | ⟨cb, ccap, _, h9, _⟩⟩ := HC.out.row
    · have := HC.out.pos
      omega
    · exact ⟨cb, ccap, h9⟩
  subst ecv
  obtain ⟨la, ln, lc, elv⟩ : ∃ la ln lc, lv = .slice la ln lc := by
    obtain ⟨ms, r1, _⟩ := HM.out.row
    obtain ⟨_, ⟨h9, _⟩ | ⟨cb, ccap, _, h9, _⟩⟩ := r1
    · exact ⟨_, _, _, h9⟩
    · exact ⟨_, _, _, h9⟩
  subst elv
  rw [addF_o HV.out HX.out o7 o6 o8 o4 o5] at HQ
  obtain ⟨i0, hi0, hz0, hs0, hb0⟩ := thInfo
  have W2B : Aside (Below (holds W vb (c0.setIfInBounds k (.int .i64 1)) 3).heap.size (holds W vb (c0.setIfInBounds k (.int .i64 1)) 3) ((holds W vb (c0.setIfInBounds k (.int .i64 1)) 3).alloc (.cells #[.int .i64 y1, .int .u8 y2, .string y3, .bool y4, .int .i64 y5, .int .i64 y6] 34))) := Below.alloc (Below.refl _ _) (Nat.le_refl _) _
  have W3B : Aside (Below ((holds W vb (c0.setIfInBounds k (.int .i64 1)) 3).alloc (.cells #[.int .i64 y1, .int .u8 y2, .string y3, .bool y4, .int .i64 y5, .int .i64 y6] 34)).heap.size ((holds W vb (c0.setIfInBounds k (.int .i64 1)) 3).alloc (.cells #[.int .i64 y1, .int .u8 y2, .string y3, .bool y4, .int .i64 y5, .int .i64 y6] 34)) (((holds W vb (c0.setIfInBounds k (.int .i64 1)) 3).alloc (.cells #[.int .i64 y1, .int .u8 y2, .string y3, .bool y4, .int .i64 y5, .int .i64 y6] 34)).alloc (.cells #[.int .i64 (k : Int), (.slice (some ⟨cb, 0, none⟩) cs.length ccap)] 79))) := Below.alloc (Below.refl _ _) (Nat.le_refl _) _
  have MS3 := (MK1.out.later W2B.out).later W3B.out
  have CV3 := (CV2.out.later W2B.out).later W3B.out
  obtain ⟨ms, r1, r2⟩ := MS3.row
  have R1 : Aside ((((holds W vb (c0.setIfInBounds k (.int .i64 1)) 3).alloc (.cells #[.int .i64 y1, .int .u8 y2, .string y3, .bool y4, .int .i64 y5, .int .i64 y6] 34)).alloc (.cells #[.int .i64 (k : Int), (.slice (some ⟨cb, 0, none⟩) cs.length ccap)] 79)).ownsRow w0.heap.size 79 2 (.slice la ln lc) ms.length (flatE ThM.enc ms)) := r1
  have R2 : Aside (All2 (fun m t => m.k = t.1 ∧ Cap w0.heap.size vb m.v t.2 (((holds W vb (c0.setIfInBounds k (.int .i64 1)) 3).alloc (.cells #[.int .i64 y1, .int .u8 y2, .string y3, .bool y4, .int .i64 y5, .int .i64 y6] 34)).alloc (.cells #[.int .i64 (k : Int), (.slice (some ⟨cb, 0, none⟩) cs.length ccap)] 79))) ms l) := r2
  have MS3A : Aside (MS w0 L _ cap g s mb pos vb (v.set k true) (.slice la ln lc) l (((holds W vb (c0.setIfInBounds k (.int .i64 1)) 3).alloc (.cells #[.int .i64 y1, .int .u8 y2, .string y3, .bool y4, .int .i64 y5, .int .i64 y6] 34)).alloc (.cells #[.int .i64 (k : Int), (.slice (some ⟨cb, 0, none⟩) cs.length ccap)] 79))) := MS3
  have CV3A : Aside (Cap w0.heap.size vb (.slice (some ⟨cb, 0, none⟩) cs.length ccap) cs (((holds W vb (c0.setIfInBounds k (.int .i64 1)) 3).alloc (.cells #[.int .i64 y1, .int .u8 y2, .string y3, .bool y4, .int .i64 y5, .int .i64 y6] 34)).alloc (.cells #[.int .i64 (k : Int), (.slice (some ⟨cb, 0, none⟩) cs.length ccap)] 79))) := CV3
  have CNT : Aside (l.length + 1 + (v.set k true).count false ≤ (v.set k true).length) := by
    have := HM.out.cnt
    have hh := hcn
    show _ ≤ _
    rw [List.length_set]
    omega
  have hml : ms.length ≤ 1024 := by
    have h1 := All2.len r2
    have h2 := HM.out.cnt
    omega
  have H1 : Aside ((((holds W vb (c0.setIfInBounds k (.int .i64 1)) 3).alloc (.cells #[.int .i64 y1, .int .u8 y2, .string y3, .bool y4, .int .i64 y5, .int .i64 y6] 34)).alloc (.cells #[.int .i64 (k : Int), (.slice (some ⟨cb, 0, none⟩) cs.length ccap)] 79)).heap[mb]? = some (.cells #[.slice (some ⟨ib, io, none⟩) n cap, .int .i64 g, .string s, .int .i64 (pos : Int), .slice (some ⟨vb, 0, none⟩) n n, (.slice la ln lc)] 73 (0, 0))) := by
    show _ = _
    rw [MS3.box]
    unfold mBox
    rw [HN.out]
  have NM : Aside ((Value.slice la ln lc).ownBlock ≠ some mb) := own_ne r1 H1.out (by decide)
  have SW3 : Aside ((((holds W vb (c0.setIfInBounds k (.int .i64 1)) 3).alloc (.cells #[.int .i64 y1, .int .u8 y2, .string y3, .bool y4, .int .i64 y5, .int .i64 y6] 34)).alloc (.cells #[.int .i64 (k : Int), (.slice (some ⟨cb, 0, none⟩) cs.length ccap)] 79)).heap.size = W.heap.size + 1 + 1) := by show _ = _; simp [size_holds]
  have LWA := LW.out
  clear SN NX HV HX o7 o6 o8 o4 o5 MS3 CV3 r1 r2
  go_enter Try.func41, Try.ntmps41
  go_wp2_with (at_builtin; refine wpList_append_lies _ rfl _ _ 71 rfl w0.heap.size 79 i0 _ 2 32 Try.underlying71 hi0 hz0 hs0 hb0 rfl (by omega) (.slice la ln lc) ms.length (flatE ThM.enc ms) rfl R1.out ⟨W.heap.size + 1, 0, none⟩ 1 1 [.int .i64 (k : Int), (.slice (some ⟨cb, 0, none⟩) cs.length ccap)] rfl rfl (cells_new _ _ _ _ (by simp [size_holds])) (by intro u hu; simp only [List.mem_cons, List.not_mem_nil, or_false] at hu; rcases hu with rfl | rfl; rfl; rfl) (by omega) (by unfold maxLen; omega) (by omega) (by simp [size_holds]; omega) _ rfl ?_; intro gg cap2 w9 hown hgrow hat hlt; have hg1 : w9.heap[mb]? = some (.cells #[.slice (some ⟨ib, io, none⟩) n cap, .int .i64 g, .string s, .int .i64 (pos : Int), .slice (some ⟨vb, 0, none⟩) n n, (.slice la ln lc)] 73 (0, 0)) := (hgrow.block mb (by have := SW3.out; omega) (fun e => NM.out e.symm)).trans H1.out; have HG1 : Aside _ := hg1; have HGR : Aside _ := hgrow; have HOW : Aside _ := hown; have HAT : Aside _ := hat; have ltw : mb < w9.heap.size := (Array.getElem?_eq_some_iff.1 hg1).1; rw [holds_self hg1]; clear hg1 hgrow hown hat)
  have PP := MS3A.out.push (k := k) (cv := .slice (some ⟨cb, 0, none⟩) cs.length ccap) (cs := cs) (lv' := .slice (some ⟨gg, 0, none⟩) (ms.length + 1) cap2) R2.out R1.out CV3A.out HGR.out (fun b hb e => by
    rcases HAT.out with h | h
    · rw [h]; exact e
    · have : gg = b := by simpa [Value.ownBlock] using e
      omega) (by rw [List.length_append, flatE_snoc]; exact HOW.out) CNT.out
  unfold mBox at PP
  rw [HN.out] at PP
  have PA : Aside _ := PP
  clear PP
  go_end0
  exact HQ.out _ _ PA.out.1 (MK2.out.trans ((Kept.of_below W2B).trans ((Kept.of_below W3B).trans PA.out.2)))

theorem add_calls (w0 : World) (L : List In) (ao : Option Addr) (cap : Nat) (g : Int) (s : ByteArray) (mb : Nat) (E : AEnv w0 L ao g s) : ∀ f, AddOK w0 L ao cap g s mb f
  | 0 => fun _ _ _ _ _ _ _ _ _ _ _ _ _ _ h => absurd h (Nat.not_lt_zero _)
  | f + 1 => add_step w0 L ao cap g s mb E f (add_calls w0 L ao cap g s mb E f)

end Go.Proofs.Ytfhccmegobbnaaa
