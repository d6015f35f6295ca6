/- This text speaks of the memory of the reference's machine: the list of its threads, and what was visited for it. Conditions: those that each theorem names. This text proves the walk of add of the reference. Conditions: those that each theorem names. This text proves the walk of none of the reference, and speaks of the memory of its function from. Conditions: those that each theorem names. -/
import Derived.Test.YtfhccmegobbnaaaRegexZ
namespace Go.Proofs.Ytfhccmegobbnaaa
open Go.ChangeShapes Go.WideShapes Go.ChangeAt Go.RowKit
set_option linter.unusedVariables false
set_option linter.unusedSimpArgs false

/-- Which instructions were visited, in memory. -/
def encB (v : List Bool) : Array Value := (v.map Value.bool).toArray
theorem encB_set (v : List Bool) (k : Nat) : encB (v.set k true) = (encB v).setIfInBounds k (.bool true) := by
  unfold encB
  rw [List.setIfInBounds_toArray, List.map_set]
theorem encB_get {v : List Bool} {k : Nat} (h : k < v.length) : (encB v)[k]? = some (.bool v[k]!) := by
  unfold encB
  rw [List.getElem?_toArray, List.getElem?_map, List.getElem?_eq_getElem h, getElem!_pos v k h]
  rfl
/-- The list of threads in the row lv, what was visited in block vb. -/
structure TS (w0 : World) (n vb : Nat) (v : List Bool) (lv : Value) (l : List Th) (W : World) : Prop where
  hb : Below w0.heap.size w0 W
  hvb : w0.heap.size ≤ vb
  vis : W.heap[vb]? = some (.cells (encB v) 4 (0, 0))
  len : v.length = n
  row : ∃ ms : List ThM, W.ownsRow w0.heap.size 102 2 lv ms.length (flatE ThM.enc ms) ∧ All2 (fun m t => m.k = t.1 ∧ Cap w0.heap.size vb m.v t.2 W) ms l
  cnt : l.length + v.count false ≤ v.length
theorem TS.later {w0 : World} {n vb : Nat} {v : List Bool} {lv : Value} {l : List Th} {W W' : World} (h : TS w0 n vb v lv l W) (hb : Below W.heap.size W W') : TS w0 n vb v lv l W' :=
  let ⟨ms, h1, h2⟩ := h.row
  ⟨h.hb.trans (hb.mono h.hb.size), h.hvb, heap_later h.vis hb, h.len, ⟨ms, own_from h1 hb, forall2_imp (fun _ _ hr => ⟨hr.1, hr.2.later hb⟩) h2⟩, h.cnt⟩
theorem TS.lt {w0 : World} {n vb : Nat} {v : List Bool} {lv : Value} {l : List Th} {W : World} (h : TS w0 n vb v lv l W) : vb < W.heap.size := (Array.getElem?_eq_some_iff.1 h.vis).1
theorem TS.blk {w0 : World} {n vb : Nat} {v : List Bool} {lv : Value} {l : List Th} {W : World} (h : TS w0 n vb v lv l W) {b : Nat} (hb : lv.ownBlock = some b) : w0.heap.size ≤ b ∧ b < W.heap.size :=
  let ⟨_, h1, _⟩ := h.row
  ⟨(own_block h1 hb).1, (own_block h1 hb).2.1⟩
theorem TS.form {w0 : World} {n vb : Nat} {v : List Bool} {lv : Value} {l : List Th} {W : World} (h : TS w0 n vb v lv l W) : ∃ la lc, lv = .slice la l.length lc := by
  obtain ⟨ms, r1, r2⟩ := h.row
  have e := All2.len r2
  obtain ⟨_, ⟨h9, h0⟩ | ⟨cb, ccap, _, h9, _⟩⟩ := r1
  · exact ⟨none, 0, by rw [h9, ← e, h0]⟩
  · exact ⟨_, _, by rw [h9, e]⟩
theorem Cap.own {B vb : Nat} {v lv lv' : Value} {cs : List Int} {w w' : World} {n : Nat} {B' : Nat} {xs : List Value} (h : Cap B vb v cs w) (hr : w.ownsRow B' 102 2 lv n xs) (hk : Kept vb vb lv lv' w w') : Cap B vb v cs w' :=
  ⟨own_kept h.row hk h.ne h.ne (own_apart h.row hr (by decide)), h.ne, h.pos⟩
theorem TS.mark {w0 : World} {n vb : Nat} {v : List Bool} {lv : Value} {l : List Th} {W : World} (h : TS w0 n vb v lv l W) {k : Nat} (hk : k < n) (hv : v[k]! = false) :
    TS w0 n vb (v.set k true) lv l (holds W vb (encB (v.set k true)) 4) ∧ Kept vb vb lv lv W (holds W vb (encB (v.set k true)) 4) := by
  obtain ⟨ms, h1, h2⟩ := h.row
  have l2 := h.lt
  have hK : Kept vb vb lv lv W (holds W vb (encB (v.set k true)) 4) := ⟨rfl, rfl, rfl, by rw [size_holds]; exact Nat.le_refl _, fun b hb _ hne _ => by rw [heap_holds, if_neg (fun e => hne e.1)], fun _ _ h => h⟩
  have hc := count_set v k (by rw [h.len]; exact hk) hv
  exact ⟨⟨below_holds h.hb h.hvb _ _, h.hvb, hh_eq l2, by rw [List.length_set]; exact h.len, ⟨ms, own_holds h1 (own_ne h1 h.vis (by decide)), forall2_imp (fun _ _ hr => ⟨hr.1, hr.2.own h1 hK⟩) h2⟩, by have := h.cnt; rw [List.length_set]; omega⟩, hK⟩
/-- A thread behind the others. -/
theorem TS.push {w0 : World} {n vb : Nat} {v : List Bool} {lv lv' : Value} {l : List Th} {W W1 : World} {ms : List ThM} {k : Nat} {cv : Value} {cs : List Int} (h : TS w0 n vb v lv l W)
    (h2 : All2 (fun m t => m.k = t.1 ∧ Cap w0.heap.size vb m.v t.2 W) ms l) (h1 : W.ownsRow w0.heap.size 102 2 lv ms.length (flatE ThM.enc ms))
    (hc : Cap w0.heap.size vb cv cs W) (hg : W.grownBy W1 lv.ownBlock) (hn : ∀ b, b < W.heap.size → lv'.ownBlock = some b → lv.ownBlock = some b)
    (hr : W1.ownsRow w0.heap.size 102 2 lv' (ms ++ [(⟨k, cv⟩ : ThM)]).length (flatE ThM.enc (ms ++ [(⟨k, cv⟩ : ThM)]))) (hct : (l.length + 1) + v.count false ≤ v.length) :
    TS w0 n vb v lv' (l ++ [(k, cs)]) W1 ∧ Kept vb vb lv lv' W W1 := by
  have l2 := h.lt
  have hv1 : W1.heap[vb]? = _ := (hg.block vb l2 (fun e => own_ne h1 h.vis (by decide) e.symm)).trans h.vis
  have hK : Kept vb vb lv lv' W W1 :=
    ⟨hg.os, hg.tape, hg.output, hg.size, fun b hb _ _ hl => hg.block b hb (fun e => hl e.symm), hn⟩
  have hbl : ∀ b, lv.ownBlock = some b → w0.heap.size ≤ b := fun b e => (own_block h1 e).1
  refine ⟨⟨hK.below h.hb h.hvb h.hvb hbl h.hb.size, h.hvb, hv1, h.len, ⟨ms ++ [⟨k, cv⟩], hr, ?_⟩, by rw [List.length_append]; exact hct⟩, hK⟩
  exact (forall2_imp (fun _ _ hr => ⟨hr.1, hr.2.own h1 hK⟩) h2).snoc ⟨rfl, hc.own h1 hK⟩
/-- A block of other cells is written. -/
theorem Cap.other {B vb : Nat} {v : Value} {cs : List Int} {w : World} (h : Cap B vb v cs w) {b : Nat} {c c' : Array Value} {T : TypeId} (hb : w.heap[b]? = some (.cells c T (0, 0))) (hT : T ≠ 3) : Cap B vb v cs (holds w b c' T) :=
  ⟨own_holds h.row (own_ne h.row hb hT), h.ne, h.pos⟩
theorem TS.other {w0 : World} {n vb : Nat} {v : List Bool} {lv : Value} {l : List Th} {W : World} (h : TS w0 n vb v lv l W) {b : Nat} {c c' : Array Value} {T : TypeId} (hb : W.heap[b]? = some (.cells c T (0, 0))) (hB : w0.heap.size ≤ b)
    (h1 : T ≠ 3) (h2 : T ≠ 4) (h3 : T ≠ 102) : TS w0 n vb v lv l (holds W b c' T) := by
  obtain ⟨ms, r1, r2⟩ := h.row
  refine ⟨below_holds h.hb hB _ _, h.hvb, hh_ne (fun e => ?_) h.vis, h.len, ⟨ms, own_holds r1 (own_ne r1 hb h3), forall2_imp (fun _ _ hr => ⟨hr.1, hr.2.other hb h1⟩) r2⟩, h.cnt⟩
  rw [← e, h.vis] at hb
  injection hb with hb
  injection hb with _ hb
  exact h2 hb.symm
theorem Kept.other {mb vb : Nat} {lv lv' : Value} {w w' : World} (h : Kept mb vb lv lv' w w') {b : Nat} (hb : w.heap.size ≤ b) (c : Array Value) (T : TypeId) : Kept mb vb lv lv' w (holds w' b c T) :=
  ⟨h.os, h.tape, h.output, by rw [size_holds]; exact h.size, fun k hk h1 h2 h3 => by rw [heap_holds, if_neg (by omega)]; exact h.block k hk h1 h2 h3, h.fresh⟩
theorem rthInfo : ∃ i0 : TypeInfo, Try.prog.info? 102 = some i0 ∧ i0.zero = some (.agg #[.int .i64 0, .slice none 0 0]) ∧ i0.size = 2 ∧ i0.bytes = 32 := by
  have h : (Try.prog.info? 102).map (fun i => (i.zero, i.size, i.bytes)) = some (some (.agg #[.int .i64 0, .slice none 0 0]), 2, 32) := by kernel_rfl
  cases hi : Try.prog.info? 102 with
  | none => rw [hi] at h; cases h
  | some i0 =>
    rw [hi] at h
    simp only [Option.map_some, Option.some.injEq, Prod.mk.injEq] at h
    exact ⟨i0, rfl, h.1, h.2.1, h.2.2⟩


/-- What add of the reference leaves. -/
def RAPost (w0 : World) (n vb : Nat) (lv : Value) (W : World) (st : List Bool × List Th) (e : Ending) (W' : World) : Prop :=
  ∃ la lc, e = .returned (.agg #[.slice la st.2.length lc, .slice (some ⟨vb, 0, none⟩) n n]) ∧ TS w0 n vb st.1 (.slice la st.2.length lc) st.2 W' ∧ Kept vb vb lv (.slice la st.2.length lc) W W'
def RAddOK (w0 : World) (L : List In) (ao : Option Addr) (cap : Nat) (g : Int) (s : ByteArray) (f : Nat) : Prop :=
  ∀ (pos vb : Nat) (v : List Bool) (la : Option Addr) (lc : Nat) (l : List Th) (k : Nat) (cs : List Int) (cv : Value) (W : World), TS w0 L.length vb v (.slice la l.length lc) l W → Cap w0.heap.size vb cv cs W → k < L.length → (cs.length : Int) = 2 * g → pos ≤ s.size → v.count false < f →
    Calls Try.prog 54 #[.agg #[.slice ao L.length cap, .int .i64 g], .string s, .agg #[.slice la l.length lc, .slice (some ⟨vb, 0, none⟩) L.length L.length], .int .i64 (k : Int), .int .i64 (pos : Int), cv] W (RAPost w0 L.length vb (.slice la l.length lc) W (addF f L s.size pos k cs (v, l)))

set_option maxRecDepth 20000 in
set_option maxHeartbeats 64000000 in
theorem radd_step (w0 : World) (L : List In) (ao : Option Addr) (cap : Nat) (g : Int) (s : ByteArray) (E : AEnv w0 L ao g s) (f : Nat) (ih : RAddOK w0 L ao cap g s f) : RAddOK w0 L ao cap g s (f + 1) := by
  intro pos vb v la lc l k cs cv W hm hc hk hcs hps hcnt
  obtain ⟨n, hn⟩ : ∃ n, L.length = n := ⟨_, rfl⟩
  have HN : Aside (L.length = n) := hn
  have HE : Aside (AEnv w0 L ao g s) := E
  unfold RAddOK at ih
  rw [hn] at hm hk ih ⊢
  have HM : Aside (TS w0 n vb v (.slice la l.length lc) l W) := hm
  have HC : Aside (Cap w0.heap.size vb cv cs W) := hc
  have IH0 : Aside (∀ (pos vb : Nat) (v : List Bool) (la : Option Addr) (lc : Nat) (l : List Th) (k : Nat) (cs : List Int) (cv : Value) (W : World), TS w0 n vb v (.slice la l.length lc) l W → Cap w0.heap.size vb cv cs W → k < n → (cs.length : Int) = 2 * g → pos ≤ s.size → v.count false < f →
    Calls Try.prog 54 #[.agg #[.slice ao n cap, .int .i64 g], .string s, .agg #[.slice la l.length lc, .slice (some ⟨vb, 0, none⟩) n n], .int .i64 (k : Int), .int .i64 (pos : Int), cv] W (RAPost w0 n vb (.slice la l.length lc) W (addF f L s.size pos k cs (v, l)))) := ih
  have lvb := hm.lt
  obtain ⟨lx, hlx⟩ : ∃ lx, addF (f + 1) L s.size pos k cs (v, l) = lx := ⟨_, rfl⟩
  have HLX : Aside (addF (f + 1) L s.size pos k cs (v, l) = lx) := hlx
  rw [hlx]
  obtain ⟨Q, hQ⟩ : ∃ Q : Ending → World → Prop, RAPost w0 n vb (.slice la l.length lc) W lx = Q := ⟨_, rfl⟩
  rw [hQ]
  have HQ : Aside (∀ W' la' lc', TS w0 n vb lx.1 (.slice la' lx.2.length lc') lx.2 W' → Kept vb vb (.slice la l.length lc) (.slice la' lx.2.length lc') W W' → Q (.returned (.agg #[.slice la' lx.2.length lc', .slice (some ⟨vb, 0, none⟩) n n])) W') := fun W' la' lc' h1 h2 => by rw [← hQ]; exact ⟨la', lc', rfl, h1, h2⟩
  have hvl : v.length = n := hm.len
  obtain ⟨p1, p2, p3, p4, p5, p6⟩ := right_parts E.hr
  rw [hn] at p4
  obtain ⟨ib, io, rfl, hib, -⟩ := HE.out.hp.c k (by rw [HN.out]; exact hk)
  have IH : Aside (∀ (pos vb : Nat) (v : List Bool) (la : Option Addr) (lc : Nat) (l : List Th) (k : Nat) (cs : List Int) (cv : Value) (W : World), TS w0 n vb v (.slice la l.length lc) l W → Cap w0.heap.size vb cv cs W → k < n → (cs.length : Int) = 2 * g → pos ≤ s.size → v.count false < f →
    Calls Try.prog 54 #[.agg #[.slice (some ⟨ib, io, none⟩) n cap, .int .i64 g], .string s, .agg #[.slice la l.length lc, .slice (some ⟨vb, 0, none⟩) n n], .int .i64 (k : Int), .int .i64 (pos : Int), cv] W (RAPost w0 n vb (.slice la l.length lc) W (addF f L s.size pos k cs (v, l)))) := IH0.out
  clear IH0
  obtain ⟨cb, ccap, ecv⟩ : ∃ cb ccap, cv = .slice (some ⟨cb, 0, none⟩) cs.length ccap := by
    obtain ⟨_, ⟨_, h9⟩ | ⟨cb, ccap, _, h9, _⟩⟩ := HC.out.row
    · have := HC.out.pos
      omega
    · exact ⟨cb, ccap, h9⟩
  subst ecv
  have HCN : Aside (l.length ≤ n) := by
    have := hm.cnt
    show _ ≤ _
    omega
  clear hn hQ hc E ih p5 hlx
  by_cases hv : v[k]! = true
  · have vk : W.cell? ⟨vb, k, none⟩ = some (.bool true) := cell_heap hm.vis k _ (by rw [encB_get (by omega), hv])
    have e1 := HLX.out
    rw [addF_seen hv] at e1
    subst e1
    clear hm p6 hv HLX
    go_enter Try.func54, Try.ntmps54
    go_wp2
    refine bodyPost_ret (v := .agg #[.slice la l.length lc, .slice (some ⟨vb, 0, none⟩) n n]) (by simp [results, Try.results54, go_sem, ↓IntWalk.iteOmega, *]) rfl ?_
    have hbl : Below W.heap.size W (((W.alloc (.cells #[.slice (some ⟨ib, io, none⟩) n cap, .int .i64 g] 24)).alloc (.cells #[.slice la l.length lc, .slice (some ⟨vb, 0, none⟩) n n] 98)).alloc (.cells #[.slice la l.length lc, .slice (some ⟨vb, 0, none⟩) n n] 98)) := by
      repeat (first | (with_reducible exact Below.refl _ _) | (with_reducible assumption) | (with_reducible refine below_to_plus ?_ ?_ _) | (with_reducible refine below_holds ?_ ?_ _ _) | (with_reducible refine Below.alloc ?_ ?_ _) | (with_reducible refine Below.drew ?_) | (with_reducible refine below_drewN ?_ _) | (with_reducible refine Below.setCell ?_ ?_ _))
      all_goals first | omega | (simp; done) | (simp [go_sem]; done) | (simp [go_sem]; omega)
    exact HQ.out _ la lc (HM.out.later hbl) (Kept.of_below hbl)
  have hv : v[k]! = false := by simpa using hv
  obtain ⟨mk1, mk2⟩ := hm.mark hk hv
  have hcn := count_set v k (by omega) hv
  have hvis := hm.vis
  have hc0 : (encB v)[k]? = some (.bool false) := by rw [encB_get (by omega), hv]
  rw [encB_set] at mk1 mk2
  generalize encB v = c0 at hvis hc0 mk1 mk2
  have MK1 : Aside (TS w0 n vb (v.set k true) (.slice la l.length lc) l (holds W vb (c0.setIfInBounds k (.bool true)) 4)) := mk1
  have MK2 : Aside (Kept vb vb (.slice la l.length lc) (.slice la l.length lc) W (holds W vb (c0.setIfInBounds k (.bool true)) 4)) := mk2
  have CV2 : Aside (Cap w0.heap.size vb (.slice (some ⟨cb, 0, none⟩) cs.length ccap) cs (holds W vb (c0.setIfInBounds k (.bool true)) 4)) := by
    obtain ⟨ms, r1, r2⟩ := hm.row
    exact HC.out.own r1 mk2
  have HV : Aside (v[k]! = false) := hv
  have LW : Aside (w0.heap.size ≤ W.heap.size ∧ w0.heap.size ≤ vb) := ⟨hm.hb.size, hm.hvb⟩
  obtain ⟨ib', io', hao, -, l0, l1, l2, l3, l4, l5⟩ := (HE.out.hp.c.later (hm.hb.mono (Nat.le_refl _))) k (by rw [HN.out]; exact hk)
  simp only [Option.some.injEq, Addr.mk.injEq] at hao
  obtain ⟨rfl, rfl, -⟩ := hao
  have nbv : ¬ ib = vb := by have := LW.out; omega
  have nvb : ¬ vb = ib := by omega
  have hibw : ib < W.heap.size := Nat.lt_of_lt_of_le hib LW.out.1
  have nib0 : ¬ ib = W.heap.size := by omega
  have nib1 : ¬ ib = W.heap.size + 1 := by omega
  have nib2 : ¬ ib = W.heap.size + 1 + 1 := by omega
  have nib3 : ¬ ib = W.heap.size + 1 + 1 + 1 := by omega
  have nvb0 : ¬ vb = W.heap.size := by omega
  have nvb1 : ¬ vb = W.heap.size + 1 := by omega
  have nvb2 : ¬ vb = W.heap.size + 1 + 1 := by omega
  have SND := p6 k (by rw [HN.out]; exact hk)
  have SN : Aside (soundF n g L[k]! = true) := by show _ = _; rw [← HN.out]; exact SND
  have NX : Aside (L[k]!.op ≠ 9 → L[k]!.op ≠ 7 → k + 1 < n) := fun h9 h7 => by rw [← HN.out]; exact right_next HE.out.hr (by rw [HN.out]; exact hk) h9 h7
  obtain ⟨x, hx⟩ : ∃ x, L[k]! = x := ⟨_, rfl⟩
  rw [hx] at l0 l1 l2 l3 l4 l5 SN NX
  have HX : Aside (L[k]! = x) := hx
  obtain ⟨y1, y2, y3, y4, y5, y6⟩ := x
  simp only [] at l0 l1 l2 l3 l4 l5
  have RBX : Aside (∀ b, W.heap.size ≤ b → (Value.slice la l.length lc).ownBlock ≠ some b) := fun b hb e => by have := (HM.out.blk e).2; omega
  rw [holds_self hvis]
  clear hm mk1 mk2 hv hx p6 hvis SND
  by_cases o7 : y1 = 7
  · subst o7
    obtain ⟨x, hx, hxn⟩ := sound_jump SN.out rfl
    simp only [] at hx
    subst hx
    have e1 := HLX.out
    rw [addF_7 HV.out HX.out rfl] at e1
    subst e1
    have W2B : Aside (Below (holds W vb (c0.setIfInBounds k (.bool true)) 4).heap.size (holds W vb (c0.setIfInBounds k (.bool true)) 4) (((((holds W vb (c0.setIfInBounds k (.bool true)) 4).alloc (.cells #[.slice (some ⟨ib, io, none⟩) n cap, .int .i64 g] 24)).alloc (.cells #[.slice la l.length lc, .slice (some ⟨vb, 0, none⟩) n n] 98)).alloc (.cells #[.slice none 0 0, .slice none 0 0] 98)).alloc (.cells #[.int .i64 7, .int .u8 y2, .string y3, .bool y4, .int .i64 (x : Int), .int .i64 y6] 34))) := by
      show Below _ _ _
      repeat (first | (with_reducible exact Below.refl _ _) | (with_reducible assumption) | (with_reducible refine below_to_plus ?_ ?_ _) | (with_reducible refine below_holds ?_ ?_ _ _) | (with_reducible refine Below.alloc ?_ ?_ _) | (with_reducible refine Below.drew ?_) | (with_reducible refine below_drewN ?_ _) | (with_reducible refine Below.setCell ?_ ?_ _))
      all_goals first | omega | (simp; done) | (simp [go_sem]; done) | (simp [go_sem]; omega)
    have hcx : (v.set k true).count false < f := by omega
    have hnp : IntKind.i64.wrap ((k : Int) + 1) = ((k + 1 : Nat) : Int) := by rw [IntKind.wrap_i64]; omega
    have X0 : Aside ((((((holds W vb (c0.setIfInBounds k (.bool true)) 4).alloc (.cells #[.slice (some ⟨ib, io, none⟩) n cap, .int .i64 g] 24)).alloc (.cells #[.slice la l.length lc, .slice (some ⟨vb, 0, none⟩) n n] 98)).alloc (.cells #[.slice none 0 0, .slice none 0 0] 98)).alloc (.cells #[.int .i64 7, .int .u8 y2, .string y3, .bool y4, .int .i64 (x : Int), .int .i64 y6] 34)).heap[W.heap.size]? = some (.cells #[.slice (some ⟨ib, io, none⟩) n cap, .int .i64 g] 24 (0, 0))) := hp_old (hp_old (hp_old (hp_new (by simp [size_holds]))))
    have X1 : Aside ((((((holds W vb (c0.setIfInBounds k (.bool true)) 4).alloc (.cells #[.slice (some ⟨ib, io, none⟩) n cap, .int .i64 g] 24)).alloc (.cells #[.slice la l.length lc, .slice (some ⟨vb, 0, none⟩) n n] 98)).alloc (.cells #[.slice none 0 0, .slice none 0 0] 98)).alloc (.cells #[.int .i64 7, .int .u8 y2, .string y3, .bool y4, .int .i64 (x : Int), .int .i64 y6] 34)).heap[(W.heap.size + 1)]? = some (.cells #[.slice la l.length lc, .slice (some ⟨vb, 0, none⟩) n n] 98 (0, 0))) := hp_old (hp_old (hp_new (by simp [size_holds])))
    have X2 : Aside ((((((holds W vb (c0.setIfInBounds k (.bool true)) 4).alloc (.cells #[.slice (some ⟨ib, io, none⟩) n cap, .int .i64 g] 24)).alloc (.cells #[.slice la l.length lc, .slice (some ⟨vb, 0, none⟩) n n] 98)).alloc (.cells #[.slice none 0 0, .slice none 0 0] 98)).alloc (.cells #[.int .i64 7, .int .u8 y2, .string y3, .bool y4, .int .i64 (x : Int), .int .i64 y6] 34)).heap[(W.heap.size + 1 + 1)]? = some (.cells #[.slice none 0 0, .slice none 0 0] 98 (0, 0))) := hp_old (hp_new (by simp [size_holds]))
    have X3 : Aside ((((((holds W vb (c0.setIfInBounds k (.bool true)) 4).alloc (.cells #[.slice (some ⟨ib, io, none⟩) n cap, .int .i64 g] 24)).alloc (.cells #[.slice la l.length lc, .slice (some ⟨vb, 0, none⟩) n n] 98)).alloc (.cells #[.slice none 0 0, .slice none 0 0] 98)).alloc (.cells #[.int .i64 7, .int .u8 y2, .string y3, .bool y4, .int .i64 (x : Int), .int .i64 y6] 34)).heap[(W.heap.size + 1 + 1 + 1)]? = some (.cells #[.int .i64 7, .int .u8 y2, .string y3, .bool y4, .int .i64 (x : Int), .int .i64 y6] 34 (0, 0))) := hp_new (by simp [size_holds])
    clear SN NX HV HX HLX
    go_enter Try.func54, Try.ntmps54
    go_wp2_with fail
    refine (IH.out pos vb (v.set k true) la lc l x cs _ _ (MK1.out.later W2B.out) (CV2.out.later W2B.out) (by first | assumption | omega) hcs hps hcx).mono ?_
    rintro e w9 ⟨la9, lc9, rfl, m9, k9⟩
    have M9 : Aside (TS w0 n vb _ _ _ w9) := m9
    have K9 : Aside (Kept vb vb (.slice la l.length lc) _ W w9) := MK2.out.trans ((Kept.of_below W2B.out).trans k9)
    have R9 : Aside (w9.heap[(W.heap.size + 1 + 1)]? = some (.cells #[.slice none 0 0, .slice none 0 0] 98 (0, 0))) := k9.hp X2.out (by omega) (by omega) (RBX.out _ (by omega))
    have lt9 : (W.heap.size + 1 + 1) < w9.heap.size := (Array.getElem?_eq_some_iff.1 R9.out).1
    clear m9 k9
    rw [holds_self R9.out]
    go_wp2
    refine bodyPost_ret (v := .agg #[.slice la9 (addF f L s.size pos x cs (v.set k true, l)).2.length lc9, .slice (some ⟨vb, 0, none⟩) n n]) (by simp [results, Try.results54, go_sem, ↓IntWalk.iteOmega, *]) rfl ?_
    exact HQ.out _ _ _ (M9.out.other R9.out (by have := LW.out; omega) (by decide) (by decide) (by decide)) (K9.out.other (by omega) _ _)
  by_cases o6 : y1 = 6
  · subst o6
    obtain ⟨⟨x, hx, hxn⟩, y, hy, hyn⟩ := sound_split SN.out rfl
    simp only [] at hx hy
    subst hx hy
    have e1 := HLX.out
    rw [addF_6 HV.out HX.out rfl] at e1
    subst e1
    have W2B : Aside (Below (holds W vb (c0.setIfInBounds k (.bool true)) 4).heap.size (holds W vb (c0.setIfInBounds k (.bool true)) 4) (((((holds W vb (c0.setIfInBounds k (.bool true)) 4).alloc (.cells #[.slice (some ⟨ib, io, none⟩) n cap, .int .i64 g] 24)).alloc (.cells #[.slice la l.length lc, .slice (some ⟨vb, 0, none⟩) n n] 98)).alloc (.cells #[.slice none 0 0, .slice none 0 0] 98)).alloc (.cells #[.int .i64 6, .int .u8 y2, .string y3, .bool y4, .int .i64 (x : Int), .int .i64 (y : Int)] 34))) := by
      show Below _ _ _
      repeat (first | (with_reducible exact Below.refl _ _) | (with_reducible assumption) | (with_reducible refine below_to_plus ?_ ?_ _) | (with_reducible refine below_holds ?_ ?_ _ _) | (with_reducible refine Below.alloc ?_ ?_ _) | (with_reducible refine Below.drew ?_) | (with_reducible refine below_drewN ?_ _) | (with_reducible refine Below.setCell ?_ ?_ _))
      all_goals first | omega | (simp; done) | (simp [go_sem]; done) | (simp [go_sem]; omega)
    have hcx : (v.set k true).count false < f := by omega
    have hnp : IntKind.i64.wrap ((k : Int) + 1) = ((k + 1 : Nat) : Int) := by rw [IntKind.wrap_i64]; omega
    have X0 : Aside ((((((holds W vb (c0.setIfInBounds k (.bool true)) 4).alloc (.cells #[.slice (some ⟨ib, io, none⟩) n cap, .int .i64 g] 24)).alloc (.cells #[.slice la l.length lc, .slice (some ⟨vb, 0, none⟩) n n] 98)).alloc (.cells #[.slice none 0 0, .slice none 0 0] 98)).alloc (.cells #[.int .i64 6, .int .u8 y2, .string y3, .bool y4, .int .i64 (x : Int), .int .i64 (y : Int)] 34)).heap[W.heap.size]? = some (.cells #[.slice (some ⟨ib, io, none⟩) n cap, .int .i64 g] 24 (0, 0))) := hp_old (hp_old (hp_old (hp_new (by simp [size_holds]))))
    have X1 : Aside ((((((holds W vb (c0.setIfInBounds k (.bool true)) 4).alloc (.cells #[.slice (some ⟨ib, io, none⟩) n cap, .int .i64 g] 24)).alloc (.cells #[.slice la l.length lc, .slice (some ⟨vb, 0, none⟩) n n] 98)).alloc (.cells #[.slice none 0 0, .slice none 0 0] 98)).alloc (.cells #[.int .i64 6, .int .u8 y2, .string y3, .bool y4, .int .i64 (x : Int), .int .i64 (y : Int)] 34)).heap[(W.heap.size + 1)]? = some (.cells #[.slice la l.length lc, .slice (some ⟨vb, 0, none⟩) n n] 98 (0, 0))) := hp_old (hp_old (hp_new (by simp [size_holds])))
    have X2 : Aside ((((((holds W vb (c0.setIfInBounds k (.bool true)) 4).alloc (.cells #[.slice (some ⟨ib, io, none⟩) n cap, .int .i64 g] 24)).alloc (.cells #[.slice la l.length lc, .slice (some ⟨vb, 0, none⟩) n n] 98)).alloc (.cells #[.slice none 0 0, .slice none 0 0] 98)).alloc (.cells #[.int .i64 6, .int .u8 y2, .string y3, .bool y4, .int .i64 (x : Int), .int .i64 (y : Int)] 34)).heap[(W.heap.size + 1 + 1)]? = some (.cells #[.slice none 0 0, .slice none 0 0] 98 (0, 0))) := hp_old (hp_new (by simp [size_holds]))
    have X3 : Aside ((((((holds W vb (c0.setIfInBounds k (.bool true)) 4).alloc (.cells #[.slice (some ⟨ib, io, none⟩) n cap, .int .i64 g] 24)).alloc (.cells #[.slice la l.length lc, .slice (some ⟨vb, 0, none⟩) n n] 98)).alloc (.cells #[.slice none 0 0, .slice none 0 0] 98)).alloc (.cells #[.int .i64 6, .int .u8 y2, .string y3, .bool y4, .int .i64 (x : Int), .int .i64 (y : Int)] 34)).heap[(W.heap.size + 1 + 1 + 1)]? = some (.cells #[.int .i64 6, .int .u8 y2, .string y3, .bool y4, .int .i64 (x : Int), .int .i64 (y : Int)] 34 (0, 0))) := hp_new (by simp [size_holds])
    have C9A : Aside (∀ (w9 : World) (a : Value), Kept vb vb (.slice la l.length lc) a (((((holds W vb (c0.setIfInBounds k (.bool true)) 4).alloc (.cells #[.slice (some ⟨ib, io, none⟩) n cap, .int .i64 g] 24)).alloc (.cells #[.slice la l.length lc, .slice (some ⟨vb, 0, none⟩) n n] 98)).alloc (.cells #[.slice none 0 0, .slice none 0 0] 98)).alloc (.cells #[.int .i64 6, .int .u8 y2, .string y3, .bool y4, .int .i64 (x : Int), .int .i64 (y : Int)] 34)) w9 → Cap w0.heap.size vb (.slice (some ⟨cb, 0, none⟩) cs.length ccap) cs w9) := fun w9 a k9 => by
      obtain ⟨ms, r1, _⟩ := (MK1.out.later W2B.out).row
      exact (CV2.out.later W2B.out).own r1 k9
    have hc2 := addF_count f L s.size pos x cs (v.set k true, l)
    have hcy : (addF f L s.size pos x cs (v.set k true, l)).1.count false < f := by simp only [] at hc2; omega
    obtain ⟨st, hst⟩ : ∃ st, addF f L s.size pos x cs (v.set k true, l) = st := ⟨_, rfl⟩
    have IH2 : Aside (∀ W, TS w0 n vb (v.set k true) (.slice la l.length lc) l W → Cap w0.heap.size vb (.slice (some ⟨cb, 0, none⟩) cs.length ccap) cs W → Calls Try.prog 54 #[.agg #[.slice (some ⟨ib, io, none⟩) n cap, .int .i64 g], .string s, .agg #[.slice la l.length lc, .slice (some ⟨vb, 0, none⟩) n n], .int .i64 (x : Int), .int .i64 (pos : Int), .slice (some ⟨cb, 0, none⟩) cs.length ccap] W (RAPost w0 n vb (.slice la l.length lc) W st)) := fun W a b => by
      rw [← hst]
      exact IH.out pos vb (v.set k true) la lc l x cs _ W a b (by assumption) hcs hps hcx
    rw [hst] at hcy
    simp only [Int.toNat_natCast, hst] at HQ
    have M1 : Aside (TS w0 n vb (v.set k true) (.slice la l.length lc) l (((((holds W vb (c0.setIfInBounds k (.bool true)) 4).alloc (.cells #[.slice (some ⟨ib, io, none⟩) n cap, .int .i64 g] 24)).alloc (.cells #[.slice la l.length lc, .slice (some ⟨vb, 0, none⟩) n n] 98)).alloc (.cells #[.slice none 0 0, .slice none 0 0] 98)).alloc (.cells #[.int .i64 6, .int .u8 y2, .string y3, .bool y4, .int .i64 (x : Int), .int .i64 (y : Int)] 34))) := MK1.out.later W2B.out
    have C1 : Aside (Cap w0.heap.size vb (.slice (some ⟨cb, 0, none⟩) cs.length ccap) cs (((((holds W vb (c0.setIfInBounds k (.bool true)) 4).alloc (.cells #[.slice (some ⟨ib, io, none⟩) n cap, .int .i64 g] 24)).alloc (.cells #[.slice la l.length lc, .slice (some ⟨vb, 0, none⟩) n n] 98)).alloc (.cells #[.slice none 0 0, .slice none 0 0] 98)).alloc (.cells #[.int .i64 6, .int .u8 y2, .string y3, .bool y4, .int .i64 (x : Int), .int .i64 (y : Int)] 34))) := CV2.out.later W2B.out
    have K1 : Aside (Kept vb vb (.slice la l.length lc) (.slice la l.length lc) W (((((holds W vb (c0.setIfInBounds k (.bool true)) 4).alloc (.cells #[.slice (some ⟨ib, io, none⟩) n cap, .int .i64 g] 24)).alloc (.cells #[.slice la l.length lc, .slice (some ⟨vb, 0, none⟩) n n] 98)).alloc (.cells #[.slice none 0 0, .slice none 0 0] 98)).alloc (.cells #[.int .i64 6, .int .u8 y2, .string y3, .bool y4, .int .i64 (x : Int), .int .i64 (y : Int)] 34))) := MK2.out.trans (Kept.of_below W2B.out)
    clear hst hc2 SN NX HV HX HLX
    go_enter Try.func54, Try.ntmps54
    go_wp2_with fail
    clear W2B MK1 MK2 CV2
    generalize (((((holds W vb (c0.setIfInBounds k (.bool true)) 4).alloc (.cells #[.slice (some ⟨ib, io, none⟩) n cap, .int .i64 g] 24)).alloc (.cells #[.slice la l.length lc, .slice (some ⟨vb, 0, none⟩) n n] 98)).alloc (.cells #[.slice none 0 0, .slice none 0 0] 98)).alloc (.cells #[.int .i64 6, .int .u8 y2, .string y3, .bool y4, .int .i64 (x : Int), .int .i64 (y : Int)] 34)) = V at M1 C1 K1 X0 X1 X2 X3 C9A ⊢
    have M1D : Aside (TS w0 n vb (v.set k true) (.slice la l.length lc) l V.drew) := M1.out.later (Below.drew (Below.refl _ _))
    have C1D : Aside (Cap w0.heap.size vb (.slice (some ⟨cb, 0, none⟩) cs.length ccap) cs V.drew) := C1.out.later (Below.drew (Below.refl _ _))
    have a00 := cell_heap X0.out 0 _ rfl
    have a01 := cell_heap X0.out 1 _ rfl
    have a10 := cell_heap X1.out 0 _ rfl
    have a11 := cell_heap X1.out 1 _ rfl
    have a34 := cell_heap X3.out 4 _ rfl
    have a35 := cell_heap X3.out 5 _ rfl
    clear l0 l1 l2 l3 l4 l5 hc0 hcn
    go_region_held3 (fun w' => w'.cell? ⟨W.heap.size, 0, none⟩ = some (.slice (some ⟨ib, io, none⟩) n cap) ∧ w'.cell? ⟨W.heap.size, 1, none⟩ = some (.int .i64 g) ∧ w'.cell? ⟨(W.heap.size + 1), 0, none⟩ = some (.slice la l.length lc) ∧ w'.cell? ⟨(W.heap.size + 1), 1, none⟩ = some (.slice (some ⟨vb, 0, none⟩) n n) ∧ w'.cell? ⟨(W.heap.size + 1 + 1 + 1), 4, none⟩ = some (.int .i64 (x : Int)) ∧ w'.cell? ⟨(W.heap.size + 1 + 1 + 1), 5, none⟩ = some (.int .i64 (y : Int))) (first | (simp [go_sem, ↓IntWalk.iteOmega, *]; done)) ((first | (go_at_call 54; refine (IH.out pos vb _ la9 lc9 _ y cs _ _ M9.out (C9A.out _ _ K9.out) (by assumption) hcs hps hcy).mono ?_; rintro e w10 ⟨la10, lc10, rfl, m10, k10⟩; have N9 : Aside (∀ b c T, w9.heap[b]? = some (.cells c T (0, 0)) → T ≠ 102 → (Value.slice la9 st.2.length lc9).ownBlock ≠ some b) := (fun b c T h hT => (by obtain ⟨ms, r1, _⟩ := M9.out.row; exact own_ne r1 h hT)); have T0 := k10.hp A0.out (by omega) (by omega) (N9.out _ _ _ A0.out (by decide)); have T1 := k10.hp A1.out (by omega) (by omega) (N9.out _ _ _ A1.out (by decide)); have T2 := k10.hp A2.out (by omega) (by omega) (N9.out _ _ _ A2.out (by decide)); have T3 := k10.hp A3.out (by omega) (by omega) (N9.out _ _ _ A3.out (by decide)); have d00b := cell_heap T0 0 _ rfl; have d01b := cell_heap T0 1 _ rfl; have d10b := cell_heap T1 0 _ rfl; have d11b := cell_heap T1 1 _ rfl; have d34b := cell_heap T3 4 _ rfl; have d35b := cell_heap T3 5 _ rfl; have R9 : Aside (w10.heap[(W.heap.size + 1 + 1)]? = some (.cells #[.slice none 0 0, .slice none 0 0] 98 (0, 0))) := T2; have lt9 : (W.heap.size + 1 + 1) < w10.heap.size := (Array.getElem?_eq_some_iff.1 T2).1; have M10 : Aside (TS w0 n vb _ _ _ w10) := m10; have K10 : Aside (Kept vb vb (.slice la l.length lc) _ W w10) := K1.out.trans (K9.out.trans k10); rw [holds_self T2]; clear m10 k10 T0 T1 T2 T3) | (go_at_call 54; refine (IH2.out _ M1D.out C1D.out).mono ?_; rintro e w9 ⟨la9, lc9, rfl, m9, k9⟩; have T0 := k9.hp (b := W.heap.size) (heap_later X0.out (Below.drew (Below.refl _ _))) (by omega) (by omega) (RBX.out _ (by omega)); have T1 := k9.hp (b := (W.heap.size + 1)) (heap_later X1.out (Below.drew (Below.refl _ _))) (by omega) (by omega) (RBX.out _ (by omega)); have T2 := k9.hp (b := (W.heap.size + 1 + 1)) (heap_later X2.out (Below.drew (Below.refl _ _))) (by omega) (by omega) (RBX.out _ (by omega)); have T3 := k9.hp (b := (W.heap.size + 1 + 1 + 1)) (heap_later X3.out (Below.drew (Below.refl _ _))) (by omega) (by omega) (RBX.out _ (by omega)); have d00 := cell_heap T0 0 _ rfl; have d01 := cell_heap T0 1 _ rfl; have d10 := cell_heap T1 0 _ rfl; have d11 := cell_heap T1 1 _ rfl; have d34 := cell_heap T3 4 _ rfl; have d35 := cell_heap T3 5 _ rfl; have M9 : Aside (TS w0 n vb st.1 (.slice la9 st.2.length lc9) st.2 w9) := m9; have K9 : Aside (Kept vb vb (.slice la l.length lc) (.slice la9 st.2.length lc9) V w9) := (Kept.of_below (Below.drew (Below.refl _ _))).trans k9; have A0 : Aside _ := T0; have A1 : Aside _ := T1; have A2 : Aside _ := T2; have A3 : Aside _ := T3; clear m9 k9 T0 T1 T2 T3)))
    all_goals go_wp2
    all_goals refine bodyPost_ret (v := .agg #[.slice la10 (addF f L s.size pos y cs st).2.length lc10, .slice (some ⟨vb, 0, none⟩) n n]) (by simp [results, Try.results54, go_sem, ↓IntWalk.iteOmega, *]) rfl ?_
    all_goals exact HQ.out _ _ _ (M10.out.other R9.out (by have := LW.out; omega) (by decide) (by decide) (by decide)) (K10.out.other (by omega) _ _)
  by_cases o8 : y1 = 8
  · subst o8
    obtain ⟨x, hx, hxg⟩ := sound_save SN.out rfl
    simp only [] at hx
    subst hx
    have e1 := HLX.out
    rw [addF_8 HV.out HX.out rfl] at e1
    subst e1
    have hkn : k + 1 < n := NX.out (by simp) (by simp)
    obtain ⟨m, hm⟩ : ∃ m, cs.length = m := ⟨_, rfl⟩
    have hxm : x < m := by omega
    have hm0 : 0 < m := by omega
    have W2B : Aside (Below (holds W vb (c0.setIfInBounds k (.bool true)) 4).heap.size (holds W vb (c0.setIfInBounds k (.bool true)) 4) (((((holds W vb (c0.setIfInBounds k (.bool true)) 4).alloc (.cells #[.slice (some ⟨ib, io, none⟩) n cap, .int .i64 g] 24)).alloc (.cells #[.slice la l.length lc, .slice (some ⟨vb, 0, none⟩) n n] 98)).alloc (.cells #[.slice none 0 0, .slice none 0 0] 98)).alloc (.cells #[.int .i64 8, .int .u8 y2, .string y3, .bool y4, .int .i64 (x : Int), .int .i64 y6] 34))) := by
      show Below _ _ _
      repeat (first | (with_reducible exact Below.refl _ _) | (with_reducible assumption) | (with_reducible refine below_to_plus ?_ ?_ _) | (with_reducible refine below_holds ?_ ?_ _ _) | (with_reducible refine Below.alloc ?_ ?_ _) | (with_reducible refine Below.drew ?_) | (with_reducible refine below_drewN ?_ _) | (with_reducible refine Below.setCell ?_ ?_ _))
      all_goals first | omega | (simp; done) | (simp [go_sem]; done) | (simp [go_sem]; omega)
    have hcx : (v.set k true).count false < f := by omega
    have hnp : IntKind.i64.wrap ((k : Int) + 1) = ((k + 1 : Nat) : Int) := by rw [IntKind.wrap_i64]; omega
    have X0 : Aside ((((((holds W vb (c0.setIfInBounds k (.bool true)) 4).alloc (.cells #[.slice (some ⟨ib, io, none⟩) n cap, .int .i64 g] 24)).alloc (.cells #[.slice la l.length lc, .slice (some ⟨vb, 0, none⟩) n n] 98)).alloc (.cells #[.slice none 0 0, .slice none 0 0] 98)).alloc (.cells #[.int .i64 8, .int .u8 y2, .string y3, .bool y4, .int .i64 (x : Int), .int .i64 y6] 34)).heap[W.heap.size]? = some (.cells #[.slice (some ⟨ib, io, none⟩) n cap, .int .i64 g] 24 (0, 0))) := hp_old (hp_old (hp_old (hp_new (by simp [size_holds]))))
    have X1 : Aside ((((((holds W vb (c0.setIfInBounds k (.bool true)) 4).alloc (.cells #[.slice (some ⟨ib, io, none⟩) n cap, .int .i64 g] 24)).alloc (.cells #[.slice la l.length lc, .slice (some ⟨vb, 0, none⟩) n n] 98)).alloc (.cells #[.slice none 0 0, .slice none 0 0] 98)).alloc (.cells #[.int .i64 8, .int .u8 y2, .string y3, .bool y4, .int .i64 (x : Int), .int .i64 y6] 34)).heap[(W.heap.size + 1)]? = some (.cells #[.slice la l.length lc, .slice (some ⟨vb, 0, none⟩) n n] 98 (0, 0))) := hp_old (hp_old (hp_new (by simp [size_holds])))
    have X2 : Aside ((((((holds W vb (c0.setIfInBounds k (.bool true)) 4).alloc (.cells #[.slice (some ⟨ib, io, none⟩) n cap, .int .i64 g] 24)).alloc (.cells #[.slice la l.length lc, .slice (some ⟨vb, 0, none⟩) n n] 98)).alloc (.cells #[.slice none 0 0, .slice none 0 0] 98)).alloc (.cells #[.int .i64 8, .int .u8 y2, .string y3, .bool y4, .int .i64 (x : Int), .int .i64 y6] 34)).heap[(W.heap.size + 1 + 1)]? = some (.cells #[.slice none 0 0, .slice none 0 0] 98 (0, 0))) := hp_old (hp_new (by simp [size_holds]))
    have X3 : Aside ((((((holds W vb (c0.setIfInBounds k (.bool true)) 4).alloc (.cells #[.slice (some ⟨ib, io, none⟩) n cap, .int .i64 g] 24)).alloc (.cells #[.slice la l.length lc, .slice (some ⟨vb, 0, none⟩) n n] 98)).alloc (.cells #[.slice none 0 0, .slice none 0 0] 98)).alloc (.cells #[.int .i64 8, .int .u8 y2, .string y3, .bool y4, .int .i64 (x : Int), .int .i64 y6] 34)).heap[(W.heap.size + 1 + 1 + 1)]? = some (.cells #[.int .i64 8, .int .u8 y2, .string y3, .bool y4, .int .i64 (x : Int), .int .i64 y6] 34 (0, 0))) := hp_new (by simp [size_holds])
    have CR := (CV2.out.later W2B.out).row
    have SLC : Aside (∀ j u, (cs.map (Value.int .i64))[j]? = some u → ((((((holds W vb (c0.setIfInBounds k (.bool true)) 4).alloc (.cells #[.slice (some ⟨ib, io, none⟩) n cap, .int .i64 g] 24)).alloc (.cells #[.slice la l.length lc, .slice (some ⟨vb, 0, none⟩) n n] 98)).alloc (.cells #[.slice none 0 0, .slice none 0 0] 98)).alloc (.cells #[.int .i64 8, .int .u8 y2, .string y3, .bool y4, .int .i64 (x : Int), .int .i64 y6] 34)).alloc (.cells #[] 3)).cell? ((⟨cb, 0, none⟩ : Addr).add j) = some u) := by
      obtain ⟨_, ⟨h9, _⟩ | ⟨cb', ccap', cur', h9, _, h6, h5, _, _, h10⟩⟩ := CR
      · cases h9
      · simp only [Value.slice.injEq, Option.some.injEq, Addr.mk.injEq] at h9
        obtain ⟨⟨rfl, -, -⟩, -, rfl⟩ := h9
        intro j u hu
        rw [Addr.add_lit]
        have hj : j < cs.length := by have := (List.getElem?_eq_some_iff.1 hu).1; simpa using this
        refine cell_heap (hp_old h6) _ _ ?_
        have h11 : (cur'.toList.take (cs.length * 1))[j]? = some u := by rw [h10]; exact hu
        rw [List.getElem?_take, if_pos (by omega)] at h11
        rw [Nat.zero_add, ← Array.getElem?_toList]
        exact h11
    have CON : Aside (∀ u ∈ cs.map (Value.int .i64), u.oneCell' = true) := by
      intro u hu
      rw [List.mem_map] at hu
      obtain ⟨q, -, rfl⟩ := hu
      rfl
    have HOWN : Aside (((((((holds W vb (c0.setIfInBounds k (.bool true)) 4).alloc (.cells #[.slice (some ⟨ib, io, none⟩) n cap, .int .i64 g] 24)).alloc (.cells #[.slice la l.length lc, .slice (some ⟨vb, 0, none⟩) n n] 98)).alloc (.cells #[.slice none 0 0, .slice none 0 0] 98)).alloc (.cells #[.int .i64 8, .int .u8 y2, .string y3, .bool y4, .int .i64 (x : Int), .int .i64 y6] 34)).alloc (.cells #[] 3)).ownsRow (W.heap.size + 1 + 1 + 1 + 1) 3 1 (.slice (some ⟨(W.heap.size + 1 + 1 + 1 + 1), 0, none⟩) 0 0) 0 []) := by
      refine ⟨rfl, .inr ⟨(W.heap.size + 1 + 1 + 1 + 1), 0, #[], rfl, Nat.le_refl _, ?_, Nat.le_refl _, by unfold maxLen; omega, rfl, rfl⟩⟩
      exact hp_new (by simp [size_holds])
    have CLN : Aside ((cs.map (Value.int .i64)).length = m * 1) := by show _ = _; rw [List.length_map, Nat.mul_one]; exact hm
    have HMM : Aside (cs.length = m) := hm
    have hmb : m ≤ 20 := by omega
    obtain ⟨i0, hi0, hz0, hs0, hb0⟩ := intInfo
    clear SN NX HV HX HLX CR hm
    rw [HMM.out]
    go_enter Try.func54, Try.ntmps54
    go_wp2_with (at_builtin; refine wpList_append_own _ rfl _ _ 30 rfl (W.heap.size + 1 + 1 + 1 + 1) 3 i0 _ 1 8 Try.underlying30 hi0 hz0 hs0 hb0 rfl (by omega) _ _ _ rfl HOWN.out ⟨cb, 0, none⟩ m ccap (cs.map (Value.int .i64)) rfl CLN.out SLC.out CON.out (by unfold maxLen; omega) (by omega) (by simp [size_holds]) ?_)
    intro v' w5 hown hgrow _
    have hown1 : w5.ownsRow (W.heap.size + 1 + 1 + 1 + 1) 3 1 v' m (cs.map (Value.int .i64)) := by simpa using hown
    have HB5 : Aside (Below (((((holds W vb (c0.setIfInBounds k (.bool true)) 4).alloc (.cells #[.slice (some ⟨ib, io, none⟩) n cap, .int .i64 g] 24)).alloc (.cells #[.slice la l.length lc, .slice (some ⟨vb, 0, none⟩) n n] 98)).alloc (.cells #[.slice none 0 0, .slice none 0 0] 98)).alloc (.cells #[.int .i64 8, .int .u8 y2, .string y3, .bool y4, .int .i64 (x : Int), .int .i64 y6] 34)).heap.size (((((holds W vb (c0.setIfInBounds k (.bool true)) 4).alloc (.cells #[.slice (some ⟨ib, io, none⟩) n cap, .int .i64 g] 24)).alloc (.cells #[.slice la l.length lc, .slice (some ⟨vb, 0, none⟩) n n] 98)).alloc (.cells #[.slice none 0 0, .slice none 0 0] 98)).alloc (.cells #[.int .i64 8, .int .u8 y2, .string y3, .bool y4, .int .i64 (x : Int), .int .i64 y6] 34)) w5) := ((Below.refl _ _).alloc (Nat.le_refl _) _).grown hgrow (by simp [size_holds]) (fun k hk => by simp [Value.ownBlock] at hk; simp [size_holds]; omega)
    obtain ⟨_, ⟨_, h0⟩ | ⟨rb, rcap, rcur, rfl, hrb, hrh, hrn, hrm, hrz, hrt⟩⟩ := hown1
    · omega
    have X0' := heap_later X0.out HB5.out
    have X1' := heap_later X1.out HB5.out
    have X3' := heap_later X3.out HB5.out
    have d00 := cell_heap X0' 0 _ rfl
    have d01 := cell_heap X0' 1 _ rfl
    have d10 := cell_heap X1' 0 _ rfl
    have d11 := cell_heap X1' 1 _ rfl
    have d34 := cell_heap X3' 4 _ rfl
    have lrb5 : rb < w5.heap.size := (Array.getElem?_eq_some_iff.1 hrh).1
    have n0 : ¬ W.heap.size = rb := by omega
    have n1 : ¬ (W.heap.size + 1) = rb := by omega
    have n3 : ¬ (W.heap.size + 1 + 1 + 1) = rb := by omega
    have hxr : rcur[x]? = some (.int .i64 (cs.getD x 0)) := by
      have h11 : (rcur.toList.take (m * 1))[x]? = some (.int .i64 (cs.getD x 0)) := by
        rw [hrt, List.getElem?_map, List.getElem?_eq_getElem (by rw [HMM.out]; exact hxm), List.getD_eq_getElem?_getD, List.getElem?_eq_getElem (by rw [HMM.out]; exact hxm)]; rfl
      rw [List.getElem?_take, if_pos (by omega)] at h11
      rw [← Array.getElem?_toList]
      exact h11
    have lvb5 : vb < (W.heap.size + 1 + 1 + 1 + 1) := by omega
    have NEWC : Aside (Cap w0.heap.size vb (.slice (some ⟨rb, 0, none⟩) m rcap) (cs.set x (pos : Int)) (holds w5 rb (rcur.setIfInBounds x (.int .i64 (pos : Int))) 3)) := by
      refine ⟨⟨by simp, .inr ⟨rb, rcap, rcur.setIfInBounds x (.int .i64 (pos : Int)), by rw [List.length_set, HMM.out], by have := LW.out; omega, hh_eq lrb5, by rw [List.length_set, HMM.out]; exact hrn, hrm, by rw [Array.size_setIfInBounds]; exact hrz, ?_⟩⟩, fun e => by simp [Value.ownBlock] at e; omega, by rw [List.length_set]; have := HMM.out; omega⟩
      rw [Array.toList_setIfInBounds, List.length_set, HMM.out, List.take_set, hrt, List.map_set]
    have BR : Aside (Below (((((holds W vb (c0.setIfInBounds k (.bool true)) 4).alloc (.cells #[.slice (some ⟨ib, io, none⟩) n cap, .int .i64 g] 24)).alloc (.cells #[.slice la l.length lc, .slice (some ⟨vb, 0, none⟩) n n] 98)).alloc (.cells #[.slice none 0 0, .slice none 0 0] 98)).alloc (.cells #[.int .i64 8, .int .u8 y2, .string y3, .bool y4, .int .i64 (x : Int), .int .i64 y6] 34)).heap.size (((((holds W vb (c0.setIfInBounds k (.bool true)) 4).alloc (.cells #[.slice (some ⟨ib, io, none⟩) n cap, .int .i64 g] 24)).alloc (.cells #[.slice la l.length lc, .slice (some ⟨vb, 0, none⟩) n n] 98)).alloc (.cells #[.slice none 0 0, .slice none 0 0] 98)).alloc (.cells #[.int .i64 8, .int .u8 y2, .string y3, .bool y4, .int .i64 (x : Int), .int .i64 y6] 34)) (holds w5 rb (rcur.setIfInBounds x (.int .i64 (pos : Int))) 3)) := below_holds HB5.out (by simp [size_holds]; omega) _ _
    rw [holds_self hrh]
    clear hrh hrt X0' X1' X3' hown hgrow SLC HOWN CON CLN
    go_wp2_with fail
    have hks : (k : Int) + 1 = ((k + 1 : Nat) : Int) := by omega
    try rw [hks]
    clear hks
    refine (IH.out pos vb (v.set k true) la lc l (k + 1) (cs.set x (pos : Int)) _ _ ((MK1.out.later W2B.out).later BR.out) NEWC.out (by omega) (by rw [List.length_set]; exact hcs) hps hcx).mono ?_
    rintro e w9 ⟨la9, lc9, rfl, m9, k9⟩
    have M9 : Aside (TS w0 n vb _ _ _ w9) := m9
    have K9 : Aside (Kept vb vb (.slice la l.length lc) _ W w9) := MK2.out.trans ((Kept.of_below W2B.out).trans ((Kept.of_below BR.out).trans k9))
    have R9 : Aside (w9.heap[(W.heap.size + 1 + 1)]? = some (.cells #[.slice none 0 0, .slice none 0 0] 98 (0, 0))) := k9.hp (heap_later X2.out BR.out) (by omega) (by omega) (RBX.out _ (by omega))
    have lt9 : (W.heap.size + 1 + 1) < w9.heap.size := (Array.getElem?_eq_some_iff.1 R9.out).1
    clear m9 k9
    rw [holds_self R9.out]
    go_wp2
    refine bodyPost_ret (v := .agg #[.slice la9 (addF f L s.size pos (k + 1) (cs.set x (pos : Int)) (v.set k true, l)).2.length lc9, .slice (some ⟨vb, 0, none⟩) n n]) (by simp [results, Try.results54, go_sem, ↓IntWalk.iteOmega, *]) rfl ?_
    exact HQ.out _ _ _ (M9.out.other R9.out (by have := LW.out; omega) (by decide) (by decide) (by decide)) (K9.out.other (by omega) _ _)
  by_cases o4 : y1 = 4
  · subst o4
    have W2B : Aside (Below (holds W vb (c0.setIfInBounds k (.bool true)) 4).heap.size (holds W vb (c0.setIfInBounds k (.bool true)) 4) (((((holds W vb (c0.setIfInBounds k (.bool true)) 4).alloc (.cells #[.slice (some ⟨ib, io, none⟩) n cap, .int .i64 g] 24)).alloc (.cells #[.slice la l.length lc, .slice (some ⟨vb, 0, none⟩) n n] 98)).alloc (.cells #[.slice none 0 0, .slice none 0 0] 98)).alloc (.cells #[.int .i64 4, .int .u8 y2, .string y3, .bool y4, .int .i64 y5, .int .i64 y6] 34))) := by
      show Below _ _ _
      repeat (first | (with_reducible exact Below.refl _ _) | (with_reducible assumption) | (with_reducible refine below_to_plus ?_ ?_ _) | (with_reducible refine below_holds ?_ ?_ _ _) | (with_reducible refine Below.alloc ?_ ?_ _) | (with_reducible refine Below.drew ?_) | (with_reducible refine below_drewN ?_ _) | (with_reducible refine Below.setCell ?_ ?_ _))
      all_goals first | omega | (simp; done) | (simp [go_sem]; done) | (simp [go_sem]; omega)
    have hcx : (v.set k true).count false < f := by omega
    have hnp : IntKind.i64.wrap ((k : Int) + 1) = ((k + 1 : Nat) : Int) := by rw [IntKind.wrap_i64]; omega
    have X0 : Aside ((((((holds W vb (c0.setIfInBounds k (.bool true)) 4).alloc (.cells #[.slice (some ⟨ib, io, none⟩) n cap, .int .i64 g] 24)).alloc (.cells #[.slice la l.length lc, .slice (some ⟨vb, 0, none⟩) n n] 98)).alloc (.cells #[.slice none 0 0, .slice none 0 0] 98)).alloc (.cells #[.int .i64 4, .int .u8 y2, .string y3, .bool y4, .int .i64 y5, .int .i64 y6] 34)).heap[W.heap.size]? = some (.cells #[.slice (some ⟨ib, io, none⟩) n cap, .int .i64 g] 24 (0, 0))) := hp_old (hp_old (hp_old (hp_new (by simp [size_holds]))))
    have X1 : Aside ((((((holds W vb (c0.setIfInBounds k (.bool true)) 4).alloc (.cells #[.slice (some ⟨ib, io, none⟩) n cap, .int .i64 g] 24)).alloc (.cells #[.slice la l.length lc, .slice (some ⟨vb, 0, none⟩) n n] 98)).alloc (.cells #[.slice none 0 0, .slice none 0 0] 98)).alloc (.cells #[.int .i64 4, .int .u8 y2, .string y3, .bool y4, .int .i64 y5, .int .i64 y6] 34)).heap[(W.heap.size + 1)]? = some (.cells #[.slice la l.length lc, .slice (some ⟨vb, 0, none⟩) n n] 98 (0, 0))) := hp_old (hp_old (hp_new (by simp [size_holds])))
    have X2 : Aside ((((((holds W vb (c0.setIfInBounds k (.bool true)) 4).alloc (.cells #[.slice (some ⟨ib, io, none⟩) n cap, .int .i64 g] 24)).alloc (.cells #[.slice la l.length lc, .slice (some ⟨vb, 0, none⟩) n n] 98)).alloc (.cells #[.slice none 0 0, .slice none 0 0] 98)).alloc (.cells #[.int .i64 4, .int .u8 y2, .string y3, .bool y4, .int .i64 y5, .int .i64 y6] 34)).heap[(W.heap.size + 1 + 1)]? = some (.cells #[.slice none 0 0, .slice none 0 0] 98 (0, 0))) := hp_old (hp_new (by simp [size_holds]))
    have X3 : Aside ((((((holds W vb (c0.setIfInBounds k (.bool true)) 4).alloc (.cells #[.slice (some ⟨ib, io, none⟩) n cap, .int .i64 g] 24)).alloc (.cells #[.slice la l.length lc, .slice (some ⟨vb, 0, none⟩) n n] 98)).alloc (.cells #[.slice none 0 0, .slice none 0 0] 98)).alloc (.cells #[.int .i64 4, .int .u8 y2, .string y3, .bool y4, .int .i64 y5, .int .i64 y6] 34)).heap[(W.heap.size + 1 + 1 + 1)]? = some (.cells #[.int .i64 4, .int .u8 y2, .string y3, .bool y4, .int .i64 y5, .int .i64 y6] 34 (0, 0))) := hp_new (by simp [size_holds])
    by_cases hz : pos = 0
    · have ez : ((pos : Int) == 0) = true := by rw [hz]; simp
      have hkn : k + 1 < n := NX.out (by simp) (by simp)
      have e1 := HLX.out
      rw [addF_4 HV.out HX.out rfl hz] at e1
      subst e1
      clear SN NX HV HX HLX hz
      go_enter Try.func54, Try.ntmps54
      go_wp2_with fail
      have hks : (k : Int) + 1 = ((k + 1 : Nat) : Int) := by omega
      try rw [hks]
      clear hks
      refine (IH.out pos vb (v.set k true) la lc l (k + 1) cs _ _ (MK1.out.later W2B.out) (CV2.out.later W2B.out) (by omega) hcs hps hcx).mono ?_
      rintro e w9 ⟨la9, lc9, rfl, m9, k9⟩
      have M9 : Aside (TS w0 n vb _ _ _ w9) := m9
      have K9 : Aside (Kept vb vb (.slice la l.length lc) _ W w9) := MK2.out.trans ((Kept.of_below W2B.out).trans k9)
      have R9 : Aside (w9.heap[(W.heap.size + 1 + 1)]? = some (.cells #[.slice none 0 0, .slice none 0 0] 98 (0, 0))) := k9.hp X2.out (by omega) (by omega) (RBX.out _ (by omega))
      have lt9 : (W.heap.size + 1 + 1) < w9.heap.size := (Array.getElem?_eq_some_iff.1 R9.out).1
      clear m9 k9
      rw [holds_self R9.out]
      go_wp2
      refine bodyPost_ret (v := .agg #[.slice la9 (addF f L s.size pos (k + 1) cs (v.set k true, l)).2.length lc9, .slice (some ⟨vb, 0, none⟩) n n]) (by simp [results, Try.results54, go_sem, ↓IntWalk.iteOmega, *]) rfl ?_
      exact HQ.out _ _ _ (M9.out.other R9.out (by have := LW.out; omega) (by decide) (by decide) (by decide)) (K9.out.other (by omega) _ _)
    · have ez : ((pos : Int) == 0) = false := by (rw [beq_eq_false_iff_ne]; omega)
      have e1 := HLX.out
      rw [addF_4n HV.out HX.out rfl hz] at e1
      subst e1
      clear SN NX HV HX HLX hz
      go_enter Try.func54, Try.ntmps54
      go_wp2
      refine bodyPost_ret (v := .agg #[.slice la l.length lc, .slice (some ⟨vb, 0, none⟩) n n]) (by simp [results, Try.results54, go_sem, ↓IntWalk.iteOmega, *]) rfl ?_
      have hbz : Below (holds W vb (c0.setIfInBounds k (.bool true)) 4).heap.size (holds W vb (c0.setIfInBounds k (.bool true)) 4) (((((holds W vb (c0.setIfInBounds k (.bool true)) 4).alloc (.cells #[.slice (some ⟨ib, io, none⟩) n cap, .int .i64 g] 24)).alloc (.cells #[.slice la l.length lc, .slice (some ⟨vb, 0, none⟩) n n] 98)).alloc (.cells #[.slice la l.length lc, .slice (some ⟨vb, 0, none⟩) n n] 98)).alloc (.cells #[.int .i64 4, .int .u8 y2, .string y3, .bool y4, .int .i64 y5, .int .i64 y6] 34)) := by
        repeat (first | (with_reducible exact Below.refl _ _) | (with_reducible assumption) | (with_reducible refine below_to_plus ?_ ?_ _) | (with_reducible refine below_holds ?_ ?_ _ _) | (with_reducible refine Below.alloc ?_ ?_ _) | (with_reducible refine Below.drew ?_) | (with_reducible refine below_drewN ?_ _) | (with_reducible refine Below.setCell ?_ ?_ _))
        all_goals first | omega | (simp; done) | (simp [go_sem]; done) | (simp [go_sem]; omega)
      exact HQ.out _ _ _ (MK1.out.later hbz) (MK2.out.trans (Kept.of_below hbz))
  by_cases o5 : y1 = 5
  · subst o5
    have W2B : Aside (Below (holds W vb (c0.setIfInBounds k (.bool true)) 4).heap.size (holds W vb (c0.setIfInBounds k (.bool true)) 4) (((((holds W vb (c0.setIfInBounds k (.bool true)) 4).alloc (.cells #[.slice (some ⟨ib, io, none⟩) n cap, .int .i64 g] 24)).alloc (.cells #[.slice la l.length lc, .slice (some ⟨vb, 0, none⟩) n n] 98)).alloc (.cells #[.slice none 0 0, .slice none 0 0] 98)).alloc (.cells #[.int .i64 5, .int .u8 y2, .string y3, .bool y4, .int .i64 y5, .int .i64 y6] 34))) := by
      show Below _ _ _
      repeat (first | (with_reducible exact Below.refl _ _) | (with_reducible assumption) | (with_reducible refine below_to_plus ?_ ?_ _) | (with_reducible refine below_holds ?_ ?_ _ _) | (with_reducible refine Below.alloc ?_ ?_ _) | (with_reducible refine Below.drew ?_) | (with_reducible refine below_drewN ?_ _) | (with_reducible refine Below.setCell ?_ ?_ _))
      all_goals first | omega | (simp; done) | (simp [go_sem]; done) | (simp [go_sem]; omega)
    have hcx : (v.set k true).count false < f := by omega
    have hnp : IntKind.i64.wrap ((k : Int) + 1) = ((k + 1 : Nat) : Int) := by rw [IntKind.wrap_i64]; omega
    have X0 : Aside ((((((holds W vb (c0.setIfInBounds k (.bool true)) 4).alloc (.cells #[.slice (some ⟨ib, io, none⟩) n cap, .int .i64 g] 24)).alloc (.cells #[.slice la l.length lc, .slice (some ⟨vb, 0, none⟩) n n] 98)).alloc (.cells #[.slice none 0 0, .slice none 0 0] 98)).alloc (.cells #[.int .i64 5, .int .u8 y2, .string y3, .bool y4, .int .i64 y5, .int .i64 y6] 34)).heap[W.heap.size]? = some (.cells #[.slice (some ⟨ib, io, none⟩) n cap, .int .i64 g] 24 (0, 0))) := hp_old (hp_old (hp_old (hp_new (by simp [size_holds]))))
    have X1 : Aside ((((((holds W vb (c0.setIfInBounds k (.bool true)) 4).alloc (.cells #[.slice (some ⟨ib, io, none⟩) n cap, .int .i64 g] 24)).alloc (.cells #[.slice la l.length lc, .slice (some ⟨vb, 0, none⟩) n n] 98)).alloc (.cells #[.slice none 0 0, .slice none 0 0] 98)).alloc (.cells #[.int .i64 5, .int .u8 y2, .string y3, .bool y4, .int .i64 y5, .int .i64 y6] 34)).heap[(W.heap.size + 1)]? = some (.cells #[.slice la l.length lc, .slice (some ⟨vb, 0, none⟩) n n] 98 (0, 0))) := hp_old (hp_old (hp_new (by simp [size_holds])))
    have X2 : Aside ((((((holds W vb (c0.setIfInBounds k (.bool true)) 4).alloc (.cells #[.slice (some ⟨ib, io, none⟩) n cap, .int .i64 g] 24)).alloc (.cells #[.slice la l.length lc, .slice (some ⟨vb, 0, none⟩) n n] 98)).alloc (.cells #[.slice none 0 0, .slice none 0 0] 98)).alloc (.cells #[.int .i64 5, .int .u8 y2, .string y3, .bool y4, .int .i64 y5, .int .i64 y6] 34)).heap[(W.heap.size + 1 + 1)]? = some (.cells #[.slice none 0 0, .slice none 0 0] 98 (0, 0))) := hp_old (hp_new (by simp [size_holds]))
    have X3 : Aside ((((((holds W vb (c0.setIfInBounds k (.bool true)) 4).alloc (.cells #[.slice (some ⟨ib, io, none⟩) n cap, .int .i64 g] 24)).alloc (.cells #[.slice la l.length lc, .slice (some ⟨vb, 0, none⟩) n n] 98)).alloc (.cells #[.slice none 0 0, .slice none 0 0] 98)).alloc (.cells #[.int .i64 5, .int .u8 y2, .string y3, .bool y4, .int .i64 y5, .int .i64 y6] 34)).heap[(W.heap.size + 1 + 1 + 1)]? = some (.cells #[.int .i64 5, .int .u8 y2, .string y3, .bool y4, .int .i64 y5, .int .i64 y6] 34 (0, 0))) := hp_new (by simp [size_holds])
    by_cases hz : pos = s.size
    · have ez : ((pos : Int) == (s.size : Int)) = true := by rw [hz]; simp
      have hkn : k + 1 < n := NX.out (by simp) (by simp)
      have e1 := HLX.out
      rw [addF_5 HV.out HX.out rfl hz] at e1
      subst e1
      clear SN NX HV HX HLX hz
      go_enter Try.func54, Try.ntmps54
      go_wp2_with fail
      have hks : (k : Int) + 1 = ((k + 1 : Nat) : Int) := by omega
      try rw [hks]
      clear hks
      refine (IH.out pos vb (v.set k true) la lc l (k + 1) cs _ _ (MK1.out.later W2B.out) (CV2.out.later W2B.out) (by omega) hcs hps hcx).mono ?_
      rintro e w9 ⟨la9, lc9, rfl, m9, k9⟩
      have M9 : Aside (TS w0 n vb _ _ _ w9) := m9
      have K9 : Aside (Kept vb vb (.slice la l.length lc) _ W w9) := MK2.out.trans ((Kept.of_below W2B.out).trans k9)
      have R9 : Aside (w9.heap[(W.heap.size + 1 + 1)]? = some (.cells #[.slice none 0 0, .slice none 0 0] 98 (0, 0))) := k9.hp X2.out (by omega) (by omega) (RBX.out _ (by omega))
      have lt9 : (W.heap.size + 1 + 1) < w9.heap.size := (Array.getElem?_eq_some_iff.1 R9.out).1
      clear m9 k9
      rw [holds_self R9.out]
      go_wp2
      refine bodyPost_ret (v := .agg #[.slice la9 (addF f L s.size pos (k + 1) cs (v.set k true, l)).2.length lc9, .slice (some ⟨vb, 0, none⟩) n n]) (by simp [results, Try.results54, go_sem, ↓IntWalk.iteOmega, *]) rfl ?_
      exact HQ.out _ _ _ (M9.out.other R9.out (by have := LW.out; omega) (by decide) (by decide) (by decide)) (K9.out.other (by omega) _ _)
    · have ez : ((pos : Int) == (s.size : Int)) = false := by (rw [beq_eq_false_iff_ne]; omega)
      have e1 := HLX.out
      rw [addF_5n HV.out HX.out rfl hz] at e1
      subst e1
      clear SN NX HV HX HLX hz
      go_enter Try.func54, Try.ntmps54
      go_wp2
      refine bodyPost_ret (v := .agg #[.slice la l.length lc, .slice (some ⟨vb, 0, none⟩) n n]) (by simp [results, Try.results54, go_sem, ↓IntWalk.iteOmega, *]) rfl ?_
      have hbz : Below (holds W vb (c0.setIfInBounds k (.bool true)) 4).heap.size (holds W vb (c0.setIfInBounds k (.bool true)) 4) (((((holds W vb (c0.setIfInBounds k (.bool true)) 4).alloc (.cells #[.slice (some ⟨ib, io, none⟩) n cap, .int .i64 g] 24)).alloc (.cells #[.slice la l.length lc, .slice (some ⟨vb, 0, none⟩) n n] 98)).alloc (.cells #[.slice la l.length lc, .slice (some ⟨vb, 0, none⟩) n n] 98)).alloc (.cells #[.int .i64 5, .int .u8 y2, .string y3, .bool y4, .int .i64 y5, .int .i64 y6] 34)) := by
        repeat (first | (with_reducible exact Below.refl _ _) | (with_reducible assumption) | (with_reducible refine below_to_plus ?_ ?_ _) | (with_reducible refine below_holds ?_ ?_ _ _) | (with_reducible refine Below.alloc ?_ ?_ _) | (with_reducible refine Below.drew ?_) | (with_reducible refine below_drewN ?_ _) | (with_reducible refine Below.setCell ?_ ?_ _))
        all_goals first | omega | (simp; done) | (simp [go_sem]; done) | (simp [go_sem]; omega)
      exact HQ.out _ _ _ (MK1.out.later hbz) (MK2.out.trans (Kept.of_below hbz))
  have e7 : (y1 == 7) = false := by simpa using o7
  have f7 : decide (y1 = 7) = false := decide_eq_false o7
  have e6 : (y1 == 6) = false := by simpa using o6
  have f6 : decide (y1 = 6) = false := decide_eq_false o6
  have e8 : (y1 == 8) = false := by simpa using o8
  have f8 : decide (y1 = 8) = false := decide_eq_false o8
  have e4 : (y1 == 4) = false := by simpa using o4
  have f4 : decide (y1 = 4) = false := decide_eq_false o4
  have e5 : (y1 == 5) = false := by simpa using o5
  have f5 : decide (y1 = 5) = false := decide_eq_false o5
  have e1 := HLX.out
  rw [addF_o HV.out HX.out o7 o6 o8 o4 o5] at e1
  subst e1
  have W2B : Aside (Below (holds W vb (c0.setIfInBounds k (.bool true)) 4).heap.size (holds W vb (c0.setIfInBounds k (.bool true)) 4) (((((holds W vb (c0.setIfInBounds k (.bool true)) 4).alloc (.cells #[.slice (some ⟨ib, io, none⟩) n cap, .int .i64 g] 24)).alloc (.cells #[.slice la l.length lc, .slice (some ⟨vb, 0, none⟩) n n] 98)).alloc (.cells #[.slice none 0 0, .slice none 0 0] 98)).alloc (.cells #[.int .i64 y1, .int .u8 y2, .string y3, .bool y4, .int .i64 y5, .int .i64 y6] 34))) := by
    show Below _ _ _
    repeat (first | (with_reducible exact Below.refl _ _) | (with_reducible assumption) | (with_reducible refine below_to_plus ?_ ?_ _) | (with_reducible refine below_holds ?_ ?_ _ _) | (with_reducible refine Below.alloc ?_ ?_ _) | (with_reducible refine Below.drew ?_) | (with_reducible refine below_drewN ?_ _) | (with_reducible refine Below.setCell ?_ ?_ _))
    all_goals first | omega | (simp; done) | (simp [go_sem]; done) | (simp [go_sem]; omega)
  have hcx : (v.set k true).count false < f := by omega
  have hnp : IntKind.i64.wrap ((k : Int) + 1) = ((k + 1 : Nat) : Int) := by rw [IntKind.wrap_i64]; omega
  have X0 : Aside ((((((holds W vb (c0.setIfInBounds k (.bool true)) 4).alloc (.cells #[.slice (some ⟨ib, io, none⟩) n cap, .int .i64 g] 24)).alloc (.cells #[.slice la l.length lc, .slice (some ⟨vb, 0, none⟩) n n] 98)).alloc (.cells #[.slice none 0 0, .slice none 0 0] 98)).alloc (.cells #[.int .i64 y1, .int .u8 y2, .string y3, .bool y4, .int .i64 y5, .int .i64 y6] 34)).heap[W.heap.size]? = some (.cells #[.slice (some ⟨ib, io, none⟩) n cap, .int .i64 g] 24 (0, 0))) := hp_old (hp_old (hp_old (hp_new (by simp [size_holds]))))
  have X1 : Aside ((((((holds W vb (c0.setIfInBounds k (.bool true)) 4).alloc (.cells #[.slice (some ⟨ib, io, none⟩) n cap, .int .i64 g] 24)).alloc (.cells #[.slice la l.length lc, .slice (some ⟨vb, 0, none⟩) n n] 98)).alloc (.cells #[.slice none 0 0, .slice none 0 0] 98)).alloc (.cells #[.int .i64 y1, .int .u8 y2, .string y3, .bool y4, .int .i64 y5, .int .i64 y6] 34)).heap[(W.heap.size + 1)]? = some (.cells #[.slice la l.length lc, .slice (some ⟨vb, 0, none⟩) n n] 98 (0, 0))) := hp_old (hp_old (hp_new (by simp [size_holds])))
  have X2 : Aside ((((((holds W vb (c0.setIfInBounds k (.bool true)) 4).alloc (.cells #[.slice (some ⟨ib, io, none⟩) n cap, .int .i64 g] 24)).alloc (.cells #[.slice la l.length lc, .slice (some ⟨vb, 0, none⟩) n n] 98)).alloc (.cells #[.slice none 0 0, .slice none 0 0] 98)).alloc (.cells #[.int .i64 y1, .int .u8 y2, .string y3, .bool y4, .int .i64 y5, .int .i64 y6] 34)).heap[(W.heap.size + 1 + 1)]? = some (.cells #[.slice none 0 0, .slice none 0 0] 98 (0, 0))) := hp_old (hp_new (by simp [size_holds]))
  have X3 : Aside ((((((holds W vb (c0.setIfInBounds k (.bool true)) 4).alloc (.cells #[.slice (some ⟨ib, io, none⟩) n cap, .int .i64 g] 24)).alloc (.cells #[.slice la l.length lc, .slice (some ⟨vb, 0, none⟩) n n] 98)).alloc (.cells #[.slice none 0 0, .slice none 0 0] 98)).alloc (.cells #[.int .i64 y1, .int .u8 y2, .string y3, .bool y4, .int .i64 y5, .int .i64 y6] 34)).heap[(W.heap.size + 1 + 1 + 1)]? = some (.cells #[.int .i64 y1, .int .u8 y2, .string y3, .bool y4, .int .i64 y5, .int .i64 y6] 34 (0, 0))) := hp_new (by simp [size_holds])
  have HQ2 : Aside (∀ W' la' lc', TS w0 n vb (v.set k true) (.slice la' (l.length + 1) lc') (l ++ [(k, cs)]) W' → Kept vb vb (.slice la l.length lc) (.slice la' (l.length + 1) lc') W W' → Q (.returned (.agg #[.slice la' (l.length + 1) lc', .slice (some ⟨vb, 0, none⟩) n n])) W') := by
    have h := HQ.out
    simp only [List.length_append, List.length_cons, List.length_nil, Nat.zero_add] at h
    exact h
  clear HQ
  obtain ⟨i0, hi0, hz0, hs0, hb0⟩ := rthInfo
  have W3B : Aside (Below (((((holds W vb (c0.setIfInBounds k (.bool true)) 4).alloc (.cells #[.slice (some ⟨ib, io, none⟩) n cap, .int .i64 g] 24)).alloc (.cells #[.slice la l.length lc, .slice (some ⟨vb, 0, none⟩) n n] 98)).alloc (.cells #[.slice none 0 0, .slice none 0 0] 98)).alloc (.cells #[.int .i64 y1, .int .u8 y2, .string y3, .bool y4, .int .i64 y5, .int .i64 y6] 34)).heap.size (((((holds W vb (c0.setIfInBounds k (.bool true)) 4).alloc (.cells #[.slice (some ⟨ib, io, none⟩) n cap, .int .i64 g] 24)).alloc (.cells #[.slice la l.length lc, .slice (some ⟨vb, 0, none⟩) n n] 98)).alloc (.cells #[.slice none 0 0, .slice none 0 0] 98)).alloc (.cells #[.int .i64 y1, .int .u8 y2, .string y3, .bool y4, .int .i64 y5, .int .i64 y6] 34)) ((((((holds W vb (c0.setIfInBounds k (.bool true)) 4).alloc (.cells #[.slice (some ⟨ib, io, none⟩) n cap, .int .i64 g] 24)).alloc (.cells #[.slice la l.length lc, .slice (some ⟨vb, 0, none⟩) n n] 98)).alloc (.cells #[.slice none 0 0, .slice none 0 0] 98)).alloc (.cells #[.int .i64 y1, .int .u8 y2, .string y3, .bool y4, .int .i64 y5, .int .i64 y6] 34)).alloc (.cells #[.int .i64 (k : Int), (.slice (some ⟨cb, 0, none⟩) cs.length ccap)] 102))) := Below.alloc (Below.refl _ _) (Nat.le_refl _) _
  have MS3 := (MK1.out.later W2B.out).later W3B.out
  have CV3A : Aside (Cap w0.heap.size vb (.slice (some ⟨cb, 0, none⟩) cs.length ccap) cs ((((((holds W vb (c0.setIfInBounds k (.bool true)) 4).alloc (.cells #[.slice (some ⟨ib, io, none⟩) n cap, .int .i64 g] 24)).alloc (.cells #[.slice la l.length lc, .slice (some ⟨vb, 0, none⟩) n n] 98)).alloc (.cells #[.slice none 0 0, .slice none 0 0] 98)).alloc (.cells #[.int .i64 y1, .int .u8 y2, .string y3, .bool y4, .int .i64 y5, .int .i64 y6] 34)).alloc (.cells #[.int .i64 (k : Int), (.slice (some ⟨cb, 0, none⟩) cs.length ccap)] 102))) := (CV2.out.later W2B.out).later W3B.out
  obtain ⟨ms, r1, r2⟩ := MS3.row
  have eml : ms.length = l.length := All2.len r2
  have R1 : Aside (((((((holds W vb (c0.setIfInBounds k (.bool true)) 4).alloc (.cells #[.slice (some ⟨ib, io, none⟩) n cap, .int .i64 g] 24)).alloc (.cells #[.slice la l.length lc, .slice (some ⟨vb, 0, none⟩) n n] 98)).alloc (.cells #[.slice none 0 0, .slice none 0 0] 98)).alloc (.cells #[.int .i64 y1, .int .u8 y2, .string y3, .bool y4, .int .i64 y5, .int .i64 y6] 34)).alloc (.cells #[.int .i64 (k : Int), (.slice (some ⟨cb, 0, none⟩) cs.length ccap)] 102)).ownsRow w0.heap.size 102 2 (.slice la l.length lc) ms.length (flatE ThM.enc ms)) := r1
  have R1b : Aside (((((((holds W vb (c0.setIfInBounds k (.bool true)) 4).alloc (.cells #[.slice (some ⟨ib, io, none⟩) n cap, .int .i64 g] 24)).alloc (.cells #[.slice la l.length lc, .slice (some ⟨vb, 0, none⟩) n n] 98)).alloc (.cells #[.slice none 0 0, .slice none 0 0] 98)).alloc (.cells #[.int .i64 y1, .int .u8 y2, .string y3, .bool y4, .int .i64 y5, .int .i64 y6] 34)).alloc (.cells #[.int .i64 (k : Int), (.slice (some ⟨cb, 0, none⟩) cs.length ccap)] 102)).ownsRow w0.heap.size 102 2 (.slice la l.length lc) l.length (flatE ThM.enc ms)) := by
    have h := r1
    rw [eml] at h
    exact h
  have R2 : Aside (All2 (fun m t => m.k = t.1 ∧ Cap w0.heap.size vb m.v t.2 ((((((holds W vb (c0.setIfInBounds k (.bool true)) 4).alloc (.cells #[.slice (some ⟨ib, io, none⟩) n cap, .int .i64 g] 24)).alloc (.cells #[.slice la l.length lc, .slice (some ⟨vb, 0, none⟩) n n] 98)).alloc (.cells #[.slice none 0 0, .slice none 0 0] 98)).alloc (.cells #[.int .i64 y1, .int .u8 y2, .string y3, .bool y4, .int .i64 y5, .int .i64 y6] 34)).alloc (.cells #[.int .i64 (k : Int), (.slice (some ⟨cb, 0, none⟩) cs.length ccap)] 102))) ms l) := r2
  have MS3A : Aside (TS w0 n vb (v.set k true) (.slice la l.length lc) l ((((((holds W vb (c0.setIfInBounds k (.bool true)) 4).alloc (.cells #[.slice (some ⟨ib, io, none⟩) n cap, .int .i64 g] 24)).alloc (.cells #[.slice la l.length lc, .slice (some ⟨vb, 0, none⟩) n n] 98)).alloc (.cells #[.slice none 0 0, .slice none 0 0] 98)).alloc (.cells #[.int .i64 y1, .int .u8 y2, .string y3, .bool y4, .int .i64 y5, .int .i64 y6] 34)).alloc (.cells #[.int .i64 (k : Int), (.slice (some ⟨cb, 0, none⟩) cs.length ccap)] 102))) := MS3
  have CNT : Aside (l.length + 1 + (v.set k true).count false ≤ (v.set k true).length) := by
    have := HM.out.cnt
    have hh := hcn
    show _ ≤ _
    rw [List.length_set]
    omega
  have hml : l.length ≤ 1024 := by
    have := HCN.out
    omega
  have EML : Aside (ms.length = l.length) := eml
  have H1 : Aside (((((((holds W vb (c0.setIfInBounds k (.bool true)) 4).alloc (.cells #[.slice (some ⟨ib, io, none⟩) n cap, .int .i64 g] 24)).alloc (.cells #[.slice la l.length lc, .slice (some ⟨vb, 0, none⟩) n n] 98)).alloc (.cells #[.slice none 0 0, .slice none 0 0] 98)).alloc (.cells #[.int .i64 y1, .int .u8 y2, .string y3, .bool y4, .int .i64 y5, .int .i64 y6] 34)).alloc (.cells #[.int .i64 (k : Int), (.slice (some ⟨cb, 0, none⟩) cs.length ccap)] 102)).heap[(W.heap.size + 1)]? = some (.cells #[.slice la l.length lc, .slice (some ⟨vb, 0, none⟩) n n] 98 (0, 0))) := hp_old X1.out
  have H2 : Aside (((((((holds W vb (c0.setIfInBounds k (.bool true)) 4).alloc (.cells #[.slice (some ⟨ib, io, none⟩) n cap, .int .i64 g] 24)).alloc (.cells #[.slice la l.length lc, .slice (some ⟨vb, 0, none⟩) n n] 98)).alloc (.cells #[.slice none 0 0, .slice none 0 0] 98)).alloc (.cells #[.int .i64 y1, .int .u8 y2, .string y3, .bool y4, .int .i64 y5, .int .i64 y6] 34)).alloc (.cells #[.int .i64 (k : Int), (.slice (some ⟨cb, 0, none⟩) cs.length ccap)] 102)).heap[(W.heap.size + 1 + 1)]? = some (.cells #[.slice none 0 0, .slice none 0 0] 98 (0, 0))) := hp_old X2.out
  have SW3 : Aside (((((((holds W vb (c0.setIfInBounds k (.bool true)) 4).alloc (.cells #[.slice (some ⟨ib, io, none⟩) n cap, .int .i64 g] 24)).alloc (.cells #[.slice la l.length lc, .slice (some ⟨vb, 0, none⟩) n n] 98)).alloc (.cells #[.slice none 0 0, .slice none 0 0] 98)).alloc (.cells #[.int .i64 y1, .int .u8 y2, .string y3, .bool y4, .int .i64 y5, .int .i64 y6] 34)).alloc (.cells #[.int .i64 (k : Int), (.slice (some ⟨cb, 0, none⟩) cs.length ccap)] 102)).heap.size = W.heap.size + 1 + 1 + 1 + 1 + 1) := by show _ = _; simp [size_holds]
  have LWA := LW.out
  clear SN NX HV HX HLX o7 o6 o8 o4 o5 MS3 r1 r2 eml
  go_enter Try.func54, Try.ntmps54
  go_wp2_with (at_builtin; refine wpList_append_lies _ rfl _ _ 95 rfl w0.heap.size 102 i0 _ 2 32 Try.underlying95 hi0 hz0 hs0 hb0 rfl (by omega) (.slice la l.length lc) l.length (flatE ThM.enc ms) rfl R1b.out ⟨(W.heap.size + 1 + 1 + 1 + 1), 0, none⟩ 1 1 [.int .i64 (k : Int), (.slice (some ⟨cb, 0, none⟩) cs.length ccap)] rfl rfl (cells_new _ _ _ _ (by simp [size_holds])) (by intro u hu; simp only [List.mem_cons, List.not_mem_nil, or_false] at hu; rcases hu with rfl | rfl; rfl; rfl) (by omega) (by unfold maxLen; omega) (by omega) (by simp [size_holds]; omega) _ rfl ?_; intro gg cap2 w9 hown hgrow hat hlt; have hg1 : w9.heap[(W.heap.size + 1)]? = some (.cells #[.slice la l.length lc, .slice (some ⟨vb, 0, none⟩) n n] 98 (0, 0)) := (hgrow.block (W.heap.size + 1) (by have := SW3.out; omega) (fun e => RBX.out (W.heap.size + 1) (by omega) e.symm)).trans H1.out; have hg2 : w9.heap[(W.heap.size + 1 + 1)]? = some (.cells #[.slice none 0 0, .slice none 0 0] 98 (0, 0)) := (hgrow.block (W.heap.size + 1 + 1) (by have := SW3.out; omega) (fun e => RBX.out (W.heap.size + 1 + 1) (by omega) e.symm)).trans H2.out; have HG1 : Aside _ := hg1; have HG2 : Aside _ := hg2; have HGR : Aside _ := hgrow; have HOW : Aside _ := hown; have HAT : Aside _ := hat; have ltw1 : (W.heap.size + 1) < w9.heap.size := (Array.getElem?_eq_some_iff.1 hg1).1; have ltw2 : (W.heap.size + 1 + 1) < w9.heap.size := (Array.getElem?_eq_some_iff.1 hg2).1; rw [holds_add (holds_self hg1) hg2]; clear hg1 hg2 hgrow hown hat)
  have PP := MS3A.out.push (k := k) (cv := .slice (some ⟨cb, 0, none⟩) cs.length ccap) (cs := cs) (lv' := .slice (some ⟨gg, 0, none⟩) (l.length + 1) cap2) R2.out R1.out CV3A.out HGR.out (fun b hb e => by
    rcases HAT.out with h | h
    · rw [h]; exact e
    · have : gg = b := by simpa [Value.ownBlock] using e
      omega) (by rw [List.length_append, flatE_snoc, EML.out]; exact HOW.out) CNT.out
  have PA : Aside _ := PP
  clear PP
  refine bodyPost_ret (v := .agg #[.slice (some ⟨gg, 0, none⟩) (l.length + 1) cap2, .slice (some ⟨vb, 0, none⟩) n n]) (by simp [results, Try.results54, go_sem, ↓IntWalk.iteOmega, *]) rfl ?_
  exact HQ2.out _ _ _ ((PA.out.1.other HG1.out (by omega) (by decide) (by decide) (by decide)).other (hh_ne (by omega) HG2.out) (by omega) (by decide) (by decide) (by decide)) (((MK2.out.trans ((Kept.of_below W2B.out).trans ((Kept.of_below W3B.out).trans PA.out.2))).other (by omega) _ _).other (by omega) _ _)

theorem radd_calls (w0 : World) (L : List In) (ao : Option Addr) (cap : Nat) (g : Int) (s : ByteArray) (E : AEnv w0 L ao g s) : ∀ f, RAddOK w0 L ao cap g s f
  | 0 => fun _ _ _ _ _ _ _ _ _ _ _ _ _ _ _ h => absurd h (Nat.not_lt_zero _)
  | f + 1 => radd_step w0 L ao cap g s E f (radd_calls w0 L ao cap g s E f)


theorem boolInfo : ∃ i0 : TypeInfo, Try.prog.info? 4 = some i0 ∧ i0.zero = some (.bool false) ∧ i0.size = 1 ∧ i0.bytes = 1 := by
  have h : (Try.prog.info? 4).map (fun i => (i.zero, i.size, i.bytes)) = some (some (.bool false), 1, 1) := by kernel_rfl
  cases hi : Try.prog.info? 4 with
  | none => rw [hi] at h; cases h
  | some i0 =>
    rw [hi] at h
    simp only [Option.map_some, Option.some.injEq, Prod.mk.injEq] at h
    exact ⟨i0, rfl, h.1, h.2.1, h.2.2⟩
theorem made_encB (n : Nat) : madeCells #[Value.bool false] n = encB (List.replicate n false) := by
  apply Array.ext_getElem?
  intro j
  by_cases hj : j < n
  · rw [encB_get (by simpa using hj), getElem!_pos (List.replicate n false) j (by simpa using hj)]
    simp [madeCells, hj, Nat.mod_one]
  · rw [Array.getElem?_eq_none (by rw [size_madeCells]; omega), Array.getElem?_eq_none (by simp [encB]; omega)]
theorem make_bools (n : Nat) (hn : n ≤ 1024) (U : World) : (Instr.makeSlice 96 (.int .i64 (n : Int)) (.int .i64 (n : Int))).run Try.prog U = .ok (.slice (some ⟨U.heap.size, 0, none⟩) n n) (U.alloc (.cells (encB (List.replicate n false)) 4)) := by
  obtain ⟨i0, hi0, hz0, hs0, hb0⟩ := boolInfo
  rw [run_make (P := Try.prog) U 96 4 i0 (.bool false) Try.underlying96 hi0 hz0 .i64 .i64 (n : Int) (n : Int) (by omega) (Int.le_refl _) (by rw [hb0]; omega) (by omega), hs0, Nat.mul_one, show ((n : Int)).toNat = n by omega]
  have e : (Value.bool false).cells = #[Value.bool false] := rfl
  rw [e, made_encB]

set_option maxRecDepth 20000 in
set_option maxHeartbeats 32000000 in
theorem rnone_calls (ao : Option Addr) (n cap : Nat) (g : Int) (W : World) (hn : n ≤ 1024) :
    Calls Try.prog 55 #[.agg #[.slice ao n cap, .int .i64 g]] W fun e W' => ∃ vb, e = .returned (.agg #[.slice none 0 0, .slice (some ⟨vb, 0, none⟩) n n]) ∧ W.heap.size ≤ vb ∧ W'.heap[vb]? = some (.cells (encB (List.replicate n false)) 4 (0, 0)) ∧ Below W.heap.size W W' := by
  obtain ⟨Q, hQ⟩ : ∃ Q : Ending → World → Prop, (fun e W' => ∃ vb, e = .returned (.agg #[.slice none 0 0, .slice (some ⟨vb, 0, none⟩) n n]) ∧ W.heap.size ≤ vb ∧ W'.heap[vb]? = some (.cells (encB (List.replicate n false)) 4 (0, 0)) ∧ Below W.heap.size W W') = Q := ⟨_, rfl⟩
  rw [hQ]
  have HQ : Aside (∀ vb W', W.heap.size ≤ vb → W'.heap[vb]? = some (.cells (encB (List.replicate n false)) 4 (0, 0)) → Below W.heap.size W W' → Q (.returned (.agg #[.slice none 0 0, .slice (some ⟨vb, 0, none⟩) n n])) W') := fun vb W' h1 h2 h3 => by rw [← hQ]; exact ⟨vb, rfl, h1, h2, h3⟩
  have mk := fun U => make_bools n hn U
  clear hQ
  go_enter Try.func55, Try.ntmps55
  go_wp2
  refine bodyPost_ret (v := .agg #[.slice none 0 0, .slice (some ⟨W.heap.size + 1 + 1, 0, none⟩) n n]) (by simp [results, Try.results55, go_sem, ↓IntWalk.iteOmega, *]) rfl ?_
  refine HQ.out _ _ (by omega) (by repeat (first | exact hp_new (by simp) | (with_reducible refine hp_old ?_))) ?_
  repeat (first | (with_reducible exact Below.refl _ _) | (with_reducible assumption) | (with_reducible refine below_to_plus ?_ ?_ _) | (with_reducible refine below_holds ?_ ?_ _ _) | (with_reducible refine Below.alloc ?_ ?_ _) | (with_reducible refine Below.drew ?_) | (with_reducible refine below_drewN ?_ _) | (with_reducible refine Below.setCell ?_ ?_ _))
  all_goals first | omega | (simp; done) | (simp [go_sem]; done) | (simp [go_sem]; omega)
theorem TS.begin {w0 : World} {n vb : Nat} {W : World} (hb : Below w0.heap.size w0 W) (hv : w0.heap.size ≤ vb) (h : W.heap[vb]? = some (.cells (encB (List.replicate n false)) 4 (0, 0))) : TS w0 n vb (List.replicate n false) (.slice none 0 (([] : List Th).length)) [] W :=
  ⟨hb, hv, h, by simp, ⟨[], ⟨rfl, .inl ⟨rfl, rfl⟩⟩, .nil⟩, by simp⟩

/-- Nothing older than w changed but the blocks a, b and vb; and the row of the list is no older. -/
structure Keeps (a b vb : Nat) (lv : Value) (w w' : World) : Prop where
  os : w'.os = w.os
  tape : w'.tape = w.tape
  output : w'.output = w.output
  size : w.heap.size ≤ w'.heap.size
  block : ∀ k, k < w.heap.size → k ≠ a → k ≠ b → k ≠ vb → w'.heap[k]? = w.heap[k]?
  fresh : ∀ k, k < w.heap.size → lv.ownBlock ≠ some k
theorem Keeps.refl (a b vb : Nat) (w : World) (n c : Nat) : Keeps a b vb (.slice none n c) w w := ⟨rfl, rfl, rfl, Nat.le_refl _, fun _ _ _ _ _ => rfl, fun k _ e => by cases e⟩
theorem Keeps.add {a b vb : Nat} {lv lv' : Value} {w w1 w2 : World} (h : Keeps a b vb lv w w1) (k : Kept vb vb lv lv' w1 w2) : Keeps a b vb lv' w w2 :=
  ⟨k.os.trans h.os, k.tape.trans h.tape, k.output.trans h.output, Nat.le_trans h.size k.size,
   fun i hi h1 h2 h3 => (k.block i (Nat.lt_of_lt_of_le hi h.size) h3 h3 (h.fresh i hi)).trans (h.block i hi h1 h2 h3),
   fun i hi e => h.fresh i hi (k.fresh i (Nat.lt_of_lt_of_le hi h.size) e)⟩
theorem Keeps.later {a b vb : Nat} {lv : Value} {w w1 w2 : World} (h : Keeps a b vb lv w w1) (k : Below w1.heap.size w1 w2) : Keeps a b vb lv w w2 :=
  h.add (Kept.of_below k)
theorem Keeps.holdsA {a b vb : Nat} {lv : Value} {w w1 : World} (h : Keeps a b vb lv w w1) (c : Array Value) (T : TypeId) : Keeps a b vb lv w (holds w1 a c T) :=
  ⟨h.os, h.tape, h.output, by rw [size_holds]; exact h.size, fun k hk h1 h2 h3 => by rw [heap_holds, if_neg (fun e => h1 e.1)]; exact h.block k hk h1 h2 h3, h.fresh⟩
theorem Keeps.holdsB {a b vb : Nat} {lv : Value} {w w1 : World} (h : Keeps a b vb lv w w1) (c : Array Value) (T : TypeId) : Keeps a b vb lv w (holds w1 b c T) :=
  ⟨h.os, h.tape, h.output, by rw [size_holds]; exact h.size, fun k hk h1 h2 h3 => by rw [heap_holds, if_neg (fun e => h2 e.1)]; exact h.block k hk h1 h2 h3, h.fresh⟩
theorem Keeps.hp {a b vb : Nat} {lv : Value} {w w' : World} (h : Keeps a b vb lv w w') {k : Nat} {o : Obj} (hk : w.heap[k]? = some o) (h1 : k ≠ a) (h2 : k ≠ b) (h3 : k ≠ vb) : w'.heap[k]? = some o :=
  (h.block k (Array.getElem?_eq_some_iff.1 hk).1 h1 h2 h3).trans hk
theorem Keeps.own {a b vb B n k : Nat} {lv v : Value} {w w' : World} {E : TypeId} {xs : List Value} (h : w.ownsRow B E k v n xs) (hk : Keeps a b vb lv w w')
    (h1 : v.ownBlock ≠ some a) (h2 : v.ownBlock ≠ some b) (h3 : v.ownBlock ≠ some vb) : w'.ownsRow B E k v n xs := by
  obtain ⟨e, h0 | ⟨g, cap, cur, hv, hg, hh, r⟩⟩ := h
  · exact ⟨e, .inl h0⟩
  · have hv' : v.ownBlock = some g := by rw [hv]; rfl
    exact ⟨e, .inr ⟨g, cap, cur, hv, hg, hk.hp hh (fun e => h1 (by rw [hv', e])) (fun e => h2 (by rw [hv', e])) (fun e => h3 (by rw [hv', e])), r⟩⟩
theorem Row.keeps {a b vb B : Nat} {lv v : Value} {cs : List Int} {w w' : World} {ca cb cv : Array Value} {Ta Tb Tv : TypeId} (h : Row B v cs w) (hk : Keeps a b vb lv w w')
    (ha : w.heap[a]? = some (.cells ca Ta (0, 0))) (hb : w.heap[b]? = some (.cells cb Tb (0, 0))) (hv : w.heap[vb]? = some (.cells cv Tv (0, 0))) (h1 : Ta ≠ 3) (h2 : Tb ≠ 3) (h3 : Tv ≠ 3) : Row B v cs w' :=
  ⟨Keeps.own h.row hk (own_ne h.row ha h1) (own_ne h.row hb h2) (own_ne h.row hv h3), h.pos⟩
theorem Row.cap {B vb : Nat} {v : Value} {cs : List Int} {w : World} {c : Array Value} {T : TypeId} (h : Row B v cs w) (hv : w.heap[vb]? = some (.cells c T (0, 0))) (hT : T ≠ 3) : Cap B vb v cs w :=
  ⟨h.row, own_ne h.row hv hT, h.pos⟩
theorem Cap.toRow {B vb : Nat} {v : Value} {cs : List Int} {w : World} (h : Cap B vb v cs w) : Row B v cs w := ⟨h.row, h.pos⟩
theorem Row.other {B : Nat} {v : Value} {cs : List Int} {w : World} (h : Row B v cs w) {b : Nat} {c c' : Array Value} {T : TypeId} (hb : w.heap[b]? = some (.cells c T (0, 0))) (hT : T ≠ 3) : Row B v cs (holds w b c' T) :=
  ⟨own_holds h.row (own_ne h.row hb hT), h.pos⟩
/-- The offsets of a thread of a row. -/
theorem rthm_cells {W : World} {B : Nat} {lv : Value} {ms : List ThM} (h : W.ownsRow B 102 2 lv ms.length (flatE ThM.enc ms)) {j : Nat} (hj : j < ms.length) :
    ∃ lb lc, lv = .slice (some ⟨lb, 0, none⟩) ms.length lc ∧ lb < W.heap.size ∧ W.cell? ⟨lb, j * 2, none⟩ = some (.int .i64 (ms[j]!.k : Int)) ∧ W.cell? ⟨lb, j * 2 + 1, none⟩ = some ms[j]!.v := by
  obtain ⟨_, ⟨_, h0⟩ | ⟨lb, lc, cur, hv, hb, hh, hn, hm, hz, ht⟩⟩ := h
  · omega
  have q : ∀ f, f < 2 → cur[j * 2 + f]? = ms[j]!.enc[f]? := fun f hf => by
    have h1 : (cur.toList.take (ms.length * 2))[j * 2 + f]? = ms[j]!.enc[f]? := by
      rw [ht, flatE_get thm_len ms j f hf, List.getElem?_eq_getElem hj, getElem!_pos ms j hj]; rfl
    rw [List.getElem?_take, if_pos (by omega)] at h1
    rw [← Array.getElem?_toList]
    exact h1
  exact ⟨lb, lc, hv, (Array.getElem?_eq_some_iff.1 hh).1, cell_heap hh _ _ (q 0 (by omega)), cell_heap hh _ _ (q 1 (by omega))⟩
/-- A match in memory, as the reference has it. -/
def FV (B p : Nat) (r : Option (List Int × Nat)) (v : Value) (b1 b2 : Int) (b3 : Bool) (W : World) : Prop :=
  match r with
  | none => v = .slice none 0 0 ∧ b1 = 0 ∧ b2 = 0 ∧ b3 = false
  | some (cs, e) => Row B v cs W ∧ b1 = (p : Int) ∧ b2 = (e : Int) ∧ b3 = true
theorem FV.later {B p : Nat} {r : Option (List Int × Nat)} {v : Value} {b1 b2 : Int} {b3 : Bool} {W W' : World} (h : FV B p r v b1 b2 b3 W) (hb : Below W.heap.size W W') : FV B p r v b1 b2 b3 W' := by
  unfold FV at h ⊢
  split at h
  · exact h
  · exact ⟨h.1.later hb, h.2⟩
theorem FV.other {B p : Nat} {r : Option (List Int × Nat)} {v : Value} {b1 b2 : Int} {b3 : Bool} {W : World} (h : FV B p r v b1 b2 b3 W) {b : Nat} {c c' : Array Value} {T : TypeId} (hb : W.heap[b]? = some (.cells c T (0, 0))) (hT : T ≠ 3) : FV B p r v b1 b2 b3 (holds W b c' T) := by
  unfold FV at h ⊢
  split at h
  · exact h
  · exact ⟨h.1.other hb hT, h.2⟩
theorem FV.own {B p vb B' n : Nat} {r : Option (List Int × Nat)} {v lv lv' : Value} {b1 b2 : Int} {b3 : Bool} {W W' : World} {c : Array Value} {xs : List Value} (h : FV B p r v b1 b2 b3 W) (hv : W.heap[vb]? = some (.cells c 4 (0, 0))) (hr : W.ownsRow B' 102 2 lv n xs) (hk : Kept vb vb lv lv' W W') : FV B p r v b1 b2 b3 W' := by
  unfold FV at h ⊢
  split at h
  · exact h
  · exact ⟨((h.1.cap hv (by decide)).own hr hk).toRow, h.2⟩
theorem FV.form {B p : Nat} {r : Option (List Int × Nat)} {v : Value} {b1 b2 : Int} {b3 : Bool} {W : World} (h : FV B p r v b1 b2 b3 W) : ∃ a n c, v = .slice a n c := by
  unfold FV at h
  split at h
  · exact ⟨_, _, _, h.1⟩
  · obtain ⟨b, c, e, _⟩ := h.1.form
    exact ⟨_, _, _, e⟩
/-- What from of the reference leaves. -/
def FromPost (w : World) (p : Nat) (r : Option (List Int × Nat)) (e : Ending) (W : World) : Prop :=
  ∃ v b1 b2 b3, e = .returned (.agg #[v, .int .i64 b1, .int .i64 b2, .bool b3]) ∧ FV w.heap.size p r v b1 b2 b3 W ∧ Below w.heap.size w W
/-- The first k of m cells are -1. -/
def minusC (k m : Nat) : Array Value := (List.replicate k (Value.int .i64 (-1)) ++ List.replicate (m - k) (Value.int .i64 0)).toArray
theorem minusC_get (k m j : Nat) : (minusC k m)[j]? = if j < k then some (Value.int .i64 (-1)) else if j < k + (m - k) then some (Value.int .i64 0) else none := by
  unfold minusC
  rw [List.getElem?_toArray, List.getElem?_append, List.length_replicate, List.getElem?_replicate, List.getElem?_replicate]
  split
  · rfl
  · by_cases h : j < k + (m - k)
    · rw [if_pos (by omega), if_pos h]
    · rw [if_neg (by omega), if_neg h]
theorem minusC_size (k m : Nat) : (minusC k m).size = k + (m - k) := by simp [minusC]
theorem minusC_set (k m : Nat) (h : k < m) : (minusC k m).setIfInBounds k (.int .i64 (-1)) = minusC (k + 1) m := by
  apply Array.ext_getElem?
  intro j
  rw [Array.getElem?_setIfInBounds, minusC_size, minusC_get, minusC_get]
  by_cases e : k = j
  · subst e
    rw [if_pos rfl, if_pos (by omega), if_pos (by omega)]
  · rw [if_neg e]
    repeat' split
    all_goals first | rfl | omega
theorem minusC_zero (m : Nat) : encV (List.replicate m false) = minusC 0 m := by
  apply Array.ext_getElem?
  intro j
  rw [minusC_get]
  simp [encV, bI, List.getElem?_replicate]
  split <;> simp_all
theorem minusC_full (m : Nat) : (minusC m m).toList.take m = List.replicate m (Value.int .i64 (-1)) := by
  simp [minusC]
/-- The inner loop of from, at the end of the text nothing. -/
def stepG (L : List In) (n q : Nat) (c : Int) (l : List Th) (st : List Bool × List Th) : List Bool × List Th := if q < n then stepF L n (q + 1) c l st else st
theorem stepG_nil {L : List In} {n q : Nat} {c : Int} {st : List Bool × List Th} : stepG L n q c [] st = st := by unfold stepG stepF; split <;> rfl
theorem stepG_cons {L : List In} {n q : Nat} {c : Int} {t : Th} {l : List Th} {st : List Bool × List Th} (h : q < n) : stepG L n q c (t :: l) st = stepG L n q c l (if accF L[t.1]! c then addF (L.length + 1) L n (q + 1) (t.1 + 1) t.2 st else st) := by
  unfold stepG
  rw [if_pos h, if_pos h]
  rfl
theorem stepG_end {L : List In} {n q : Nat} {c : Int} {l l' : List Th} {st : List Bool × List Th} (h : ¬ q < n) : stepG L n q c l st = stepG L n q c l' st := by
  unfold stepG
  rw [if_neg h, if_neg h]
theorem foundF_snoc (L : List In) (t : Th) : ∀ l : List Th, foundF L (l ++ [t]) = match foundF L l with | some c => some c | none => if L[t.1]!.op = 9 then some t.2 else none
  | [] => by
    rw [List.nil_append, show foundF L ([] : List Th) = none from rfl]
    rfl
  | u :: l => by
    rw [List.cons_append]
    show (if L[u.1]!.op = 9 then some u.2 else foundF L (l ++ [t])) = match (if L[u.1]!.op = 9 then some u.2 else foundF L l) with | some c => some c | none => if L[t.1]!.op = 9 then some t.2 else none
    split
    · rfl
    · exact foundF_snoc L t l
/-- The state of from at the head of its great loop. -/
structure OS (w : World) (ao : Option Addr) (n cap : Nat) (g : Int) (L : List In) (a4 a8 a11 a12 p vb : Nat) (v : List Bool) (la : Option Addr) (lc : Nat) (l : List Th) (best : Option (List Int × Nat)) (ba : Option Addr) (bn bc : Nat) (b1 b2 : Int) (b3 : Bool) (W : World) : Prop where
  ts : TS w n vb v (.slice la l.length lc) l W
  r4 : W.heap[a4]? = some (.cells #[.slice ao n cap, .int .i64 g] 24 (0, 0))
  r8 : W.heap[a8]? = some (.cells #[.slice none 0 0, .int .i64 0, .int .i64 0, .bool false] 65 (0, 0))
  r11 : W.heap[a11]? = some (.cells #[.slice la l.length lc, .slice (some ⟨vb, 0, none⟩) n n] 98 (0, 0))
  r12 : W.heap[a12]? = some (.cells #[.slice ba bn bc, .int .i64 b1, .int .i64 b2, .bool b3] 65 (0, 0))
  bst : FV w.heap.size p best (.slice ba bn bc) b1 b2 b3 W
  th : ∀ t ∈ l, TOk L g t
theorem OS.later {w : World} {ao : Option Addr} {n cap : Nat} {g : Int} {L : List In} {a4 a8 a11 a12 p vb : Nat} {v : List Bool} {la : Option Addr} {lc : Nat} {l : List Th} {best : Option (List Int × Nat)} {ba : Option Addr} {bn bc : Nat} {b1 b2 : Int} {b3 : Bool} {W W' : World} (h : OS w ao n cap g L a4 a8 a11 a12 p vb v la lc l best ba bn bc b1 b2 b3 W) (hb : Below W.heap.size W W') : OS w ao n cap g L a4 a8 a11 a12 p vb v la lc l best ba bn bc b1 b2 b3 W' :=
  ⟨h.ts.later hb, heap_later h.r4 hb, heap_later h.r8 hb, heap_later h.r11 hb, heap_later h.r12 hb, h.bst.later hb, h.th⟩

end Go.Proofs.Ytfhccmegobbnaaa
