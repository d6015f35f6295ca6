/- This text proves the walk of add of the reference. Conditions: those that each theorem names. -/
import Derived.Test.YtfhccmegobbnaaaRegexRE
namespace Go.Proofs.Ytfhccmegobbnaaa
open Go.ChangeShapes Go.WideShapes Go.ChangeAt Go.RowKit
set_option linter.unusedVariables false
set_option linter.unusedSimpArgs false

/-- What add of the reference leaves. -/
def RAPost (w0 : World) (n vb : Nat) (lv : Value) (W : World) (st : List Bool × List Th) (e : Ending) (W' : World) : Prop :=
  ∃ la lc, e = .returned (.agg #[.slice la st.2.length lc, .slice (some ⟨vb, 0, none⟩) n n]) ∧ TS w0 n vb st.1 (.slice la st.2.length lc) st.2 W' ∧ Kept vb vb lv (.slice la st.2.length lc) W W'
def RAddOK (w0 : World) (L : List In) (ao : Option Addr) (cap : Nat) (g : Int) (s : ByteArray) (f : Nat) : Prop :=
  ∀ (pos vb : Nat) (v : List Bool) (la : Option Addr) (lc : Nat) (l : List Th) (k : Nat) (cs : List Int) (cv : Value) (W : World), TS w0 L.length vb v (.slice la l.length lc) l W → Cap w0.heap.size vb cv cs W → k < L.length → (cs.length : Int) = 2 * g → pos ≤ s.size → v.count false < f →
    Calls Try.prog 54 #[.agg #[.slice ao L.length cap, .int .i64 g], .string s, .agg #[.slice la l.length lc, .slice (some ⟨vb, 0, none⟩) L.length L.length], .int .i64 (k : Int), .int .i64 (pos : Int), cv] W (RAPost w0 L.length vb (.slice la l.length lc) W (addF f L s.size pos k cs (v, l)))

set_option maxRecDepth 20000 in
set_option maxHeartbeats 64000000 in
theorem radd_step (w0 : World) (L : List In) (ao : Option Addr) (cap : Nat) (g : Int) (s : ByteArray) (E : AEnv w0 L ao g s) (f : Nat) (ih : RAddOK w0 L ao cap g s f) : RAddOK w0 L ao cap g s (f + 1) := by
  intro pos vb v la lc l k cs cv W hm hc hk hcs hps hcnt
  obtain ⟨n, hn⟩ : ∃ n, L.length = n := ⟨_, rfl⟩
  have HN : Aside (L.length = n) := hn
  have HE : Aside (AEnv w0 L ao g s) := E
  unfold RAddOK at ih
  rw [hn] at hm hk ih ⊢
  have HM : Aside (TS w0 n vb v (.slice la l.length lc) l W) := hm
  have HC : Aside (Cap w0.heap.size vb cv cs W) := hc
  have IH0 : Aside (∀ (pos vb : Nat) (v : List Bool) (la : Option Addr) (lc : Nat) (l : List Th) (k : Nat) (cs : List Int) (cv : Value) (W : World), TS w0 n vb v (.slice la l.length lc) l W → Cap w0.heap.size vb cv cs W → k < n → (cs.length : Int) = 2 * g → pos ≤ s.size → v.count false < f →
    Calls Try.prog 54 #[.agg #[.slice ao n cap, .int .i64 g], .string s, .agg #[.slice la l.length lc, .slice (some ⟨vb, 0, none⟩) n n], .int .i64 (k : Int), .int .i64 (pos : Int), cv] W (RAPost w0 n vb (.slice la l.length lc) W (addF f L s.size pos k cs (v, l)))) := ih
  have lvb := hm.lt
  obtain ⟨lx, hlx⟩ : ∃ lx, addF (f + 1) L s.size pos k cs (v, l) = lx := ⟨_, rfl⟩
  have HLX : Aside (addF (f + 1) L s.size pos k cs (v, l) = lx) := hlx
  rw [hlx]
  obtain ⟨Q, hQ⟩ : ∃ Q : Ending → World → Prop, RAPost w0 n vb (.slice la l.length lc) W lx = Q := ⟨_, rfl⟩
  rw [hQ]
  have HQ : Aside (∀ W' la' lc', TS w0 n vb lx.1 (.slice la' lx.2.length lc') lx.2 W' → Kept vb vb (.slice la l.length lc) (.slice la' lx.2.length lc') W W' → Q (.returned (.agg #[.slice la' lx.2.length lc', .slice (some ⟨vb, 0, none⟩) n n])) W') := fun W' la' lc' h1 h2 => by rw [← hQ]; exact ⟨la', lc', rfl, h1, h2⟩
  have hvl : v.length = n := hm.len
  obtain ⟨p1, p2, p3, p4, p5, p6⟩ := right_parts E.hr
  rw [hn] at p4
  obtain ⟨ib, io, rfl, hib, -⟩ := HE.out.hp.c k (by rw [HN.out]; exact hk)
  have IH : Aside (∀ (pos vb : Nat) (v : List Bool) (la : Option Addr) (lc : Nat) (l : List Th) (k : Nat) (cs : List Int) (cv : Value) (W : World), TS w0 n vb v (.slice la l.length lc) l W → Cap w0.heap.size vb cv cs W → k < n → (cs.length : Int) = 2 * g → pos ≤ s.size → v.count false < f →
    Calls Try.prog 54 #[.agg #[.slice (some ⟨ib, io, none⟩) n cap, .int .i64 g], .string s, .agg #[.slice la l.length lc, .slice (some ⟨vb, 0, none⟩) n n], .int .i64 (k : Int), .int .i64 (pos : Int), cv] W (RAPost w0 n vb (.slice la l.length lc) W (addF f L s.size pos k cs (v, l)))) := IH0.out
  clear IH0
  obtain ⟨cb, ccap, ecv⟩ : ∃ cb ccap, cv = .slice (some ⟨cb, 0, none⟩) cs.length ccap := by
    obtain ⟨_, ⟨_, h9⟩ | ⟨cb, ccap, _, h9, _⟩⟩ := HC.out.row
    · have := HC.out.pos
      omega
    · exact ⟨cb, ccap, h9⟩
  subst ecv
  have HCN : Aside (l.length ≤ n) := by
    have := hm.cnt
    show _ ≤ _
    omega
  clear hn hQ hc E ih p5 hlx
  by_cases hv : v[k]! = true
  · have vk : W.cell? ⟨vb, k, none⟩ = some (.bool true) := cell_heap hm.vis k _ (by rw [encB_get (by omega), hv])
    have e1 := HLX.out
    rw [addF_seen hv] at e1
    subst e1
    clear hm p6 hv HLX
    go_enter Try.func54, Try.ntmps54
    go_wp2
    refine bodyPost_ret (v := .agg #[.slice la l.length lc, .slice (some ⟨vb, 0, none⟩) n n]) (by simp [results, Try.results54, go_sem, ↓IntWalk.iteOmega, *]) rfl ?_
    have hbl : Below W.heap.size W (((W.alloc (.cells #[.slice (some ⟨ib, io, none⟩) n cap, .int .i64 g] 24)).alloc (.cells #[.slice la l.length lc, .slice (some ⟨vb, 0, none⟩) n n] 98)).alloc (.cells #[.slice la l.length lc, .slice (some ⟨vb, 0, none⟩) n n] 98)) := by
      repeat (first | (with_reducible exact Below.refl _ _) | (with_reducible assumption) | (with_reducible refine below_to_plus ?_ ?_ _) | (with_reducible refine below_holds ?_ ?_ _ _) | (with_reducible refine Below.alloc ?_ ?_ _) | (with_reducible refine Below.drew ?_) | (with_reducible refine below_drewN ?_ _) | (with_reducible refine Below.setCell ?_ ?_ _))
      all_goals first | omega | (simp; done) | (simp [go_sem]; done) | (simp [go_sem]; omega)
    exact HQ.out _ la lc (HM.out.later hbl) (Kept.of_below hbl)
  have hv : v[k]! = false := by simpa using hv
  obtain ⟨mk1, mk2⟩ := hm.mark hk hv
  have hcn := count_set v k (by omega) hv
  have hvis := hm.vis
  have hc0 : (encB v)[k]? = some (.bool false) := by rw [encB_get (by omega), hv]
  rw [encB_set] at mk1 mk2
  generalize encB v = c0 at hvis hc0 mk1 mk2
  have MK1 : Aside (TS w0 n vb (v.set k true) (.slice la l.length lc) l (holds W vb (c0.setIfInBounds k (.bool true)) 4)) := mk1
  have MK2 : Aside (Kept vb vb (.slice la l.length lc) (.slice la l.length lc) W (holds W vb (c0.setIfInBounds k (.bool true)) 4)) := mk2
  have CV2 : Aside (Cap w0.heap.size vb (.slice (some ⟨cb, 0, none⟩) cs.length ccap) cs (holds W vb (c0.setIfInBounds k (.bool true)) 4)) := by
    obtain ⟨ms, r1, r2⟩ := hm.row
    exact HC.out.own r1 mk2
  have HV : Aside (v[k]! = false) := hv
  have LW : Aside (w0.heap.size ≤ W.heap.size ∧ w0.heap.size ≤ vb) := ⟨hm.hb.size, hm.hvb⟩
  obtain ⟨ib', io', hao, -, l0, l1, l2, l3, l4, l5⟩ := (HE.out.hp.c.later (hm.hb.mono (Nat.le_refl _))) k (by rw [HN.out]; exact hk)
  simp only [Option.some.injEq, Addr.mk.injEq] at hao
  obtain ⟨rfl, rfl, -⟩ := hao
  have nbv : ¬ ib = vb := by have := LW.out; omega
  have nvb : ¬ vb = ib := by omega
  have hibw : ib < W.heap.size := Nat.lt_of_lt_of_le hib LW.out.1
  have nib0 : ¬ ib = W.heap.size := by omega
  have nib1 : ¬ ib = W.heap.size + 1 := by omega
  have nib2 : ¬ ib = W.heap.size + 1 + 1 := by omega
  have nib3 : ¬ ib = W.heap.size + 1 + 1 + 1 := by omega
  have nvb0 : ¬ vb = W.heap.size := by omega
  have nvb1 : ¬ vb = W.heap.size + 1 := by omega
  have nvb2 : ¬ vb = W.heap.size + 1 + 1 := by omega
  have SND := p6 k (by rw [HN.out]; exact hk)
  have SN : Aside (soundF n g L[k]! = true) := by show _ = _; rw [← HN.out]; exact SND
  have NX : Aside (L[k]!.op ≠ 9 → L[k]!.op ≠ 7 → k + 1 < n) := fun h9 h7 => by rw [← HN.out]; exact right_next HE.out.hr (by rw [HN.out]; exact hk) h9 h7
  obtain ⟨x, hx⟩ : ∃ x, L[k]! = x := ⟨_, rfl⟩
  rw [hx] at l0 l1 l2 l3 l4 l5 SN NX
  have HX : Aside (L[k]! = x) := hx
  obtain ⟨y1, y2, y3, y4, y5, y6⟩ := x
  simp only [] at l0 l1 l2 l3 l4 l5
  have RBX : Aside (∀ b, W.heap.size ≤ b → (Value.slice la l.length lc).ownBlock ≠ some b) := fun b hb e => by have := (HM.out.blk e).2; omega
  rw [holds_self hvis]
  clear hm mk1 mk2 hv hx p6 hvis SND
  by_cases o7 : y1 = 7
  · subst o7
    obtain ⟨x, hx, hxn⟩ := sound_jump SN.out rfl
    simp only [] at hx
    subst hx
    have e1 := HLX.out
    rw [addF_7 HV.out HX.out rfl] at e1
    subst e1
    have W2B : Aside (Below (holds W vb (c0.setIfInBounds k (.bool true)) 4).heap.size (holds W vb (c0.setIfInBounds k (.bool true)) 4) (((((holds W vb (c0.setIfInBounds k (.bool true)) 4).alloc (.cells #[.slice (some ⟨ib, io, none⟩) n cap, .int .i64 g] 24)).alloc (.cells #[.slice la l.length lc, .slice (some ⟨vb, 0, none⟩) n n] 98)).alloc (.cells #[.slice none 0 0, .slice none 0 0] 98)).alloc (.cells #[.int .i64 7, .int .u8 y2, .string y3, .bool y4, .int .i64 (x : Int), .int .i64 y6] 34))) := by
      show Below _ _ _
      repeat (first | (with_reducible exact Below.refl _ _) | (with_reducible assumption) | (with_reducible refine below_to_plus ?_ ?_ _) | (with_reducible refine below_holds ?_ ?_ _ _) | (with_reducible refine Below.alloc ?_ ?_ _) | (with_reducible refine Below.drew ?_) | (with_reducible refine below_drewN ?_ _) | (with_reducible refine Below.setCell ?_ ?_ _))
      all_goals first | omega | (simp; done) | (simp [go_sem]; done) | (simp [go_sem]; omega)
    have hcx : (v.set k true).count false < f := by omega
    have hnp : IntKind.i64.wrap ((k : Int) + 1) = ((k + 1 : Nat) : Int) := by rw [IntKind.wrap_i64]; omega
    have X0 : Aside ((((((holds W vb (c0.setIfInBounds k (.bool true)) 4).alloc (.cells #[.slice (some ⟨ib, io, none⟩) n cap, .int .i64 g] 24)).alloc (.cells #[.slice la l.length lc, .slice (some ⟨vb, 0, none⟩) n n] 98)).alloc (.cells #[.slice none 0 0, .slice none 0 0] 98)).alloc (.cells #[.int .i64 7, .int .u8 y2, .string y3, .bool y4, .int .i64 (x : Int), .int .i64 y6] 34)).heap[W.heap.size]? = some (.cells #[.slice (some ⟨ib, io, none⟩) n cap, .int .i64 g] 24 (0, 0))) := hp_old (hp_old (hp_old (hp_new (by simp [size_holds]))))
    have X1 : Aside ((((((holds W vb (c0.setIfInBounds k (.bool true)) 4).alloc (.cells #[.slice (some ⟨ib, io, none⟩) n cap, .int .i64 g] 24)).alloc (.cells #[.slice la l.length lc, .slice (some ⟨vb, 0, none⟩) n n] 98)).alloc (.cells #[.slice none 0 0, .slice none 0 0] 98)).alloc (.cells #[.int .i64 7, .int .u8 y2, .string y3, .bool y4, .int .i64 (x : Int), .int .i64 y6] 34)).heap[(W.heap.size + 1)]? = some (.cells #[.slice la l.length lc, .slice (some ⟨vb, 0, none⟩) n n] 98 (0, 0))) := hp_old (hp_old (hp_new (by simp [size_holds])))
    have X2 : Aside ((((((holds W vb (c0.setIfInBounds k (.bool true)) 4).alloc (.cells #[.slice (some ⟨ib, io, none⟩) n cap, .int .i64 g] 24)).alloc (.cells #[.slice la l.length lc, .slice (some ⟨vb, 0, none⟩) n n] 98)).alloc (.cells #[.slice none 0 0, .slice none 0 0] 98)).alloc (.cells #[.int .i64 7, .int .u8 y2, .string y3, .bool y4, .int .i64 (x : Int), .int .i64 y6] 34)).heap[(W.heap.size + 1 + 1)]? = some (.cells #[.slice none 0 0, .slice none 0 0] 98 (0, 0))) := hp_old (hp_new (by simp [size_holds]))
    have X3 : Aside ((((((holds W vb (c0.setIfInBounds k (.bool true)) 4).alloc (.cells #[.slice (some ⟨ib, io, none⟩) n cap, .int .i64 g] 24)).alloc (.cells #[.slice la l.length lc, .slice (some ⟨vb, 0, none⟩) n n] 98)).alloc (.cells #[.slice none 0 0, .slice none 0 0] 98)).alloc (.cells #[.int .i64 7, .int .u8 y2, .string y3, .bool y4, .int .i64 (x : Int), .int .i64 y6] 34)).heap[(W.heap.size + 1 + 1 + 1)]? = some (.cells #[.int .i64 7, .int .u8 y2, .string y3, .bool y4, .int .i64 (x : Int), .int .i64 y6] 34 (0, 0))) := hp_new (by simp [size_holds])
    clear SN NX HV HX HLX
    go_enter Try.func54, Try.ntmps54
    go_wp2_with fail
    refine (IH.out pos vb (v.set k true) la lc l x cs _ _ (MK1.out.later W2B.out) (CV2.out.later W2B.out) (by first | assumption | omega) hcs hps hcx).mono ?_
    rintro e w9 ⟨la9, lc9, rfl, m9, k9⟩
    have M9 : Aside (TS w0 n vb _ _ _ w9) := m9
    have K9 : Aside (Kept vb vb (.slice la l.length lc) _ W w9) := MK2.out.trans ((Kept.of_below W2B.out).trans k9)
    have R9 : Aside (w9.heap[(W.heap.size + 1 + 1)]? = some (.cells #[.slice none 0 0, .slice none 0 0] 98 (0, 0))) := k9.hp X2.out (by omega) (by omega) (RBX.out _ (by omega))
    have lt9 : (W.heap.size + 1 + 1) < w9.heap.size := (Array.getElem?_eq_some_iff.1 R9.out).1
    clear m9 k9
    rw [holds_self R9.out]
    go_wp2
    refine bodyPost_ret (v := .agg #[.slice la9 (addF f L s.size pos x cs (v.set k true, l)).2.length lc9, .slice (some ⟨vb, 0, none⟩) n n]) (by simp [results, Try.results54, go_sem, ↓IntWalk.iteOmega, *]) rfl ?_
    exact HQ.out _ _ _ (M9.out.other R9.out (by have := LW.out; omega) (by decide) (by decide) (by decide)) (K9.out.other (by omega) _ _)
  by_cases o6 : y1 = 6
  · subst o6
    obtain ⟨⟨x, hx, hxn⟩, y, hy, hyn⟩ := sound_split SN.out rfl
    simp only [] at hx hy
    subst hx hy
    have e1 := HLX.out
    rw [addF_6 HV.out HX.out rfl] at e1
    subst e1
    have W2B : Aside (Below (holds W vb (c0.setIfInBounds k (.bool true)) 4).heap.size (holds W vb (c0.setIfInBounds k (.bool true)) 4) (((((holds W vb (c0.setIfInBounds k (.bool true)) 4).alloc (.cells #[.slice (some ⟨ib, io, none⟩) n cap, .int .i64 g] 24)).alloc (.cells #[.slice la l.length lc, .slice (some ⟨vb, 0, none⟩) n n] 98)).alloc (.cells #[.slice none 0 0, .slice none 0 0] 98)).alloc (.cells #[.int .i64 6, .int .u8 y2, .string y3, .bool y4, .int .i64 (x : Int), .int .i64 (y : Int)] 34))) := by
      show Below _ _ _
      repeat (first | (with_reducible exact Below.refl _ _) | (with_reducible assumption) | (with_reducible refine below_to_plus ?_ ?_ _) | (with_reducible refine below_holds ?_ ?_ _ _) | (with_reducible refine Below.alloc ?_ ?_ _) | (with_reducible refine Below.drew ?_) | (with_reducible refine below_drewN ?_ _) | (with_reducible refine Below.setCell ?_ ?_ _))
      all_goals first | omega | (simp; done) | (simp [go_sem]; done) | (simp [go_sem]; omega)
    have hcx : (v.set k true).count false < f := by omega
    have hnp : IntKind.i64.wrap ((k : Int) + 1) = ((k + 1 : Nat) : Int) := by rw [IntKind.wrap_i64]; omega
    have X0 : Aside ((((((holds W vb (c0.setIfInBounds k (.bool true)) 4).alloc (.cells #[.slice (some ⟨ib, io, none⟩) n cap, .int .i64 g] 24)).alloc (.cells #[.slice la l.length lc, .slice (some ⟨vb, 0, none⟩) n n] 98)).alloc (.cells #[.slice none 0 0, .slice none 0 0] 98)).alloc (.cells #[.int .i64 6, .int .u8 y2, .string y3, .bool y4, .int .i64 (x : Int), .int .i64 (y : Int)] 34)).heap[W.heap.size]? = some (.cells #[.slice (some ⟨ib, io, none⟩) n cap, .int .i64 g] 24 (0, 0))) := hp_old (hp_old (hp_old (hp_new (by simp [size_holds]))))
    have X1 : Aside ((((((holds W vb (c0.setIfInBounds k (.bool true)) 4).alloc (.cells #[.slice (some ⟨ib, io, none⟩) n cap, .int .i64 g] 24)).alloc (.cells #[.slice la l.length lc, .slice (some ⟨vb, 0, none⟩) n n] 98)).alloc (.cells #[.slice none 0 0, .slice none 0 0] 98)).alloc (.cells #[.int .i64 6, .int .u8 y2, .string y3, .bool y4, .int .i64 (x : Int), .int .i64 (y : Int)] 34)).heap[(W.heap.size + 1)]? = some (.cells #[.slice la l.length lc, .slice (some ⟨vb, 0, none⟩) n n] 98 (0, 0))) := hp_old (hp_old (hp_new (by simp [size_holds])))
    have X2 : Aside ((((((holds W vb (c0.setIfInBounds k (.bool true)) 4).alloc (.cells #[.slice (some ⟨ib, io, none⟩) n cap, .int .i64 g] 24)).alloc (.cells #[.slice la l.length lc, .slice (some ⟨vb, 0, none⟩) n n] 98)).alloc (.cells #[.slice none 0 0, .slice none 0 0] 98)).alloc (.cells #[.int .i64 6, .int .u8 y2, .string y3, .bool y4, .int .i64 (x : Int), .int .i64 (y : Int)] 34)).heap[(W.heap.size + 1 + 1)]? = some (.cells #[.slice none 0 0, .slice none 0 0] 98 (0, 0))) := hp_old (hp_new (by simp [size_holds]))
    have X3 : Aside ((((((holds W vb (c0.setIfInBounds k (.bool true)) 4).alloc (.cells #[.slice (some ⟨ib, io, none⟩) n cap, .int .i64 g] 24)).alloc (.cells #[.slice la l.length lc, .slice (some ⟨vb, 0, none⟩) n n] 98)).alloc (.cells #[.slice none 0 0, .slice none 0 0] 98)).alloc (.cells #[.int .i64 6, .int .u8 y2, .string y3, .bool y4, .int .i64 (x : Int), .int .i64 (y : Int)] 34)).heap[(W.heap.size + 1 + 1 + 1)]? = some (.cells #[.int .i64 6, .int .u8 y2, .string y3, .bool y4, .int .i64 (x : Int), .int .i64 (y : Int)] 34 (0, 0))) := hp_new (by simp [size_holds])
    have C9A : Aside (∀ (w9 : World) (a : Value), Kept vb vb (.slice la l.length lc) a (((((holds W vb (c0.setIfInBounds k (.bool true)) 4).alloc (.cells #[.slice (some ⟨ib, io, none⟩) n cap, .int .i64 g] 24)).alloc (.cells #[.slice la l.length lc, .slice (some ⟨vb, 0, none⟩) n n] 98)).alloc (.cells #[.slice none 0 0, .slice none 0 0] 98)).alloc (.cells #[.int .i64 6, .int .u8 y2, .string y3, .bool y4, .int .i64 (x : Int), .int .i64 (y : Int)] 34)) w9 → Cap w0.heap.size vb (.slice (some ⟨cb, 0, none⟩) cs.length ccap) cs w9) := fun w9 a k9 => by
      obtain ⟨ms, r1, _⟩ := (MK1.out.later W2B.out).row
      exact (CV2.out.later W2B.out).own r1 k9
    have hc2 := addF_count f L s.size pos x cs (v.set k true, l)
    have hcy : (addF f L s.size pos x cs (v.set k true, l)).1.count false < f := by simp only [] at hc2; omega
    obtain ⟨st, hst⟩ : ∃ st, addF f L s.size pos x cs (v.set k true, l) = st := ⟨_, rfl⟩
    have IH2 : Aside (∀ W, TS w0 n vb (v.set k true) (.slice la l.length lc) l W → Cap w0.heap.size vb (.slice (some ⟨cb, 0, none⟩) cs.length ccap) cs W → Calls Try.prog 54 #[.agg #[.slice (some ⟨ib, io, none⟩) n cap, .int .i64 g], .string s, .agg #[.slice la l.length lc, .slice (some ⟨vb, 0, none⟩) n n], .int .i64 (x : Int), .int .i64 (pos : Int), .slice (some ⟨cb, 0, none⟩) cs.length ccap] W (RAPost w0 n vb (.slice la l.length lc) W st)) := fun W a b => by
      rw [← hst]
      exact IH.out pos vb (v.set k true) la lc l x cs _ W a b (by assumption) hcs hps hcx
    rw [hst] at hcy
    simp only [Int.toNat_natCast, hst] at HQ
    have M1 : Aside (TS w0 n vb (v.set k true) (.slice la l.length lc) l (((((holds W vb (c0.setIfInBounds k (.bool true)) 4).alloc (.cells #[.slice (some ⟨ib, io, none⟩) n cap, .int .i64 g] 24)).alloc (.cells #[.slice la l.length lc, .slice (some ⟨vb, 0, none⟩) n n] 98)).alloc (.cells #[.slice none 0 0, .slice none 0 0] 98)).alloc (.cells #[.int .i64 6, .int .u8 y2, .string y3, .bool y4, .int .i64 (x : Int), .int .i64 (y : Int)] 34))) := MK1.out.later W2B.out
    have C1 : Aside (Cap w0.heap.size vb (.slice (some ⟨cb, 0, none⟩) cs.length ccap) cs (((((holds W vb (c0.setIfInBounds k (.bool true)) 4).alloc (.cells #[.slice (some ⟨ib, io, none⟩) n cap, .int .i64 g] 24)).alloc (.cells #[.slice la l.length lc, .slice (some ⟨vb, 0, none⟩) n n] 98)).alloc (.cells #[.slice none 0 0, .slice none 0 0] 98)).alloc (.cells #[.int .i64 6, .int .u8 y2, .string y3, .bool y4, .int .i64 (x : Int), .int .i64 (y : Int)] 34))) := CV2.out.later W2B.out
    have K1 : Aside (Kept vb vb (.slice la l.length lc) (.slice la l.length lc) W (((((holds W vb (c0.setIfInBounds k (.bool true)) 4).alloc (.cells #[.slice (some ⟨ib, io, none⟩) n cap, .int .i64 g] 24)).alloc (.cells #[.slice la l.length lc, .slice (some ⟨vb, 0, none⟩) n n] 98)).alloc (.cells #[.slice none 0 0, .slice none 0 0] 98)).alloc (.cells #[.int .i64 6, .int .u8 y2, .string y3, .bool y4, .int .i64 (x : Int), .int .i64 (y : Int)] 34))) := MK2.out.trans (Kept.of_below W2B.out)
    clear hst hc2 SN NX HV HX HLX
    go_enter Try.func54, Try.ntmps54
    go_wp2_with fail
    clear W2B MK1 MK2 CV2
    generalize (((((holds W vb (c0.setIfInBounds k (.bool true)) 4).alloc (.cells #[.slice (some ⟨ib, io, none⟩) n cap, .int .i64 g] 24)).alloc (.cells #[.slice la l.length lc, .slice (some ⟨vb, 0, none⟩) n n] 98)).alloc (.cells #[.slice none 0 0, .slice none 0 0] 98)).alloc (.cells #[.int .i64 6, .int .u8 y2, .string y3, .bool y4, .int .i64 (x : Int), .int .i64 (y : Int)] 34)) = V at M1 C1 K1 X0 X1 X2 X3 C9A ⊢
    have M1D : Aside (TS w0 n vb (v.set k true) (.slice la l.length lc) l V.drew) := M1.out.later (Below.drew (Below.refl _ _))
    have C1D : Aside (Cap w0.heap.size vb (.slice (some ⟨cb, 0, none⟩) cs.length ccap) cs V.drew) := C1.out.later (Below.drew (Below.refl _ _))
    have a00 := cell_heap X0.out 0 _ rfl
    have a01 := cell_heap X0.out 1 _ rfl
    have a10 := cell_heap X1.out 0 _ rfl
    have a11 := cell_heap X1.out 1 _ rfl
    have a34 := cell_heap X3.out 4 _ rfl
    have a35 := cell_heap X3.out 5 _ rfl
    clear l0 l1 l2 l3 l4 l5 hc0 hcn
    go_region_held3 (fun w' => w'.cell? ⟨W.heap.size, 0, none⟩ = some (.slice (some ⟨ib, io, none⟩) n cap) ∧ w'.cell? ⟨W.heap.size, 1, none⟩ = some (.int .i64 g) ∧ w'.cell? ⟨(W.heap.size + 1), 0, none⟩ = some (.slice la l.length lc) ∧ w'.cell? ⟨(W.heap.size + 1), 1, none⟩ = some (.slice (some ⟨vb, 0, none⟩) n n) ∧ w'.cell? ⟨(W.heap.size + 1 + 1 + 1), 4, none⟩ = some (.int .i64 (x : Int)) ∧ w'.cell? ⟨(W.heap.size + 1 + 1 + 1), 5, none⟩ = some (.int .i64 (y : Int))) (first | (simp [go_sem, ↓IntWalk.iteOmega, *]; done)) ((first | (go_at_call 54; refine (IH.out pos vb _ la9 lc9 _ y cs _ _ M9.out (C9A.out _ _ K9.out) (by assumption) hcs hps hcy).mono ?_; rintro e w10 ⟨la10, lc10, rfl, m10, k10⟩; have N9 : Aside (∀ b c T, w9.heap[b]? = some (.cells c T (0, 0)) → T ≠ 102 → (Value.slice la9 st.2.length lc9).ownBlock ≠ some b) := (fun b c T h hT => (by obtain ⟨ms, r1, _⟩ := M9.out.row; exact own_ne r1 h hT)); have T0 := k10.hp A0.out (by omega) (by omega) (N9.out _ _ _ A0.out (by decide)); have T1 := k10.hp A1.out (by omega) (by omega) (N9.out _ _ _ A1.out (by decide)); have T2 := k10.hp A2.out (by omega) (by omega) (N9.out _ _ _ A2.out (by decide)); have T3 := k10.hp A3.out (by omega) (by omega) (N9.out _ _ _ A3.out (by decide)); have d00b := cell_heap T0 0 _ rfl; have d01b := cell_heap T0 1 _ rfl; have d10b := cell_heap T1 0 _ rfl; have d11b := cell_heap T1 1 _ rfl; have d34b := cell_heap T3 4 _ rfl; have d35b := cell_heap T3 5 _ rfl; have R9 : Aside (w10.heap[(W.heap.size + 1 + 1)]? = some (.cells #[.slice none 0 0, .slice none 0 0] 98 (0, 0))) := T2; have lt9 : (W.heap.size + 1 + 1) < w10.heap.size := (Array.getElem?_eq_some_iff.1 T2).1; have M10 : Aside (TS w0 n vb _ _ _ w10) := m10; have K10 : Aside (Kept vb vb (.slice la l.length lc) _ W w10) := K1.out.trans (K9.out.trans k10); rw [holds_self T2]; clear m10 k10 T0 T1 T2 T3) | (go_at_call 54; refine (IH2.out _ M1D.out C1D.out).mono ?_; rintro e w9 ⟨la9, lc9, rfl, m9, k9⟩; have T0 := k9.hp (b := W.heap.size) (heap_later X0.out (Below.drew (Below.refl _ _))) (by omega) (by omega) (RBX.out _ (by omega)); have T1 := k9.hp (b := (W.heap.size + 1)) (heap_later X1.out (Below.drew (Below.refl _ _))) (by omega) (by omega) (RBX.out _ (by omega)); have T2 := k9.hp (b := (W.heap.size + 1 + 1)) (heap_later X2.out (Below.drew (Below.refl _ _))) (by omega) (by omega) (RBX.out _ (by omega)); have T3 := k9.hp (b := (W.heap.size + 1 + 1 + 1)) (heap_later X3.out (Below.drew (Below.refl _ _))) (by omega) (by omega) (RBX.out _ (by omega)); have d00 := cell_heap T0 0 _ rfl; have d01 := cell_heap T0 1 _ rfl; have d10 := cell_heap T1 0 _ rfl; have d11 := cell_heap T1 1 _ rfl; have d34 := cell_heap T3 4 _ rfl; have d35 := cell_heap T3 5 _ rfl; have M9 : Aside (TS w0 n vb st.1 (.slice la9 st.2.length lc9) st.2 w9) := m9; have K9 : Aside (Kept vb vb (.slice la l.length lc) (.slice la9 st.2.length lc9) V w9) := (Kept.of_below (Below.drew (Below.refl _ _))).trans k9; have A0 : Aside _ := T0; have A1 : Aside _ := T1; have A2 : Aside _ := T2; have A3 : Aside _ := T3; clear m9 k9 T0 T1 T2 T3)))
    all_goals go_wp2
    all_goals refine bodyPost_ret (v := .agg #[.slice la10 (addF f L s.size pos y cs st).2.length lc10, .slice (some ⟨vb, 0, none⟩) n n]) (by simp [results, Try.results54, go_sem, ↓IntWalk.iteOmega, *]) rfl ?_
    all_goals exact HQ.out _ _ _ (M10.out.other R9.out (by have := LW.out; omega) (by decide) (by decide) (by decide)) (K10.out.other (by omega) _ _)
  by_cases o8 : y1 = 8
  · subst o8
    obtain ⟨x, hx, hxg⟩ := sound_save SN.out rfl
    simp only [] at hx
    subst hx
    have e1 := HLX.out
    rw [addF_8 HV.out HX.out rfl] at e1
    subst e1
    have hkn : k + 1 < n := NX.out (by simp) (by simp)
    obtain ⟨m, hm⟩ : ∃ m, cs.length = m := ⟨_, rfl⟩
    have hxm : x < m := by omega
    have hm0 : 0 < m := by omega
    have W2B : Aside (Below (holds W vb (c0.setIfInBounds k (.bool true)) 4).heap.size (holds W vb (c0.setIfInBounds k (.bool true)) 4) (((((holds W vb (c0.setIfInBounds k (.bool true)) 4).alloc (.cells #[.slice (some ⟨ib, io, none⟩) n cap, .int .i64 g] 24)).alloc (.cells #[.slice la l.length lc, .slice (some ⟨vb, 0, none⟩) n n] 98)).alloc (.cells #[.slice none 0 0, .slice none 0 0] 98)).alloc (.cells #[.int .i64 8, .int .u8 y2, .string y3, .bool y4, .int .i64 (x : Int), .int .i64 y6] 34))) := by
      show Below _ _ _
      repeat (first | (with_reducible exact Below.refl _ _) | (with_reducible assumption) | (with_reducible refine below_to_plus ?_ ?_ _) | (with_reducible refine below_holds ?_ ?_ _ _) | (with_reducible refine Below.alloc ?_ ?_ _) | (with_reducible refine Below.drew ?_) | (with_reducible refine below_drewN ?_ _) | (with_reducible refine Below.setCell ?_ ?_ _))
      all_goals first | omega | (simp; done) | (simp [go_sem]; done) | (simp [go_sem]; omega)
    have hcx : (v.set k true).count false < f := by omega
    have hnp : IntKind.i64.wrap ((k : Int) + 1) = ((k + 1 : Nat) : Int) := by rw [IntKind.wrap_i64]; omega
    have X0 : Aside ((((((holds W vb (c0.setIfInBounds k (.bool true)) 4).alloc (.cells #[.slice (some ⟨ib, io, none⟩) n cap, .int .i64 g] 24)).alloc (.cells #[.slice la l.length lc, .slice (some ⟨vb, 0, none⟩) n n] 98)).alloc (.cells #[.slice none 0 0, .slice none 0 0] 98)).alloc (.cells #[.int .i64 8, .int .u8 y2, .string y3, .bool y4, .int .i64 (x : Int), .int .i64 y6] 34)).heap[W.heap.size]? = some (.cells #[.slice (some ⟨ib, io, none⟩) n cap, .int .i64 g] 24 (0, 0))) := hp_old (hp_old (hp_old (hp_new (by simp [size_holds]))))
    have X1 : Aside ((((((holds W vb (c0.setIfInBounds k (.bool true)) 4).alloc (.cells #[.slice (some ⟨ib, io, none⟩) n cap, .int .i64 g] 24)).alloc (.cells #[.slice la l.length lc, .slice (some ⟨vb, 0, none⟩) n n] 98)).alloc (.cells #[.slice none 0 0, .slice none 0 0] 98)).alloc (.cells #[.int .i64 8, .int .u8 y2, .string y3, .bool y4, .int .i64 (x : Int), .int .i64 y6] 34)).heap[(W.heap.size + 1)]? = some (.cells #[.slice la l.length lc, .slice (some ⟨vb, 0, none⟩) n n] 98 (0, 0))) := hp_old (hp_old (hp_new (by simp [size_holds])))
    have X2 : Aside ((((((holds W vb (c0.setIfInBounds k (.bool true)) 4).alloc (.cells #[.slice (some ⟨ib, io, none⟩) n cap, .int .i64 g] 24)).alloc (.cells #[.slice la l.length lc, .slice (some ⟨vb, 0, none⟩) n n] 98)).alloc (.cells #[.slice none 0 0, .slice none 0 0] 98)).alloc (.cells #[.int .i64 8, .int .u8 y2, .string y3, .bool y4, .int .i64 (x : Int), .int .i64 y6] 34)).heap[(W.heap.size + 1 + 1)]? = some (.cells #[.slice none 0 0, .slice none 0 0] 98 (0, 0))) := hp_old (hp_new (by simp [size_holds]))
    have X3 : Aside ((((((holds W vb (c0.setIfInBounds k (.bool true)) 4).alloc (.cells #[.slice (some ⟨ib, io, none⟩) n cap, .int .i64 g] 24)).alloc (.cells #[.slice la l.length lc, .slice (some ⟨vb, 0, none⟩) n n] 98)).alloc (.cells #[.slice none 0 0, .slice none 0 0] 98)).alloc (.cells #[.int .i64 8, .int .u8 y2, .string y3, .bool y4, .int .i64 (x : Int), .int .i64 y6] 34)).heap[(W.heap.size + 1 + 1 + 1)]? = some (.cells #[.int .i64 8, .int .u8 y2, .string y3, .bool y4, .int .i64 (x : Int), .int .i64 y6] 34 (0, 0))) := hp_new (by simp [size_holds])
    have CR := (CV2.out.later W2B.out).row
    have SLC : Aside (∀ j u, (cs.map (Value.int .i64))[j]? = some u → ((((((holds W vb (c0.setIfInBounds k (.bool true)) 4).alloc (.cells #[.slice (some ⟨ib, io, none⟩) n cap, .int .i64 g] 24)).alloc (.cells #[.slice la l.length lc, .slice (some ⟨vb, 0, none⟩) n n] 98)).alloc (.cells #[.slice none 0 0, .slice none 0 0] 98)).alloc (.cells #[.int .i64 8, .int .u8 y2, .string y3, .bool y4, .int .i64 (x : Int), .int .i64 y6] 34)).alloc (.cells #[] 3)).cell? ((⟨cb, 0, none⟩ : Addr).add j) = some u) := by
      obtain ⟨_, ⟨h9, _⟩ | ⟨cb', ccap', cur', h9, _, h6, h5, _, _, h10⟩⟩ := CR
      · cases h9
      · simp only [Value.slice.injEq, Option.some.injEq, Addr.mk.injEq] at h9
        obtain ⟨⟨rfl, -, -⟩, -, rfl⟩ := h9
        intro j u hu
        rw [Addr.add_lit]
        have hj : j < cs.length := by have := (List.getElem?_eq_some_iff.1 hu).1; simpa using this
        refine cell_heap (hp_old h6) _ _ ?_
        have h11 : (cur'.toList.take (cs.length * 1))[j]? = some u := by rw [h10]; exact hu
        rw [List.getElem?_take, if_pos (by omega)] at h11
        rw [Nat.zero_add, ← Array.getElem?_toList]
        exact h11
    have CON : Aside (∀ u ∈ cs.map (Value.int .i64), u.oneCell' = true) := by
      intro u hu
      rw [List.mem_map] at hu
      obtain ⟨q, -, rfl⟩ := hu
      rfl
    have HOWN : Aside (((((((holds W vb (c0.setIfInBounds k (.bool true)) 4).alloc (.cells #[.slice (some ⟨ib, io, none⟩) n cap, .int .i64 g] 24)).alloc (.cells #[.slice la l.length lc, .slice (some ⟨vb, 0, none⟩) n n] 98)).alloc (.cells #[.slice none 0 0, .slice none 0 0] 98)).alloc (.cells #[.int .i64 8, .int .u8 y2, .string y3, .bool y4, .int .i64 (x : Int), .int .i64 y6] 34)).alloc (.cells #[] 3)).ownsRow (W.heap.size + 1 + 1 + 1 + 1) 3 1 (.slice (some ⟨(W.heap.size + 1 + 1 + 1 + 1), 0, none⟩) 0 0) 0 []) := by
      refine ⟨rfl, .inr ⟨(W.heap.size + 1 + 1 + 1 + 1), 0, #[], rfl, Nat.le_refl _, ?_, Nat.le_refl _, by unfold maxLen; omega, rfl, rfl⟩⟩
      exact hp_new (by simp [size_holds])
    have CLN : Aside ((cs.map (Value.int .i64)).length = m * 1) := by show _ = _; rw [List.length_map, Nat.mul_one]; exact hm
    have HMM : Aside (cs.length = m) := hm
    have hmb : m ≤ 20 := by omega
    obtain ⟨i0, hi0, hz0, hs0, hb0⟩ := intInfo
    clear SN NX HV HX HLX CR hm
    rw [HMM.out]
    go_enter Try.func54, Try.ntmps54
    go_wp2_with (at_builtin; refine wpList_append_own _ rfl _ _ 30 rfl (W.heap.size + 1 + 1 + 1 + 1) 3 i0 _ 1 8 Try.underlying30 hi0 hz0 hs0 hb0 rfl (by omega) _ _ _ rfl HOWN.out ⟨cb, 0, none⟩ m ccap (cs.map (Value.int .i64)) rfl CLN.out SLC.out CON.out (by unfold maxLen; omega) (by omega) (by simp [size_holds]) ?_)
    intro v' w5 hown hgrow _
    have hown1 : w5.ownsRow (W.heap.size + 1 + 1 + 1 + 1) 3 1 v' m (cs.map (Value.int .i64)) := by simpa using hown
    have HB5 : Aside (Below (((((holds W vb (c0.setIfInBounds k (.bool true)) 4).alloc (.cells #[.slice (some ⟨ib, io, none⟩) n cap, .int .i64 g] 24)).alloc (.cells #[.slice la l.length lc, .slice (some ⟨vb, 0, none⟩) n n] 98)).alloc (.cells #[.slice none 0 0, .slice none 0 0] 98)).alloc (.cells #[.int .i64 8, .int .u8 y2, .string y3, .bool y4, .int .i64 (x : Int), .int .i64 y6] 34)).heap.size (((((holds W vb (c0.setIfInBounds k (.bool true)) 4).alloc (.cells #[.slice (some ⟨ib, io, none⟩) n cap, .int .i64 g] 24)).alloc (.cells #[.slice la l.length lc, .slice (some ⟨vb, 0, none⟩) n n] 98)).alloc (.cells #[.slice none 0 0, .slice none 0 0] 98)).alloc (.cells #[.int .i64 8, .int .u8 y2, .string y3, .bool y4, .int .i64 (x : Int), .int .i64 y6] 34)) w5) := ((Below.refl _ _).alloc (Nat.le_refl _) _).grown hgrow (by simp [size_holds]) (fun k hk => by simp [Value.ownBlock] at hk; simp [size_holds]; omega)
    obtain ⟨_, ⟨_, h0⟩ | ⟨rb, rcap, rcur, rfl, hrb, hrh, hrn, hrm, hrz, hrt⟩⟩ := hown1
    · omega
    have X0' := heap_later X0.out HB5.out
    have X1' := heap_later X1.out HB5.out
    have X3' := heap_later X3.out HB5.out
    have d00 := cell_heap X0' 0 _ rfl
    have d01 := cell_heap X0' 1 _ rfl
    have d10 := cell_heap X1' 0 _ rfl
    have d11 := cell_heap X1' 1 _ rfl
    have d34 := cell_heap X3' 4 _ rfl
    have lrb5 : rb < w5.heap.size := (Array.getElem?_eq_some_iff.1 hrh).1
    have n0 : ¬ W.heap.size = rb := by omega
    have n1 : ¬ (W.heap.size + 1) = rb := by omega
    have n3 : ¬ (W.heap.size + 1 + 1 + 1) = rb := by omega
    have hxr : rcur[x]? = some (.int .i64 (cs.getD x 0)) := by
      have h11 : (rcur.toList.take (m * 1))[x]? = some (.int .i64 (cs.getD x 0)) := by
        rw [hrt, List.getElem?_map, List.getElem?_eq_getElem (by rw [HMM.out]; exact hxm), List.getD_eq_getElem?_getD, List.getElem?_eq_getElem (by rw [HMM.out]; exact hxm)]; rfl
      rw [List.getElem?_take, if_pos (by omega)] at h11
      rw [← Array.getElem?_toList]
      exact h11
    have lvb5 : vb < (W.heap.size + 1 + 1 + 1 + 1) := by omega
    have NEWC : Aside (Cap w0.heap.size vb (.slice (some ⟨rb, 0, none⟩) m rcap) (cs.set x (pos : Int)) (holds w5 rb (rcur.setIfInBounds x (.int .i64 (pos : Int))) 3)) := by
      refine ⟨⟨by simp, .inr ⟨rb, rcap, rcur.setIfInBounds x (.int .i64 (pos : Int)), by rw [List.length_set, HMM.out], by have := LW.out; omega, hh_eq lrb5, by rw [List.length_set, HMM.out]; exact hrn, hrm, by rw [Array.size_setIfInBounds]; exact hrz, ?_⟩⟩, fun e => by simp [Value.ownBlock] at e; omega, by rw [List.length_set]; have := HMM.out; omega⟩
      rw [Array.toList_setIfInBounds, List.length_set, HMM.out, List.take_set, hrt, List.map_set]
    have BR : Aside (Below (((((holds W vb (c0.setIfInBounds k (.bool true)) 4).alloc (.cells #[.slice (some ⟨ib, io, none⟩) n cap, .int .i64 g] 24)).alloc (.cells #[.slice la l.length lc, .slice (some ⟨vb, 0, none⟩) n n] 98)).alloc (.cells #[.slice none 0 0, .slice none 0 0] 98)).alloc (.cells #[.int .i64 8, .int .u8 y2, .string y3, .bool y4, .int .i64 (x : Int), .int .i64 y6] 34)).heap.size (((((holds W vb (c0.setIfInBounds k (.bool true)) 4).alloc (.cells #[.slice (some ⟨ib, io, none⟩) n cap, .int .i64 g] 24)).alloc (.cells #[.slice la l.length lc, .slice (some ⟨vb, 0, none⟩) n n] 98)).alloc (.cells #[.slice none 0 0, .slice none 0 0] 98)).alloc (.cells #[.int .i64 8, .int .u8 y2, .string y3, .bool y4, .int .i64 (x : Int), .int .i64 y6] 34)) (holds w5 rb (rcur.setIfInBounds x (.int .i64 (pos : Int))) 3)) := below_holds HB5.out (by simp [size_holds]; omega) _ _
    rw [holds_self hrh]
    clear hrh hrt X0' X1' X3' hown hgrow SLC HOWN CON CLN
    go_wp2_with fail
    have hks : (k : Int) + 1 = ((k + 1 : Nat) : Int) := by omega
    try rw [hks]
    clear hks
    refine (IH.out pos vb (v.set k true) la lc l (k + 1) (cs.set x (pos : Int)) _ _ ((MK1.out.later W2B.out).later BR.out) NEWC.out (by omega) (by rw [List.length_set]; exact hcs) hps hcx).mono ?_
    rintro e w9 ⟨la9, lc9, rfl, m9, k9⟩
    have M9 : Aside (TS w0 n vb _ _ _ w9) := m9
    have K9 : Aside (Kept vb vb (.slice la l.length lc) _ W w9) := MK2.out.trans ((Kept.of_below W2B.out).trans ((Kept.of_below BR.out).trans k9))
    have R9 : Aside (w9.heap[(W.heap.size + 1 + 1)]? = some (.cells #[.slice none 0 0, .slice none 0 0] 98 (0, 0))) := k9.hp (heap_later X2.out BR.out) (by omega) (by omega) (RBX.out _ (by omega))
    have lt9 : (W.heap.size + 1 + 1) < w9.heap.size := (Array.getElem?_eq_some_iff.1 R9.out).1
    clear m9 k9
    rw [holds_self R9.out]
    go_wp2
    refine bodyPost_ret (v := .agg #[.slice la9 (addF f L s.size pos (k + 1) (cs.set x (pos : Int)) (v.set k true, l)).2.length lc9, .slice (some ⟨vb, 0, none⟩) n n]) (by simp [results, Try.results54, go_sem, ↓IntWalk.iteOmega, *]) rfl ?_
    exact HQ.out _ _ _ (M9.out.other R9.out (by have := LW.out; omega) (by decide) (by decide) (by decide)) (K9.out.other (by omega) _ _)
  by_cases o4 : y1 = 4
  · subst o4
    have W2B : Aside (Below (holds W vb (c0.setIfInBounds k (.bool true)) 4).heap.size (holds W vb (c0.setIfInBounds k (.bool true)) 4) (((((holds W vb (c0.setIfInBounds k (.bool true)) 4).alloc (.cells #[.slice (some ⟨ib, io, none⟩) n cap, .int .i64 g] 24)).alloc (.cells #[.slice la l.length lc, .slice (some ⟨vb, 0, none⟩) n n] 98)).alloc (.cells #[.slice none 0 0, .slice none 0 0] 98)).alloc (.cells #[.int .i64 4, .int .u8 y2, .string y3, .bool y4, .int .i64 y5, .int .i64 y6] 34))) := by
      show Below _ _ _
      repeat (first | (with_reducible exact Below.refl _ _) | (with_reducible assumption) | (with_reducible refine below_to_plus ?_ ?_ _) | (with_reducible refine below_holds ?_ ?_ _ _) | (with_reducible refine Below.alloc ?_ ?_ _) | (with_reducible refine Below.drew ?_) | (with_reducible refine below_drewN ?_ _) | (with_reducible refine Below.setCell ?_ ?_ _))
      all_goals first | omega | (simp; done) | (simp [go_sem]; done) | (simp [go_sem]; omega)
    have hcx : (v.set k true).count false < f := by omega
    have hnp : IntKind.i64.wrap ((k : Int) + 1) = ((k + 1 : Nat) : Int) := by rw [IntKind.wrap_i64]; omega
    have X0 : Aside ((((((holds W vb (c0.setIfInBounds k (.bool true)) 4).alloc (.cells #[.slice (some ⟨ib, io, none⟩) n cap, .int .i64 g] 24)).alloc (.cells #[.slice la l.length lc, .slice (some ⟨vb, 0, none⟩) n n] 98)).alloc (.cells #[.slice none 0 0, .slice none 0 0] 98)).alloc (.cells #[.int .i64 4, .int .u8 y2, .string y3, .bool y4, .int .i64 y5, .int .i64 y6] 34)).heap[W.heap.size]? = some (.cells #[.slice (some ⟨ib, io, none⟩) n cap, .int .i64 g] 24 (0, 0))) := hp_old (hp_old (hp_old (hp_new (by simp [size_holds]))))
    have X1 : Aside ((((((holds W vb (c0.setIfInBounds k (.bool true)) 4).alloc (.cells #[.slice (some ⟨ib, io, none⟩) n cap, .int .i64 g] 24)).alloc (.cells #[.slice la l.length lc, .slice (some ⟨vb, 0, none⟩) n n] 98)).alloc (.cells #[.slice none 0 0, .slice none 0 0] 98)).alloc (.cells #[.int .i64 4, .int .u8 y2, .string y3, .bool y4, .int .i64 y5, .int .i64 y6] 34)).heap[(W.heap.size + 1)]? = some (.cells #[.slice la l.length lc, .slice (some ⟨vb, 0, none⟩) n n] 98 (0, 0))) := hp_old (hp_old (hp_new (by simp [size_holds])))
    have X2 : Aside ((((((holds W vb (c0.setIfInBounds k (.bool true)) 4).alloc (.cells #[.slice (some ⟨ib, io, none⟩) n cap, .int .i64 g] 24)).alloc (.cells #[.slice la l.length lc, .slice (some ⟨vb, 0, none⟩) n n] 98)).alloc (.cells #[.slice none 0 0, .slice none 0 0] 98)).alloc (.cells #[.int .i64 4, .int .u8 y2, .string y3, .bool y4, .int .i64 y5, .int .i64 y6] 34)).heap[(W.heap.size + 1 + 1)]? = some (.cells #[.slice none 0 0, .slice none 0 0] 98 (0, 0))) := hp_old (hp_new (by simp [size_holds]))
    have X3 : Aside ((((((holds W vb (c0.setIfInBounds k (.bool true)) 4).alloc (.cells #[.slice (some ⟨ib, io, none⟩) n cap, .int .i64 g] 24)).alloc (.cells #[.slice la l.length lc, .slice (some ⟨vb, 0, none⟩) n n] 98)).alloc (.cells #[.slice none 0 0, .slice none 0 0] 98)).alloc (.cells #[.int .i64 4, .int .u8 y2, .string y3, .bool y4, .int .i64 y5, .int .i64 y6] 34)).heap[(W.heap.size + 1 + 1 + 1)]? = some (.cells #[.int .i64 4, .int .u8 y2, .string y3, .bool y4, .int .i64 y5, .int .i64 y6] 34 (0, 0))) := hp_new (by simp [size_holds])
    by_cases hz : pos = 0
    · have ez : ((pos : Int) == 0) = true := by rw [hz]; simp
      have hkn : k + 1 < n := NX.out (by simp) (by simp)
      have e1 := HLX.out
      rw [addF_4 HV.out HX.out rfl hz] at e1
      subst e1
      clear SN NX HV HX HLX hz
      go_enter Try.func54, Try.ntmps54
      go_wp2_with fail
      have hks : (k : Int) + 1 = ((k + 1 : Nat) : Int) := by omega
      try rw [hks]
      clear hks
      refine (IH.out pos vb (v.set k true) la lc l (k + 1) cs _ _ (MK1.out.later W2B.out) (CV2.out.later W2B.out) (by omega) hcs hps hcx).mono ?_
      rintro e w9 ⟨la9, lc9, rfl, m9, k9⟩
      have M9 : Aside (TS w0 n vb _ _ _ w9) := m9
      have K9 : Aside (Kept vb vb (.slice la l.length lc) _ W w9) := MK2.out.trans ((Kept.of_below W2B.out).trans k9)
      have R9 : Aside (w9.heap[(W.heap.size + 1 + 1)]? = some (.cells #[.slice none 0 0, .slice none 0 0] 98 (0, 0))) := k9.hp X2.out (by omega) (by omega) (RBX.out _ (by omega))
      have lt9 : (W.heap.size + 1 + 1) < w9.heap.size := (Array.getElem?_eq_some_iff.1 R9.out).1
      clear m9 k9
      rw [holds_self R9.out]
      go_wp2
      refine bodyPost_ret (v := .agg #[.slice la9 (addF f L s.size pos (k + 1) cs (v.set k true, l)).2.length lc9, .slice (some ⟨vb, 0, none⟩) n n]) (by simp [results, Try.results54, go_sem, ↓IntWalk.iteOmega, *]) rfl ?_
      exact HQ.out _ _ _ (M9.out.other R9.out (by have := LW.out; omega) (by decide) (by decide) (by decide)) (K9.out.other (by omega) _ _)
    · have ez : ((pos : Int) == 0) = false := by (rw [beq_eq_false_iff_ne]; omega)
      have e1 := HLX.out
      rw [addF_4n HV.out HX.out rfl hz] at e1
      subst e1
      clear SN NX HV HX HLX hz
      go_enter Try.func54, Try.ntmps54
      go_wp2
      refine bodyPost_ret (v := .agg #[.slice la l.length lc, .slice (some ⟨vb, 0, none⟩) n n]) (by simp [results, Try.results54, go_sem, ↓IntWalk.iteOmega, *]) rfl ?_
      have hbz : Below (holds W vb (c0.setIfInBounds k (.bool true)) 4).heap.size (holds W vb (c0.setIfInBounds k (.bool true)) 4) (((((holds W vb (c0.setIfInBounds k (.bool true)) 4).alloc (.cells #[.slice (some ⟨ib, io, none⟩) n cap, .int .i64 g] 24)).alloc (.cells #[.slice la l.length lc, .slice (some ⟨vb, 0, none⟩) n n] 98)).alloc (.cells #[.slice la l.length lc, .slice (some ⟨vb, 0, none⟩) n n] 98)).alloc (.cells #[.int .i64 4, .int .u8 y2, .string y3, .bool y4, .int .i64 y5, .int .i64 y6] 34)) := by
        repeat (first | (with_reducible exact Below.refl _ _) | (with_reducible assumption) | (with_reducible refine below_to_plus ?_ ?_ _) | (with_reducible refine below_holds ?_ ?_ _ _) | (with_reducible refine Below.alloc ?_ ?_ _) | (with_reducible refine Below.drew ?_) | (with_reducible refine below_drewN ?_ _) | (with_reducible refine Below.setCell ?_ ?_ _))
        all_goals first | omega | (simp; done) | (simp [go_sem]; done) | (simp [go_sem]; omega)
      exact HQ.out _ _ _ (MK1.out.later hbz) (MK2.out.trans (Kept.of_below hbz))
  by_cases o5 : y1 = 5
  · subst o5
    have W2B : Aside (Below (holds W vb (c0.setIfInBounds k (.bool true)) 4).heap.size (holds W vb (c0.setIfInBounds k (.bool true)) 4) (((((holds W vb (c0.setIfInBounds k (.bool true)) 4).alloc (.cells #[.slice (some ⟨ib, io, none⟩) n cap, .int .i64 g] 24)).alloc (.cells #[.slice la l.length lc, .slice (some ⟨vb, 0, none⟩) n n] 98)).alloc (.cells #[.slice none 0 0, .slice none 0 0] 98)).alloc (.cells #[.int .i64 5, .int .u8 y2, .string y3, .bool y4, .int .i64 y5, .int .i64 y6] 34))) := by
      show Below _ _ _
      repeat (first | (with_reducible exact Below.refl _ _) | (with_reducible assumption) | (with_reducible refine below_to_plus ?_ ?_ _) | (with_reducible refine below_holds ?_ ?_ _ _) | (with_reducible refine Below.alloc ?_ ?_ _) | (with_reducible refine Below.drew ?_) | (with_reducible refine below_drewN ?_ _) | (with_reducible refine Below.setCell ?_ ?_ _))
      all_goals first | omega | (simp; done) | (simp [go_sem]; done) | (simp [go_sem]; omega)
    have hcx : (v.set k true).count false < f := by omega
    have hnp : IntKind.i64.wrap ((k : Int) + 1) = ((k + 1 : Nat) : Int) := by rw [IntKind.wrap_i64]; omega
    have X0 : Aside ((((((holds W vb (c0.setIfInBounds k (.bool true)) 4).alloc (.cells #[.slice (some ⟨ib, io, none⟩) n cap, .int .i64 g] 24)).alloc (.cells #[.slice la l.length lc, .slice (some ⟨vb, 0, none⟩) n n] 98)).alloc (.cells #[.slice none 0 0, .slice none 0 0] 98)).alloc (.cells #[.int .i64 5, .int .u8 y2, .string y3, .bool y4, .int .i64 y5, .int .i64 y6] 34)).heap[W.heap.size]? = some (.cells #[.slice (some ⟨ib, io, none⟩) n cap, .int .i64 g] 24 (0, 0))) := hp_old (hp_old (hp_old (hp_new (by simp [size_holds]))))
    have X1 : Aside ((((((holds W vb (c0.setIfInBounds k (.bool true)) 4).alloc (.cells #[.slice (some ⟨ib, io, none⟩) n cap, .int .i64 g] 24)).alloc (.cells #[.slice la l.length lc, .slice (some ⟨vb, 0, none⟩) n n] 98)).alloc (.cells #[.slice none 0 0, .slice none 0 0] 98)).alloc (.cells #[.int .i64 5, .int .u8 y2, .string y3, .bool y4, .int .i64 y5, .int .i64 y6] 34)).heap[(W.heap.size + 1)]? = some (.cells #[.slice la l.length lc, .slice (some ⟨vb, 0, none⟩) n n] 98 (0, 0))) := hp_old (hp_old (hp_new (by simp [size_holds])))
    have X2 : Aside ((((((holds W vb (c0.setIfInBounds k (.bool true)) 4).alloc (.cells #[.slice (some ⟨ib, io, none⟩) n cap, .int .i64 g] 24)).alloc (.cells #[.slice la l.length lc, .slice (some ⟨vb, 0, none⟩) n n] 98)).alloc (.cells #[.slice none 0 0, .slice none 0 0] 98)).alloc (.cells #[.int .i64 5, .int .u8 y2, .string y3, .bool y4, .int .i64 y5, .int .i64 y6] 34)).heap[(W.heap.size + 1 + 1)]? = some (.cells #[.slice none 0 0, .slice none 0 0] 98 (0, 0))) := hp_old (hp_new (by simp [size_holds]))
    have X3 : Aside ((((((holds W vb (c0.setIfInBounds k (.bool true)) 4).alloc (.cells #[.slice (some ⟨ib, io, none⟩) n cap, .int .i64 g] 24)).alloc (.cells #[.slice la l.length lc, .slice (some ⟨vb, 0, none⟩) n n] 98)).alloc (.cells #[.slice none 0 0, .slice none 0 0] 98)).alloc (.cells #[.int .i64 5, .int .u8 y2, .string y3, .bool y4, .int .i64 y5, .int .i64 y6] 34)).heap[(W.heap.size + 1 + 1 + 1)]? = some (.cells #[.int .i64 5, .int .u8 y2, .string y3, .bool y4, .int .i64 y5, .int .i64 y6] 34 (0, 0))) := hp_new (by simp [size_holds])
    by_cases hz : pos = s.size
    · have ez : ((pos : Int) == (s.size : Int)) = true := by rw [hz]; simp
      have hkn : k + 1 < n := NX.out (by simp) (by simp)
      have e1 := HLX.out
      rw [addF_5 HV.out HX.out rfl hz] at e1
      subst e1
      clear SN NX HV HX HLX hz
      go_enter Try.func54, Try.ntmps54
      go_wp2_with fail
      have hks : (k : Int) + 1 = ((k + 1 : Nat) : Int) := by omega
      try rw [hks]
      clear hks
      refine (IH.out pos vb (v.set k true) la lc l (k + 1) cs _ _ (MK1.out.later W2B.out) (CV2.out.later W2B.out) (by omega) hcs hps hcx).mono ?_
      rintro e w9 ⟨la9, lc9, rfl, m9, k9⟩
      have M9 : Aside (TS w0 n vb _ _ _ w9) := m9
      have K9 : Aside (Kept vb vb (.slice la l.length lc) _ W w9) := MK2.out.trans ((Kept.of_below W2B.out).trans k9)
      have R9 : Aside (w9.heap[(W.heap.size + 1 + 1)]? = some (.cells #[.slice none 0 0, .slice none 0 0] 98 (0, 0))) := k9.hp X2.out (by omega) (by omega) (RBX.out _ (by omega))
      have lt9 : (W.heap.size + 1 + 1) < w9.heap.size := (Array.getElem?_eq_some_iff.1 R9.out).1
      clear m9 k9
      rw [holds_self R9.out]
      go_wp2
      refine bodyPost_ret (v := .agg #[.slice la9 (addF f L s.size pos (k + 1) cs (v.set k true, l)).2.length lc9, .slice (some ⟨vb, 0, none⟩) n n]) (by simp [results, Try.results54, go_sem, ↓IntWalk.iteOmega, *]) rfl ?_
      exact HQ.out _ _ _ (M9.out.other R9.out (by have := LW.out; omega) (by decide) (by decide) (by decide)) (K9.out.other (by omega) _ _)
    · have ez : ((pos : Int) == (s.size : Int)) = false := by (rw [beq_eq_false_iff_ne]; omega)
      have e1 := HLX.out
      rw [addF_5n HV.out HX.out rfl hz] at e1
      subst e1
      clear SN NX HV HX HLX hz
      go_enter Try.func54, Try.ntmps54
      go_wp2
      refine bodyPost_ret (v := .agg #[.slice la l.length lc, .slice (some ⟨vb, 0, none⟩) n n]) (by simp [results, Try.results54, go_sem, ↓IntWalk.iteOmega, *]) rfl ?_
      have hbz : Below (holds W vb (c0.setIfInBounds k (.bool true)) 4).heap.size (holds W vb (c0.setIfInBounds k (.bool true)) 4) (((((holds W vb (c0.setIfInBounds k (.bool true)) 4).alloc (.cells #[.slice (some ⟨ib, io, none⟩) n cap, .int .i64 g] 24)).alloc (.cells #[.slice la l.length lc, .slice (some ⟨vb, 0, none⟩) n n] 98)).alloc (.cells #[.slice la l.length lc, .slice (some ⟨vb, 0, none⟩) n n] 98)).alloc (.cells #[.int .i64 5, .int .u8 y2, .string y3, .bool y4, .int .i64 y5, .int .i64 y6] 34)) := by
        repeat (first | (with_reducible exact Below.refl _ _) | (with_reducible assumption) | (with_reducible refine below_to_plus ?_ ?_ _) | (with_reducible refine below_holds ?_ ?_ _ _) | (with_reducible refine Below.alloc ?_ ?_ _) | (with_reducible refine Below.drew ?_) | (with_reducible refine below_drewN ?_ _) | (with_reducible refine Below.setCell ?_ ?_ _))
        all_goals first | omega | (simp; done) | (simp [go_sem]; done) | (simp [go_sem]; omega)
      exact HQ.out _ _ _ (MK1.out.later hbz) (MK2.out.trans (Kept.of_below hbz))
  have e7 : (y1 == 7) = false := by simpa using o7
  have f7 : decide (y1 = 7) = false := decide_eq_false o7
  have e6 : (y1 == 6) = false := by simpa using o6
  have f6 : decide (y1 = 6) = false := decide_eq_false o6
  have e8 : (y1 == 8) = false := by simpa using o8
  have f8 : decide (y1 = 8) = false := decide_eq_false o8
  have e4 : (y1 == 4) = false := by simpa using o4
  have f4 : decide (y1 = 4) = false := decide_eq_false o4
  have e5 : (y1 == 5) = false := by simpa using o5
  have f5 : decide (y1 = 5) = false := decide_eq_false o5
  have e1 := HLX.out
  rw [addF_o HV.out HX.out o7 o6 o8 o4 o5] at e1
  subst e1
  have W2B : Aside (Below (holds W vb (c0.setIfInBounds k (.bool true)) 4).heap.size (holds W vb (c0.setIfInBounds k (.bool true)) 4) (((((holds W vb (c0.setIfInBounds k (.bool true)) 4).alloc (.cells #[.slice (some ⟨ib, io, none⟩) n cap, .int .i64 g] 24)).alloc (.cells #[.slice la l.length lc, .slice (some ⟨vb, 0, none⟩) n n] 98)).alloc (.cells #[.slice none 0 0, .slice none 0 0] 98)).alloc (.cells #[.int .i64 y1, .int .u8 y2, .string y3, .bool y4, .int .i64 y5, .int .i64 y6] 34))) := by
    show Below _ _ _
    repeat (first | (with_reducible exact Below.refl _ _) | (with_reducible assumption) | (with_reducible refine below_to_plus ?_ ?_ _) | (with_reducible refine below_holds ?_ ?_ _ _) | (with_reducible refine Below.alloc ?_ ?_ _) | (with_reducible refine Below.drew ?_) | (with_reducible refine below_drewN ?_ _) | (with_reducible refine Below.setCell ?_ ?_ _))
    all_goals first | omega | (simp; done) | (simp [go_sem]; done) | (simp [go_sem]; omega)
  have hcx : (v.set k true).count false < f := by omega
  have hnp : IntKind.i64.wrap ((k : Int) + 1) = ((k + 1 : Nat) : Int) := by rw [IntKind.wrap_i64]; omega
  have X0 : Aside ((((((holds W vb (c0.setIfInBounds k (.bool true)) 4).alloc (.cells #[.slice (some ⟨ib, io, none⟩) n cap, .int .i64 g] 24)).alloc (.cells #[.slice la l.length lc, .slice (some ⟨vb, 0, none⟩) n n] 98)).alloc (.cells #[.slice none 0 0, .slice none 0 0] 98)).alloc (.cells #[.int .i64 y1, .int .u8 y2, .string y3, .bool y4, .int .i64 y5, .int .i64 y6] 34)).heap[W.heap.size]? = some (.cells #[.slice (some ⟨ib, io, none⟩) n cap, .int .i64 g] 24 (0, 0))) := hp_old (hp_old (hp_old (hp_new (by simp [size_holds]))))
  have X1 : Aside ((((((holds W vb (c0.setIfInBounds k (.bool true)) 4).alloc (.cells #[.slice (some ⟨ib, io, none⟩) n cap, .int .i64 g] 24)).alloc (.cells #[.slice la l.length lc, .slice (some ⟨vb, 0, none⟩) n n] 98)).alloc (.cells #[.slice none 0 0, .slice none 0 0] 98)).alloc (.cells #[.int .i64 y1, .int .u8 y2, .string y3, .bool y4, .int .i64 y5, .int .i64 y6] 34)).heap[(W.heap.size + 1)]? = some (.cells #[.slice la l.length lc, .slice (some ⟨vb, 0, none⟩) n n] 98 (0, 0))) := hp_old (hp_old (hp_new (by simp [size_holds])))
  have X2 : Aside ((((((holds W vb (c0.setIfInBounds k (.bool true)) 4).alloc (.cells #[.slice (some ⟨ib, io, none⟩) n cap, .int .i64 g] 24)).alloc (.cells #[.slice la l.length lc, .slice (some ⟨vb, 0, none⟩) n n] 98)).alloc (.cells #[.slice none 0 0, .slice none 0 0] 98)).alloc (.cells #[.int .i64 y1, .int .u8 y2, .string y3, .bool y4, .int .i64 y5, .int .i64 y6] 34)).heap[(W.heap.size + 1 + 1)]? = some (.cells #[.slice none 0 0, .slice none 0 0] 98 (0, 0))) := hp_old (hp_new (by simp [size_holds]))
  have X3 : Aside ((((((holds W vb (c0.setIfInBounds k (.bool true)) 4).alloc (.cells #[.slice (some ⟨ib, io, none⟩) n cap, .int .i64 g] 24)).alloc (.cells #[.slice la l.length lc, .slice (some ⟨vb, 0, none⟩) n n] 98)).alloc (.cells #[.slice none 0 0, .slice none 0 0] 98)).alloc (.cells #[.int .i64 y1, .int .u8 y2, .string y3, .bool y4, .int .i64 y5, .int .i64 y6] 34)).heap[(W.heap.size + 1 + 1 + 1)]? = some (.cells #[.int .i64 y1, .int .u8 y2, .string y3, .bool y4, .int .i64 y5, .int .i64 y6] 34 (0, 0))) := hp_new (by simp [size_holds])
  have HQ2 : Aside (∀ W' la' lc', TS w0 n vb (v.set k true) (.slice la' (l.length + 1) lc') (l ++ [(k, cs)]) W' → Kept vb vb (.slice la l.length lc) (.slice la' (l.length + 1) lc') W W' → Q (.returned (.agg #[.slice la' (l.length + 1) lc', .slice (some ⟨vb, 0, none⟩) n n])) W') := by
    have h := HQ.out
    simp only [List.length_append, List.length_cons, List.length_nil, Nat.zero_add] at h
    exact h
  clear HQ
  obtain ⟨i0, hi0, hz0, hs0, hb0⟩ := rthInfo
  have W3B : Aside (Below (((((holds W vb (c0.setIfInBounds k (.bool true)) 4).alloc (.cells #[.slice (some ⟨ib, io, none⟩) n cap, .int .i64 g] 24)).alloc (.cells #[.slice la l.length lc, .slice (some ⟨vb, 0, none⟩) n n] 98)).alloc (.cells #[.slice none 0 0, .slice none 0 0] 98)).alloc (.cells #[.int .i64 y1, .int .u8 y2, .string y3, .bool y4, .int .i64 y5, .int .i64 y6] 34)).heap.size (((((holds W vb (c0.setIfInBounds k (.bool true)) 4).alloc (.cells #[.slice (some ⟨ib, io, none⟩) n cap, .int .i64 g] 24)).alloc (.cells #[.slice la l.length lc, .slice (some ⟨vb, 0, none⟩) n n] 98)).alloc (.cells #[.slice none 0 0, .slice none 0 0] 98)).alloc (.cells #[.int .i64 y1, .int .u8 y2, .string y3, .bool y4, .int .i64 y5, .int .i64 y6] 34)) ((((((holds W vb (c0.setIfInBounds k (.bool true)) 4).alloc (.cells #[.slice (some ⟨ib, io, none⟩) n cap, .int .i64 g] 24)).alloc (.cells #[.slice la l.length lc, .slice (some ⟨vb, 0, none⟩) n n] 98)).alloc (.cells #[.slice none 0 0, .slice none 0 0] 98)).alloc (.cells #[.int .i64 y1, .int .u8 y2, .string y3, .bool y4, .int .i64 y5, .int .i64 y6] 34)).alloc (.cells #[.int .i64 (k : Int), (.slice (some ⟨cb, 0, none⟩) cs.length ccap)] 102))) := Below.alloc (Below.refl _ _) (Nat.le_refl _) _
  have MS3 := (MK1.out.later W2B.out).later W3B.out
  have CV3A : Aside (Cap w0.heap.size vb (.slice (some ⟨cb, 0, none⟩) cs.length ccap) cs ((((((holds W vb (c0.setIfInBounds k (.bool true)) 4).alloc (.cells #[.slice (some ⟨ib, io, none⟩) n cap, .int .i64 g] 24)).alloc (.cells #[.slice la l.length lc, .slice (some ⟨vb, 0, none⟩) n n] 98)).alloc (.cells #[.slice none 0 0, .slice none 0 0] 98)).alloc (.cells #[.int .i64 y1, .int .u8 y2, .string y3, .bool y4, .int .i64 y5, .int .i64 y6] 34)).alloc (.cells #[.int .i64 (k : Int), (.slice (some ⟨cb, 0, none⟩) cs.length ccap)] 102))) := (CV2.out.later W2B.out).later W3B.out
  obtain ⟨ms, r1, r2⟩ := MS3.row
  have eml : ms.length = l.length := All2.len r2
  have R1 : Aside (((((((holds W vb (c0.setIfInBounds k (.bool true)) 4).alloc (.cells #[.slice (some ⟨ib, io, none⟩) n cap, .int .i64 g] 24)).alloc (.cells #[.slice la l.length lc, .slice (some ⟨vb, 0, none⟩) n n] 98)).alloc (.cells #[.slice none 0 0, .slice none 0 0] 98)).alloc (.cells #[.int .i64 y1, .int .u8 y2, .string y3, .bool y4, .int .i64 y5, .int .i64 y6] 34)).alloc (.cells #[.int .i64 (k : Int), (.slice (some ⟨cb, 0, none⟩) cs.length ccap)] 102)).ownsRow w0.heap.size 102 2 (.slice la l.length lc) ms.length (flatE ThM.enc ms)) := r1
  have R1b : Aside (((((((holds W vb (c0.setIfInBounds k (.bool true)) 4).alloc (.cells #[.slice (some ⟨ib, io, none⟩) n cap, .int .i64 g] 24)).alloc (.cells #[.slice la l.length lc, .slice (some ⟨vb, 0, none⟩) n n] 98)).alloc (.cells #[.slice none 0 0, .slice none 0 0] 98)).alloc (.cells #[.int .i64 y1, .int .u8 y2, .string y3, .bool y4, .int .i64 y5, .int .i64 y6] 34)).alloc (.cells #[.int .i64 (k : Int), (.slice (some ⟨cb, 0, none⟩) cs.length ccap)] 102)).ownsRow w0.heap.size 102 2 (.slice la l.length lc) l.length (flatE ThM.enc ms)) := by
    have h := r1
    rw [eml] at h
    exact h
  have R2 : Aside (All2 (fun m t => m.k = t.1 ∧ Cap w0.heap.size vb m.v t.2 ((((((holds W vb (c0.setIfInBounds k (.bool true)) 4).alloc (.cells #[.slice (some ⟨ib, io, none⟩) n cap, .int .i64 g] 24)).alloc (.cells #[.slice la l.length lc, .slice (some ⟨vb, 0, none⟩) n n] 98)).alloc (.cells #[.slice none 0 0, .slice none 0 0] 98)).alloc (.cells #[.int .i64 y1, .int .u8 y2, .string y3, .bool y4, .int .i64 y5, .int .i64 y6] 34)).alloc (.cells #[.int .i64 (k : Int), (.slice (some ⟨cb, 0, none⟩) cs.length ccap)] 102))) ms l) := r2
  have MS3A : Aside (TS w0 n vb (v.set k true) (.slice la l.length lc) l ((((((holds W vb (c0.setIfInBounds k (.bool true)) 4).alloc (.cells #[.slice (some ⟨ib, io, none⟩) n cap, .int .i64 g] 24)).alloc (.cells #[.slice la l.length lc, .slice (some ⟨vb, 0, none⟩) n n] 98)).alloc (.cells #[.slice none 0 0, .slice none 0 0] 98)).alloc (.cells #[.int .i64 y1, .int .u8 y2, .string y3, .bool y4, .int .i64 y5, .int .i64 y6] 34)).alloc (.cells #[.int .i64 (k : Int), (.slice (some ⟨cb, 0, none⟩) cs.length ccap)] 102))) := MS3
  have CNT : Aside (l.length + 1 + (v.set k true).count false ≤ (v.set k true).length) := by
    have := HM.out.cnt
    have hh := hcn
    show _ ≤ _
    rw [List.length_set]
    omega
  have hml : l.length ≤ 1024 := by
    have := HCN.out
    omega
  have EML : Aside (ms.length = l.length) := eml
  have H1 : Aside (((((((holds W vb (c0.setIfInBounds k (.bool true)) 4).alloc (.cells #[.slice (some ⟨ib, io, none⟩) n cap, .int .i64 g] 24)).alloc (.cells #[.slice la l.length lc, .slice (some ⟨vb, 0, none⟩) n n] 98)).alloc (.cells #[.slice none 0 0, .slice none 0 0] 98)).alloc (.cells #[.int .i64 y1, .int .u8 y2, .string y3, .bool y4, .int .i64 y5, .int .i64 y6] 34)).alloc (.cells #[.int .i64 (k : Int), (.slice (some ⟨cb, 0, none⟩) cs.length ccap)] 102)).heap[(W.heap.size + 1)]? = some (.cells #[.slice la l.length lc, .slice (some ⟨vb, 0, none⟩) n n] 98 (0, 0))) := hp_old X1.out
  have H2 : Aside (((((((holds W vb (c0.setIfInBounds k (.bool true)) 4).alloc (.cells #[.slice (some ⟨ib, io, none⟩) n cap, .int .i64 g] 24)).alloc (.cells #[.slice la l.length lc, .slice (some ⟨vb, 0, none⟩) n n] 98)).alloc (.cells #[.slice none 0 0, .slice none 0 0] 98)).alloc (.cells #[.int .i64 y1, .int .u8 y2, .string y3, .bool y4, .int .i64 y5, .int .i64 y6] 34)).alloc (.cells #[.int .i64 (k : Int), (.slice (some ⟨cb, 0, none⟩) cs.length ccap)] 102)).heap[(W.heap.size + 1 + 1)]? = some (.cells #[.slice none 0 0, .slice none 0 0] 98 (0, 0))) := hp_old X2.out
  have SW3 : Aside (((((((holds W vb (c0.setIfInBounds k (.bool true)) 4).alloc (.cells #[.slice (some ⟨ib, io, none⟩) n cap, .int .i64 g] 24)).alloc (.cells #[.slice la l.length lc, .slice (some ⟨vb, 0, none⟩) n n] 98)).alloc (.cells #[.slice none 0 0, .slice none 0 0] 98)).alloc (.cells #[.int .i64 y1, .int .u8 y2, .string y3, .bool y4, .int .i64 y5, .int .i64 y6] 34)).alloc (.cells #[.int .i64 (k : Int), (.slice (some ⟨cb, 0, none⟩) cs.length ccap)] 102)).heap.size = W.heap.size + 1 + 1 + 1 + 1 + 1) := by show _ = _; simp [size_holds]
  have LWA := LW.out
  clear SN NX HV HX HLX o7 o6 o8 o4 o5 MS3 r1 r2 eml
  go_enter Try.func54, Try.ntmps54
  go_wp2_with (at_builtin; refine wpList_append_lies _ rfl _ _ 95 rfl w0.heap.size 102 i0 _ 2 32 Try.underlying95 hi0 hz0 hs0 hb0 rfl (by omega) (.slice la l.length lc) l.length (flatE ThM.enc ms) rfl R1b.out ⟨(W.heap.size + 1 + 1 + 1 + 1), 0, none⟩ 1 1 [.int .i64 (k : Int), (.slice (some ⟨cb, 0, none⟩) cs.length ccap)] rfl rfl (cells_new _ _ _ _ (by simp [size_holds])) (by intro u hu; simp only [List.mem_cons, List.not_mem_nil, or_false] at hu; rcases hu with rfl | rfl; rfl; rfl) (by omega) (by unfold maxLen; omega) (by omega) (by simp [size_holds]; omega) _ rfl ?_; intro gg cap2 w9 hown hgrow hat hlt; have hg1 : w9.heap[(W.heap.size + 1)]? = some (.cells #[.slice la l.length lc, .slice (some ⟨vb, 0, none⟩) n n] 98 (0, 0)) := (hgrow.block (W.heap.size + 1) (by have := SW3.out; omega) (fun e => RBX.out (W.heap.size + 1) (by omega) e.symm)).trans H1.out; have hg2 : w9.heap[(W.heap.size + 1 + 1)]? = some (.cells #[.slice none 0 0, .slice none 0 0] 98 (0, 0)) := (hgrow.block (W.heap.size + 1 + 1) (by have := SW3.out; omega) (fun e => RBX.out (W.heap.size + 1 + 1) (by omega) e.symm)).trans H2.out; have HG1 : Aside _ := hg1; have HG2 : Aside _ := hg2; have HGR : Aside _ := hgrow; have HOW : Aside _ := hown; have HAT : Aside _ := hat; have ltw1 : (W.heap.size + 1) < w9.heap.size := (Array.getElem?_eq_some_iff.1 hg1).1; have ltw2 : (W.heap.size + 1 + 1) < w9.heap.size := (Array.getElem?_eq_some_iff.1 hg2).1; rw [holds_add (holds_self hg1) hg2]; clear hg1 hg2 hgrow hown hat)
  have PP := MS3A.out.push (k := k) (cv := .slice (some ⟨cb, 0, none⟩) cs.length ccap) (cs := cs) (lv' := .slice (some ⟨gg, 0, none⟩) (l.length + 1) cap2) R2.out R1.out CV3A.out HGR.out (fun b hb e => by
    rcases HAT.out with h | h
    · rw [h]; exact e
    · have : gg = b := by simpa [Value.ownBlock] using e
      omega) (by rw [List.length_append, flatE_snoc, EML.out]; exact HOW.out) CNT.out
  have PA : Aside _ := PP
  clear PP
  refine bodyPost_ret (v := .agg #[.slice (some ⟨gg, 0, none⟩) (l.length + 1) cap2, .slice (some ⟨vb, 0, none⟩) n n]) (by simp [results, Try.results54, go_sem, ↓IntWalk.iteOmega, *]) rfl ?_
  exact HQ2.out _ _ _ ((PA.out.1.other HG1.out (by omega) (by decide) (by decide) (by decide)).other (hh_ne (by omega) HG2.out) (by omega) (by decide) (by decide) (by decide)) (((MK2.out.trans ((Kept.of_below W2B.out).trans ((Kept.of_below W3B.out).trans PA.out.2))).other (by omega) _ _).other (by omega) _ _)

theorem radd_calls (w0 : World) (L : List In) (ao : Option Addr) (cap : Nat) (g : Int) (s : ByteArray) (E : AEnv w0 L ao g s) : ∀ f, RAddOK w0 L ao cap g s f
  | 0 => fun _ _ _ _ _ _ _ _ _ _ _ _ _ _ _ h => absurd h (Nat.not_lt_zero _)
  | f + 1 => radd_step w0 L ao cap g s E f (radd_calls w0 L ao cap g s E f)

end Go.Proofs.Ytfhccmegobbnaaa
