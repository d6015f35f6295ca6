/- This text proves a rule for a region that draws its order, in which some operations read old memory or call functions that answer alike in every larger world, some (the special ones) lay new memory, and the last ones stand in a forced order. It has no conditions. -/
import Derived.Test.YtfhccmegobbnaaaKit
import Derived.StillTail
namespace Go.Proofs.Ytfhccmegobbnaaa
open Go.RowKit

/-- What is known of a special operation's value v, of the new blocks lo, .., hi - 1 that it laid, and of a later world. -/
abbrev SpecV := Value → Nat → Nat → World → Prop
def SpecV.Mono (V : SpecV) : Prop := ∀ v lo hi w w', V v lo hi w → Below w.heap.size w w' → V v lo hi w'

def specUpon (P : Program) (V : SpecV) (w : World) : Result Next → Prop
  | .ok (.value u) w' => Below w.heap.size w w' ∧ V u w.heap.size w'.heap.size w'
  | .ok (.enter f args) w' => w' = w ∧ Calls P f args w (fun e w'' => ∃ v, e = .returned v ∧ Below w.heap.size w w'' ∧ V v w.heap.size w''.heap.size w'')
  | _ => False
def specAt (P : Program) (o : Oper) (a : Act) (V : SpecV) (w : World) : Prop := specUpon P V w ((execOp a.eval o).run P w)

/-- More blocks. (A name that the walk does not open.) -/
def Grew (w w' : World) : Prop := Below w.heap.size w w'
/-- A tame operation: one value in every world of the class; a call only adds memory. -/
@[go_sem] def tameUpon (P : Program) (w : World) (v : Value) : Result Next → Prop
  | .ok (.value u) w' => w' = w ∧ u = v
  | .ok .skip w' => w' = w ∧ v = undef
  | .ok (.enter f args) w' => w' = w ∧ Calls P f args w (fun e w'' => e = .returned v ∧ Grew w w'')
  | _ => False
@[go_sem] def tameAt (P : Program) (o : Oper) (a : Act) (w : World) (v : Value) : Prop := tameUpon P w v ((execOp a.eval o).run P w)
@[go_sem] def tame (P : Program) (o : Oper) (a : Act) (C : World → Prop) (next : Act → Prop) : Prop := ∃ v, (∀ w, C w → tameAt P o a w v) ∧ next (a.put o.dst v)

/-- The walk of the head in the order of the text; a special operation leaves its slot as it was. -/
def wpMix (P : Program) (ops : Array Oper) (C : World → Prop) (S : List Nat) (Q : List (Option Tmp × SpecV) → Act → Prop) : List Oper → Nat → List (Option Tmp × SpecV) → Act → Prop
  | [], _, acc, a => Q acc a
  | o :: rest, k, acc, a =>
    if S.contains k then Region.wanted o (yielded ops a.tmps) = true ∧ ∃ V : SpecV, V.Mono ∧ (∀ w, C w → specAt P o a V w) ∧ wpMix P ops C S Q rest (k + 1) (acc ++ [(o.dst, V)]) a
    else if Region.wanted o (yielded ops a.tmps) then tame P o a C (wpMix P ops C S Q rest (k + 1) acc) else wpMix P ops C S Q rest (k + 1) acc (a.put o.dst undef)

/-- What stands behind the head: the special values, one at a time, each with blocks of its own; then the tail. -/
def SpecEnd (P : Program) (ops : Array Oper) (Q' : Exit → Act → World → Prop) (tail : List Oper) : List (Option Tmp × SpecV) → List (Nat × Nat) → Act → World → Prop
  | [], _, a, w => wpList P ops Q' tail a w
  | (d, V) :: rest, ivs, a, w => ∀ v lo hi, V v lo hi w → lo ≤ hi → hi ≤ w.heap.size → (∀ p ∈ ivs, p.2 ≤ lo ∨ hi ≤ p.1) → SpecEnd P ops Q' tail rest (ivs ++ [(lo, hi)]) (a.put d v) w

section
variable {P : Program} {ops : Array Oper} {C : World → Prop} {S : List Nat}

theorem mix_quiet {Q : List (Option Tmp × SpecV) → Act → Prop} {o : Oper} {rest : List Oper} {k : Nat} {acc : List (Option Tmp × SpecV)} {a : Act} (hs : S.contains k = false) (hw : Region.wanted o (yielded ops a.tmps) = true)
    (h : ∀ K : Act → Prop, (∀ a, wpMix P ops C S Q rest (k + 1) acc a → K a) → tame P o a C K) : wpMix P ops C S Q (o :: rest) k acc a := by
  unfold wpMix
  rw [if_neg (by rw [hs]; exact Bool.false_ne_true), if_pos hw]
  exact h _ (fun _ h => h)
theorem mix_skip {Q : List (Option Tmp × SpecV) → Act → Prop} {o : Oper} {rest : List Oper} {k : Nat} {acc : List (Option Tmp × SpecV)} {a : Act} (hs : S.contains k = false) (hw : Region.wanted o (yielded ops a.tmps) = false)
    (h : wpMix P ops C S Q rest (k + 1) acc (a.put o.dst undef)) : wpMix P ops C S Q (o :: rest) k acc a := by
  unfold wpMix
  rw [if_neg (by rw [hs]; exact Bool.false_ne_true), if_neg (by rw [hw]; exact Bool.false_ne_true)]
  exact h
theorem mix_spec {Q : List (Option Tmp × SpecV) → Act → Prop} {o : Oper} {rest : List Oper} {k : Nat} {acc : List (Option Tmp × SpecV)} {a : Act} (hs : S.contains k = true) (hw : Region.wanted o (yielded ops a.tmps) = true)
    (V : SpecV) (hm : V.Mono) (hv : ∀ w, C w → specAt P o a V w) (h : wpMix P ops C S Q rest (k + 1) (acc ++ [(o.dst, V)]) a) : wpMix P ops C S Q (o :: rest) k acc a := by
  unfold wpMix
  rw [if_pos hs]
  exact ⟨hw, V, hm, hv, h⟩
theorem mix_nil {Q : List (Option Tmp × SpecV) → Act → Prop} {k : Nat} {acc : List (Option Tmp × SpecV)} {a : Act} (h : Q acc a) : wpMix P ops C S Q [] k acc a := h

/-- The closed look at the region. -/
def mixB (md : Region.Mode) (ops : Array Oper) (n : Nat) (S : List Nat) : Bool :=
  Region.noSelect ops && decide (n < ops.size) && Region.sinkB md ops n && Region.chainB md ops n &&
  Region.seqB md ops (ops.size - n) n (Array.replicate n true ++ Array.replicate (ops.size - n) false) &&
  (List.range n).all fun i => match ops[i]? with
    | none => true
    | some oi => (oi.after.all fun e => !Region.binds md e || decide (e.on < i)) &&
      (List.range n).all fun j => match ops[j]? with
        | none => true
        | some oj => match oi.dst with
          | none => true
          | some d => (decide (i = j) || oj.dst != some d) && (!(oj.looksAt ops).contains d || (!S.contains i && oj.after.any fun e => Region.binds md e && e.on == i))

structure MixOk (md : Region.Mode) (ops : Array Oper) (n : Nat) (S : List Nat) : Prop where
  sel : Region.noSelect ops = true
  lt : n < ops.size
  sink : Region.sinkB md ops n = true
  wait : ∀ listed, HeadInv md ops n listed → ∀ i, i < n → listed.getD i true = false → ∀ t, n ≤ t → t ∉ Region.ready md ops listed
  acyc : ∀ i oi, i < n → ops[i]? = some oi → ∀ e ∈ oi.after, Region.binds md e = true → e.on < i
  ne : ∀ i oi j oj d, i < n → j < n → ops[i]? = some oi → ops[j]? = some oj → oi.dst = some d → i ≠ j → oj.dst ≠ some d
  dep : ∀ i oi j oj d, i < n → j < n → ops[i]? = some oi → ops[j]? = some oj → oi.dst = some d → d ∈ oj.looksAt ops → S.contains i = false ∧ ∃ e ∈ oj.after, Region.binds md e = true ∧ e.on = i

theorem mixOk_of {md : Region.Mode} {n : Nat} (h1 : Region.noSelect ops = true) (h2 : n < ops.size) (h3 : Region.sinkB md ops n = true)
    (h4 : ∀ listed, HeadInv md ops n listed → ∀ i, i < n → listed.getD i true = false → ∀ t, n ≤ t → t ∉ Region.ready md ops listed)
    (h6 : ((List.range n).all fun i => match ops[i]? with
    | none => true
    | some oi => (oi.after.all fun e => !Region.binds md e || decide (e.on < i)) &&
      (List.range n).all fun j => match ops[j]? with
        | none => true
        | some oj => match oi.dst with
          | none => true
          | some d => (decide (i = j) || oj.dst != some d) && (!(oj.looksAt ops).contains d || (!S.contains i && oj.after.any fun e => Region.binds md e && e.on == i))) = true) : MixOk md ops n S := by
  have key : ∀ i oi, i < n → ops[i]? = some oi → (∀ e ∈ oi.after, Region.binds md e = true → e.on < i) ∧
      ∀ j oj d, j < n → ops[j]? = some oj → oi.dst = some d → (i ≠ j → oj.dst ≠ some d) ∧ (d ∈ oj.looksAt ops → S.contains i = false ∧ ∃ e ∈ oj.after, Region.binds md e = true ∧ e.on = i) := by
    intro i oi hi hoi
    have h7 := List.all_eq_true.1 h6 i (List.mem_range.2 hi)
    simp only [hoi, Bool.and_eq_true] at h7
    obtain ⟨h8, h9⟩ := h7
    refine ⟨fun e he hb => ?_, fun j oj d hj hoj hd => ?_⟩
    · have := Array.all_eq_true_iff_forall_mem.1 h8 e he
      simpa [hb] using this
    · have h10 := List.all_eq_true.1 h9 j (List.mem_range.2 hj)
      simp only [hoj, hd, Bool.and_eq_true, Bool.or_eq_true, decide_eq_true_eq, Bool.not_eq_true'] at h10
      obtain ⟨h11, h12⟩ := h10
      refine ⟨fun hne => ?_, fun hl => ?_⟩
      · have := h11.resolve_left hne
        simpa using this
      · have h13 := h12.resolve_left (by simpa using hl)
        obtain ⟨e, he, hb⟩ := Array.any_eq_true'.1 h13.2
        simp only [Bool.and_eq_true, beq_iff_eq] at hb
        exact ⟨h13.1, e, he, hb.1, hb.2⟩
  exact ⟨h1, h2, h3, h4, fun i oi hi hoi => (key i oi hi hoi).1, fun i oi j oj d hi hj hoi hoj hd => ((key i oi hi hoi).2 j oj d hj hoj hd).1,
    fun i oi j oj d hi hj hoi hoj hd => ((key i oi hi hoi).2 j oj d hj hoj hd).2⟩

theorem mixOk {md : Region.Mode} {n : Nat} (h : mixB md ops n S = true) : MixOk md ops n S := by
  simp only [mixB, Bool.and_eq_true, decide_eq_true_eq] at h
  obtain ⟨⟨⟨⟨⟨h1, h2⟩, h3⟩, h4⟩, h5⟩, h6⟩ := h
  exact mixOk_of h1 h2 h3 (fun listed inv i hi hu => tail_waits h3 h4 h2 inv _ i rfl hi hu) h6
theorem mixB_seq {md : Region.Mode} {n : Nat} (h : mixB md ops n S = true) : Region.seqB md ops (ops.size - n) n (Array.replicate n true ++ Array.replicate (ops.size - n) false) = true := by
  simp only [mixB, Bool.and_eq_true, decide_eq_true_eq] at h
  exact h.1.2

/-- Two frames that an operation cannot tell apart. -/
def AgreeOn (ops : Array Oper) (o : Oper) (a a' : Act) : Prop := ∀ t ∈ o.looksAt ops, a.tmps[t]? = a'.tmps[t]?

theorem AgreeOn.exec {o : Oper} {a a' : Act} (h : AgreeOn ops o a a') (hs : ∀ cs b, o.op ≠ .select cs b) : execOp a.eval o = execOp a'.eval o :=
  execOp_congr o hs fun x hx => by
    cases x with
    | tmp t =>
      have := h t (List.mem_append_left _ (List.mem_filterMap.2 ⟨.tmp t, by simpa using hx, rfl⟩))
      simp only [Act.eval, Array.getD_eq_getD_getElem?, this]
    | const v => rfl
    | global g => rfl
    | func f => rfl
theorem AgreeOn.wanted {o : Oper} {a a' : Act} (h : AgreeOn ops o a a') : Region.wanted o (yielded ops a.tmps) = Region.wanted o (yielded ops a'.tmps) := by
  unfold Region.wanted
  cases hg : o.guard with
  | none => rfl
  | some gw =>
    obtain ⟨g, want⟩ := gw
    have hy : yielded ops a.tmps g = yielded ops a'.tmps g := by
      unfold yielded
      cases ht : (ops[g]?).bind (·.dst) with
      | none => rfl
      | some t =>
        have := h t (List.mem_append_right _ (by simp [hg, ht]))
        simp [this]
    simp only [hy]

theorem put_get {a : Act} {d : Option Tmp} {v : Value} (s : Nat) : (a.put d v).tmps[s]? = if d = some s ∧ s < a.tmps.size then some v else a.tmps[s]? := by
  cases d with
  | none => simp [Act.put]
  | some d =>
    simp only [Act.put, Array.getElem?_setIfInBounds, Option.some.injEq]
    by_cases h : d = s
    · subst h
      by_cases hlt : d < a.tmps.size
      · simp [hlt]
      · simp [hlt]
    · simp [h]
theorem put_size {a : Act} {d : Option Tmp} {v : Value} : (a.put d v).tmps.size = a.tmps.size := by cases d <;> simp [Act.put]
theorem put_def {a : Act} {d : Option Tmp} {v : Value} : (a.put d v).defers = a.defers := by cases d <;> rfl

/-- In frame a, in every world of the class, operation o leaves v. -/
def TameIn (P : Program) (ops : Array Oper) (C : World → Prop) (o : Oper) (v : Value) (a : Act) : Prop :=
  (Region.wanted o (yielded ops a.tmps) = true ∧ ∀ w, C w → tameAt P o a w v) ∨ (Region.wanted o (yielded ops a.tmps) = false ∧ v = undef)

theorem TameIn.agree {o : Oper} {v : Value} {a a' : Act} (h : TameIn P ops C o v a) (hg : AgreeOn ops o a a') (hs : ∀ cs b, o.op ≠ .select cs b) : TameIn P ops C o v a' := by
  unfold TameIn tameAt at *
  rw [← hg.exec hs, ← hg.wanted]
  exact h

structure HeadFacts (P : Program) (ops : Array Oper) (C : World → Prop) (S : List Nat) (fin : Act) (Vs : Nat → SpecV) (i : Nat) (o : Oper) : Prop where
  quiet : S.contains i = false → ∃ v, TameIn P ops C o v fin ∧ ∀ d, o.dst = some d → d < fin.tmps.size → fin.tmps[d]? = some v
  spec : S.contains i = true → Region.wanted o (yielded ops fin.tmps) = true ∧ (Vs i).Mono ∧ ∀ w, C w → specAt P o fin (Vs i) w

def specsOf (S : List Nat) (Vs : Nat → SpecV) : List Oper → Nat → List (Option Tmp × SpecV)
  | [], _ => []
  | o :: rest, k => if S.contains k then (o.dst, Vs k) :: specsOf S Vs rest (k + 1) else specsOf S Vs rest (k + 1)

theorem specsOf_congr {Vs Vs' : Nat → SpecV} : ∀ (l : List Oper) (k : Nat), (∀ i, k ≤ i → Vs i = Vs' i) → specsOf S Vs l k = specsOf S Vs' l k
  | [], _, _ => rfl
  | o :: l, k, h => by
    simp only [specsOf, h k (Nat.le_refl _), specsOf_congr l (k + 1) (fun i hi => h i (by omega))]

theorem mix_facts {md : Region.Mode} {n : Nat} (ok : MixOk md ops n S) {Q : List (Option Tmp × SpecV) → Act → Prop} :
    ∀ (l : List Oper) (k : Nat) (acc : List (Option Tmp × SpecV)) (a : Act), (∀ j, j < l.length → l[j]? = ops[k + j]?) → k + l.length = n → wpMix P ops C S Q l k acc a →
      ∃ fin Vs, Q (acc ++ specsOf S Vs l k) fin ∧ fin.defers = a.defers ∧ fin.tmps.size = a.tmps.size ∧
        (∀ s, (∀ j o, k ≤ j → j < n → ops[j]? = some o → S.contains j = false → o.dst ≠ some s) → fin.tmps[s]? = a.tmps[s]?) ∧
        ∀ i o, k ≤ i → i < n → ops[i]? = some o → HeadFacts P ops C S fin Vs i o
  | [], k, acc, a, _, hk, h => by
    refine ⟨a, fun _ _ _ _ _ => True, ?_, rfl, rfl, fun _ _ => rfl, fun i o h1 h2 _ => ?_⟩
    · unfold wpMix at h
      simpa only [specsOf, List.append_nil] using h
    simp only [List.length_nil, Nat.add_zero] at hk
    omega
  | o :: l, k, acc, a, hl, hk, h => by
    have h0 : ops[k]? = some o := by simpa using (hl 0 (by simp)).symm
    simp only [List.length_cons] at hk
    have hkn : k < n := by omega
    have hl' : ∀ j, j < l.length → l[j]? = ops[k + 1 + j]? := fun j hj => by have := hl (j + 1) (by simp; omega); simpa [Nat.add_assoc, Nat.add_comm 1 j] using this
    have hsel : ∀ cs b, o.op ≠ .select cs b := fun cs b => Region.noSelect_spec ok.sel k o cs b h0
    -- no later operation of the head writes what this one looks at
    have hlater : ∀ t, t ∈ o.looksAt ops → ∀ j oj, k ≤ j → j < n → ops[j]? = some oj → oj.dst ≠ some t := fun t ht j oj hj hjn hoj hd => by
      obtain ⟨_, e, he, hb, hon⟩ := ok.dep j oj k o t hjn hkn hoj h0 hd ht
      have := ok.acyc k o hkn h0 e he hb
      omega
    simp only [wpMix] at h
    cases hsk : S.contains k with
    | true =>
      rw [if_pos hsk] at h
      obtain ⟨hw, V, hm, hv, hrest⟩ := h
      obtain ⟨fin, Vs, hQ, h1, h2, h3, h4⟩ := mix_facts ok l (k + 1) _ a hl' (by omega) hrest
      have hag : AgreeOn ops o a fin := fun t ht => (h3 t (fun j oj hj hjn hoj _ => hlater t ht j oj (by omega) hjn hoj)).symm
      refine ⟨fin, fun i => if i = k then V else Vs i, ?_, h1, h2, fun s hs => h3 s (fun j oj hj hjn hoj hsj => hs j oj (by omega) hjn hoj hsj), fun i oi hi hin hoi => ?_⟩
      · simp only [specsOf, hsk, if_true]
        rw [specsOf_congr (Vs' := Vs) l (k + 1) (fun i hi => by rw [if_neg (by omega)])]
        simpa using hQ
      · by_cases hik : i = k
        · subst hik
          obtain rfl : oi = o := Option.some.inj (hoi.symm.trans h0)
          refine ⟨fun hf => (by rw [hsk] at hf; cases hf), fun _ => ?_⟩
          simp only [if_true]
          refine ⟨by rw [← hag.wanted]; exact hw, hm, fun w hcw => ?_⟩
          have := hv w hcw
          unfold specAt at *
          rwa [← hag.exec hsel]
        · have := h4 i oi (by omega) hin hoi
          exact ⟨this.quiet, fun hs => by simp only [if_neg hik]; exact this.spec hs⟩
    | false =>
      rw [if_neg (by rw [hsk]; exact Bool.false_ne_true)] at h
      obtain ⟨v, hy, hrest⟩ : ∃ v, TameIn P ops C o v a ∧ wpMix P ops C S Q l (k + 1) acc (a.put o.dst v) := by
        by_cases hw : Region.wanted o (yielded ops a.tmps) = true
        · rw [if_pos hw] at h
          obtain ⟨v, h1, h2⟩ := h
          exact ⟨v, .inl ⟨hw, h1⟩, h2⟩
        · rw [if_neg hw] at h
          exact ⟨undef, .inr ⟨by simpa using hw, rfl⟩, h⟩
      obtain ⟨fin, Vs, hQ, h1, h2, h3, h4⟩ := mix_facts ok l (k + 1) _ _ hl' (by omega) hrest
      have hput : ∀ s, o.dst ≠ some s → (a.put o.dst v).tmps[s]? = a.tmps[s]? := fun s hs => by rw [put_get, if_neg (fun hh => hs hh.1)]
      have hag : AgreeOn ops o a fin := fun t ht => by
        rw [h3 t (fun j oj hj hjn hoj _ => hlater t ht j oj (by omega) hjn hoj), hput t (hlater t ht k o (Nat.le_refl _) hkn h0)]
      refine ⟨fin, Vs, by simp only [specsOf, hsk]; exact hQ, by rw [h1, put_def], by rw [h2, put_size], fun s hs => ?_, fun i oi hi hin hoi => ?_⟩
      · rw [h3 s (fun j oj hj hjn hoj hsj => hs j oj (by omega) hjn hoj hsj), hput s (hs k o (Nat.le_refl _) hkn h0 hsk)]
      · by_cases hik : i = k
        · subst hik
          obtain rfl : oi = o := Option.some.inj (hoi.symm.trans h0)
          refine ⟨fun _ => ⟨v, hy.agree hag hsel, fun d hd hlt => ?_⟩, fun hs => (by rw [hsk] at hs; cases hs)⟩
          rw [h3 d (fun j oj hj hjn hoj _ => ok.ne i oi j oj d hin hjn hoi hoj hd (by omega)), put_get, if_pos ⟨hd, by rw [h2, put_size] at hlt; exact hlt⟩]
        · exact h4 i oi (by omega) hin hoi

/-- Where a run of the head stands: the listed operations have left their values. -/
structure MixInv (md : Region.Mode) (ops : Array Oper) (C : World → Prop) (S : List Nat) (n : Nat) (Vs : Nat → SpecV) (a0 fin : Act) (listed : Array Bool) (a : Act) (w : World)
    (vals : Nat → Value) (lo hi : Nat → Nat) : Prop where
  head : HeadInv md ops n listed
  cls : C w
  defers : a.defers = fin.defers
  size : a.tmps.size = fin.tmps.size
  quiet : ∀ i o d, i < n → ops[i]? = some o → listed.getD i true = true → S.contains i = false → o.dst = some d → a.tmps[d]? = fin.tmps[d]?
  spec : ∀ i o d, i < n → ops[i]? = some o → listed.getD i true = true → S.contains i = true → o.dst = some d → d < a.tmps.size → a.tmps[d]? = some (vals i)
  rest : ∀ s, (∀ i o, i < n → ops[i]? = some o → listed.getD i true = true → o.dst ≠ some s) → a.tmps[s]? = a0.tmps[s]?
  facts : ∀ i, i < n → listed.getD i true = true → S.contains i = true → Vs i (vals i) (lo i) (hi i) w ∧ lo i ≤ hi i ∧ hi i ≤ w.heap.size
  apart : ∀ i j, i < n → j < n → listed.getD i true = true → listed.getD j true = true → S.contains i = true → S.contains j = true → i ≠ j → hi i ≤ lo j ∨ hi j ≤ lo i

variable {md : Region.Mode} {n : Nat} {Vs : Nat → SpecV} {a0 fin : Act}

theorem getD_true {listed : Array Bool} {i : Nat} (hi : i < listed.size) (h : listed.getD i false = true) : listed.getD i true = true := by
  simp [hi] at h ⊢; exact h

/-- What a ready operation looks at stands as in the last frame. -/
theorem MixInv.agree (ok : MixOk md ops n S) (hun : ∀ s, (∀ j o, j < n → ops[j]? = some o → S.contains j = false → o.dst ≠ some s) → fin.tmps[s]? = a0.tmps[s]?)
    {listed : Array Bool} {a : Act} {w : World} {vals : Nat → Value} {lo hi : Nat → Nat} (inv : MixInv md ops C S n Vs a0 fin listed a w vals lo hi)
    {i : Nat} {oi : Oper} (hin : i < n) (hoi : ops[i]? = some oi) (hr : i ∈ Region.ready md ops listed) : AgreeOn ops oi fin a := by
  intro t ht
  obtain ⟨_, o', ho', hall⟩ := mem_ready.1 hr
  obtain rfl : o' = oi := Option.some.inj (ho'.symm.trans hoi)
  by_cases hex : ∃ j oj, j < n ∧ ops[j]? = some oj ∧ oj.dst = some t
  · obtain ⟨j, oj, hjn, hoj, hd⟩ := hex
    obtain ⟨hsj, e, he, hb, hon⟩ := ok.dep j oj i o' t hjn hin hoj hoi hd ht
    have hl := hall e he hb
    rw [hon] at hl
    have hjs : j < listed.size := by rw [inv.head.size]; have := ok.lt; omega
    exact (inv.quiet j oj t hjn hoj (getD_true hjs hl) hsj hd).symm
  · rw [inv.rest t (fun j oj hjn hoj _ hd => hex ⟨j, oj, hjn, hoj, hd⟩)]
    exact hun t (fun j oj hjn hoj _ hd => hex ⟨j, oj, hjn, hoj, hd⟩)

theorem getD_set_self {listed : Array Bool} {i : Nat} : (listed.setIfInBounds i true).getD i true = true := by
  by_cases h : i < listed.size
  · simp [h]
  · simp [h]

/-- One more operation listed. -/
theorem MixInv.put (ok : MixOk md ops n S) (hC : ∀ w w', C w → Below w.heap.size w w' → C w')
    (hm : ∀ j oj, j < n → ops[j]? = some oj → S.contains j = true → (Vs j).Mono)
    {listed : Array Bool} {a : Act} {w w' : World} {vals : Nat → Value} {lo hi : Nat → Nat} (inv : MixInv md ops C S n Vs a0 fin listed a w vals lo hi)
    {i : Nat} {oi : Oper} (hin : i < n) (hoi : ops[i]? = some oi) (hr : i ∈ Region.ready md ops listed) {v : Value} (hb : Below w.heap.size w w')
    (hq : S.contains i = false → ∀ d, oi.dst = some d → d < fin.tmps.size → fin.tmps[d]? = some v) (hs : S.contains i = true → Vs i v w.heap.size w'.heap.size w') :
    MixInv md ops C S n Vs a0 fin (listed.setIfInBounds i true) (a.put oi.dst v) w' (fun j => if j = i then v else vals j) (fun j => if j = i then w.heap.size else lo j)
      (fun j => if j = i then w'.heap.size else hi j) := by
  have hne : ∀ j, j ≠ i → (listed.setIfInBounds i true).getD j true = listed.getD j true := fun j hj => getD_set_ne true (Ne.symm hj)
  have hsz := hb.size
  have hlt : ∀ {j}, j < n → j < ops.size := fun {j} hj => by have := ok.lt; omega
  refine ⟨inv.head.set hr hin, hC _ _ inv.cls hb, by rw [put_def, inv.defers], by rw [put_size, inv.size], fun j oj d hjn hoj hl hsj hd => ?_, fun j oj d hjn hoj hl hsj hd hdl => ?_, fun s hs' => ?_, fun j hjn hl hsj => ?_, fun j k hjn hkn hl hl' hsj hsk hjk => ?_⟩
  · rw [put_get]
    by_cases hji : j = i
    · subst hji
      obtain rfl : oj = oi := Option.some.inj (hoj.symm.trans hoi)
      by_cases hdl : d < a.tmps.size
      · rw [if_pos ⟨hd, hdl⟩, hq hsj d hd (by rw [← inv.size]; exact hdl)]
      · rw [if_neg (fun hh => hdl hh.2), Array.getElem?_eq_none (Nat.le_of_not_lt hdl), Array.getElem?_eq_none (by rw [← inv.size]; exact Nat.le_of_not_lt hdl)]
    · rw [if_neg (fun hh => ok.ne i oi j oj d hin hjn hoi hoj hh.1 (Ne.symm hji) hd)]
      rw [hne j hji] at hl
      exact inv.quiet j oj d hjn hoj hl hsj hd
  · rw [put_size] at hdl
    rw [put_get]
    by_cases hji : j = i
    · subst hji
      obtain rfl : oj = oi := Option.some.inj (hoj.symm.trans hoi)
      rw [if_pos ⟨hd, hdl⟩, if_pos rfl]
    · rw [if_neg (fun hh => ok.ne i oi j oj d hin hjn hoi hoj hh.1 (Ne.symm hji) hd), if_neg hji]
      rw [hne j hji] at hl
      exact inv.spec j oj d hjn hoj hl hsj hd hdl
  · rw [put_get, if_neg (fun hh => hs' i oi hin hoi getD_set_self hh.1)]
    refine inv.rest s (fun j oj hjn hoj hl hd => ?_)
    by_cases hji : j = i
    · subst hji
      exact hs' j oj hjn hoj getD_set_self hd
    · exact hs' j oj hjn hoj (by rw [hne j hji]; exact hl) hd
  · by_cases hji : j = i
    · subst hji
      simp only [if_true]
      exact ⟨hs hsj, hsz, Nat.le_refl _⟩
    · rw [hne j hji] at hl
      obtain ⟨oj, hoj⟩ : ∃ oj, ops[j]? = some oj := ⟨ops[j]'(hlt hjn), Array.getElem?_eq_getElem _⟩
      obtain ⟨h1, h2, h3⟩ := inv.facts j hjn hl hsj
      simp only [if_neg hji]
      exact ⟨hm j oj hjn hoj hsj _ _ _ _ _ h1 hb, h2, by omega⟩
  · by_cases hji : j = i
    · have hki : k ≠ i := fun h => hjk (hji.trans h.symm)
      rw [hne k hki] at hl'
      have := (inv.facts k hkn hl' hsk).2.2
      simp only [if_pos hji, if_neg hki]
      exact .inr this
    · rw [hne j hji] at hl
      by_cases hki : k = i
      · have := (inv.facts j hjn hl hsj).2.2
        simp only [if_neg hji, if_pos hki]
        exact .inl this
      · rw [hne k hki] at hl'
        simp only [if_neg hji, if_neg hki]
        exact inv.apart j k hjn hkn hl hl' hsj hsk hjk

/-- One step of a run of the head. -/
theorem MixInv.step (ok : MixOk md ops n S) (hC : ∀ w w', C w → Below w.heap.size w w' → C w')
    (hun : ∀ s, (∀ j o, j < n → ops[j]? = some o → S.contains j = false → o.dst ≠ some s) → fin.tmps[s]? = a0.tmps[s]?)
    (hf : ∀ j oj, j < n → ops[j]? = some oj → HeadFacts P ops C S fin Vs j oj) {Q' : Exit → Act → World → Prop} {K : Act → World → Prop}
    {listed : Array Bool} {a : Act} {w : World} {vals : Nat → Value} {lo hi : Nat → Nat} (inv : MixInv md ops C S n Vs a0 fin listed a w vals lo hi)
    {i : Nat} {oi : Oper} (hin : i < n) (hoi : ops[i]? = some oi) (hr : i ∈ Region.ready md ops listed)
    (hK : ∀ a' w' vals lo hi, MixInv md ops C S n Vs a0 fin (listed.setIfInBounds i true) a' w' vals lo hi → K a' w') : wpOp P ops Q' i K a w := by
  have hag := inv.agree ok hun hin hoi hr
  have hsel : ∀ cs b, oi.op ≠ .select cs b := fun cs b => Region.noSelect_spec ok.sel i oi cs b hoi
  have hm : ∀ j oj, j < n → ops[j]? = some oj → S.contains j = true → (Vs j).Mono := fun j oj hjn hoj hsj => ((hf j oj hjn hoj).spec hsj).2.1
  unfold wpOp
  simp only [hoi]
  cases hsi : S.contains i with
  | false =>
    obtain ⟨v, hy, hd⟩ := (hf i oi hin hoi).quiet hsi
    have hnext : ∀ w', Below w.heap.size w w' → K (a.put oi.dst v) w' := fun w' hb =>
      hK _ _ _ _ _ (inv.put ok hC hm hin hoi hr hb (fun _ => hd) (fun h => (by rw [hsi] at h; cases h)))
    rcases hy.agree hag hsel with ⟨hw, hv⟩ | ⟨hw, rfl⟩
    · rw [if_pos hw]
      have h1 := hv w inv.cls
      refine .inl ?_
      unfold tameAt at h1
      unfold Oper.wp
      generalize (execOp a.eval oi).run P w = r at h1
      cases r with
      | ok nx w' =>
        cases nx with
        | value u => obtain ⟨rfl, rfl⟩ := h1; exact hnext _ (Below.refl _ _)
        | skip => obtain ⟨rfl, rfl⟩ := h1; exact hnext _ (Below.refl _ _)
        | enter f args =>
          obtain ⟨rfl, hc⟩ := h1
          exact hc.mono (fun e w'' he => by obtain ⟨rfl, hb⟩ := he; exact hnext _ hb)
        | _ => cases h1
      | halt x w' => cases h1
    · rw [if_neg (by rw [hw]; exact Bool.false_ne_true)]
      exact hnext _ (Below.refl _ _)
  | true =>
    obtain ⟨hw, hmo, hv⟩ := (hf i oi hin hoi).spec hsi
    rw [hag.wanted] at hw
    rw [if_pos hw]
    have h1 := hv w inv.cls
    refine .inl ?_
    unfold specAt at h1
    rw [hag.exec hsel] at h1
    unfold Oper.wp
    have hnext : ∀ w' v, Below w.heap.size w w' → Vs i v w.heap.size w'.heap.size w' → K (a.put oi.dst v) w' := fun w' v hb hV =>
      hK _ _ _ _ _ (inv.put ok hC hm hin hoi hr hb (fun h => (by rw [hsi] at h; cases h)) (fun _ => hV))
    generalize (execOp a.eval oi).run P w = r at h1
    cases r with
    | ok nx w' =>
      cases nx with
      | value u => exact hnext _ _ h1.1 h1.2
      | enter f args =>
        obtain ⟨rfl, hc⟩ := h1
        exact hc.mono (fun e w'' he => by obtain ⟨v, rfl, hb, hV⟩ := he; exact hnext _ _ hb hV)
      | _ => cases h1
    | halt x w' => cases h1

/-- The end of a run of the head, with the special values put in. -/
theorem specEnd_run {Q' : Exit → Act → World → Prop} {tail : List Oper} {w : World} {vals : Nat → Value} {lo hi : Nat → Nat} (ok : MixOk md ops n S)
    (hfa : ∀ i, i < n → S.contains i = true → Vs i (vals i) (lo i) (hi i) w ∧ lo i ≤ hi i ∧ hi i ≤ w.heap.size)
    (hap : ∀ i j, i < n → j < n → S.contains i = true → S.contains j = true → i ≠ j → hi i ≤ lo j ∨ hi j ≤ lo i) :
    ∀ (l : List Oper) (k : Nat) (b : Act) (ivs : List (Nat × Nat)), (∀ j, j < l.length → l[j]? = ops[k + j]?) → k + l.length = n →
      (∀ p ∈ ivs, ∃ i, i < k ∧ S.contains i = true ∧ p = (lo i, hi i)) → SpecEnd P ops Q' tail (specsOf S Vs l k) ivs b w →
      ∃ b', wpList P ops Q' tail b' w ∧ b'.defers = b.defers ∧ b'.tmps.size = b.tmps.size ∧
        (∀ s, (∀ j o, k ≤ j → j < n → ops[j]? = some o → S.contains j = true → o.dst ≠ some s) → b'.tmps[s]? = b.tmps[s]?) ∧
        ∀ j o d, k ≤ j → j < n → ops[j]? = some o → S.contains j = true → o.dst = some d → d < b.tmps.size → b'.tmps[d]? = some (vals j)
  | [], k, b, ivs, _, hk, _, h => by
    simp only [List.length_nil, Nat.add_zero] at hk
    exact ⟨b, h, rfl, rfl, fun _ _ => rfl, fun j o d h1 h2 => by omega⟩
  | o :: l, k, b, ivs, hl, hk, hiv, h => by
    have h0 : ops[k]? = some o := by simpa using (hl 0 (by simp)).symm
    simp only [List.length_cons] at hk
    have hkn : k < n := by omega
    have hl' : ∀ j, j < l.length → l[j]? = ops[k + 1 + j]? := fun j hj => by have := hl (j + 1) (by simp; omega); simpa [Nat.add_assoc, Nat.add_comm 1 j] using this
    cases hsk : S.contains k with
    | false =>
      simp only [specsOf, hsk, Bool.false_eq_true, if_false] at h
      obtain ⟨b', h1, h2, h3, h4, h5⟩ := specEnd_run ok hfa hap l (k + 1) b ivs hl' (by omega) (fun p hp => by obtain ⟨i, hi, hh⟩ := hiv p hp; exact ⟨i, by omega, hh⟩) h
      refine ⟨b', h1, h2, h3, fun s hs => h4 s (fun j o hj => hs j o (by omega)), fun j oj d hj hjn hoj hsj hd hdl => ?_⟩
      by_cases hjk : j = k
      · subst hjk; rw [hsk] at hsj; cases hsj
      · exact h5 j oj d (by omega) hjn hoj hsj hd hdl
    | true =>
      simp only [specsOf, hsk, if_true] at h
      obtain ⟨f1, f2, f3⟩ := hfa k hkn hsk
      have h' := h (vals k) (lo k) (hi k) f1 f2 f3 (fun p hp => by
        obtain ⟨i, hi', hsi, rfl⟩ := hiv p hp
        exact hap i k (by omega) hkn hsi hsk (by omega))
      obtain ⟨b', h1, h2, h3, h4, h5⟩ := specEnd_run ok hfa hap l (k + 1) _ _ hl' (by omega) (fun p hp => by
        rcases List.mem_append.1 hp with hp | hp
        · obtain ⟨i, hi, hh⟩ := hiv p hp; exact ⟨i, by omega, hh⟩
        · exact ⟨k, by omega, hsk, by simpa using hp⟩) h'
      refine ⟨b', h1, by rw [h2, put_def], by rw [h3, put_size], fun s hs => ?_, fun j oj d hj hjn hoj hsj hd hdl => ?_⟩
      · rw [h4 s (fun j o hj => hs j o (by omega)), put_get, if_neg (fun hh => hs k o (Nat.le_refl _) hkn h0 hsk hh.1)]
      · by_cases hjk : j = k
        · subst hjk
          obtain rfl : oj = o := Option.some.inj (hoj.symm.trans h0)
          rw [h4 d (fun m om hm hmn hom _ => ok.ne j oj m om d hjn hmn hoj hom hd (by omega)), put_get, if_pos ⟨hd, hdl⟩]
        · exact h5 j oj d (by omega) hjn hoj hsj hd (by rw [put_size]; exact hdl)

theorem MixInv.finish (ok : MixOk md ops n S) (hseq : Region.seqB md ops (ops.size - n) n (Array.replicate n true ++ Array.replicate (ops.size - n) false) = true) (hun : ∀ s, (∀ j o, j < n → ops[j]? = some o → S.contains j = false → o.dst ≠ some s) → fin.tmps[s]? = a0.tmps[s]?)
    {Q' : Exit → Act → World → Prop} {l : List Oper} (hl : l.toArray = ops) (hE : ∀ w', C w' → SpecEnd P ops Q' (l.drop n) (specsOf S Vs (l.take n) 0) [] fin w')
    {listed : Array Bool} {a : Act} {w : World} {vals : Nat → Value} {lo hi : Nat → Nat} (inv : MixInv md ops C S n Vs a0 fin listed a w vals lo hi)
    (hall : ∀ i, i < n → listed.getD i true = true) : wpAny P md ops Q' (ops.size - n) listed a w := by
  have hsz : ops.size = l.length := by rw [← hl]; simp
  have hnl : n < l.length := by have := ok.lt; omega
  have htl : (l.take n).length = n := by simp; omega
  obtain ⟨b', h1, h2, h3, h4, h5⟩ := specEnd_run ok (fun i hin hsi => inv.facts i hin (hall i hin) hsi) (fun i j hin hjn hsi hsj hij => inv.apart i j hin hjn (hall i hin) (hall j hjn) hsi hsj hij)
    (l.take n) 0 fin [] (fun j hj => by rw [htl] at hj; rw [← hl]; simp [hj]) (by rw [htl]; omega) (fun p hp => by cases hp) (hE w inv.cls)
  have hab : a = b' := by
    have hts : a.tmps = b'.tmps := by
      apply Array.ext_getElem?
      intro s
      by_cases hex : ∃ j oj, j < n ∧ ops[j]? = some oj ∧ oj.dst = some s
      · obtain ⟨j, oj, hjn, hoj, hd⟩ := hex
        cases hsj : S.contains j with
        | true =>
          by_cases hsl : s < a.tmps.size
          · rw [inv.spec j oj s hjn hoj (hall j hjn) hsj hd hsl, h5 j oj s (Nat.zero_le _) hjn hoj hsj hd (by rw [← inv.size]; exact hsl)]
          · rw [Array.getElem?_eq_none (by omega), Array.getElem?_eq_none (by rw [h3, ← inv.size]; omega)]
        | false =>
          rw [inv.quiet j oj s hjn hoj (hall j hjn) hsj hd]
          refine (h4 s (fun m om _ hmn hom hsm hdm => ?_)).symm
          refine ok.ne j oj m om s hjn hmn hoj hom hd (fun hjm => ?_) hdm
          subst hjm
          rw [hsj] at hsm; cases hsm
      · rw [inv.rest s (fun j oj hjn hoj _ hd => hex ⟨j, oj, hjn, hoj, hd⟩), h4 s (fun j oj _ hjn hoj _ hd => hex ⟨j, oj, hjn, hoj, hd⟩),
          hun s (fun j oj hjn hoj _ hd => hex ⟨j, oj, hjn, hoj, hd⟩)]
    have hds : a.defers = b'.defers := by rw [inv.defers, h2]
    cases a; cases b'
    simp only at hts hds
    subst hts; subst hds
    rfl
  have hlist : listed = Array.replicate n true ++ Array.replicate (ops.size - n) false := by
    apply Array.ext
    · rw [inv.head.size]; simp; have := ok.lt; omega
    · intro i hi1 hi2
      by_cases hin : i < n
      · have := hall i hin
        rw [Array.getElem_append_left (by simpa using hin)]
        simpa [hi1] using this
      · have := inv.head.tail i (by omega) (by rw [← inv.head.size]; exact hi1)
        rw [Array.getElem_append_right (by simp; omega)]
        simpa [hi1] using this
  have hdl : (l.drop n).length = ops.size - n := by simp [hsz]
  subst hab
  have := wpAny_of_seq (P := P) (md := md) (ops := ops) (Q' := Q') (l.drop n) n listed a w (fun j => by rw [← hl]; simp [List.getElem?_drop]) (by rw [hdl, hlist]; exact hseq) h1
  rwa [hdl] at this

theorem MixInv.run (ok : MixOk md ops n S) (hC : ∀ w w', C w → Below w.heap.size w w' → C w')
    (hun : ∀ s, (∀ j o, j < n → ops[j]? = some o → S.contains j = false → o.dst ≠ some s) → fin.tmps[s]? = a0.tmps[s]?)
    (hf : ∀ j oj, j < n → ops[j]? = some oj → HeadFacts P ops C S fin Vs j oj)
    {Q' : Exit → Act → World → Prop} (hE : ∀ listed a w vals lo hi, MixInv md ops C S n Vs a0 fin listed a w vals lo hi → (∀ i, i < n → listed.getD i true = true) → wpAny P md ops Q' (ops.size - n) listed a w) :
    ∀ (f : Nat) (L : List Nat) (listed : Array Bool) (a : Act) (w : World) (vals : Nat → Value) (lo hi : Nat → Nat), L.Nodup → (∀ i, i ∈ L ↔ i < n ∧ listed.getD i true = false) → L.length = f →
      MixInv md ops C S n Vs a0 fin listed a w vals lo hi → wpAny P md ops Q' (f + (ops.size - n)) listed a w
  | 0, L, listed, a, w, vals, lo, hi, _, hL, hf0, inv => by
    rw [Nat.zero_add]
    have : L = [] := List.eq_nil_of_length_eq_zero hf0
    subst this
    refine hE listed a w vals lo hi inv (fun i hin => ?_)
    cases h : listed.getD i true with
    | true => rfl
    | false => exact absurd ((hL i).2 ⟨hin, h⟩) (by simp)
  | f + 1, L, listed, a, w, vals, lo, hi, hnd, hL, hf1, inv => by
    rw [show f + 1 + (ops.size - n) = (f + (ops.size - n)) + 1 by omega]
    have hex : ∃ i, i ∈ L := by
      cases L with
      | nil => cases hf1
      | cons x _ => exact ⟨x, by simp⟩
    obtain ⟨x, hx⟩ := hex
    obtain ⟨hxn, hxu⟩ := (hL x).1 hx
    -- the least that is not listed is ready
    have hleast : ∀ m x, x ≤ m → x < n → listed.getD x true = false → ∃ i, i ∈ Region.ready md ops listed := by
      intro m
      induction m with
      | zero =>
        intro x hxm hxn hxu
        have hx0 : x = 0 := by omega
        subst hx0
        have hlt : 0 < ops.size := by have := ok.lt; omega
        refine ⟨0, mem_ready.2 ⟨hxu, ops[0], Array.getElem?_eq_getElem hlt, fun e he hb => ?_⟩⟩
        have := ok.acyc 0 _ hxn (Array.getElem?_eq_getElem hlt) e he hb
        omega
      | succ m ih =>
        intro x hxm hxn hxu
        have hlt : x < ops.size := by have := ok.lt; omega
        by_cases hh : ∃ y, y < x ∧ listed.getD y true = false
        · obtain ⟨y, hy, hyu⟩ := hh
          exact ih y (by omega) (by omega) hyu
        · refine ⟨x, mem_ready.2 ⟨hxu, ops[x], Array.getElem?_eq_getElem hlt, fun e he hb => ?_⟩⟩
          have hex := ok.acyc x _ hxn (Array.getElem?_eq_getElem hlt) e he hb
          cases hle : listed.getD e.on true with
          | false => exact absurd ⟨e.on, hex, hle⟩ hh
          | true =>
            have hes : e.on < listed.size := by rw [inv.head.size]; omega
            simp [hes] at hle ⊢; exact hle
    refine ⟨fun h0 => ?_, fun i hir => ?_⟩
    · obtain ⟨i, hi⟩ := hleast x x (Nat.le_refl _) hxn hxu
      rw [h0] at hi; cases hi
    · have hin : i < n := by
        rcases Nat.lt_or_ge i n with h | h
        · exact h
        · exact absurd hir (ok.wait _ inv.head x hxn hxu i h)
      obtain ⟨hiu, oi, hoi, _⟩ := mem_ready.1 hir
      have hiL : i ∈ L := (hL i).2 ⟨hin, hiu⟩
      refine inv.step ok hC hun hf hin hoi hir (fun a' w' vals' lo' hi' inv' => ?_)
      refine MixInv.run ok hC hun hf hE f (L.erase i) _ a' w' vals' lo' hi' (hnd.erase i) (fun j => ?_) (by rw [List.length_erase_of_mem hiL, hf1]; rfl) inv'
      rw [hnd.mem_erase_iff, hL j]
      by_cases hji : j = i
      · subst hji
        simp
      · rw [getD_set_ne true (Ne.symm hji)]
        simp [hji]

end

/-- The rule: a region that draws its order, with a head in any order and a tail in the order of the text. -/
theorem wp_region_mix {P : Program} {C : World → Prop} (hC : ∀ w w', C w → Below w.heap.size w w' → C w') {id n : Nat} {S : List Nat} {Q : Exit → Act → World → Prop} {a : Act} {w : World} {l : List Oper}
    (hm : P.follows .mixedOrders = true) (hB : mixB .any l.toArray n S = true) (hw : C { w with drawn := w.drawn + 1 })
    (h : wpMix P l.toArray C S (fun acc a' => ∀ w', C w' → SpecEnd P l.toArray Q (l.drop n) acc [] a' w') (l.take n) 0 [] a) : (Code.region id l.toArray true).wp P Q a w := by
  have ok := mixOk hB
  have hnl : n < l.length := by simpa using ok.lt
  have htl : (l.take n).length = n := by simp; omega
  obtain ⟨fin, Vs, hE, h1, h2, h3, h4⟩ := mix_facts ok (l.take n) 0 [] a (fun j hj => by rw [htl] at hj; simp [hj]) (by rw [htl]; omega) h
  refine wp_region_any hm ?_
  have H := MixInv.run (Q' := Q) (md := .any) (a0 := a) (fin := fin) ok hC (fun s hs => h3 s (fun j o _ => hs j o)) (fun j oj hjn hoj => h4 j oj (Nat.zero_le _) hjn hoj)
    (fun listed a' w' vals lo hi inv hall => inv.finish ok (mixB_seq hB) (fun s hs => h3 s (fun j o _ => hs j o)) rfl (by simpa only [List.nil_append] using hE) hall) n (List.range n) (Array.replicate l.toArray.size false) a { w with drawn := w.drawn + 1 } (fun _ => undef) (fun _ => 0) (fun _ => 0) List.nodup_range
    (fun i => by
      rw [List.mem_range]
      constructor
      · intro hi
        exact ⟨hi, getD_in (by simp; omega) (getD_replicate_false _ _)⟩
      · exact fun hh => hh.1) (by simp)
    (by
      have hno : ∀ i, i < n → (Array.replicate l.toArray.size false).getD i true = true → False := fun i hi hh => by
        rw [getD_in (by simp; omega) (getD_replicate_false _ _)] at hh
        cases hh
      refine ⟨⟨by simp, fun j oj _ hl => (by rw [getD_replicate_false] at hl; cases hl), fun t _ ht => getD_in (by simpa using ht) (getD_replicate_false _ _)⟩, hw, h1.symm, h2.symm,
        fun i o d hi _ hl => (hno i hi hl).elim, fun i o d hi _ hl => (hno i hi hl).elim, fun s _ => rfl, fun i hi hl => (hno i hi hl).elim, fun i j hi _ hl => (hno i hi hl).elim⟩)
  have hsz : n + (l.toArray.size - n) = l.toArray.size := by have := ok.lt; omega
  rwa [hsz] at H

/-- Block lo holds the cells c. -/
def holds (w : World) (lo : Nat) (c : Array Value) (T : TypeId) : World := { w with heap := w.heap.setIfInBounds lo (.cells c T) }
theorem holds_self {w : World} {lo : Nat} {c : Array Value} {T : TypeId} (h : w.heap[lo]? = some (.cells c T)) : w = holds w lo c T := by
  have : w.heap = w.heap.setIfInBounds lo (.cells c T) := by
    apply Array.ext_getElem?
    intro k
    rw [Array.getElem?_setIfInBounds]
    split
    · rename_i hk
      subst hk
      have := (Array.getElem?_eq_some_iff.1 h).1
      simpa [this] using h
    · rfl
  unfold holds
  rw [← this]
@[go_sem] theorem size_holds (w : World) (lo : Nat) (c : Array Value) (T : TypeId) : (holds w lo c T).heap.size = w.heap.size := by simp [holds]
theorem heap_holds (w : World) (lo : Nat) (c : Array Value) (T : TypeId) (k : Nat) : (holds w lo c T).heap[k]? = if k = lo ∧ lo < w.heap.size then some (.cells c T) else w.heap[k]? := by
  simp only [holds, Array.getElem?_setIfInBounds]
  by_cases h : lo = k
  · subst h
    by_cases hl : lo < w.heap.size
    · simp [hl]
    · simp [hl]
  · simp [h, Ne.symm h]
@[go_sem] theorem cell?_holds (w : World) (lo : Nat) (c : Array Value) (T : TypeId) (n i : Nat) : (holds w lo c T).cell? ⟨n, i, none⟩ = if n = lo ∧ lo < w.heap.size then c[i]? else w.cell? ⟨n, i, none⟩ := by
  simp only [World.cell?, heap_holds]
  by_cases h : n = lo ∧ lo < w.heap.size
  · simp [h]
  · rw [if_neg h, if_neg h]
@[go_sem] theorem frozen?_holds (w : World) (lo : Nat) (c : Array Value) (T : TypeId) (n i : Nat) :
    (holds w lo c T).frozen? ⟨n, i, none⟩ = (if n = lo ∧ lo < w.heap.size then Bx.mk false else Bx.mk (w.frozen? ⟨n, i, none⟩)).val := by
  simp only [World.frozen?, heap_holds]
  by_cases h : n = lo ∧ lo < w.heap.size
  · simp [h]
  · rw [if_neg h, if_neg h]
@[go_sem] theorem setCell_holds (w : World) (lo : Nat) (c : Array Value) (T : TypeId) (n i : Nat) (v : Value) :
    (holds w lo c T).setCell ⟨n, i, none⟩ v = if n = lo ∧ lo < w.heap.size then holds w lo (c.setIfInBounds i v) T else holds (w.setCell ⟨n, i, none⟩ v) lo c T := by
  by_cases h : n = lo ∧ lo < w.heap.size
  · rw [if_pos h]
    obtain ⟨rfl, hl⟩ := h
    simp only [holds, World.setCell]
    congr 1
    apply Array.ext_getElem?
    intro k
    simp only [Array.getElem?_modify, Array.getElem?_setIfInBounds]
    by_cases hk : n = k
    · subst hk; simp [hl]
    · simp [hk]
  · rw [if_neg h]
    simp only [holds, World.setCell]
    congr 1
    apply Array.ext_getElem?
    intro k
    simp only [Array.getElem?_modify, Array.getElem?_setIfInBounds, Array.size_modify]
    by_cases hk : n = k
    · subst hk
      by_cases hn : lo = n
      · subst hn
        have hl : ¬ lo < w.heap.size := fun hl => h ⟨rfl, hl⟩
        simp [hl]
      · simp [hn]
    · simp [hk]
@[go_sem] theorem drewN_holds (w : World) (lo : Nat) (c : Array Value) (T : TypeId) (n : Nat) : (holds w lo c T).drewN n = holds (w.drewN n) lo c T := rfl
@[go_sem] theorem drew_holds (w : World) (lo : Nat) (c : Array Value) (T : TypeId) : (holds w lo c T).drew = holds w.drew lo c T := rfl
theorem below_holds {B : Nat} {a w : World} (h : Below B a w) {lo : Nat} (hB : B ≤ lo) (c : Array Value) (T : TypeId) : Below B a (holds w lo c T) :=
  h.trans ⟨rfl, rfl, rfl, by simp [holds], fun k hk => by rw [heap_holds, if_neg (by omega)]⟩

/-- A fresh block with cells c. -/
def cellsV (W : World) (c : Array Value) (T : TypeId) : SpecV := fun v lo hi w => v = .pointer (some ⟨lo, 0, none⟩) ∧ hi = lo + 1 ∧ W.heap.size ≤ lo ∧ w.heap[lo]? = some (.cells c T)
theorem cellsV_mono (W : World) (c : Array Value) (T : TypeId) : (cellsV W c T).Mono := fun v lo hi w w' ⟨h1, h2, h3, h4⟩ hb =>
  ⟨h1, h2, h3, by rw [hb.block lo (Array.getElem?_eq_some_iff.1 h4).1]; exact h4⟩
theorem cellsV_alloc {P : Program} (W x : World) (c : Array Value) (T : TypeId) (m : Nat) (hm : m = (plus W x).heap.size) :
    specUpon P (cellsV W c T) (plus W x) (.ok (.value (.pointer (some ⟨m, 0, none⟩))) ((plus W x).alloc (.cells c T))) := by
  subst hm
  exact ⟨(Below.refl _ _).alloc (Nat.le_refl _) _, rfl, by simp, (below_plus W x).size, by show ((plus W x).heap.push _)[_]? = _; simp⟩
theorem mix_cells {P : Program} {ops : Array Oper} {W : World} {S : List Nat} {Q : List (Option Tmp × SpecV) → Act → Prop} {o : Oper} {rest : List Oper} {k : Nat} {acc : List (Option Tmp × SpecV)} {a : Act}
    (c : Array Value) (T : TypeId) (hs : S.contains k = true) (hw : Region.wanted o (yielded ops a.tmps) = true)
    (hv : ∀ x, specUpon P (cellsV W c T) (plus W x) ((execOp a.eval o).run P (plus W x))) (h : wpMix P ops (fun w' => ∃ x, w' = plus W x) S Q rest (k + 1) (acc ++ [(o.dst, cellsV W c T)]) a) :
    wpMix P ops (fun w' => ∃ x, w' = plus W x) S Q (o :: rest) k acc a :=
  mix_spec hs hw (cellsV W c T) (cellsV_mono W c T) (by rintro _ ⟨x, rfl⟩; exact hv x) h
/-- A special value with its cells taken in: the world is written with the block's cells. -/
theorem specEnd_cells {P : Program} {ops : Array Oper} {Q' : Exit → Act → World → Prop} {tail : List Oper} {W : World} {c : Array Value} {T : TypeId} {d : Option Tmp} {rest : List (Option Tmp × SpecV)}
    {ivs : List (Nat × Nat)} {a : Act} {w : World}
    (h : ∀ lo, W.heap.size ≤ lo → lo < w.heap.size → (∀ p ∈ ivs, p.2 ≤ lo ∨ lo + 1 ≤ p.1) → SpecEnd P ops Q' tail rest (ivs ++ [(lo, lo + 1)]) (a.put d (.pointer (some ⟨lo, 0, none⟩))) (holds w lo c T)) :
    SpecEnd P ops Q' tail ((d, cellsV W c T) :: rest) ivs a w := by
  rintro v lo hi ⟨rfl, rfl, h1, h2⟩ _ h3 h4
  have := h lo h1 (by omega) h4
  rwa [← holds_self h2] at this
theorem specEnd_nil {P : Program} {ops : Array Oper} {Q' : Exit → Act → World → Prop} {tail : List Oper} {ivs : List (Nat × Nat)} {a : Act} {w : World} (h : wpList P ops Q' tail a w) : SpecEnd P ops Q' tail [] ivs a w := h

theorem wp_region_mix_plus {P : Program} {id : Nat} {Q : Exit → Act → World → Prop} {a : Act} {w : World} {l : List Oper} (n : Nat) (S : List Nat) (hm : P.follows .mixedOrders = true) (hB : mixB .any l.toArray n S = true)
    (h : wpMix P l.toArray (fun w' => ∃ x, w' = plus w x) S (fun acc a' => ∀ w', (∃ x, w' = plus w x) → SpecEnd P l.toArray Q (l.drop n) acc [] a' w') (l.take n) 0 [] a) : (Code.region id l.toArray true).wp P Q a w :=
  wp_region_mix (by rintro _ w' ⟨x, rfl⟩ hb; exact plus_next hb) hm hB ⟨{ w with heap := #[], drawn := w.drawn + 1 }, by simp [plus]⟩ h

/-! ### A head in any order, one call, then moves in any order -/

def chain2B (md : Region.Mode) (ops : Array Oper) (n : Nat) : Bool :=
  (List.range ops.size).all fun t => decide (t ≤ n) || (List.range t).any fun j => decide (n ≤ j) && Region.waitsFor md ops t j
theorem tail_waits2 {md : Region.Mode} {ops : Array Oper} {n : Nat} {listed : Array Bool} (hs : Region.sinkB md ops n = true) (hc : chain2B md ops n = true) (hn : n < ops.size) (inv : HeadInv md ops n listed) :
    ∀ (d i : Nat), n - i = d → i < n → listed.getD i true = false → ∀ t, n ≤ t → t ∉ Region.ready md ops listed := by
  intro d
  induction d using Nat.strongRecOn with
  | _ d ih =>
    intro i hd hi hun t ht hr
    obtain ⟨_, ot, hot, hall⟩ := mem_ready.1 hr
    have htlt : t < ops.size := (Array.getElem?_eq_some_iff.1 hot).1
    by_cases htn : t = n
    · subst htn
      have h1 := List.all_eq_true.1 hs i (List.mem_range.2 hi)
      obtain ⟨j, hj, hj2⟩ := List.any_eq_true.1 h1
      simp only [Bool.and_eq_true, decide_eq_true_eq] at hj2
      obtain ⟨oj, hoj, e, he, hb, hon⟩ := Region.waitsFor_spec hj2.2
      have hjle : j ≤ t := by have := List.mem_range.1 hj; omega
      by_cases hjt : j = t
      · subst hjt
        have : oj = ot := Option.some.inj (hoj.symm.trans hot)
        subst this
        have h2 := hall e he hb
        rw [hon, getD_both hun] at h2
        cases h2
      · cases hl : listed.getD j false with
        | true =>
          have h2 := inv.closed j oj hoj hl e he hb
          rw [hon, getD_both hun] at h2
          cases h2
        | false =>
          have hjs : j < listed.size := by rw [inv.size]; omega
          exact ih (t - j) (by omega) j rfl (by omega) (getD_in hjs hl) t (Nat.le_refl _) hr
    · have h1 := List.all_eq_true.1 hc t (List.mem_range.2 htlt)
      simp only [Bool.or_eq_true, decide_eq_true_eq] at h1
      rcases h1 with h1 | h1
      · omega
      · obtain ⟨j, hj, hj2⟩ := List.any_eq_true.1 h1
        simp only [Bool.and_eq_true, decide_eq_true_eq] at hj2
        have hjt := List.mem_range.1 hj
        obtain ⟨o', ho', e, he, hb, hon⟩ := Region.waitsFor_spec hj2.2
        have : o' = ot := Option.some.inj (ho'.symm.trans hot)
        subst this
        have h2 := hall e he hb
        rw [hon, getD_both (inv.tail j hj2.1 (by omega))] at h2
        cases h2

/-- The closed look: the head's operations before n in any order; operation n forced behind them, unguarded; the rest free. -/
def callB (md : Region.Mode) (ops : Array Oper) (n : Nat) : Bool :=
  Region.noSelect ops && decide (n < ops.size) && Region.sinkB md ops n && chain2B md ops n &&
  decide (Region.ready md ops (Array.replicate n true ++ Array.replicate (ops.size - n) false) = [n]) &&
  Region.lexFrom md ops (ops.size - (n + 1)) (n + 1) ((Array.replicate n true ++ Array.replicate (ops.size - n) false).setIfInBounds n true) &&
  ((ops[n]?).map fun o => o.guard.isNone).getD false &&
  (List.range n).all fun i => match ops[i]? with
    | none => true
    | some oi => (oi.after.all fun e => !Region.binds md e || decide (e.on < i)) &&
      (List.range n).all fun j => match ops[j]? with
        | none => true
        | some oj => match oi.dst with
          | none => true
          | some d => (decide (i = j) || oj.dst != some d) && (!(oj.looksAt ops).contains d || (!([] : List Nat).contains i && oj.after.any fun e => Region.binds md e && e.on == i))

/-- What stands behind the head: the call, then the rest in the world that it leaves. -/
def CallThen (P : Program) (ops : Array Oper) (Q : Exit → Act → World → Prop) : List Oper → Act → World → Prop
  | [], a, w => Q .normal a w
  | o :: rest, a, w => o.wp P a w (fun a' w' => wpStill P ops w' (fun a'' => Q .normal a'' w') rest a') Q

theorem wp_region_call {P : Program} {id : Nat} {Q : Exit → Act → World → Prop} {a : Act} {w : World} {l : List Oper} (n : Nat) (hm : P.follows .mixedOrders = true) (hB : callB .any l.toArray n = true)
    (h : wpMix P l.toArray (fun w' => ∃ x, w' = plus w x) [] (fun _ a' => ∀ w', (∃ x, w' = plus w x) → CallThen P l.toArray Q (l.drop n) a' w') (l.take n) 0 [] a) : (Code.region id l.toArray true).wp P Q a w := by
  simp only [callB, Bool.and_eq_true, decide_eq_true_eq] at hB
  obtain ⟨⟨⟨⟨⟨⟨⟨b1, b2⟩, b3⟩, b4⟩, b5⟩, b6⟩, b7⟩, b8⟩ := hB
  have ok : MixOk .any l.toArray n [] := mixOk_of b1 b2 b3 (fun listed inv i hi hu => tail_waits2 b3 b4 b2 inv _ i rfl hi hu) b8
  have hC : ∀ w1 w2, (∃ x, w1 = plus w x) → Below w1.heap.size w1 w2 → ∃ x, w2 = plus w x := by rintro _ w' ⟨x, rfl⟩ hb; exact plus_next hb
  have hnl : n < l.length := by simpa using ok.lt
  have htl : (l.take n).length = n := by simp; omega
  obtain ⟨fin, Vs, hE, h1, h2, h3, h4⟩ := mix_facts ok (l.take n) 0 [] a (fun j hj => by rw [htl] at hj; simp [hj]) (by rw [htl]; omega) h
  have hun : ∀ s, (∀ j o, j < n → l.toArray[j]? = some o → ([] : List Nat).contains j = false → o.dst ≠ some s) → fin.tmps[s]? = a.tmps[s]? := fun s hs => h3 s (fun j o _ => hs j o)
  refine wp_region_any hm ?_
  have H := MixInv.run (Q' := Q) (md := .any) (a0 := a) (fin := fin) ok hC hun (fun j oj hjn hoj => h4 j oj (Nat.zero_le _) hjn hoj)
    (fun listed a' w' vals lo hi inv hall => by
      have hab : a' = fin := by
        have hts : a'.tmps = fin.tmps := by
          apply Array.ext_getElem?
          intro s
          by_cases hex : ∃ j oj, j < n ∧ l.toArray[j]? = some oj ∧ oj.dst = some s
          · obtain ⟨j, oj, hjn, hoj, hd⟩ := hex
            exact inv.quiet j oj s hjn hoj (hall j hjn) rfl hd
          · rw [inv.rest s (fun j oj hjn hoj _ hd => hex ⟨j, oj, hjn, hoj, hd⟩), hun s (fun j oj hjn hoj _ hd => hex ⟨j, oj, hjn, hoj, hd⟩)]
        have hds : a'.defers = fin.defers := inv.defers
        cases a'; cases fin
        simp only at hts hds
        subst hts; subst hds
        rfl
      have hlist : listed = Array.replicate n true ++ Array.replicate (l.toArray.size - n) false := by
        apply Array.ext
        · rw [inv.head.size]; simp; have := ok.lt; omega
        · intro i hi1 hi2
          by_cases hin : i < n
          · have := hall i hin
            rw [Array.getElem_append_left (by simpa using hin)]
            simpa [hi1] using this
          · have := inv.head.tail i (by omega) (by rw [← inv.head.size]; exact hi1)
            rw [Array.getElem_append_right (by simp; omega)]
            simpa [hi1] using this
      subst hab
      have hcall := hE w' inv.cls
      obtain ⟨o, hdrop⟩ : ∃ o, l.drop n = o :: l.drop (n + 1) := ⟨l[n], List.drop_eq_getElem_cons hnl⟩
      have ho : l.toArray[n]? = some o := by
        have : (l.drop n)[0]? = some o := by rw [hdrop]; rfl
        rw [List.getElem?_drop] at this
        simpa using this
      have hg : o.guard = none := by
        rw [ho] at b7
        simpa using b7
      rw [hdrop] at hcall
      rw [hlist, show l.toArray.size - n = (l.toArray.size - (n + 1)) + 1 by have := ok.lt; omega]
      rw [show l.toArray.size - (n + 1) + 1 = l.toArray.size - n by have := ok.lt; omega]
      rw [show (wpAny P .any l.toArray Q (l.toArray.size - n)) = wpAny P .any l.toArray Q ((l.drop (n + 1)).length + 1) by congr 1; simp; omega]
      refine ⟨(fun h0 => by rw [b5] at h0; cases h0), fun i hi => ?_⟩
      rw [b5] at hi
      obtain rfl : i = n := by simpa using hi
      unfold wpOp
      simp only [ho]
      rw [if_pos (by simp [Region.wanted, hg])]
      refine .inl (Oper.wp_mono (fun a1 w1 hst => ?_) hcall)
      refine wpAny_of_still (Q := fun a'' => Q .normal a'' w1) (fun _ hq => hq) _ _ _ ?_
      exact wpAnyS_lex b1 (l.drop (i + 1)) (i + 1) _ a1 (fun j => by simp [List.getElem?_drop]) (by rw [show (l.drop (i + 1)).length = l.toArray.size - (i + 1) by simp]; exact b6) hst)
    n (List.range n) (Array.replicate l.toArray.size false) a { w with drawn := w.drawn + 1 } (fun _ => undef) (fun _ => 0) (fun _ => 0) List.nodup_range
    (fun i => by
      rw [List.mem_range]
      constructor
      · intro hi
        exact ⟨hi, getD_in (by simp; omega) (getD_replicate_false _ _)⟩
      · exact fun hh => hh.1) (by simp)
    (by
      have hno : ∀ i, i < n → (Array.replicate l.toArray.size false).getD i true = true → False := fun i hi hh => by
        rw [getD_in (by simp; omega) (getD_replicate_false _ _)] at hh
        cases hh
      refine ⟨⟨by simp, fun j oj _ hl => (by rw [getD_replicate_false] at hl; cases hl), fun t _ ht => getD_in (by simpa using ht) (getD_replicate_false _ _)⟩, ⟨{ w with heap := #[], drawn := w.drawn + 1 }, by simp [plus]⟩, h1.symm, h2.symm,
        fun i o d hi _ hl => (hno i hi hl).elim, fun i o d hi _ hl => (hno i hi hl).elim, fun s _ => rfl, fun i hi hl => (hno i hi hl).elim, fun i j hi _ hl => (hno i hi hl).elim⟩)
  have hsz : n + (l.toArray.size - n) = l.toArray.size := by have := ok.lt; omega
  rwa [hsz] at H

end Go.Proofs.Ytfhccmegobbnaaa
