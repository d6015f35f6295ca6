/- This text proves a rule for a region that draws its order, in which some operations lay new memory or answer with values that differ from run to run (the special ones), others look at such values, and the last ones stand in a forced order. It has no conditions. -/
import Derived.Test.YtcgajlobbjoefaaMix
namespace Go.Proofs.Ytcgajlobbjoefaa
open Go.RowKit
set_option linter.unusedVariables false

/-- K holds of the frame with the special values put in, whatever they are. -/
def under : List (Option Tmp × SpecV) → Act → World → (Act → Prop) → Prop
  | [], a, _, K => K a
  | (d, V) :: r, a, w, K => ∀ v lo hi, V v lo hi w → lo ≤ hi → hi ≤ w.heap.size → under r (a.put d v) w K
/-- The special values that an operation looks at. -/
def looked (ops : Array Oper) (o : Oper) (acc : List (Option Tmp × SpecV)) : List (Option Tmp × SpecV) :=
  acc.filter fun p => match p.1 with
    | some d => (o.looksAt ops).contains d
    | none => false

/-- The walk of the head in the order of the text; a special operation leaves its slot as it was. -/
def wpLo (P : Program) (ops : Array Oper) (C : World → Prop) (S : List Nat) (Q : List (Option Tmp × SpecV) → Act → Prop) : List Oper → Nat → List (Option Tmp × SpecV) → Act → Prop
  | [], _, acc, a => Q acc a
  | o :: rest, k, acc, a =>
    if S.contains k then Region.wanted o (yielded ops a.tmps) = true ∧ ∃ V : SpecV, V.Mono ∧ (∀ w, C w → under (looked ops o acc) a w (fun a' => specAt P o a' V w)) ∧ wpLo P ops C S Q rest (k + 1) (acc ++ [(o.dst, V)]) a
    else if Region.wanted o (yielded ops a.tmps) then ∃ v, (∀ w, C w → under (looked ops o acc) a w (fun a' => tameAt P o a' w v)) ∧ wpLo P ops C S Q rest (k + 1) acc (a.put o.dst v) else wpLo P ops C S Q rest (k + 1) acc (a.put o.dst undef)

section
variable {P : Program} {ops : Array Oper} {C : World → Prop} {S : List Nat}

/-- The closed look at the region. -/
def loB (md : Region.Mode) (ops : Array Oper) (n : Nat) (S : List Nat) : Bool :=
  Region.noSelect ops && decide (n < ops.size) && Region.sinkB md ops n && Region.chainB md ops n &&
  Region.seqB md ops (ops.size - n) n (Array.replicate n true ++ Array.replicate (ops.size - n) false) &&
  (List.range n).all fun i => match ops[i]? with
    | none => true
    | some oi => (oi.after.all fun e => !Region.binds md e || decide (e.on < i)) && (match oi.guard with
      | none => true
      | some (g, _) => !S.contains g && decide (g < n)) &&
      (List.range n).all fun j => match ops[j]? with
        | none => true
        | some oj => match oi.dst with
          | none => true
          | some d => (decide (i = j) || oj.dst != some d) && (!(oj.looksAt ops).contains d || oj.after.any fun e => Region.binds md e && e.on == i)

structure LoOk (md : Region.Mode) (ops : Array Oper) (n : Nat) (S : List Nat) : Prop where
  sel : Region.noSelect ops = true
  lt : n < ops.size
  sink : Region.sinkB md ops n = true
  wait : ∀ listed, HeadInv md ops n listed → ∀ i, i < n → listed.getD i true = false → ∀ t, n ≤ t → t ∉ Region.ready md ops listed
  acyc : ∀ i oi, i < n → ops[i]? = some oi → ∀ e ∈ oi.after, Region.binds md e = true → e.on < i
  ne : ∀ i oi j oj d, i < n → j < n → ops[i]? = some oi → ops[j]? = some oj → oi.dst = some d → i ≠ j → oj.dst ≠ some d
  dep : ∀ i oi j oj d, i < n → j < n → ops[i]? = some oi → ops[j]? = some oj → oi.dst = some d → d ∈ oj.looksAt ops → ∃ e ∈ oj.after, Region.binds md e = true ∧ e.on = i
  grd : ∀ i oi g want, i < n → ops[i]? = some oi → oi.guard = some (g, want) → S.contains g = false ∧ g < n

theorem loOk {md : Region.Mode} {n : Nat} (h : loB md ops n S = true) : LoOk md ops n S := by
  simp only [loB, Bool.and_eq_true, decide_eq_true_eq] at h
  obtain ⟨⟨⟨⟨⟨h1, h2⟩, h3⟩, h4⟩, h5⟩, h6⟩ := h
  have key : ∀ i oi, i < n → ops[i]? = some oi → (∀ e ∈ oi.after, Region.binds md e = true → e.on < i) ∧ (∀ g want, oi.guard = some (g, want) → S.contains g = false ∧ g < n) ∧
      ∀ j oj d, j < n → ops[j]? = some oj → oi.dst = some d → (i ≠ j → oj.dst ≠ some d) ∧ (d ∈ oj.looksAt ops → ∃ e ∈ oj.after, Region.binds md e = true ∧ e.on = i) := by
    intro i oi hi hoi
    have h7 := List.all_eq_true.1 h6 i (List.mem_range.2 hi)
    simp only [hoi, Bool.and_eq_true] at h7
    obtain ⟨⟨h8, h8g⟩, h9⟩ := h7
    refine ⟨fun e he hb => ?_, fun g want hg => ?_, fun j oj d hj hoj hd => ?_⟩
    · have := Array.all_eq_true_iff_forall_mem.1 h8 e he
      simpa [hb] using this
    · rw [hg] at h8g
      simpa using h8g
    · have h10 := List.all_eq_true.1 h9 j (List.mem_range.2 hj)
      simp only [hoj, hd, Bool.and_eq_true, Bool.or_eq_true, decide_eq_true_eq, Bool.not_eq_true'] at h10
      obtain ⟨h11, h12⟩ := h10
      refine ⟨fun hne => ?_, fun hl => ?_⟩
      · have := h11.resolve_left hne
        simpa using this
      · have h13 := h12.resolve_left (by simpa using hl)
        obtain ⟨e, he, hb⟩ := Array.any_eq_true'.1 h13
        simp only [Bool.and_eq_true, beq_iff_eq] at hb
        exact ⟨e, he, hb.1, hb.2⟩
  exact ⟨h1, h2, h3, fun listed inv i hi hu => tail_waits h3 h4 h2 inv _ i rfl hi hu, fun i oi hi hoi => (key i oi hi hoi).1, fun i oi j oj d hi hj hoi hoj hd => ((key i oi hi hoi).2.2 j oj d hj hoj hd).1,
    fun i oi j oj d hi hj hoi hoj hd => ((key i oi hi hoi).2.2 j oj d hj hoj hd).2, fun i oi g want hi hoi hg => (key i oi hi hoi).2.1 g want hg⟩
theorem loB_seq {md : Region.Mode} {n : Nat} (h : loB md ops n S = true) : Region.seqB md ops (ops.size - n) n (Array.replicate n true ++ Array.replicate (ops.size - n) false) = true := by
  simp only [loB, Bool.and_eq_true, decide_eq_true_eq] at h
  exact h.1.2

theorem AgreeOn.put {o : Oper} {a a' : Act} (h : AgreeOn ops o a a') (d : Option Tmp) (v : Value) : AgreeOn ops o (a.put d v) (a'.put d v) := fun t ht => by
  have h1 := h t ht
  rw [put_get, put_get, h1]
  by_cases hd : d = some t
  · have hs : t < a.tmps.size ↔ t < a'.tmps.size := by
      constructor
      · intro hlt
        rcases Nat.lt_or_ge t a'.tmps.size with hh | hh
        · exact hh
        · rw [Array.getElem?_eq_getElem hlt, Array.getElem?_eq_none hh] at h1; cases h1
      · intro hlt
        rcases Nat.lt_or_ge t a.tmps.size with hh | hh
        · exact hh
        · rw [Array.getElem?_eq_getElem hlt, Array.getElem?_eq_none hh] at h1; cases h1
    simp only [hd, true_and, hs]
  · rw [if_neg (fun hh => hd hh.1), if_neg (fun hh => hd hh.1)]
theorem under_agree {o : Oper} {w : World} {K : Act → Prop} (hK : ∀ a b, AgreeOn ops o a b → K a → K b) : ∀ (L : List (Option Tmp × SpecV)) (a b : Act), AgreeOn ops o a b → under L a w K → under L b w K
  | [], a, b, h, hu => hK a b h hu
  | (d, V) :: r, a, b, h, hu => fun v lo hi hv h1 h2 => under_agree hK r _ _ (h.put d v) (hu v lo hi hv h1 h2)
theorem under_get (a : Act) {w : World} {K : Act → Prop} : ∀ (L : List (Option Tmp × SpecV)) (b : Act), b.tmps.size = a.tmps.size → under L b w K →
    (∀ p ∈ L, ∃ v lo hi, p.2 v lo hi w ∧ lo ≤ hi ∧ hi ≤ w.heap.size ∧ ∀ d, p.1 = some d → d < a.tmps.size → a.tmps[d]? = some v) →
    ∃ b', K b' ∧ (∀ s, (∀ p ∈ L, p.1 ≠ some s) → b'.tmps[s]? = b.tmps[s]?) ∧ ∀ s, (∃ p ∈ L, p.1 = some s) → b'.tmps[s]? = a.tmps[s]?
  | [], b, _, hu, _ => ⟨b, hu, fun _ _ => rfl, fun s ⟨p, hp, _⟩ => by cases hp⟩
  | (d, V) :: r, b, hs, hu, hL => by
    obtain ⟨v, lo, hi, h1, h2, h3, h4⟩ := hL (d, V) (by simp)
    obtain ⟨b', k1, k2, k3⟩ := under_get a r (b.put d v) (by rw [put_size, hs]) (hu v lo hi h1 h2 h3) (fun p hp => hL p (by simp [hp]))
    refine ⟨b', k1, fun s hn => ?_, fun s hex => ?_⟩
    · rw [k2 s (fun p hp => hn p (by simp [hp])), put_get, if_neg (fun hh => hn (d, V) (by simp) hh.1)]
    · by_cases hr : ∃ p ∈ r, p.1 = some s
      · exact k3 s hr
      · have hds : d = some s := by
          obtain ⟨p, hp, he⟩ := hex
          rcases List.mem_cons.1 hp with rfl | hp
          · exact he
          · exact absurd ⟨p, hp, he⟩ hr
        rw [k2 s (fun p hp he => hr ⟨p, hp, he⟩), put_get]
        by_cases hlt : s < b.tmps.size
        · rw [if_pos ⟨hds, hlt⟩, h4 s hds (by rw [← hs]; exact hlt)]
        · rw [if_neg (fun hh => hlt hh.2), Array.getElem?_eq_none (Nat.le_of_not_lt hlt), Array.getElem?_eq_none (by rw [← hs]; exact Nat.le_of_not_lt hlt)]

theorem specsOf_append (S : List Nat) (Vs : Nat → SpecV) : ∀ (l1 l2 : List Oper) (k : Nat), specsOf S Vs (l1 ++ l2) k = specsOf S Vs l1 k ++ specsOf S Vs l2 (k + l1.length)
  | [], l2, k => by simp [specsOf]
  | o :: l1, l2, k => by
    simp only [List.cons_append, specsOf, specsOf_append S Vs l1 l2 (k + 1), List.length_cons]
    rw [show k + 1 + l1.length = k + (l1.length + 1) by omega]
    split <;> simp
theorem specsOf_congr2 {Vs Vs' : Nat → SpecV} : ∀ (l : List Oper) (k : Nat), (∀ i, k ≤ i → i < k + l.length → Vs i = Vs' i) → specsOf S Vs l k = specsOf S Vs' l k
  | [], _, _ => rfl
  | o :: l, k, h => by
    simp only [specsOf, h k (Nat.le_refl _) (by simp), specsOf_congr2 l (k + 1) (fun i hi hj => h i (by omega) (by simp; omega))]
theorem mem_specs (S : List Nat) (Vs : Nat → SpecV) (p : Option Tmp × SpecV) : ∀ (l : List Oper) (k : Nat), p ∈ specsOf S Vs l k ↔ ∃ j o, l[j]? = some o ∧ S.contains (k + j) = true ∧ p = (o.dst, Vs (k + j))
  | [], k => by simp [specsOf]
  | o :: l, k => by
    have ih := mem_specs S Vs p l (k + 1)
    constructor
    · intro h
      simp only [specsOf] at h
      by_cases hs : S.contains k = true
      · rw [if_pos hs] at h
        rcases List.mem_cons.1 h with h | h
        · exact ⟨0, o, rfl, hs, h⟩
        · obtain ⟨j, o', h1, h2, h3⟩ := ih.1 h
          exact ⟨j + 1, o', by simpa using h1, by rw [show k + (j + 1) = k + 1 + j by omega]; exact h2, by rw [show k + (j + 1) = k + 1 + j by omega]; exact h3⟩
      · rw [if_neg hs] at h
        obtain ⟨j, o', h1, h2, h3⟩ := ih.1 h
        exact ⟨j + 1, o', by simpa using h1, by rw [show k + (j + 1) = k + 1 + j by omega]; exact h2, by rw [show k + (j + 1) = k + 1 + j by omega]; exact h3⟩
    · rintro ⟨j, o', h1, h2, h3⟩
      simp only [specsOf]
      cases j with
      | zero =>
        simp only [List.getElem?_cons_zero, Option.some.injEq] at h1
        subst h1
        rw [Nat.add_zero] at h2 h3
        rw [if_pos h2]
        exact List.mem_cons.2 (.inl h3)
      | succ j =>
        rw [show k + (j + 1) = k + 1 + j by omega] at h2 h3
        have := ih.2 ⟨j, o', by simpa using h1, h2, h3⟩
        split
        · exact List.mem_cons_of_mem _ this
        · exact this
theorem mem_looked {o : Oper} {acc : List (Option Tmp × SpecV)} {p : Option Tmp × SpecV} : p ∈ looked ops o acc ↔ p ∈ acc ∧ ∃ d, p.1 = some d ∧ d ∈ o.looksAt ops := by
  unfold looked
  rw [List.mem_filter]
  constructor
  · rintro ⟨h1, h2⟩
    refine ⟨h1, ?_⟩
    cases hd : p.1 with
    | none => rw [hd] at h2; cases h2
    | some d => rw [hd] at h2; exact ⟨d, rfl, by simpa using h2⟩
  · rintro ⟨h1, d, hd, h2⟩
    refine ⟨h1, ?_⟩
    rw [hd]
    simpa using h2

structure LoFacts (P : Program) (ops : Array Oper) (C : World → Prop) (S : List Nat) (L0 : List Oper) (fin : Act) (Vs : Nat → SpecV) (i : Nat) (o : Oper) : Prop where
  quiet : S.contains i = false → ∃ v, ((Region.wanted o (yielded ops fin.tmps) = true ∧ ∀ w, C w → under (looked ops o (specsOf S Vs (L0.take i) 0)) fin w (fun a' => tameAt P o a' w v)) ∨ (Region.wanted o (yielded ops fin.tmps) = false ∧ v = undef)) ∧ ∀ d, o.dst = some d → d < fin.tmps.size → fin.tmps[d]? = some v
  spec : S.contains i = true → Region.wanted o (yielded ops fin.tmps) = true ∧ (Vs i).Mono ∧ ∀ w, C w → under (looked ops o (specsOf S Vs (L0.take i) 0)) fin w (fun a' => specAt P o a' (Vs i) w)

variable {L0 : List Oper}

theorem lo_facts {md : Region.Mode} {n : Nat} (ok : LoOk md ops n S) (hL0 : L0.length = n ∧ ∀ j, j < n → L0[j]? = ops[j]?) {Q : List (Option Tmp × SpecV) → Act → Prop} :
    ∀ (l : List Oper) (k : Nat) (Vs0 : Nat → SpecV) (a : Act), l = L0.drop k → k ≤ n → wpLo P ops C S Q l k (specsOf S Vs0 (L0.take k) 0) a →
      ∃ fin Vs, (∀ i, i < k → Vs i = Vs0 i) ∧ Q (specsOf S Vs L0 0) fin ∧ fin.defers = a.defers ∧ fin.tmps.size = a.tmps.size ∧
        (∀ s, (∀ j o, k ≤ j → j < n → ops[j]? = some o → S.contains j = false → o.dst ≠ some s) → fin.tmps[s]? = a.tmps[s]?) ∧
        ∀ i o, k ≤ i → i < n → ops[i]? = some o → LoFacts P ops C S L0 fin Vs i o
  | [], k, Vs0, a, hl, hk, h => by
    have hkn : k = n := by have := congrArg List.length hl; simp [hL0.1] at this; omega
    refine ⟨a, Vs0, fun _ _ => rfl, ?_, rfl, rfl, fun _ _ => rfl, fun i o h1 h2 _ => by omega⟩
    unfold wpLo at h
    rwa [List.take_of_length_le (by omega)] at h
  | o :: l, k, Vs0, a, hl, hk, h => by
    have hkn : k < n := by have := congrArg List.length hl; simp [hL0.1] at this; omega
    have hLk : L0[k]? = some o := by have : (L0.drop k)[0]? = some o := by rw [← hl]; rfl
                                     simpa using this
    have h0 : ops[k]? = some o := by rw [← hL0.2 k hkn]; exact hLk
    have hl' : l = L0.drop (k + 1) := by
      have : l = (o :: l).drop 1 := rfl
      rw [this, hl, List.drop_drop]
    have hsel : ∀ cs b, o.op ≠ .select cs b := fun cs b => Region.noSelect_spec ok.sel k o cs b h0
    have hlater : ∀ t, t ∈ o.looksAt ops → ∀ j oj, k ≤ j → j < n → ops[j]? = some oj → oj.dst ≠ some t := fun t ht j oj hj hjn hoj hd => by
      obtain ⟨e, he, hb, hon⟩ := ok.dep j oj k o t hjn hkn hoj h0 hd ht
      have := ok.acyc k o hkn h0 e he hb
      omega
    have hta : ∀ Vs : Nat → SpecV, specsOf S Vs (L0.take (k + 1)) 0 = specsOf S Vs (L0.take k) 0 ++ (if S.contains k then [(o.dst, Vs k)] else []) := fun Vs => by
      have hk0 : k < L0.length := by rw [hL0.1]; exact hkn
      rw [List.take_add_one, hLk, specsOf_append]
      simp only [Option.toList, List.length_take, Nat.zero_add, Nat.min_eq_left (Nat.le_of_lt hk0), specsOf]
    simp only [wpLo] at h
    cases hsk : S.contains k with
    | true =>
      rw [if_pos hsk] at h
      obtain ⟨hw, V, hm, hv, hrest⟩ := h
      have hacc : specsOf S (fun i => if i = k then V else Vs0 i) (L0.take (k + 1)) 0 = specsOf S Vs0 (L0.take k) 0 ++ [(o.dst, V)] := by
        rw [hta, if_pos hsk]
        simp only [if_true]
        rw [specsOf_congr2 (Vs' := Vs0) (L0.take k) 0 (fun i _ hi => by rw [if_neg (by simp at hi; omega)])]
      rw [← hacc] at hrest
      obtain ⟨fin, Vs, hV, hQ, h1, h2, h3, h4⟩ := lo_facts ok hL0 l (k + 1) _ a hl' (by omega) hrest
      have hVk : Vs k = V := by rw [hV k (by omega), if_pos rfl]
      have hVs : ∀ i, i < k → Vs i = Vs0 i := fun i hi => by rw [hV i (by omega), if_neg (by omega)]
      have hag : AgreeOn ops o a fin := fun t ht => (h3 t (fun j oj hj hjn hoj _ => hlater t ht j oj (by omega) hjn hoj)).symm
      refine ⟨fin, Vs, hVs, hQ, h1, h2, fun s hs => h3 s (fun j oj hj hjn hoj hsj => hs j oj (by omega) hjn hoj hsj), fun i oi hi hin hoi => ?_⟩
      by_cases hik : i = k
      · subst hik
        obtain rfl : oi = o := Option.some.inj (hoi.symm.trans h0)
        refine ⟨fun hf => (by rw [hsk] at hf; cases hf), fun _ => ⟨by rw [← hag.wanted]; exact hw, by rw [hVk]; exact hm, fun w hcw => ?_⟩⟩
        rw [hVk, specsOf_congr2 (Vs' := Vs0) (L0.take i) 0 (fun j _ hj => hVs j (by simp at hj; omega))]
        refine under_agree (fun x y hxy hx => ?_) _ _ _ hag (hv w hcw)
        unfold specAt at *
        rwa [← hxy.exec hsel]
      · exact h4 i oi (by omega) hin hoi
    | false =>
      rw [if_neg (by rw [hsk]; exact Bool.false_ne_true)] at h
      obtain ⟨v, hy, hrest⟩ : ∃ v, ((Region.wanted o (yielded ops a.tmps) = true ∧ ∀ w, C w → under (looked ops o (specsOf S Vs0 (L0.take k) 0)) a w (fun a' => tameAt P o a' w v)) ∨ (Region.wanted o (yielded ops a.tmps) = false ∧ v = undef)) ∧ wpLo P ops C S Q l (k + 1) (specsOf S Vs0 (L0.take k) 0) (a.put o.dst v) := by
        by_cases hw : Region.wanted o (yielded ops a.tmps) = true
        · rw [if_pos hw] at h
          obtain ⟨v, h1, h2⟩ := h
          exact ⟨v, .inl ⟨hw, h1⟩, h2⟩
        · rw [if_neg hw] at h
          exact ⟨undef, .inr ⟨by simpa using hw, rfl⟩, h⟩
      have hacc : specsOf S Vs0 (L0.take (k + 1)) 0 = specsOf S Vs0 (L0.take k) 0 := by
        rw [hta, if_neg (by rw [hsk]; exact Bool.false_ne_true), List.append_nil]
      rw [← hacc] at hrest
      obtain ⟨fin, Vs, hV, hQ, h1, h2, h3, h4⟩ := lo_facts ok hL0 l (k + 1) _ _ hl' (by omega) hrest
      have hVs : ∀ i, i < k → Vs i = Vs0 i := fun i hi => hV i (by omega)
      have hput : ∀ s, o.dst ≠ some s → (a.put o.dst v).tmps[s]? = a.tmps[s]? := fun s hs => by rw [put_get, if_neg (fun hh => hs hh.1)]
      have hag : AgreeOn ops o a fin := fun t ht => by
        rw [h3 t (fun j oj hj hjn hoj _ => hlater t ht j oj (by omega) hjn hoj), hput t (hlater t ht k o (Nat.le_refl _) hkn h0)]
      refine ⟨fin, Vs, hVs, hQ, by rw [h1, put_def], by rw [h2, put_size], fun s hs => ?_, fun i oi hi hin hoi => ?_⟩
      · rw [h3 s (fun j oj hj hjn hoj hsj => hs j oj (by omega) hjn hoj hsj), hput s (hs k o (Nat.le_refl _) hkn h0 hsk)]
      · by_cases hik : i = k
        · subst hik
          obtain rfl : oi = o := Option.some.inj (hoi.symm.trans h0)
          refine ⟨fun _ => ⟨v, ?_, fun d hd hlt => ?_⟩, fun hs => (by rw [hsk] at hs; cases hs)⟩
          · rw [specsOf_congr2 (Vs' := Vs0) (L0.take i) 0 (fun j _ hj => hVs j (by simp at hj; omega)), ← hag.wanted]
            rcases hy with ⟨hw, hy⟩ | hy
            · refine .inl ⟨hw, fun w hcw => under_agree (fun x y hxy hx => ?_) _ _ _ hag (hy w hcw)⟩
              unfold tameAt at *
              rwa [← hxy.exec hsel]
            · exact .inr hy
          · rw [h3 d (fun j oj hj hjn hoj _ => ok.ne i oi j oj d hin hjn hoi hoj hd (by omega)), put_get, if_pos ⟨hd, by rw [h2, put_size] at hlt; exact hlt⟩]
        · exact h4 i oi (by omega) hin hoi

variable {md : Region.Mode} {n : Nat} {Vs : Nat → SpecV} {a0 fin : Act}

/-- What a ready operation looks at stands as in the last frame, with the special values put in. -/
theorem lo_agree (ok : LoOk md ops n S) (hL0 : L0.length = n ∧ ∀ j, j < n → L0[j]? = ops[j]?) (hun : ∀ s, (∀ j o, j < n → ops[j]? = some o → S.contains j = false → o.dst ≠ some s) → fin.tmps[s]? = a0.tmps[s]?)
    {listed : Array Bool} {a : Act} {w : World} {vals : Nat → Value} {lo hi : Nat → Nat} (inv : MixInv md ops C S n Vs a0 fin listed a w vals lo hi)
    {i : Nat} {oi : Oper} (hin : i < n) (hoi : ops[i]? = some oi) (hr : i ∈ Region.ready md ops listed) {K : Act → Prop} (hu : under (looked ops oi (specsOf S Vs (L0.take i) 0)) fin w K) : ∃ b, K b ∧ AgreeOn ops oi b a := by
  obtain ⟨_, o', ho', hall⟩ := mem_ready.1 hr
  obtain rfl : o' = oi := Option.some.inj (ho'.symm.trans hoi)
  have hlist : ∀ j oj t, j < n → ops[j]? = some oj → oj.dst = some t → t ∈ o'.looksAt ops → listed.getD j true = true ∧ j < i := fun j oj t hjn hoj hd ht => by
    obtain ⟨e, he, hb, hon⟩ := ok.dep j oj i o' t hjn hin hoj hoi hd ht
    have hl := hall e he hb
    rw [hon] at hl
    have hjs : j < listed.size := by rw [inv.head.size]; have := ok.lt; omega
    exact ⟨getD_true hjs hl, by have := ok.acyc i o' hin hoi e he hb; omega⟩
  have hmem : ∀ p ∈ looked ops o' (specsOf S Vs (L0.take i) 0), ∃ j oj t, j < n ∧ ops[j]? = some oj ∧ S.contains j = true ∧ p = (oj.dst, Vs j) ∧ oj.dst = some t ∧ t ∈ o'.looksAt ops := fun p hp => by
    obtain ⟨h1, d, hd, hdl⟩ := mem_looked.1 hp
    obtain ⟨j, oj, h2, h3, h4⟩ := (mem_specs S Vs p (L0.take i) 0).1 h1
    rw [Nat.zero_add] at h3 h4
    have hji : j < i := by
      have := (List.getElem?_eq_some_iff.1 h2).1
      simp at this; omega
    rw [List.getElem?_take, if_pos hji, hL0.2 j (by omega)] at h2
    exact ⟨j, oj, d, by omega, h2, h3, h4, by rw [← hd, h4], hdl⟩
  obtain ⟨b, k1, k2, k3⟩ := under_get a _ fin inv.size.symm hu (fun p hp => by
    obtain ⟨j, oj, t, hjn, hoj, hsj, rfl, hd, ht⟩ := hmem p hp
    have hl := (hlist j oj t hjn hoj hd ht).1
    obtain ⟨f1, f2, f3⟩ := inv.facts j hjn hl hsj
    exact ⟨vals j, lo j, hi j, f1, f2, f3, fun d hd2 hdl => inv.spec j oj d hjn hoj hl hsj hd2 hdl⟩)
  refine ⟨b, k1, fun t ht => ?_⟩
  by_cases hex : ∃ j oj, j < n ∧ ops[j]? = some oj ∧ oj.dst = some t
  · obtain ⟨j, oj, hjn, hoj, hd⟩ := hex
    obtain ⟨hl, hji⟩ := hlist j oj t hjn hoj hd ht
    cases hsj : S.contains j with
    | true =>
      refine k3 t ⟨(oj.dst, Vs j), mem_looked.2 ⟨(mem_specs S Vs _ _ _).2 ⟨j, oj, ?_, by rw [Nat.zero_add]; exact hsj, by rw [Nat.zero_add]⟩, t, hd, ht⟩, hd⟩
      rw [List.getElem?_take, if_pos hji, hL0.2 j hjn]; exact hoj
    | false =>
      rw [k2 t (fun p hp he => ?_)]
      · exact (inv.quiet j oj t hjn hoj hl hsj hd).symm
      · obtain ⟨j', oj', t', hjn', hoj', hsj', rfl, hd', _⟩ := hmem p hp
        refine ok.ne j oj j' oj' t hjn hjn' hoj hoj' hd (fun e => ?_) he
        subst e
        rw [hsj] at hsj'; cases hsj'
  · rw [k2 t (fun p hp he => by
      obtain ⟨j', oj', t', hjn', hoj', _, rfl, hd', _⟩ := hmem p hp
      exact hex ⟨j', oj', hjn', hoj', he⟩), inv.rest t (fun j oj hjn hoj _ hd => hex ⟨j, oj, hjn, hoj, hd⟩)]
    exact hun t (fun j oj hjn hoj _ hd => hex ⟨j, oj, hjn, hoj, hd⟩)

theorem lo_wanted (ok : LoOk md ops n S) (hun : ∀ s, (∀ j o, j < n → ops[j]? = some o → S.contains j = false → o.dst ≠ some s) → fin.tmps[s]? = a0.tmps[s]?)
    {listed : Array Bool} {a : Act} {w : World} {vals : Nat → Value} {lo hi : Nat → Nat} (inv : MixInv md ops C S n Vs a0 fin listed a w vals lo hi)
    {i : Nat} {oi : Oper} (hin : i < n) (hoi : ops[i]? = some oi) (hr : i ∈ Region.ready md ops listed) : Region.wanted oi (yielded ops fin.tmps) = Region.wanted oi (yielded ops a.tmps) := by
  obtain ⟨_, o', ho', hall⟩ := mem_ready.1 hr
  obtain rfl : o' = oi := Option.some.inj (ho'.symm.trans hoi)
  unfold Region.wanted
  cases hg : o'.guard with
  | none => rfl
  | some gw =>
    obtain ⟨g, want⟩ := gw
    obtain ⟨hsg, hgn⟩ := ok.grd i o' g want hin hoi hg
    have hy : yielded ops fin.tmps g = yielded ops a.tmps g := by
      unfold yielded
      cases ht : (ops[g]?).bind (·.dst) with
      | none => rfl
      | some t =>
        have htl : t ∈ o'.looksAt ops := List.mem_append_right _ (by simp [hg, ht])
        have hft : fin.tmps[t]? = a.tmps[t]? := by
          by_cases hex : ∃ j oj, j < n ∧ ops[j]? = some oj ∧ oj.dst = some t
          · obtain ⟨j, oj, hjn, hoj, hd⟩ := hex
            obtain ⟨e, he, hb, hon⟩ := ok.dep j oj i o' t hjn hin hoj hoi hd htl
            have hl := hall e he hb
            rw [hon] at hl
            have hjs : j < listed.size := by rw [inv.head.size]; have := ok.lt; omega
            have hji := ok.acyc i o' hin hoi e he hb
            have hsj : S.contains j = false := by
              obtain ⟨og, hog, hdg⟩ : ∃ og, ops[g]? = some og ∧ og.dst = some t := by
                cases h9 : ops[g]? with
                | none => rw [h9] at ht; cases ht
                | some og => rw [h9] at ht; exact ⟨og, rfl, ht⟩
              by_cases hjg : j = g
              · rw [hjg]; exact hsg
              · exact absurd hdg (ok.ne j oj g og t hjn hgn hoj hog hd hjg)
            exact (inv.quiet j oj t hjn hoj (getD_true hjs hl) hsj hd).symm
          · rw [inv.rest t (fun j oj hjn hoj _ hd => hex ⟨j, oj, hjn, hoj, hd⟩)]
            exact hun t (fun j oj hjn hoj _ hd => hex ⟨j, oj, hjn, hoj, hd⟩)
        simp [hft]
    simp only [hy]

/-- One more operation listed. -/
theorem lo_put (ok : LoOk md ops n S) (hC : ∀ w w', C w → Below w.heap.size w w' → C w')
    (hm : ∀ j oj, j < n → ops[j]? = some oj → S.contains j = true → (Vs j).Mono)
    {listed : Array Bool} {a : Act} {w w' : World} {vals : Nat → Value} {lo hi : Nat → Nat} (inv : MixInv md ops C S n Vs a0 fin listed a w vals lo hi)
    {i : Nat} {oi : Oper} (hin : i < n) (hoi : ops[i]? = some oi) (hr : i ∈ Region.ready md ops listed) {v : Value} (hb : Below w.heap.size w w')
    (hq : S.contains i = false → ∀ d, oi.dst = some d → d < fin.tmps.size → fin.tmps[d]? = some v) (hs : S.contains i = true → Vs i v w.heap.size w'.heap.size w') :
    MixInv md ops C S n Vs a0 fin (listed.setIfInBounds i true) (a.put oi.dst v) w' (fun j => if j = i then v else vals j) (fun j => if j = i then w.heap.size else lo j)
      (fun j => if j = i then w'.heap.size else hi j) := by
  have hne : ∀ j, j ≠ i → (listed.setIfInBounds i true).getD j true = listed.getD j true := fun j hj => getD_set_ne true (Ne.symm hj)
  have hsz := hb.size
  have hlt : ∀ {j}, j < n → j < ops.size := fun {j} hj => by have := ok.lt; omega
  refine ⟨inv.head.set hr hin, hC _ _ inv.cls hb, by rw [put_def, inv.defers], by rw [put_size, inv.size], fun j oj d hjn hoj hl hsj hd => ?_, fun j oj d hjn hoj hl hsj hd hdl => ?_, fun s hs' => ?_, fun j hjn hl hsj => ?_, fun j k hjn hkn hl hl' hsj hsk hjk => ?_⟩
  · rw [put_get]
    by_cases hji : j = i
    · subst hji
      obtain rfl : oj = oi := Option.some.inj (hoj.symm.trans hoi)
      by_cases hdl : d < a.tmps.size
      · rw [if_pos ⟨hd, hdl⟩, hq hsj d hd (by rw [← inv.size]; exact hdl)]
      · rw [if_neg (fun hh => hdl hh.2), Array.getElem?_eq_none (Nat.le_of_not_lt hdl), Array.getElem?_eq_none (by rw [← inv.size]; exact Nat.le_of_not_lt hdl)]
    · rw [if_neg (fun hh => ok.ne i oi j oj d hin hjn hoi hoj hh.1 (Ne.symm hji) hd)]
      rw [hne j hji] at hl
      exact inv.quiet j oj d hjn hoj hl hsj hd
  · rw [put_size] at hdl
    rw [put_get]
    by_cases hji : j = i
    · subst hji
      obtain rfl : oj = oi := Option.some.inj (hoj.symm.trans hoi)
      rw [if_pos ⟨hd, hdl⟩, if_pos rfl]
    · rw [if_neg (fun hh => ok.ne i oi j oj d hin hjn hoi hoj hh.1 (Ne.symm hji) hd), if_neg hji]
      rw [hne j hji] at hl
      exact inv.spec j oj d hjn hoj hl hsj hd hdl
  · rw [put_get, if_neg (fun hh => hs' i oi hin hoi getD_set_self hh.1)]
    refine inv.rest s (fun j oj hjn hoj hl hd => ?_)
    by_cases hji : j = i
    · subst hji
      exact hs' j oj hjn hoj getD_set_self hd
    · exact hs' j oj hjn hoj (by rw [hne j hji]; exact hl) hd
  · by_cases hji : j = i
    · subst hji
      simp only [if_true]
      exact ⟨hs hsj, hsz, Nat.le_refl _⟩
    · rw [hne j hji] at hl
      obtain ⟨oj, hoj⟩ : ∃ oj, ops[j]? = some oj := ⟨ops[j]'(hlt hjn), Array.getElem?_eq_getElem _⟩
      obtain ⟨h1, h2, h3⟩ := inv.facts j hjn hl hsj
      simp only [if_neg hji]
      exact ⟨hm j oj hjn hoj hsj _ _ _ _ _ h1 hb, h2, by omega⟩
  · by_cases hji : j = i
    · have hki : k ≠ i := fun h => hjk (hji.trans h.symm)
      rw [hne k hki] at hl'
      have := (inv.facts k hkn hl' hsk).2.2
      simp only [if_pos hji, if_neg hki]
      exact .inr this
    · rw [hne j hji] at hl
      by_cases hki : k = i
      · have := (inv.facts j hjn hl hsj).2.2
        simp only [if_neg hji, if_pos hki]
        exact .inl this
      · rw [hne k hki] at hl'
        simp only [if_neg hji, if_neg hki]
        exact inv.apart j k hjn hkn hl hl' hsj hsk hjk

/-- One step of a run of the head. -/
theorem lo_step (ok : LoOk md ops n S) (hL0 : L0.length = n ∧ ∀ j, j < n → L0[j]? = ops[j]?) (hC : ∀ w w', C w → Below w.heap.size w w' → C w')
    (hun : ∀ s, (∀ j o, j < n → ops[j]? = some o → S.contains j = false → o.dst ≠ some s) → fin.tmps[s]? = a0.tmps[s]?)
    (hf : ∀ j oj, j < n → ops[j]? = some oj → LoFacts P ops C S L0 fin Vs j oj) {Q' : Exit → Act → World → Prop} {K : Act → World → Prop}
    {listed : Array Bool} {a : Act} {w : World} {vals : Nat → Value} {lo hi : Nat → Nat} (inv : MixInv md ops C S n Vs a0 fin listed a w vals lo hi)
    {i : Nat} {oi : Oper} (hin : i < n) (hoi : ops[i]? = some oi) (hr : i ∈ Region.ready md ops listed)
    (hK : ∀ a' w' vals lo hi, MixInv md ops C S n Vs a0 fin (listed.setIfInBounds i true) a' w' vals lo hi → K a' w') : wpOp P ops Q' i K a w := by
  have hwa := lo_wanted ok hun inv hin hoi hr
  have hsel : ∀ cs b, oi.op ≠ .select cs b := fun cs b => Region.noSelect_spec ok.sel i oi cs b hoi
  have hm : ∀ j oj, j < n → ops[j]? = some oj → S.contains j = true → (Vs j).Mono := fun j oj hjn hoj hsj => ((hf j oj hjn hoj).spec hsj).2.1
  unfold wpOp
  simp only [hoi]
  cases hsi : S.contains i with
  | false =>
    obtain ⟨v, hy, hd⟩ := (hf i oi hin hoi).quiet hsi
    have hnext : ∀ w', Below w.heap.size w w' → K (a.put oi.dst v) w' := fun w' hb =>
      hK _ _ _ _ _ (lo_put ok hC hm inv hin hoi hr hb (fun _ => hd) (fun h => (by rw [hsi] at h; cases h)))
    rcases hy with ⟨hw, hv⟩ | ⟨hw, rfl⟩
    · rw [hwa] at hw
      rw [if_pos hw]
      obtain ⟨b, h1, hag⟩ := lo_agree ok hL0 hun inv hin hoi hr (hv w inv.cls)
      refine .inl ?_
      unfold tameAt at h1
      rw [hag.exec hsel] at h1
      unfold Oper.wp
      generalize (execOp a.eval oi).run P w = r at h1
      cases r with
      | ok nx w' =>
        cases nx with
        | value u => obtain ⟨rfl, rfl⟩ := h1; exact hnext _ (Below.refl _ _)
        | skip => obtain ⟨rfl, rfl⟩ := h1; exact hnext _ (Below.refl _ _)
        | enter f args =>
          obtain ⟨rfl, hc⟩ := h1
          exact hc.mono (fun e w'' he => by obtain ⟨rfl, hb⟩ := he; exact hnext _ hb)
        | _ => cases h1
      | halt x w' => cases h1
    · rw [hwa] at hw
      rw [if_neg (by rw [hw]; exact Bool.false_ne_true)]
      exact hnext _ (Below.refl _ _)
  | true =>
    obtain ⟨hw, hmo, hv⟩ := (hf i oi hin hoi).spec hsi
    rw [hwa] at hw
    rw [if_pos hw]
    obtain ⟨b, h1, hag⟩ := lo_agree ok hL0 hun inv hin hoi hr (hv w inv.cls)
    refine .inl ?_
    unfold specAt at h1
    rw [hag.exec hsel] at h1
    unfold Oper.wp
    have hnext : ∀ w' v, Below w.heap.size w w' → Vs i v w.heap.size w'.heap.size w' → K (a.put oi.dst v) w' := fun w' v hb hV =>
      hK _ _ _ _ _ (lo_put ok hC hm inv hin hoi hr hb (fun h => (by rw [hsi] at h; cases h)) (fun _ => hV))
    generalize (execOp a.eval oi).run P w = r at h1
    cases r with
    | ok nx w' =>
      cases nx with
      | value u => exact hnext _ _ h1.1 h1.2
      | enter f args =>
        obtain ⟨rfl, hc⟩ := h1
        exact hc.mono (fun e w'' he => by obtain ⟨v, rfl, hb, hV⟩ := he; exact hnext _ _ hb hV)
      | _ => cases h1
    | halt x w' => cases h1

/-- The end of a run of the head, with the special values put in. -/
theorem lo_specEnd {Q' : Exit → Act → World → Prop} {tail : List Oper} {w : World} {vals : Nat → Value} {lo hi : Nat → Nat} (ok : LoOk md ops n S)
    (hfa : ∀ i, i < n → S.contains i = true → Vs i (vals i) (lo i) (hi i) w ∧ lo i ≤ hi i ∧ hi i ≤ w.heap.size)
    (hap : ∀ i j, i < n → j < n → S.contains i = true → S.contains j = true → i ≠ j → hi i ≤ lo j ∨ hi j ≤ lo i) :
    ∀ (l : List Oper) (k : Nat) (b : Act) (ivs : List (Nat × Nat)), (∀ j, j < l.length → l[j]? = ops[k + j]?) → k + l.length = n →
      (∀ p ∈ ivs, ∃ i, i < k ∧ S.contains i = true ∧ p = (lo i, hi i)) → SpecEnd P ops Q' tail (specsOf S Vs l k) ivs b w →
      ∃ b', wpList P ops Q' tail b' w ∧ b'.defers = b.defers ∧ b'.tmps.size = b.tmps.size ∧
        (∀ s, (∀ j o, k ≤ j → j < n → ops[j]? = some o → S.contains j = true → o.dst ≠ some s) → b'.tmps[s]? = b.tmps[s]?) ∧
        ∀ j o d, k ≤ j → j < n → ops[j]? = some o → S.contains j = true → o.dst = some d → d < b.tmps.size → b'.tmps[d]? = some (vals j)
  | [], k, b, ivs, _, hk, _, h => by
    simp only [List.length_nil, Nat.add_zero] at hk
    exact ⟨b, h, rfl, rfl, fun _ _ => rfl, fun j o d h1 h2 => by omega⟩
  | o :: l, k, b, ivs, hl, hk, hiv, h => by
    have h0 : ops[k]? = some o := by simpa using (hl 0 (by simp)).symm
    simp only [List.length_cons] at hk
    have hkn : k < n := by omega
    have hl' : ∀ j, j < l.length → l[j]? = ops[k + 1 + j]? := fun j hj => by have := hl (j + 1) (by simp; omega); simpa [Nat.add_assoc, Nat.add_comm 1 j] using this
    cases hsk : S.contains k with
    | false =>
      simp only [specsOf, hsk, Bool.false_eq_true, if_false] at h
      obtain ⟨b', h1, h2, h3, h4, h5⟩ := lo_specEnd ok hfa hap l (k + 1) b ivs hl' (by omega) (fun p hp => by obtain ⟨i, hi, hh⟩ := hiv p hp; exact ⟨i, by omega, hh⟩) h
      refine ⟨b', h1, h2, h3, fun s hs => h4 s (fun j o hj => hs j o (by omega)), fun j oj d hj hjn hoj hsj hd hdl => ?_⟩
      by_cases hjk : j = k
      · subst hjk; rw [hsk] at hsj; cases hsj
      · exact h5 j oj d (by omega) hjn hoj hsj hd hdl
    | true =>
      simp only [specsOf, hsk, if_true] at h
      obtain ⟨f1, f2, f3⟩ := hfa k hkn hsk
      have h' := h (vals k) (lo k) (hi k) f1 f2 f3 (fun p hp => by
        obtain ⟨i, hi', hsi, rfl⟩ := hiv p hp
        exact hap i k (by omega) hkn hsi hsk (by omega))
      obtain ⟨b', h1, h2, h3, h4, h5⟩ := lo_specEnd ok hfa hap l (k + 1) _ _ hl' (by omega) (fun p hp => by
        rcases List.mem_append.1 hp with hp | hp
        · obtain ⟨i, hi, hh⟩ := hiv p hp; exact ⟨i, by omega, hh⟩
        · exact ⟨k, by omega, hsk, by simpa using hp⟩) h'
      refine ⟨b', h1, by rw [h2, put_def], by rw [h3, put_size], fun s hs => ?_, fun j oj d hj hjn hoj hsj hd hdl => ?_⟩
      · rw [h4 s (fun j o hj => hs j o (by omega)), put_get, if_neg (fun hh => hs k o (Nat.le_refl _) hkn h0 hsk hh.1)]
      · by_cases hjk : j = k
        · subst hjk
          obtain rfl : oj = o := Option.some.inj (hoj.symm.trans h0)
          rw [h4 d (fun m om hm hmn hom _ => ok.ne j oj m om d hjn hmn hoj hom hd (by omega)), put_get, if_pos ⟨hd, hdl⟩]
        · exact h5 j oj d (by omega) hjn hoj hsj hd (by rw [put_size]; exact hdl)

theorem lo_finish (ok : LoOk md ops n S) (hseq : Region.seqB md ops (ops.size - n) n (Array.replicate n true ++ Array.replicate (ops.size - n) false) = true) (hun : ∀ s, (∀ j o, j < n → ops[j]? = some o → S.contains j = false → o.dst ≠ some s) → fin.tmps[s]? = a0.tmps[s]?)
    {Q' : Exit → Act → World → Prop} {l : List Oper} (hl : l.toArray = ops) (hE : ∀ w', C w' → SpecEnd P ops Q' (l.drop n) (specsOf S Vs (l.take n) 0) [] fin w')
    {listed : Array Bool} {a : Act} {w : World} {vals : Nat → Value} {lo hi : Nat → Nat} (inv : MixInv md ops C S n Vs a0 fin listed a w vals lo hi)
    (hall : ∀ i, i < n → listed.getD i true = true) : wpAny P md ops Q' (ops.size - n) listed a w := by
  have hsz : ops.size = l.length := by rw [← hl]; simp
  have hnl : n < l.length := by have := ok.lt; omega
  have htl : (l.take n).length = n := by simp; omega
  obtain ⟨b', h1, h2, h3, h4, h5⟩ := lo_specEnd ok (fun i hin hsi => inv.facts i hin (hall i hin) hsi) (fun i j hin hjn hsi hsj hij => inv.apart i j hin hjn (hall i hin) (hall j hjn) hsi hsj hij)
    (l.take n) 0 fin [] (fun j hj => by rw [htl] at hj; rw [← hl]; simp [hj]) (by rw [htl]; omega) (fun p hp => by cases hp) (hE w inv.cls)
  have hab : a = b' := by
    have hts : a.tmps = b'.tmps := by
      apply Array.ext_getElem?
      intro s
      by_cases hex : ∃ j oj, j < n ∧ ops[j]? = some oj ∧ oj.dst = some s
      · obtain ⟨j, oj, hjn, hoj, hd⟩ := hex
        cases hsj : S.contains j with
        | true =>
          by_cases hsl : s < a.tmps.size
          · rw [inv.spec j oj s hjn hoj (hall j hjn) hsj hd hsl, h5 j oj s (Nat.zero_le _) hjn hoj hsj hd (by rw [← inv.size]; exact hsl)]
          · rw [Array.getElem?_eq_none (by omega), Array.getElem?_eq_none (by rw [h3, ← inv.size]; omega)]
        | false =>
          rw [inv.quiet j oj s hjn hoj (hall j hjn) hsj hd]
          refine (h4 s (fun m om _ hmn hom hsm hdm => ?_)).symm
          refine ok.ne j oj m om s hjn hmn hoj hom hd (fun hjm => ?_) hdm
          subst hjm
          rw [hsj] at hsm; cases hsm
      · rw [inv.rest s (fun j oj hjn hoj _ hd => hex ⟨j, oj, hjn, hoj, hd⟩), h4 s (fun j oj _ hjn hoj _ hd => hex ⟨j, oj, hjn, hoj, hd⟩),
          hun s (fun j oj hjn hoj _ hd => hex ⟨j, oj, hjn, hoj, hd⟩)]
    have hds : a.defers = b'.defers := by rw [inv.defers, h2]
    cases a; cases b'
    simp only at hts hds
    subst hts; subst hds
    rfl
  have hlist : listed = Array.replicate n true ++ Array.replicate (ops.size - n) false := by
    apply Array.ext
    · rw [inv.head.size]; simp; have := ok.lt; omega
    · intro i hi1 hi2
      by_cases hin : i < n
      · have := hall i hin
        rw [Array.getElem_append_left (by simpa using hin)]
        simpa [hi1] using this
      · have := inv.head.tail i (by omega) (by rw [← inv.head.size]; exact hi1)
        rw [Array.getElem_append_right (by simp; omega)]
        simpa [hi1] using this
  have hdl : (l.drop n).length = ops.size - n := by simp [hsz]
  subst hab
  have := wpAny_of_seq (P := P) (md := md) (ops := ops) (Q' := Q') (l.drop n) n listed a w (fun j => by rw [← hl]; simp [List.getElem?_drop]) (by rw [hdl, hlist]; exact hseq) h1
  rwa [hdl] at this

theorem lo_run (ok : LoOk md ops n S) (hL0 : L0.length = n ∧ ∀ j, j < n → L0[j]? = ops[j]?) (hC : ∀ w w', C w → Below w.heap.size w w' → C w')
    (hun : ∀ s, (∀ j o, j < n → ops[j]? = some o → S.contains j = false → o.dst ≠ some s) → fin.tmps[s]? = a0.tmps[s]?)
    (hf : ∀ j oj, j < n → ops[j]? = some oj → LoFacts P ops C S L0 fin Vs j oj)
    {Q' : Exit → Act → World → Prop} (hE : ∀ listed a w vals lo hi, MixInv md ops C S n Vs a0 fin listed a w vals lo hi → (∀ i, i < n → listed.getD i true = true) → wpAny P md ops Q' (ops.size - n) listed a w) :
    ∀ (f : Nat) (L : List Nat) (listed : Array Bool) (a : Act) (w : World) (vals : Nat → Value) (lo hi : Nat → Nat), L.Nodup → (∀ i, i ∈ L ↔ i < n ∧ listed.getD i true = false) → L.length = f →
      MixInv md ops C S n Vs a0 fin listed a w vals lo hi → wpAny P md ops Q' (f + (ops.size - n)) listed a w
  | 0, L, listed, a, w, vals, lo, hi, _, hL, hf0, inv => by
    rw [Nat.zero_add]
    have : L = [] := List.eq_nil_of_length_eq_zero hf0
    subst this
    refine hE listed a w vals lo hi inv (fun i hin => ?_)
    cases h : listed.getD i true with
    | true => rfl
    | false => exact absurd ((hL i).2 ⟨hin, h⟩) (by simp)
  | f + 1, L, listed, a, w, vals, lo, hi, hnd, hL, hf1, inv => by
    rw [show f + 1 + (ops.size - n) = (f + (ops.size - n)) + 1 by omega]
    have hex : ∃ i, i ∈ L := by
      cases L with
      | nil => cases hf1
      | cons x _ => exact ⟨x, by simp⟩
    obtain ⟨x, hx⟩ := hex
    obtain ⟨hxn, hxu⟩ := (hL x).1 hx
    -- the least that is not listed is ready
    have hleast : ∀ m x, x ≤ m → x < n → listed.getD x true = false → ∃ i, i ∈ Region.ready md ops listed := by
      intro m
      induction m with
      | zero =>
        intro x hxm hxn hxu
        have hx0 : x = 0 := by omega
        subst hx0
        have hlt : 0 < ops.size := by have := ok.lt; omega
        refine ⟨0, mem_ready.2 ⟨hxu, ops[0], Array.getElem?_eq_getElem hlt, fun e he hb => ?_⟩⟩
        have := ok.acyc 0 _ hxn (Array.getElem?_eq_getElem hlt) e he hb
        omega
      | succ m ih =>
        intro x hxm hxn hxu
        have hlt : x < ops.size := by have := ok.lt; omega
        by_cases hh : ∃ y, y < x ∧ listed.getD y true = false
        · obtain ⟨y, hy, hyu⟩ := hh
          exact ih y (by omega) (by omega) hyu
        · refine ⟨x, mem_ready.2 ⟨hxu, ops[x], Array.getElem?_eq_getElem hlt, fun e he hb => ?_⟩⟩
          have hex := ok.acyc x _ hxn (Array.getElem?_eq_getElem hlt) e he hb
          cases hle : listed.getD e.on true with
          | false => exact absurd ⟨e.on, hex, hle⟩ hh
          | true =>
            have hes : e.on < listed.size := by rw [inv.head.size]; omega
            simp [hes] at hle ⊢; exact hle
    refine ⟨fun h0 => ?_, fun i hir => ?_⟩
    · obtain ⟨i, hi⟩ := hleast x x (Nat.le_refl _) hxn hxu
      rw [h0] at hi; cases hi
    · have hin : i < n := by
        rcases Nat.lt_or_ge i n with h | h
        · exact h
        · exact absurd hir (ok.wait _ inv.head x hxn hxu i h)
      obtain ⟨hiu, oi, hoi, _⟩ := mem_ready.1 hir
      have hiL : i ∈ L := (hL i).2 ⟨hin, hiu⟩
      refine lo_step ok hL0 hC hun hf inv hin hoi hir (fun a' w' vals' lo' hi' inv' => ?_)
      refine lo_run ok hL0 hC hun hf hE f (L.erase i) _ a' w' vals' lo' hi' (hnd.erase i) (fun j => ?_) (by rw [List.length_erase_of_mem hiL, hf1]; rfl) inv'
      rw [hnd.mem_erase_iff, hL j]
      by_cases hji : j = i
      · subst hji
        simp
      · rw [getD_set_ne true (Ne.symm hji)]
        simp [hji]

end

/-- The rule: a region that draws its order, with a head in any order and a tail in the order of the text. -/
theorem wp_region_lo {P : Program} {C : World → Prop} (hC : ∀ w w', C w → Below w.heap.size w w' → C w') {id n : Nat} {S : List Nat} {Q : Exit → Act → World → Prop} {a : Act} {w : World} {l : List Oper}
    (hm : P.follows .mixedOrders = true) (hB : loB .any l.toArray n S = true) (hw : C { w with drawn := w.drawn + 1 })
    (h : wpLo P l.toArray C S (fun acc a' => ∀ w', C w' → SpecEnd P l.toArray Q (l.drop n) acc [] a' w') (l.take n) 0 [] a) : (Code.region id l.toArray true).wp P Q a w := by
  have ok := loOk hB
  have hnl : n < l.length := by simpa using ok.lt
  have htl : (l.take n).length = n := by simp; omega
  have hL0 : (l.take n).length = n ∧ ∀ j, j < n → (l.take n)[j]? = l.toArray[j]? := ⟨htl, fun j hj => by simp [hj]⟩
  obtain ⟨fin, Vs, _, hE, h1, h2, h3, h4⟩ := lo_facts (L0 := l.take n) ok hL0 (l.take n) 0 (fun _ _ _ _ _ => True) a rfl (Nat.zero_le _) h
  refine wp_region_any hm ?_
  have H := lo_run (Q' := Q) (md := .any) (a0 := a) (fin := fin) (L0 := l.take n) ok hL0 hC (fun s hs => h3 s (fun j o _ => hs j o)) (fun j oj hjn hoj => h4 j oj (Nat.zero_le _) hjn hoj)
    (fun listed a' w' vals lo hi inv hall => lo_finish ok (loB_seq hB) (fun s hs => h3 s (fun j o _ => hs j o)) rfl hE inv hall) n (List.range n) (Array.replicate l.toArray.size false) a { w with drawn := w.drawn + 1 } (fun _ => undef) (fun _ => 0) (fun _ => 0) List.nodup_range
    (fun i => by
      rw [List.mem_range]
      constructor
      · intro hi
        exact ⟨hi, getD_in (by simp; omega) (getD_replicate_false _ _)⟩
      · exact fun hh => hh.1) (by simp)
    (by
      have hno : ∀ i, i < n → (Array.replicate l.toArray.size false).getD i true = true → False := fun i hi hh => by
        rw [getD_in (by simp; omega) (getD_replicate_false _ _)] at hh
        cases hh
      refine ⟨⟨by simp, fun j oj _ hl => (by rw [getD_replicate_false] at hl; cases hl), fun t _ ht => getD_in (by simpa using ht) (getD_replicate_false _ _)⟩, hw, h1.symm, h2.symm,
        fun i o d hi _ hl => (hno i hi hl).elim, fun i o d hi _ hl => (hno i hi hl).elim, fun s _ => rfl, fun i hi hl => (hno i hi hl).elim, fun i j hi _ hl => (hno i hi hl).elim⟩)
  have hsz : n + (l.toArray.size - n) = l.toArray.size := by have := ok.lt; omega
  rwa [hsz] at H
theorem wp_region_lo_plus {P : Program} {id : Nat} {Q : Exit → Act → World → Prop} {a : Act} {w : World} {l : List Oper} (n : Nat) (S : List Nat) (hm : P.follows .mixedOrders = true) (hB : loB .any l.toArray n S = true)
    (h : wpLo P l.toArray (fun w' => ∃ x, w' = plus w x) S (fun acc a' => ∀ w', (∃ x, w' = plus w x) → SpecEnd P l.toArray Q (l.drop n) acc [] a' w') (l.take n) 0 [] a) : (Code.region id l.toArray true).wp P Q a w :=
  wp_region_lo (by rintro _ w' ⟨x, rfl⟩ hb; exact plus_next hb) hm hB ⟨{ w with heap := #[], drawn := w.drawn + 1 }, by simp [plus]⟩ h

end Go.Proofs.Ytcgajlobbjoefaa
