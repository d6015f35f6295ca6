/- This text speaks of caches as lists: which are valid, what the calls return of them, and that they stay valid. It has no program in sight. Conditions: those that each theorem names. -/
import Derived.Test.YtcgajlobbjoefaaCacheY
import Derived.Test.YtcgajlobbjoefaaCacheM
namespace Go.Proofs.Ytcgajlobbjoefaa
open Go.ChangeShapes Go.WideShapes Go.ChangeAt Go.RowKit
set_option linter.unusedVariables false
set_option linter.unusedSimpArgs false

/-- A valid cache, in plain words. -/
structure RightP (cp : Int) (bl : List Pc) (hs : List Hd) : Prop where
  cap : 0 ≤ cp ∧ cp ≤ 256
  len : (bl.length : Int) ≤ cp
  hlen : hs.length ≤ 64
  hrng : ∀ h ∈ hs, rangedB h = true
  asc : AscH hs
  perm : ∀ p ∈ bl, ∃ h ∈ hs, h.hid = p.pid ∧ h.vers = p.vers
  rng : ∀ p ∈ bl, 0 ≤ p.pos ∧ p.pos ≤ 9007199254740991 ∧ p.data.size ≤ 65536
  free : bl.Pairwise (fun a b => clashB a b = false)

theorem mem_get! {α : Type} [Inhabited α] {l : List α} {k : Nat} (hk : k < l.length) : l[k]! ∈ l := by
  rw [getElem!_pos l k hk]
  exact List.getElem_mem _
theorem get!_of_mem {α : Type} [Inhabited α] {l : List α} {x : α} (h : x ∈ l) : ∃ k, k < l.length ∧ l[k]! = x := by
  obtain ⟨k, hk, e⟩ := List.getElem_of_mem h
  exact ⟨k, hk, by rw [getElem!_pos l k hk]; exact e⟩
theorem asc_index {hs : List Hd} (ha : AscH hs) {i j : Nat} (hi : i < hs.length) (hj : j < hs.length) (e : hs[i]!.hid = hs[j]!.hid) : i = j := by
  rcases Nat.lt_trichotomy i j with h | h | h
  · have := asc_get ha h hj; omega
  · exact h
  · have := asc_get ha h hi; omega
theorem hold_index {hs : List Hd} (ha : AscH hs) {i : Nat} (hi : i < hs.length) : holdI hs[i]!.hid hs = (i : Int) := by
  rcases hold_cases hs[i]!.hid hs with ⟨_, h⟩ | ⟨k, hk, h1, h2, _⟩
  · exact absurd rfl (h i hi)
  · rw [h1, asc_index ha hk hi h2]
theorem perm_iff {hs : List Hd} (ha : AscH hs) (p : Pc) : permB hs p = true ↔ (∃ h ∈ hs, h.hid = p.pid ∧ h.vers = p.vers) ∧ 0 ≤ p.pos ∧ p.pos ≤ 9007199254740991 ∧ p.data.size ≤ 65536 := by
  unfold permB
  rw [Bool.and_eq_true, Bool.and_eq_true, decide_eq_true_eq, decide_eq_true_eq, decide_eq_true_eq]
  constructor
  · rintro ⟨⟨h0, h1⟩, h2⟩
    refine ⟨?_, h2⟩
    rcases hold_cases p.pid hs with ⟨e, _⟩ | ⟨k, hk, e, h3, _⟩
    · rw [e] at h0; omega
    · rw [e] at h1
      exact ⟨hs[k]!, mem_get! hk, h3, by simpa using h1⟩
  · rintro ⟨⟨h, hm, h1, h2⟩, h3⟩
    refine ⟨?_, h3⟩
    obtain ⟨i, hi, e⟩ := get!_of_mem hm
    have := hold_index ha hi
    rw [e, h1] at this
    rw [this]
    exact ⟨by omega, by show hs[i]!.vers = p.vers; rw [e]; exact h2⟩
theorem holds_iff (hs : List Hd) : holdsB hs = true ↔ hs.length ≤ 64 ∧ (∀ h ∈ hs, rangedB h = true) ∧ AscH hs := by
  constructor
  · intro h
    have ha := holds_asc h
    unfold holdsB at h
    rw [Bool.and_eq_true, decide_eq_true_eq] at h
    refine ⟨h.2, fun x hx => ?_, ha⟩
    obtain ⟨i, hi, e⟩ := get!_of_mem hx
    have h1 := h.1
    unfold upH at h1
    rw [List.all_eq_true] at h1
    have := h1 i (List.mem_range.2 hi)
    unfold stepH at this
    rw [Bool.and_eq_true, e] at this
    exact this.1
  · rintro ⟨h1, h2, h3⟩
    unfold holdsB
    rw [Bool.and_eq_true, decide_eq_true_eq]
    refine ⟨?_, h1⟩
    unfold upH
    rw [List.all_eq_true]
    intro j hj
    have hj := List.mem_range.1 hj
    unfold stepH
    rw [h2 _ (mem_get! hj), Bool.true_and, Bool.or_eq_true, decide_eq_true_eq, decide_eq_true_eq]
    by_cases h0 : j = 0
    · exact .inl h0
    · exact .inr (asc_get h3 (by omega) hj)
theorem up_iff (hs : List Hd) (bl : List Pc) : upB hs bl bl.length = true ↔ (∀ p ∈ bl, permB hs p = true) ∧ bl.Pairwise (fun a b => clashB a b = false) := by
  unfold upB
  rw [List.all_eq_true]
  constructor
  · intro h
    constructor
    · intro p hp
      obtain ⟨i, hi, e⟩ := get!_of_mem hp
      have := h i (List.mem_range.2 hi)
      unfold stepB at this
      rw [Bool.and_eq_true, e] at this
      exact this.1
    · rw [List.pairwise_iff_getElem]
      intro i j hi hj hij
      have := h j (List.mem_range.2 hj)
      unfold stepB noneB at this
      rw [Bool.and_eq_true, List.all_eq_true] at this
      have := this.2 i (List.mem_range.2 hij)
      rw [getElem!_pos bl i hi, getElem!_pos bl j hj, clashB_comm] at this
      simpa using this
  · rintro ⟨h1, h2⟩ i hi
    have hi := List.mem_range.1 hi
    unfold stepB noneB
    rw [h1 _ (mem_get! hi), Bool.true_and, List.all_eq_true]
    intro j hj
    have hj := List.mem_range.1 hj
    have := List.pairwise_iff_getElem.1 h2 j i (by omega) hi hj
    rw [getElem!_pos bl i hi, getElem!_pos bl j (by omega), clashB_comm, this]
    rfl
theorem right_iff (cp : Int) (bl : List Pc) (hs : List Hd) : rightB cp bl hs = true ↔ RightP cp bl hs := by
  unfold rightB
  rw [Bool.and_eq_true, Bool.and_eq_true, Bool.and_eq_true, decide_eq_true_eq, decide_eq_true_eq, holds_iff, up_iff]
  constructor
  · rintro ⟨h1, h2, ⟨h3, h4, h5⟩, h6, h7⟩
    exact ⟨h1, h2, h3, h4, h5, fun p hp => ((perm_iff h5 p).1 (h6 p hp)).1, fun p hp => ((perm_iff h5 p).1 (h6 p hp)).2, h7⟩
  · rintro ⟨h1, h2, h3, h4, h5, h6, h7, h8⟩
    exact ⟨h1, h2, ⟨h3, h4, h5⟩, fun p hp => (perm_iff h5 p).2 ⟨h6 p hp, h7 p hp⟩, h8⟩

theorem RightP.ok {cp : Int} {bl : List Pc} {hs : List Hd} (h : RightP cp bl hs) : ∀ y ∈ bl, OkP y := fun y hy => by
  obtain ⟨h1, h2, h3⟩ := h.rng y hy
  exact ⟨⟨h1, h2⟩, by omega⟩

/-! ### The calls on lists -/
theorem RightP.sub {cp : Int} {bl bl' : List Pc} {hs : List Hd} (h : RightP cp bl hs) (hb : bl'.Sublist bl) : RightP cp bl' hs :=
  ⟨h.cap, by have := hb.length_le; have := h.len; omega, h.hlen, h.hrng, h.asc, fun p hp => h.perm p (hb.mem hp), fun p hp => h.rng p (hb.mem hp), h.free.sublist hb⟩
theorem RightP.permuted {cp : Int} {bl bl' : List Pc} {hs : List Hd} (h : RightP cp bl hs) (hb : bl'.Perm bl) : RightP cp bl' hs :=
  ⟨h.cap, by have := hb.length_eq; have := h.len; omega, h.hlen, h.hrng, h.asc, fun p hp => h.perm p (hb.mem_iff.1 hp), fun p hp => h.rng p (hb.mem_iff.1 hp), (hb.pairwise_iff (fun {a b} hab => by rw [clashB_comm]; exact hab)).2 h.free⟩
theorem useL_perm {k : Nat} {bl : List Pc} (hk : k < bl.length) : (useL k bl).Perm bl := by
  have e : bl = bl.take k ++ bl[k]! :: bl.drop (k + 1) := by
    rw [getElem!_pos bl k hk, ← List.drop_eq_getElem_cons hk, List.take_append_drop]
  have e2 : useL k bl = bl.take k ++ (bl.drop (k + 1) ++ [bl[k]!]) := by unfold useL; rw [List.append_assoc]
  rw [e2]
  have : (bl.take k ++ (bl.drop (k + 1) ++ [bl[k]!])).Perm (bl.take k ++ bl[k]! :: bl.drop (k + 1)) := (List.perm_append_singleton _ _).append_left _
  rw [← e] at this
  exact this

/-- The pieces of other files. -/
def notI (id : Int) (bl : List Pc) : List Pc := bl.filter fun y => !decide (y.pid = id)
def notH (id : Int) (hs : List Hd) : List Hd := hs.filter fun y => !decide (y.hid = id)
theorem notI_mem {id : Int} {bl : List Pc} {p : Pc} : p ∈ notI id bl ↔ p ∈ bl ∧ p.pid ≠ id := by
  unfold notI
  rw [List.mem_filter]
  simp
theorem notH_mem {id : Int} {hs : List Hd} {p : Hd} : p ∈ notH id hs ↔ p ∈ hs ∧ p.hid ≠ id := by
  unfold notH
  rw [List.mem_filter]
  simp
theorem RightP.notI {cp : Int} {bl : List Pc} {hs : List Hd} (h : RightP cp bl hs) (id : Int) : RightP cp (notI id bl) hs := h.sub List.filter_sublist
theorem RightP.release {cp : Int} {bl : List Pc} {hs : List Hd} (h : RightP cp bl hs) (id : Int) : RightP cp (Proofs.Ytcgajlobbjoefaa.notI id bl) (notH id hs) := by
  have hsub : (notH id hs).Sublist hs := List.filter_sublist
  have h1 := h.notI id
  refine ⟨h1.cap, h1.len, by have := hsub.length_le; have := h.hlen; omega, fun x hx => h.hrng x (hsub.mem hx), h.asc.sublist hsub, fun p hp => ?_, h1.rng, h1.free⟩
  obtain ⟨hp1, hp2⟩ := notI_mem.1 hp
  obtain ⟨x, hx, e1, e2⟩ := h.perm p hp1
  exact ⟨x, notH_mem.2 ⟨hx, by rw [e1]; exact hp2⟩, e1, e2⟩
theorem notH_self {id : Int} {hs : List Hd} (he : ∀ j, j < hs.length → hs[j]!.hid ≠ id) : notH id hs = hs := by
  unfold notH
  rw [List.filter_eq_self]
  intro x hx
  obtain ⟨k, hk, e⟩ := get!_of_mem hx
  have := he k hk
  rw [e] at this
  simp [this]
theorem RightP.notI_self {cp : Int} {bl : List Pc} {hs : List Hd} (h : RightP cp bl hs) {id : Int} (he : ∀ j, j < hs.length → hs[j]!.hid ≠ id) : Proofs.Ytcgajlobbjoefaa.notI id bl = bl := by
  unfold Proofs.Ytcgajlobbjoefaa.notI
  rw [List.filter_eq_self]
  intro x hx
  obtain ⟨y, hy, e1, _⟩ := h.perm x hx
  obtain ⟨k, hk, e⟩ := get!_of_mem hy
  have := he k hk
  rw [e, e1] at this
  simp [this]

theorem posE_lt {α : Type} [Inhabited α] (c : α → Int) : ∀ (ys : List α) (j : Nat), j < posE c ys → c ys[j]! < 0
  | [], j, h => by simp [posE] at h
  | y :: ys, j, h => by
    unfold posE at h
    rw [List.takeWhile_cons] at h
    split at h
    · rename_i hy
      cases j with
      | zero => simpa using hy
      | succ j => simpa using posE_lt c ys j (by unfold posE; simpa using h)
    · simp at h
theorem posE_not {α : Type} [Inhabited α] (c : α → Int) : ∀ (ys : List α), posE c ys < ys.length → ¬ c ys[posE c ys]! < 0
  | [], h => by simp at h
  | y :: ys, h => by
    have ih := posE_not c ys
    unfold posE at h ih ⊢
    rw [List.takeWhile_cons] at h ⊢
    split
    · rename_i hy
      rw [if_pos hy] at h
      simpa using ih (by simpa using h)
    · rename_i hy
      simpa using hy

/-- The holds in front of a file's place and those behind it. -/
def loH (id : Int) (hs : List Hd) : List Hd := hs.filter fun y => decide (y.hid < id)
def hiH (id : Int) (hs : List Hd) : List Hd := hs.filter fun y => decide (id < y.hid)
theorem parts_of {id : Int} {A B : List Hd} (hA : ∀ a ∈ A, a.hid < id) (hB : ∀ b ∈ B, id < b.hid) : loH id (A ++ B) = A ∧ hiH id (A ++ B) = B := by
  unfold loH hiH
  rw [List.filter_append, List.filter_append, List.filter_eq_self.2 (fun a ha => by have := hA a ha; simp [this]), List.filter_eq_nil_iff.2 (fun b hb => by have := hB b hb; simp; omega), List.filter_eq_nil_iff.2 (fun a ha => by have := hA a ha; simp; omega), List.filter_eq_self.2 (fun b hb => by have := hB b hb; simp [this])]
  simp
theorem parts_hit {id : Int} {A B : List Hd} {y : Hd} (hy : y.hid = id) (hA : ∀ a ∈ A, a.hid < id) (hB : ∀ b ∈ B, id < b.hid) : loH id (A ++ y :: B) = A ∧ hiH id (A ++ y :: B) = B := by
  unfold loH hiH
  rw [List.filter_append, List.filter_append, List.filter_cons, List.filter_cons, List.filter_eq_self.2 (fun a ha => by have := hA a ha; simp [this]), List.filter_eq_nil_iff.2 (fun b hb => by have := hB b hb; simp; omega), List.filter_eq_nil_iff.2 (fun a ha => by have := hA a ha; simp; omega), List.filter_eq_self.2 (fun b hb => by have := hB b hb; simp [this])]
  simp [hy]
theorem split_hit {hs : List Hd} (ha : AscH hs) {k : Nat} (hk : k < hs.length) : hs = hs.take k ++ hs[k]! :: hs.drop (k + 1) ∧ (∀ a ∈ hs.take k, a.hid < hs[k]!.hid) ∧ ∀ b ∈ hs.drop (k + 1), hs[k]!.hid < b.hid := by
  refine ⟨by rw [getElem!_pos hs k hk, ← List.drop_eq_getElem_cons hk, List.take_append_drop], fun a h => ?_, fun b h => ?_⟩
  · obtain ⟨i, hi, e⟩ := List.getElem_of_mem h
    rw [List.length_take] at hi
    rw [List.getElem_take] at e
    have := asc_get ha (a := i) (b := k) (by omega) hk
    rw [getElem!_pos hs i (by omega), e] at this
    exact this
  · obtain ⟨i, hi, e⟩ := List.getElem_of_mem h
    rw [List.length_drop] at hi
    rw [List.getElem_drop] at e
    have := asc_get ha (a := k) (b := k + 1 + i) (by omega) (by omega)
    rw [getElem!_pos hs (k + 1 + i) (by omega), e] at this
    exact this
theorem split_miss {hs : List Hd} (ha : AscH hs) {id : Int} (he : ∀ j, j < hs.length → hs[j]!.hid ≠ id) : (∀ a ∈ hs.take (posH id hs), a.hid < id) ∧ ∀ b ∈ hs.drop (posH id hs), id < b.hid := by
  have hlt : ∀ j, j < posH id hs → j < hs.length → hs[j]!.hid < id := fun j hj hl => by
    have := posE_lt (fun y : Hd => cmpI y.hid id) hs j hj
    exact cmp_lt.1 this
  have hge : ∀ j, posH id hs ≤ j → j < hs.length → id < hs[j]!.hid := fun j hj hl => by
    have h1 : ¬ cmpI hs[posH id hs]!.hid id < 0 := posE_not (fun y : Hd => cmpI y.hid id) hs (show posH id hs < hs.length by omega)
    rw [cmp_lt] at h1
    have h2 := he (posH id hs) (by omega)
    by_cases e : posH id hs = j
    · rw [e] at h1 h2; omega
    · have := asc_get ha (a := posH id hs) (b := j) (by omega) hl
      omega
  constructor
  · intro a h
    obtain ⟨i, hi, e⟩ := List.getElem_of_mem h
    rw [List.length_take] at hi
    rw [List.getElem_take] at e
    have := hlt i (by omega) (by omega)
    rw [getElem!_pos hs i (by omega), e] at this
    exact this
  · intro b h
    obtain ⟨i, hi, e⟩ := List.getElem_of_mem h
    rw [List.length_drop] at hi
    rw [List.getElem_drop] at e
    have := hge (posH id hs + i) (by omega) (by omega)
    rw [getElem!_pos hs (posH id hs + i) (by omega), e] at this
    exact this
theorem drop_hit {hs : List Hd} (ha : AscH hs) {k : Nat} (hk : k < hs.length) : dropH k hs = notH hs[k]!.hid hs := by
  obtain ⟨e, h1, h2⟩ := split_hit ha hk
  generalize hs[k]! = y at e h1 h2 ⊢
  unfold dropH
  generalize hs.take k = A at e h1 ⊢
  generalize hs.drop (k + 1) = B at e h2 ⊢
  subst e
  unfold notH
  rw [List.filter_append, List.filter_cons, List.filter_eq_self.2 (fun a ha => by have := h1 a ha; simp; omega), List.filter_eq_self.2 (fun b hb => by have := h2 b hb; simp; omega)]
  simp
theorem fold_lo {h : Hd} : ∀ (A : List Hd) (l : List Hd), (∀ a ∈ A, a.hid < h.hid) → A.foldl (stepP h) (l, false) = (l ++ A, false)
  | [], l, _ => by simp
  | a :: A, l, hA => by
    have h1 : a.hid < h.hid := hA a (by simp)
    have e : stepP h (l, false) a = (l ++ [a], false) := by
      unfold stepP
      rw [decide_eq_false (by omega), if_neg (by simp), if_neg (by omega)]
      rfl
    rw [List.foldl_cons, e, fold_lo A _ (fun x hx => hA x (by simp [hx]))]
    simp
theorem fold_hi {h : Hd} : ∀ (B : List Hd) (l : List Hd), (∀ b ∈ B, h.hid < b.hid) → B.foldl (stepP h) (l, true) = (l ++ B, true)
  | [], l, _ => by simp
  | b :: B, l, hB => by
    have h1 : h.hid < b.hid := hB b (by simp)
    have e : stepP h (l, true) b = (l ++ [b], true) := by
      unfold stepP
      rw [if_neg (by simp), if_neg (by omega)]
      rfl
    rw [List.foldl_cons, e, fold_hi B _ (fun x hx => hB x (by simp [hx]))]
    simp
theorem put_parts {h : Hd} {A B : List Hd} (hA : ∀ a ∈ A, a.hid < h.hid) (hB : ∀ b ∈ B, h.hid < b.hid) : putH h (A ++ B) = A ++ h :: B := by
  unfold putH
  rw [List.foldl_append, fold_lo A [] hA]
  cases B with
  | nil => simp [endPut]
  | cons b B =>
    have h1 : h.hid < b.hid := hB b (by simp)
    have e : stepP h ([] ++ A, false) b = (A ++ [h] ++ [b], true) := by
      unfold stepP
      rw [decide_eq_true (by omega), if_pos (by rfl), if_neg (by omega)]
      simp
    rw [List.foldl_cons, e, fold_hi B _ (fun x hx => hB x (by simp [hx]))]
    simp [endPut]
theorem put_parts_hit {h y : Hd} (hy : y.hid = h.hid) {A B : List Hd} (hA : ∀ a ∈ A, a.hid < h.hid) (hB : ∀ b ∈ B, h.hid < b.hid) : putH h (A ++ y :: B) = A ++ h :: B := by
  unfold putH
  rw [List.foldl_append, fold_lo A [] hA]
  have e : stepP h ([] ++ A, false) y = (A ++ [h], true) := by
    unfold stepP
    rw [decide_eq_true (by omega), if_pos (by rfl), if_pos hy]
    simp
  rw [List.foldl_cons, e, fold_hi B _ hB]
  simp [endPut]
theorem put_hit {hs : List Hd} (ha : AscH hs) {k : Nat} (hk : k < hs.length) (h : Hd) (he : hs[k]!.hid = h.hid) : putH h hs = hs.set k h := by
  obtain ⟨e, h1, h2⟩ := split_hit ha hk
  rw [he] at h1 h2
  have es : hs.set k h = hs.take k ++ h :: hs.drop (k + 1) := List.set_eq_take_append_cons_drop.trans (by rw [if_pos hk])
  rw [es]
  have := put_parts_hit he h1 h2
  rw [← e] at this
  exact this
theorem put_miss_eq {hs : List Hd} (ha : AscH hs) (h : Hd) (he : ∀ j, j < hs.length → hs[j]!.hid ≠ h.hid) : putH h hs = hs.take (posH h.hid hs) ++ h :: hs.drop (posH h.hid hs) := by
  obtain ⟨h1, h2⟩ := split_miss ha he
  have := put_parts h1 h2
  rw [List.take_append_drop] at this
  exact this
/-- A hold that is put in at its place: the holds of the other files stay. -/
theorem asc_put {hs A B : List Hd} {h : Hd} (ha : AscH hs) (hs1 : (A ++ B).Sublist hs) (hA : ∀ a ∈ A, a.hid < h.hid) (hB : ∀ b ∈ B, h.hid < b.hid) : AscH (A ++ h :: B) := by
  have h1 : (A ++ B).Pairwise fun a b => a.hid < b.hid := ha.sublist hs1
  rw [List.pairwise_append] at h1
  unfold AscH
  rw [List.pairwise_append, List.pairwise_cons]
  refine ⟨h1.1, ⟨hB, h1.2.1⟩, fun a hx b hy => ?_⟩
  rcases List.mem_cons.1 hy with e | hy
  · rw [e]; exact hA a hx
  · exact h1.2.2 a hx b hy

theorem RightP.set {cp : Int} {bl bl' : List Pc} {hs : List Hd} (h : RightP cp bl hs) (hb : bl'.Sublist bl) {k : Nat} (hk : k < hs.length) (x : Hd) (hx : rangedB x = true) (he : hs[k]!.hid = x.hid) (hv : ∀ p ∈ bl', p.pid = x.hid → p.vers = x.vers) : RightP cp bl' (putH x hs) := by
  have h1 := h.sub hb
  have e := put_hit h.asc hk x he
  obtain ⟨e1, hA, hB⟩ := split_hit h.asc hk
  rw [he] at hA hB
  have es : putH x hs = hs.take k ++ x :: hs.drop (k + 1) := by
    rw [e]; exact List.set_eq_take_append_cons_drop.trans (by rw [if_pos hk])
  have hsub : (hs.take k ++ hs.drop (k + 1)).Sublist hs := by
    have : (hs.take k ++ hs.drop (k + 1)).Sublist (hs.take k ++ hs[k]! :: hs.drop (k + 1)) := (List.sublist_cons_self _ _).append_left _
    rw [← e1] at this
    exact this
  refine ⟨h1.cap, h1.len, by rw [e, List.length_set]; exact h.hlen, fun y hy => ?_, by rw [es]; exact asc_put h.asc hsub hA hB, fun p hp => ?_, h1.rng, h1.free⟩
  · rw [es] at hy
    rcases List.mem_append.1 hy with hy | hy
    · exact h.hrng y (List.mem_of_mem_take hy)
    · rcases List.mem_cons.1 hy with e | hy
      · rw [e]; exact hx
      · exact h.hrng y (List.mem_of_mem_drop hy)
  · obtain ⟨y, hy, hy1, hy2⟩ := h1.perm p hp
    by_cases c : p.pid = x.hid
    · exact ⟨x, by rw [es]; simp, c.symm, (hv p hp c).symm⟩
    · refine ⟨y, ?_, hy1, hy2⟩
      rw [e1] at hy
      rw [es]
      rcases List.mem_append.1 hy with hy | hy
      · exact List.mem_append.2 (.inl hy)
      · rcases List.mem_cons.1 hy with e9 | hy
        · rw [e9, he] at hy1; exact absurd hy1.symm c
        · exact List.mem_append.2 (.inr (List.mem_cons.2 (.inr hy)))
theorem RightP.insert {cp : Int} {bl : List Pc} {hs : List Hd} (h : RightP cp bl hs) (x : Hd) (hx : rangedB x = true) (he : ∀ j, j < hs.length → hs[j]!.hid ≠ x.hid) (hf : hs.length < 64) : RightP cp bl (putH x hs) := by
  have e := put_miss_eq h.asc x he
  obtain ⟨hA, hB⟩ := split_miss h.asc he
  have hsub : (hs.take (posH x.hid hs) ++ hs.drop (posH x.hid hs)).Sublist hs := by rw [List.take_append_drop]; exact List.Sublist.refl _
  have hmem : ∀ y ∈ hs, y ∈ putH x hs := fun y hy => by
    rw [← List.take_append_drop (posH x.hid hs) hs] at hy
    rw [e]
    rcases List.mem_append.1 hy with hy | hy
    · exact List.mem_append.2 (.inl hy)
    · exact List.mem_append.2 (.inr (List.mem_cons.2 (.inr hy)))
  refine ⟨h.cap, h.len, ?_, fun y hy => ?_, by rw [e]; exact asc_put h.asc hsub hA hB, fun p hp => ?_, h.rng, h.free⟩
  · rw [e, List.length_append, List.length_cons, List.length_take, List.length_drop]
    omega
  · rw [e] at hy
    rcases List.mem_append.1 hy with hy | hy
    · exact h.hrng y (List.mem_of_mem_take hy)
    · rcases List.mem_cons.1 hy with e | hy
      · rw [e]; exact hx
      · exact h.hrng y (List.mem_of_mem_drop hy)
  · obtain ⟨y, hy, hy1, hy2⟩ := h.perm p hp
    exact ⟨y, hmem y hy, hy1, hy2⟩
theorem RightP.put {cp : Int} {bl : List Pc} {hs : List Hd} (h : RightP cp bl hs) (p : Pc) (hp : permB hs p = true) (hc : cp ≠ 0) : RightP cp (putL cp p bl) hs := by
  obtain ⟨q1, q2⟩ := (perm_iff h.asc p).1 hp
  have hf : (bl.filter fun y => !clashB p y).Sublist bl := List.filter_sublist
  have h1 := h.sub hf
  have hcap := h.cap
  have key : ∀ x ∈ (bl.filter fun y => !clashB p y) ++ [p], (x ∈ bl ∨ x = p) := fun x hx => by
    rcases List.mem_append.1 hx with hx | hx
    · exact .inl (hf.mem hx)
    · exact .inr (by simpa using hx)
  have pw : ((bl.filter fun y => !clashB p y) ++ [p]).Pairwise (fun a b => clashB a b = false) := by
    rw [List.pairwise_append]
    refine ⟨h1.free, List.pairwise_singleton _ _, fun a ha b hb => ?_⟩
    obtain rfl : b = p := by simpa using hb
    have := (List.mem_filter.1 ha).2
    rw [clashB_comm]
    simpa using this
  have hl := h1.len
  unfold putL
  split
  · rename_i hlt
    have hd : (((bl.filter fun y => !clashB p y) ++ [p]).drop 1).Sublist ((bl.filter fun y => !clashB p y) ++ [p]) := List.drop_sublist _ _
    refine ⟨h.cap, ?_, h.hlen, h.hrng, h.asc, fun x hx => ?_, fun x hx => ?_, pw.sublist hd⟩
    · rw [List.length_drop, List.length_append]
      simp only [List.length_singleton]
      omega
    · rcases key x (hd.mem hx) with hx | rfl
      · exact h.perm x hx
      · exact q1
    · rcases key x (hd.mem hx) with hx | rfl
      · exact h.rng x hx
      · exact q2
  · rename_i hge
    refine ⟨h.cap, ?_, h.hlen, h.hrng, h.asc, fun x hx => ?_, fun x hx => ?_, pw⟩
    · rw [List.length_append]
      simp only [List.length_singleton]
      omega
    · rcases key x hx with hx | rfl
      · exact h.perm x hx
      · exact q1
    · rcases key x hx with hx | rfl
      · exact h.rng x hx
      · exact q2

end Go.Proofs.Ytcgajlobbjoefaa
