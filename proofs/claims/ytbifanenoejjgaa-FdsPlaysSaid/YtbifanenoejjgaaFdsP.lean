/- This text proves plain facts about groups of descriptors: what a valid group is, and that the calls keep it. It has no conditions. -/
import Derived.Test.YtbifanenoejjgaaFdsK
namespace Go.Proofs.Ytbifanenoejjgaa
set_option linter.unusedVariables false
set_option linter.unusedSimpArgs false

/-- Two descriptors agree but for their numbers. -/
def agreeB (x y : Fd) : Bool := decide (x.dev = y.dev ∧ x.id = y.id ∧ x.fid = y.fid ∧ x.path = y.path ∧ x.name = y.name ∧ x.mode = y.mode ∧ x.offset = y.offset)
def okB (x : Fd) : Bool := decide (0 ≤ x.num ∧ x.num < 64 ∧ 0 ≤ x.mode ∧ x.mode ≤ 127 ∧ 0 ≤ x.offset ∧ x.offset ≤ 9007199254740991 ∧ 0 ≤ x.copy ∧ x.copy < 64) && validB x.dev x.id x.fid x.path x.name
def ascB : List Fd → Bool
  | [] => true
  | x :: xs => xs.all (fun y => decide (x.num < y.num)) && ascB xs
def copB (xs : List Fd) : Bool := xs.all fun x => xs.all fun y => !(decide (x.copy = y.copy)) || agreeB x y
/-- A valid group. -/
def rightB (id : Int) (xs : List Fd) : Bool := decide (0 ≤ id ∧ id ≤ 9007199254740991) && (xs.all okB && (ascB xs && copB xs))

structure RightP (id : Int) (xs : List Fd) : Prop where
  hid : 0 ≤ id ∧ id ≤ 9007199254740991
  ok : ∀ x ∈ xs, okB x = true
  asc : xs.Pairwise (fun x y => x.num < y.num)
  cop : ∀ x ∈ xs, ∀ y ∈ xs, x.copy = y.copy → agreeB x y = true

theorem ascB_iff : ∀ xs : List Fd, ascB xs = true ↔ xs.Pairwise (fun x y => x.num < y.num)
  | [] => by simp [ascB]
  | x :: xs => by simp [ascB, ascB_iff xs]
theorem copB_iff (xs : List Fd) : copB xs = true ↔ ∀ x ∈ xs, ∀ y ∈ xs, x.copy = y.copy → agreeB x y = true := by
  simp only [copB, List.all_eq_true, Bool.or_eq_true, Bool.not_eq_true', decide_eq_false_iff_not]
  constructor
  · intro h x hx y hy e
    rcases h x hx y hy with h | h
    · exact absurd e h
    · exact h
  · intro h x hx y hy
    by_cases e : x.copy = y.copy
    · exact .inr (h x hx y hy e)
    · exact .inl e
theorem rightB_iff (id : Int) (xs : List Fd) : rightB id xs = true ↔ RightP id xs := by
  simp only [rightB, Bool.and_eq_true, decide_eq_true_eq, List.all_eq_true, ascB_iff, copB_iff]
  exact ⟨fun ⟨a, b, c, d⟩ => ⟨a, b, c, d⟩, fun ⟨a, b, c, d⟩ => ⟨a, b, c, d⟩⟩
theorem okB_iff (x : Fd) : okB x = true ↔ 0 ≤ x.num ∧ x.num < 64 ∧ 0 ≤ x.mode ∧ x.mode ≤ 127 ∧ 0 ≤ x.offset ∧ x.offset ≤ 9007199254740991 ∧ 0 ≤ x.copy ∧ x.copy < 64 ∧ validB x.dev x.id x.fid x.path x.name = true := by
  simp only [okB, Bool.and_eq_true, decide_eq_true_eq]
  exact ⟨fun ⟨⟨a, b, c, d, e, f, g, h⟩, i⟩ => ⟨a, b, c, d, e, f, g, h, i⟩, fun ⟨a, b, c, d, e, f, g, h, i⟩ => ⟨⟨a, b, c, d, e, f, g, h⟩, i⟩⟩
theorem agreeB_iff (x y : Fd) : agreeB x y = true ↔ x.dev = y.dev ∧ x.id = y.id ∧ x.fid = y.fid ∧ x.path = y.path ∧ x.name = y.name ∧ x.mode = y.mode ∧ x.offset = y.offset := by
  simp [agreeB]
theorem agreeB_symm {x y : Fd} (h : agreeB x y = true) : agreeB y x = true := by
  rw [agreeB_iff] at h ⊢
  obtain ⟨a, b, c, d, e, f, g⟩ := h
  exact ⟨a.symm, b.symm, c.symm, d.symm, e.symm, f.symm, g.symm⟩
theorem agreeB_self (x : Fd) : agreeB x x = true := by simp [agreeB_iff]

/-- In an ascending list what stands ahead is less. -/
theorem asc_get {xs : List Fd} (h : xs.Pairwise (fun x y => x.num < y.num)) {i j : Nat} (hij : i < j) (hj : j < xs.length) : xs[i]!.num < xs[j]!.num := by
  rw [getElem!_pos xs i (by omega), getElem!_pos xs j hj]
  exact List.pairwise_iff_getElem.1 h i j (by omega) hj hij
theorem asc_mono {xs : List Fd} (h : xs.Pairwise (fun x y => x.num < y.num)) (t : Int) : MonoE (fun y : Fd => cmpI y.num t) xs := by
  intro a b hab hb hc
  have h1 : xs[b]!.num < t := by
    simp only [cmpI] at hc
    split at hc
    · assumption
    · split at hc <;> omega
  have h2 : xs[a]!.num < t := by
    rcases Nat.lt_or_eq_of_le hab with h3 | h3
    · have := asc_get h h3 hb; omega
    · rw [h3]; exact h1
  simp only [cmpI, h2, if_true]
  omega
theorem mem_of_get {xs : List Fd} {i : Nat} (h : i < xs.length) : xs[i]! ∈ xs := by rw [getElem!_pos xs i h]; exact List.getElem_mem _
theorem get_of_mem {xs : List Fd} {x : Fd} (h : x ∈ xs) : ∃ i, i < xs.length ∧ xs[i]! = x := by
  obtain ⟨i, hi, e⟩ := List.getElem_of_mem h
  exact ⟨i, hi, by rw [getElem!_pos xs i hi]; exact e⟩
/-- Numbers of an ascending list of at most 64 numbers. -/
theorem asc_len {id : Int} {xs : List Fd} (h : RightP id xs) : xs.length ≤ 64 := by
  have key : ∀ (ys : List Fd) (k : Int), (∀ y ∈ ys, k ≤ y.num ∧ y.num < 64) → ys.Pairwise (fun x y => x.num < y.num) → k ≤ 64 → (ys.length : Int) ≤ 64 - k := by
    intro ys
    induction ys with
    | nil => intro k _ _ hk; simp; omega
    | cons y ys ih =>
      intro k h1 h2 hk
      have hy := h1 y (by simp)
      rw [List.pairwise_cons] at h2
      have := ih (y.num + 1) (fun z hz => ⟨by have := h2.1 z hz; omega, (h1 z (by simp [hz])).2⟩) h2.2 (by omega)
      simp only [List.length_cons]
      omega
  have := key xs 0 (fun y hy => by have := (okB_iff y).1 (h.ok y hy); omega) h.asc (by omega)
  omega

/-! ### Insertion -/
def insL (d : Fd) : List Fd → List Fd
  | [] => [d]
  | x :: xs => if x.num < d.num then x :: insL d xs else d :: x :: xs
theorem withL_eq (d : Fd) : ∀ xs : List Fd, withL d xs = insL d xs
  | [] => by simp [withL, insL, posE]
  | x :: xs => by
    by_cases h : x.num < d.num
    · have e : posE (fun y : Fd => cmpI y.num d.num) (x :: xs) = posE (fun y : Fd => cmpI y.num d.num) xs + 1 := by
        unfold posE
        rw [List.takeWhile_cons]
        simp [cmpI, h]
      have ih := withL_eq d xs
      unfold withL at ih ⊢
      rw [e, List.take_succ_cons, List.drop_succ_cons, List.cons_append, ih]
      simp [insL, h]
    · have e : posE (fun y : Fd => cmpI y.num d.num) (x :: xs) = 0 := by
        unfold posE
        rw [List.takeWhile_cons]
        by_cases h2 : d.num < x.num <;> simp [cmpI, h, h2]
      unfold withL
      rw [e]
      simp [insL, h]
theorem mem_insL (d y : Fd) : ∀ xs : List Fd, y ∈ insL d xs ↔ y = d ∨ y ∈ xs
  | [] => by simp [insL]
  | x :: xs => by
    unfold insL
    split
    · rw [List.mem_cons, mem_insL d y xs, List.mem_cons]
      constructor
      · rintro (h | h | h)
        · exact .inr (.inl h)
        · exact .inl h
        · exact .inr (.inr h)
      · rintro (h | h | h)
        · exact .inr (.inl h)
        · exact .inl h
        · exact .inr (.inr h)
    · simp
theorem insL_length (d : Fd) : ∀ xs : List Fd, (insL d xs).length = xs.length + 1
  | [] => rfl
  | x :: xs => by
    unfold insL
    split
    · simp [insL_length d xs]
    · simp
theorem insL_asc (d : Fd) : ∀ xs : List Fd, xs.Pairwise (fun x y => x.num < y.num) → (∀ x ∈ xs, x.num ≠ d.num) → (insL d xs).Pairwise (fun x y => x.num < y.num)
  | [], _, _ => by simp [insL]
  | x :: xs, h, hne => by
    rw [List.pairwise_cons] at h
    unfold insL
    split
    · rename_i hlt
      rw [List.pairwise_cons]
      refine ⟨fun y hy => ?_, insL_asc d xs h.2 (fun z hz => hne z (by simp [hz]))⟩
      rcases (mem_insL d y xs).1 hy with e | hy'
      · rw [e]; exact hlt
      · exact h.1 y hy'
    · rename_i hge
      have := hne x (by simp)
      rw [List.pairwise_cons]
      refine ⟨fun y hy => ?_, List.pairwise_cons.2 h⟩
      rcases List.mem_cons.1 hy with e | hy'
      · rw [e]; omega
      · have := h.1 y hy'; omega
theorem right_ins {id : Int} {xs : List Fd} {d : Fd} (h : RightP id xs) (hd : okB d = true) (hn : ∀ x ∈ xs, x.num ≠ d.num) (hc : ∀ x ∈ xs, x.copy = d.copy → agreeB x d = true) : RightP id (withL d xs) := by
  rw [withL_eq]
  refine ⟨h.hid, fun x hx => ?_, insL_asc d xs h.asc hn, fun x hx y hy e => ?_⟩
  · rcases (mem_insL d x xs).1 hx with e | hx'
    · rw [e]; exact hd
    · exact h.ok x hx'
  · rcases (mem_insL d x xs).1 hx with ex | hx'
    · rcases (mem_insL d y xs).1 hy with ey | hy'
      · rw [ex, ey]; exact agreeB_self d
      · rw [ex]; exact agreeB_symm (hc y hy' (by rw [← e, ex]))
    · rcases (mem_insL d y xs).1 hy with ey | hy'
      · rw [ey]; exact hc x hx' (by rw [e, ey])
      · exact h.cop x hx' y hy' e
theorem ins_filter (d : Fd) (p : Fd → Bool) (hd : p d = false) : ∀ xs : List Fd, (∀ x ∈ xs, p x = true) → (insL d xs).filter p = xs
  | [], _ => by simp [insL, hd]
  | x :: xs, h => by
    unfold insL
    split
    · rw [List.filter_cons, if_pos (h x (by simp)), ins_filter d p hd xs (fun z hz => h z (by simp [hz]))]
    · rw [List.filter_cons, hd, if_neg (by simp), List.filter_eq_self.2 h]

/-! ### The lowest free number -/
theorem low_exists (key : Fd → Int) (xs : List Fd) : ∀ k : Nat, (∀ j : Nat, j < k → keyAt key j xs = true) ∨ ∃ m : Nat, m < k ∧ (∀ j : Nat, j < m → keyAt key j xs = true) ∧ keyAt key m xs = false
  | 0 => .inl (fun j hj => absurd hj (Nat.not_lt_zero _))
  | k + 1 => by
    rcases low_exists key xs k with h | ⟨m, h1, h2, h3⟩
    · cases hk : keyAt key k xs with
      | false => exact .inr ⟨k, by omega, h, hk⟩
      | true =>
        refine .inl (fun j hj => ?_)
        rcases (by omega : j < k ∨ j = k) with h' | h'
        · exact h j h'
        · rw [h']; exact hk
    · exact .inr ⟨m, by omega, h2, h3⟩
theorem lowF_spec (key : Fd → Int) (xs : List Fd) : (∀ j : Nat, j < lowF key xs → keyAt key j xs = true) ∧ keyAt key (lowF key xs) xs = false ∧ lowF key xs ≤ xs.length := by
  rcases low_exists key xs (xs.length + 1) with h | ⟨m, h1, h2, h3⟩
  · have := pigeon key _ xs h; omega
  · rw [lowF_eq key xs m h2 h3]
    exact ⟨h2, h3, by omega⟩
theorem keyAt_false {key : Fd → Int} {k : Int} {xs : List Fd} (h : keyAt key k xs = false) : ∀ x ∈ xs, key x ≠ k := fun x hx e => by
  have : keyAt key k xs = true := (keyAt_iff _ _ _).2 ⟨x, hx, e⟩
  rw [h] at this; cases this
/-- In a full group each number is open. -/
theorem low_full {id : Int} {xs : List Fd} (h : RightP id xs) : 64 ≤ lowF Fd.num xs ↔ 64 ≤ xs.length := by
  constructor
  · intro h1
    have := (lowF_spec Fd.num xs).2.2
    omega
  · intro h1
    rcases Nat.lt_or_ge (lowF Fd.num xs) 64 with h2 | h2
    · exfalso
      have h3 := keyAt_false (lowF_spec Fd.num xs).2.1
      have hr : RightP id (withL { num := (lowF Fd.num xs : Nat), dev := 0, id := 1, fid := 0, path := .empty, name := .empty, mode := 0, offset := 0, copy := 0 } xs) → False := by
        intro hr
        have := asc_len hr
        rw [withL_eq, insL_length] at this
        omega
      -- count: an ascending list of numbers below 64 with one more
      have key : ∀ (ys : List Fd) (k : Int), (∀ y ∈ ys, k ≤ y.num ∧ y.num < 64) → ys.Pairwise (fun x y => x.num < y.num) → k ≤ 64 → (ys.length : Int) ≤ 64 - k := by
        intro ys
        induction ys with
        | nil => intro k _ _ hk; simp; omega
        | cons y ys ih =>
          intro k h1 h2 hk
          have hy := h1 y (by simp)
          rw [List.pairwise_cons] at h2
          have := ih (y.num + 1) (fun z hz => ⟨by have := h2.1 z hz; omega, (h1 z (by simp [hz])).2⟩) h2.2 (by omega)
          simp only [List.length_cons]
          omega
      have h4 := insL_asc { num := (lowF Fd.num xs : Nat), dev := 0, id := 1, fid := 0, path := .empty, name := .empty, mode := 0, offset := 0, copy := 0 } xs h.asc h3
      have h5 := key _ 0 (fun y hy => by
        rcases (mem_insL _ y xs).1 hy with e | hy'
        · rw [e]; simp; omega
        · have := (okB_iff y).1 (h.ok y hy'); omega) h4 (by omega)
      rw [insL_length] at h5
      omega
    · exact h2

/-! ### Removal -/
theorem dropAt_sub (k : Nat) (xs : List Fd) : (dropAt k xs).Sublist xs := by
  unfold dropAt
  rw [← List.eraseIdx_eq_take_drop_succ]
  exact List.eraseIdx_sublist xs k
theorem right_sub {id : Int} {xs ys : List Fd} (h : RightP id xs) (hs : ys.Sublist xs) : RightP id ys :=
  ⟨h.hid, fun x hx => h.ok x (hs.subset hx), h.asc.sublist hs, fun x hx y hy e => h.cop x (hs.subset hx) y (hs.subset hy) e⟩
theorem filter_dropAt {xs : List Fd} (h : xs.Pairwise (fun x y => x.num < y.num)) {k : Nat} {num : Int} (hk : k < xs.length) (e : xs[k]!.num = num) : xs.filter (fun y => decide (y.num ≠ num)) = dropAt k xs := by
  rw [getElem!_pos xs k hk] at e
  have h0 : xs = xs.take k ++ xs[k] :: xs.drop (k + 1) := by rw [List.getElem_cons_drop, List.take_append_drop]
  have h1 : (xs.take k ++ xs[k] :: xs.drop (k + 1)).Pairwise (fun x y => x.num < y.num) := by rw [← h0]; exact h
  rw [List.pairwise_append, List.pairwise_cons] at h1
  obtain ⟨p1, ⟨p2, p3⟩, p4⟩ := h1
  have f1 : (xs.take k).filter (fun y => decide (y.num ≠ num)) = xs.take k := List.filter_eq_self.2 (fun a ha => by
    have := p4 a ha xs[k] (List.mem_cons.2 (.inl rfl))
    simp; omega)
  have f2 : (xs.drop (k + 1)).filter (fun y => decide (y.num ≠ num)) = xs.drop (k + 1) := List.filter_eq_self.2 (fun a ha => by
    have := p2 a ha
    simp; omega)
  have : xs.filter (fun y => decide (y.num ≠ num)) = (xs.take k ++ xs[k] :: xs.drop (k + 1)).filter (fun y => decide (y.num ≠ num)) := by rw [← h0]
  rw [this, List.filter_append, List.filter_cons, f1, f2, if_neg (by simp [e])]
  rfl

/-! ### Moves -/
theorem right_move {id : Int} {xs : List Fd} (h : RightP id xs) (s off : Int) (ho : 0 ≤ off ∧ off ≤ 9007199254740991) : RightP id (xs.map (mvF s off)) := by
  have hnum : ∀ x, (mvF s off x).num = x.num := fun x => by unfold mvF; split <;> rfl
  have hcop : ∀ x, (mvF s off x).copy = x.copy := fun x => by unfold mvF; split <;> rfl
  refine ⟨h.hid, fun x hx => ?_, ?_, fun x hx y hy e => ?_⟩
  · obtain ⟨y, hy, rfl⟩ := List.mem_map.1 hx
    have := (okB_iff y).1 (h.ok y hy)
    rw [okB_iff]
    unfold mvF
    split
    · obtain ⟨a, b, c, d, e, f, g, i, j⟩ := this
      exact ⟨a, b, c, d, ho.1, ho.2, g, i, j⟩
    · exact this
  · rw [List.pairwise_map]
    refine h.asc.imp (fun hab => ?_)
    rw [hnum, hnum]; exact hab
  · obtain ⟨a, ha, rfl⟩ := List.mem_map.1 hx
    obtain ⟨b, hb, rfl⟩ := List.mem_map.1 hy
    rw [hcop, hcop] at e
    have := (agreeB_iff a b).1 (h.cop a ha b hb e)
    rw [agreeB_iff]
    unfold mvF
    rw [e]
    split
    · obtain ⟨a1, b1, c1, d1, e1, f1, g1⟩ := this
      exact ⟨a1, b1, c1, d1, e1, f1, rfl⟩
    · exact this

end Go.Proofs.Ytbifanenoejjgaa
