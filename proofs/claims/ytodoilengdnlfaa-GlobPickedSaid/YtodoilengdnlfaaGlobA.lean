/- This text says in plain Lean what an element of a pattern is and which bytes it takes, and proves the walks of bare, closing and accepts of package glob, and of marked, is and fits of the reference. Conditions: those that each theorem names. -/
import Derived.Test.YtodoilengdnlfaaRow
namespace Go.Proofs.Ytodoilengdnlfaa
open Go.ChangeShapes Go.WideShapes Go.ChangeAt Go.RowKit
set_option linter.unusedVariables false
set_option linter.unusedSimpArgs false

/-- The byte at an index. -/
def ub (s : ByteArray) (i : Nat) : UInt8 := if h : i < s.size then s[i] else 0
def gb (s : ByteArray) (i : Nat) : Int := ((ub s i).toNat : Int)
theorem gb_eq {s : ByteArray} {i : Nat} (h : i < s.size) : gb s i = ((s[i]).toNat : Int) := by unfold gb ub; rw [dif_pos h]
theorem ub_eq {s : ByteArray} {i : Nat} (h : i < s.size) : s[i] = ub s i := by unfold ub; rw [dif_pos h]
theorem gb_lt (s : ByteArray) (i : Nat) : 0 ≤ gb s i ∧ gb s i < 256 := by
  unfold gb
  have := (ub s i).toNat_lt
  omega
/-- A byte of a pattern is not quoted and equal to c. -/
def markB (q : ByteArray) (i : Nat) : Bool := decide (i < q.size) && decide (gb q i = 49)
def bareB (s q : ByteArray) (i : Nat) (c : Int) : Bool := decide (i < s.size) && (decide (gb s i = c) && !markB q i)
/-- The first place from k at which p holds, f places looked at. -/
def scan (p : Nat → Bool) : Nat → Nat → Nat
  | 0, k => k
  | f + 1, k => if p k then k else scan p f (k + 1)
theorem scan_hit (p : Nat → Bool) : ∀ (f k j : Nat), k ≤ j → j < k + f → p j = true → (∀ i, k ≤ i → i < j → p i = false) → scan p f k = j
  | 0, k, j, h1, h2, _, _ => by omega
  | f + 1, k, j, h1, h2, hp, hn => by
    unfold scan
    by_cases e : k = j
    · subst e; rw [if_pos hp]
    · rw [if_neg (by rw [hn k (Nat.le_refl _) (by omega)]; exact Bool.false_ne_true)]
      exact scan_hit p f (k + 1) j (by omega) (by omega) hp (fun i hi => hn i (by omega))
theorem scan_miss (p : Nat → Bool) : ∀ (f k : Nat), (∀ i, k ≤ i → i < k + f → p i = false) → scan p f k = k + f
  | 0, k, _ => rfl
  | f + 1, k, h => by
    unfold scan
    rw [if_neg (by rw [h k (Nat.le_refl _) (by omega)]; exact Bool.false_ne_true), scan_miss p f (k + 1) (fun i hi hj => h i (by omega) (by omega))]
    omega
/-- The bracket that ends the class at i; the pattern's length if there is none. -/
def closeN (s q : ByteArray) (i : Nat) : Nat := scan (fun k => bareB s q k 93) (s.size - (i + 1)) (i + 1)

/-- An element of a pattern: an ordinary byte (0), ? (1), a star (2), a class (3). -/
structure Em where
  kind : Nat
  c : Int
  neg : Bool
  set : ByteArray
instance : Inhabited Em := ⟨⟨0, 0, false, .empty⟩⟩
def pk (k : Nat) : Int := if k = 0 then 1 else if k = 1 then 3 else if k = 2 then 2 else 4
def encP (e : Em) : List Value := [.int .i64 (pk e.kind), .int .u8 e.c, .bool e.neg, .string e.set]
def encR (e : Em) : List Value := [.int .i64 (e.kind : Nat), .int .u8 e.c, .string e.set, .bool e.neg]
theorem encP_len (e : Em) : (encP e).length = 4 := rfl
theorem encR_len (e : Em) : (encR e).length = 4 := rfl
theorem encP_one (e : Em) : ∀ u ∈ encP e, u.oneCell' = true := by
  intro u hu
  simp only [encP, List.mem_cons, List.not_mem_nil, or_false] at hu
  rcases hu with rfl | rfl | rfl | rfl <;> rfl
theorem encR_one (e : Em) : ∀ u ∈ encR e, u.oneCell' = true := by
  intro u hu
  simp only [encR, List.mem_cons, List.not_mem_nil, or_false] at hu
  rcases hu with rfl | rfl | rfl | rfl <;> rfl
/-- What is known of every element of a pattern. -/
structure OkE (e : Em) : Prop where
  kind : e.kind = 0 ∨ e.kind = 1 ∨ e.kind = 2 ∨ e.kind = 3
  even : ∃ m, e.set.size = 2 * m
  len : e.set.size ≤ 100000
/-- A byte lies in one of the first t ranges. -/
def inF (s : ByteArray) (c : Int) : Nat → Bool
  | 0 => false
  | t + 1 => inF s c t || (decide (gb s (2 * t) ≤ c) && decide (c ≤ gb s (2 * t + 1)))
def accB (e : Em) (c : Int) : Bool :=
  if e.kind = 0 then decide (c = e.c) else if e.kind = 1 then decide (c ≠ 47) else decide (c ≠ 47) && (inF e.set c (e.set.size / 2) != e.neg)

set_option maxHeartbeats 4000000 in
theorem bare_calls (s q : ByteArray) (i : Nat) (c : Int) (w : World) :
    Calls Try.prog 32 #[.string s, .string q, .int .i64 i, .int .u8 c] w fun e w' => e = .returned (.bool (bareB s q i c)) ∧ w' = w := by
  have HR : Aside (bareB s q i c = (decide (i < s.size) && (decide (gb s i = c) && !(decide (i < q.size) && decide (gb q i = 49))))) := rfl
  generalize bareB s q i c = r at HR ⊢
  by_cases h1 : i < s.size
  · have h1z : (i : Int) < (s.size : Int) := by omega
    by_cases h2 : gb s i = c
    · have h2b : (((s[i]).toNat : Int) == c) = true := by rw [← gb_eq h1]; simp [h2]
      by_cases h3 : i < q.size
      · have h3z : ¬ (q.size : Int) ≤ (i : Int) := by omega
        have h3n : decide (q.size ≤ i) = false := decide_eq_false (by omega)
        by_cases h4 : gb q i = 49
        · have h4b : (((q[i]).toNat : Int) != 49) = false := by rw [← gb_eq h3]; simp [h4]
          have er : r = false := by rw [HR.out]; simp [h3, h4]
          subst er
          clear HR h4 h2
          go_enter Try.func32, Try.ntmps32
          go_wp2
          all_goals go_ret
          all_goals exact ⟨ret_bool (by first | rfl | (simp [*]; done)), rfl⟩
        · have h4b : (((q[i]).toNat : Int) != 49) = true := by rw [← gb_eq h3]; simp [h4]
          have er : r = true := by rw [HR.out]; simp [h1, h2, h4]
          subst er
          clear HR h4 h2
          go_enter Try.func32, Try.ntmps32
          go_wp2
          all_goals go_ret
          all_goals exact ⟨ret_bool (by first | rfl | (simp [*]; done)), rfl⟩
      · have h3z : (q.size : Int) ≤ (i : Int) := by omega
        have h3n : decide (q.size ≤ i) = true := decide_eq_true (by omega)
        have er : r = true := by rw [HR.out]; simp [h1, h2, h3]
        subst er
        clear HR h2
        go_enter Try.func32, Try.ntmps32
        go_wp2
        all_goals go_ret
        all_goals exact ⟨ret_bool (by first | rfl | (simp [*]; done)), rfl⟩
    · have h2b : (((s[i]).toNat : Int) == c) = false := by rw [← gb_eq h1]; simp [h2]
      have er : r = false := by rw [HR.out]; simp [h2]
      subst er
      clear HR h2
      go_enter Try.func32, Try.ntmps32
      go_wp2
      all_goals go_ret
      all_goals exact ⟨ret_bool (by first | rfl | (simp [*]; done)), rfl⟩
  · have h1z : ¬ (i : Int) < (s.size : Int) := by omega
    have er : r = false := by rw [HR.out]; simp [h1]
    subst er
    clear HR
    go_enter Try.func32, Try.ntmps32
    go_wp2
    all_goals go_ret
    all_goals exact ⟨ret_bool (by first | rfl | (simp [*]; done)), rfl⟩

set_option maxHeartbeats 4000000 in
theorem marked_calls (q : ByteArray) (i : Nat) (w : World) :
    Calls Try.prog 43 #[.string q, .int .i64 i] w fun e w' => e = .returned (.bool (markB q i)) ∧ w' = w := by
  have HR : Aside (markB q i = (decide (i < q.size) && decide (gb q i = 49))) := rfl
  generalize markB q i = r at HR ⊢
  by_cases h3 : i < q.size
  · have h3z : (i : Int) < (q.size : Int) := by omega
    by_cases h4 : gb q i = 49
    · have h4b : (((q[i]).toNat : Int) == 49) = true := by rw [← gb_eq h3]; simp [h4]
      have er : r = true := by rw [HR.out]; simp [h3, h4]
      subst er
      clear HR h4
      go_enter Try.func43, Try.ntmps43
      go_wp2
      all_goals go_ret
      all_goals exact ⟨ret_bool (by first | rfl | (simp [*]; done)), rfl⟩
    · have h4b : (((q[i]).toNat : Int) == 49) = false := by rw [← gb_eq h3]; simp [h4]
      have er : r = false := by rw [HR.out]; simp [h4]
      subst er
      clear HR h4
      go_enter Try.func43, Try.ntmps43
      go_wp2
      all_goals go_ret
      all_goals exact ⟨ret_bool (by first | rfl | (simp [*]; done)), rfl⟩
  · have h3z : ¬ (i : Int) < (q.size : Int) := by omega
    have er : r = false := by rw [HR.out]; simp [h3]
    subst er
    clear HR
    go_enter Try.func43, Try.ntmps43
    go_wp2
    all_goals go_ret
    all_goals exact ⟨ret_bool (by first | rfl | (simp [*]; done)), rfl⟩

set_option maxHeartbeats 4000000 in
theorem is_calls (s q : ByteArray) (i : Nat) (c : Int) (w : World) :
    Calls Try.prog 35 #[.string s, .string q, .int .i64 i, .int .u8 c] w fun e w' => e = .returned (.bool (bareB s q i c)) ∧ w' = w := by
  have HR : Aside (bareB s q i c = (decide (i < s.size) && (decide (gb s i = c) && !markB q i))) := rfl
  have cm := fun U => marked_calls q i U
  generalize bareB s q i c = r at HR ⊢
  by_cases h1 : i < s.size
  · have h1z : (i : Int) < (s.size : Int) := by omega
    by_cases h2 : gb s i = c
    · have h2b : (((s[i]).toNat : Int) == c) = true := by rw [← gb_eq h1]; simp [h2]
      have er : r = !markB q i := by rw [HR.out]; simp [h1, h2]
      subst er
      generalize markB q i = m at cm ⊢
      clear HR h2
      go_enter Try.func35, Try.ntmps35
      go_wp2_with (go_at_call 43; (with_reducible refine (cm _).mono ?_); rintro e w2 ⟨rfl, rfl⟩)
      all_goals go_ret
      all_goals exact ⟨ret_bool (by first | rfl | (simp [*]; done)), rfl⟩
    · have h2b : (((s[i]).toNat : Int) == c) = false := by rw [← gb_eq h1]; simp [h2]
      have er : r = false := by rw [HR.out]; simp [h2]
      subst er
      clear HR h2 cm
      go_enter Try.func35, Try.ntmps35
      go_wp2
      all_goals go_ret
      all_goals exact ⟨ret_bool (by first | rfl | (simp [*]; done)), rfl⟩
  · have h1z : ¬ (i : Int) < (s.size : Int) := by omega
    have er : r = false := by rw [HR.out]; simp [h1]
    subst er
    clear HR cm
    go_enter Try.func35, Try.ntmps35
    go_wp2
    all_goals go_ret
    all_goals exact ⟨ret_bool (by first | rfl | (simp [*]; done)), rfl⟩

set_option maxHeartbeats 4000000 in
theorem closing_calls (s q : ByteArray) (i : Nat) (hi : i < s.size) (hs : s.size ≤ 100000) (w : World) :
    Calls Try.prog 33 #[.string s, .string q, .int .i64 i] w fun e w' => e = .returned (.int .i64 (if closeN s q i < s.size then ((closeN s q i : Nat) : Int) else -1)) ∧ w' = w := by
  have HH : Aside (∀ k, i + 1 ≤ k → k < s.size → bareB s q k 93 = true → (∀ j, i + 1 ≤ j → j < k → bareB s q j 93 = false) → (if closeN s q i < s.size then ((closeN s q i : Nat) : Int) else -1) = (k : Int)) := fun k h1 h2 h3 h4 => by
    have : closeN s q i = k := scan_hit (fun k => bareB s q k 93) _ _ _ h1 (by omega) h3 h4
    rw [this, if_pos h2]
  have HM : Aside ((∀ j, i + 1 ≤ j → j < s.size → bareB s q j 93 = false) → (if closeN s q i < s.size then ((closeN s q i : Nat) : Int) else -1) = -1) := fun h4 => by
    have : closeN s q i = i + 1 + (s.size - (i + 1)) := scan_miss (fun k => bareB s q k 93) _ _ (fun j h1 h2 => h4 j h1 (by omega))
    rw [if_neg (by omega)]
  generalize (if closeN s q i < s.size then ((closeN s q i : Nat) : Int) else -1) = r at HH HM ⊢
  go_enter Try.func33, Try.ntmps33
  go_wp2
  go_loopg [7] (s.size - (i + 1)) (fun k s7 wr => ∃ kk : Nat, s7 = .int .i64 (kk : Int) ∧ wr = w ∧ k + kk = s.size ∧ i + 1 ≤ kk ∧ Aside (∀ j, i + 1 ≤ j → j < kk → bareB s q j 93 = false))
  case atStart => exact ⟨i + 1, by simp, rfl, by omega, by omega, fun j h1 h2 => by omega⟩
  case round =>
    obtain ⟨kk, rfl, rfl, hk, hik, A⟩ := hrel
    by_cases hl : kk < s.size
    · have hlz : (kk : Int) < (s.size : Int) := by omega
      have cb := fun U => bare_calls s q kk 93 U
      have AH : Aside (bareB s q kk 93 = true → r = (kk : Int)) := fun hh => HH.out kk hik hl hh A.out
      have AS : Aside (bareB s q kk 93 = false → ∀ j, i + 1 ≤ j → j < kk + 1 → bareB s q j 93 = false) := fun hh j h1 h2 => by
        rcases (by omega : j < kk ∨ j = kk) with h' | h'
        · exact A.out j h1 h'
        · rw [h']; exact hh
      clear HH HM A
      cases hb : bareB s q kk 93 with
      | true =>
        rw [hb] at cb
        have er := AH.out hb
        subst er
        clear AH AS hb
        go_wp2_with (go_at_call 32; (with_reducible refine (cb _).mono ?_); rintro e w2 ⟨rfl, rfl⟩)
        go_ret
        exact ⟨rfl, rfl⟩
      | false =>
        rw [hb] at cb
        have A2 := AS.out hb
        have A3 : Aside (∀ j, i + 1 ≤ j → j < kk + 1 → bareB s q j 93 = false) := A2
        clear AH AS hb A2
        go_wp2_with (go_at_call 32; (with_reducible refine (cb _).mono ?_); rintro e w2 ⟨rfl, rfl⟩)
        go_roundg (gk - 1)
        case measure => omega
        case rel => exact ⟨kk + 1, by simp, rfl, by omega, by omega, A3⟩
    · have hlz : ¬ (kk : Int) < (s.size : Int) := by omega
      have er := HM.out (fun j h1 h2 => A.out j h1 (by omega))
      subst er
      clear HH HM A
      go_wp2
      go_ret
      exact ⟨rfl, rfl⟩

set_option maxHeartbeats 8000000 in
theorem accepts_calls (e : Em) (c : Int) (hk : e.kind = 0 ∨ e.kind = 1 ∨ e.kind = 3) (hev : ∃ m, e.set.size = 2 * m) (hl : e.set.size ≤ 100000) (w : World) :
    Calls Try.prog 23 #[.agg (encP e).toArray, .int .u8 c] w fun x w' => x = .returned (.bool (accB e c)) ∧ Below w.heap.size w w' := by
  obtain ⟨ek, ec, en, es⟩ := e
  obtain ⟨m, hm⟩ := hev
  simp only [] at hk hm hl
  rcases hk with rfl | rfl | rfl
  · show Calls Try.prog 23 #[.agg #[.int .i64 1, .int .u8 ec, .bool en, .string es], .int .u8 c] w fun x w' => x = .returned (.bool (decide (c = ec))) ∧ Below w.heap.size w w'
    by_cases hc : c = ec
    · subst hc
      go_enter Try.func23, Try.ntmps23
      go_wp2
      all_goals go_ret
      all_goals exact ⟨ret_bool (by simp), (Below.refl _ _).alloc (Nat.le_refl _) _⟩
    · have hf : (c == ec) = false := by simp [hc]
      have hf2 : (ec == c) = false := by simp; exact fun h => hc h.symm
      have hd : decide (c = ec) = false := decide_eq_false hc
      rw [hd]
      clear hc hd
      go_enter Try.func23, Try.ntmps23
      go_wp2
      all_goals go_ret
      all_goals exact ⟨ret_bool (by first | rfl | (simp [*]; done)), (Below.refl _ _).alloc (Nat.le_refl _) _⟩
  · show Calls Try.prog 23 #[.agg #[.int .i64 3, .int .u8 ec, .bool en, .string es], .int .u8 c] w fun x w' => x = .returned (.bool (decide (c ≠ 47))) ∧ Below w.heap.size w w'
    by_cases hc : c = 47
    · subst hc
      go_enter Try.func23, Try.ntmps23
      go_wp2
      all_goals go_ret
      all_goals exact ⟨ret_bool (by first | rfl | (simp; done)), (Below.refl _ _).alloc (Nat.le_refl _) _⟩
    · have hf : (c != 47) = true := by simp [hc]
      have hf2 : (c == 47) = false := by simp [hc]
      have hd : decide (c ≠ 47) = true := decide_eq_true hc
      rw [hd]
      clear hc hd
      go_enter Try.func23, Try.ntmps23
      go_wp2
      all_goals go_ret
      all_goals exact ⟨ret_bool (by first | rfl | (simp [*]; done)), (Below.refl _ _).alloc (Nat.le_refl _) _⟩
  · have h2 : es.size / 2 = m := by omega
    have ER : Aside (accB ⟨3, ec, en, es⟩ c = (decide (c ≠ 47) && (inF es c m != en))) := by
      show _ = _
      unfold accB
      rw [if_neg (by simp), if_neg (by simp), h2]
    show Calls Try.prog 23 #[.agg #[.int .i64 4, .int .u8 ec, .bool en, .string es], .int .u8 c] w fun x w' => x = .returned (.bool (accB ⟨3, ec, en, es⟩ c)) ∧ Below w.heap.size w w'
    generalize accB ⟨3, ec, en, es⟩ c = r at ER ⊢
    clear h2
    go_enter Try.func23, Try.ntmps23
    go_wp2
    go_loopg [5, 6] m (fun k s5 s6 wr => ∃ t : Nat, s6 = .int .i64 ((2 * t : Nat) : Int) ∧ s5 = .bool (inF es c t) ∧ wr = (w.alloc (.cells #[.int .i64 4, .int .u8 ec, .bool en, .string es] 35)) ∧ k + t = m)
    case atStart => exact ⟨0, rfl, rfl, rfl, by omega⟩
    case round =>
      obtain ⟨t, rfl, rfl, rfl, hk⟩ := hrel
      by_cases ht : t < m
      · have htz : ((2 * t : Nat) : Int) < (es.size : Int) := by omega
        have k0 : 2 * t < es.size := by omega
        have k1 : 2 * t + 1 < es.size := by omega
        cases hb : inF es c t with
        | true =>
          have A3 : Aside (inF es c (t + 1) = true) := by show _ = _; rw [inF, hb]; rfl
          clear hb
          go_wp2
          go_roundg (gk - 1)
          case measure => omega
          case rel => exact ⟨t + 1, by simp; omega, by rw [A3.out], rfl, by omega⟩
        | false =>
          by_cases g0 : gb es (2 * t) ≤ c
          · have f0 : decide (((es[2 * t]).toNat : Int) ≤ c) = true := decide_eq_true (by rw [← gb_eq]; exact g0)
            by_cases g1 : c ≤ gb es (2 * t + 1)
            · have f1 : decide (c ≤ ((es[2 * t + 1]).toNat : Int)) = true := decide_eq_true (by rw [← gb_eq]; exact g1)
              have A3 : Aside (inF es c (t + 1) = true) := by show _ = _; rw [inF, hb, decide_eq_true g0, decide_eq_true g1]; rfl
              clear hb g0 g1
              go_wp2
              all_goals go_roundg (gk - 1)
              all_goals (try omega)
              all_goals exact ⟨t + 1, by simp; omega, by first | (rw [A3.out]; done) | (rw [A3.out]; simp [*]; done), rfl, by omega⟩
            · have f1 : decide (c ≤ ((es[2 * t + 1]).toNat : Int)) = false := decide_eq_false (by rw [← gb_eq]; exact g1)
              have A3 : Aside (inF es c (t + 1) = false) := by show _ = _; rw [inF, hb, decide_eq_true g0, decide_eq_false g1]; rfl
              clear hb g0 g1
              go_wp2
              all_goals go_roundg (gk - 1)
              all_goals (try omega)
              all_goals exact ⟨t + 1, by simp; omega, by first | (rw [A3.out]; done) | (rw [A3.out]; simp [*]; done), rfl, by omega⟩
          · have f0 : decide (((es[2 * t]).toNat : Int) ≤ c) = false := decide_eq_false (by rw [← gb_eq]; exact g0)
            have A3 : Aside (inF es c (t + 1) = false) := by show _ = _; rw [inF, hb, decide_eq_false g0]; rfl
            clear hb g0
            go_wp2
            all_goals go_roundg (gk - 1)
            all_goals (try omega)
            all_goals exact ⟨t + 1, by simp; omega, by first | (rw [A3.out]; done) | (rw [A3.out]; simp [*]; done), rfl, by omega⟩
      · have htz : ¬ ((2 * t : Nat) : Int) < (es.size : Int) := by omega
        have etm : t = m := by omega
        subst etm
        generalize inF es c t = b at ER ⊢
        by_cases hc : c = 47
        · have er : r = false := by rw [ER.out, decide_eq_false (by simp [hc])]; rfl
          have hf : (c != 47) = false := by simp [hc]
          subst er
          clear ER hc
          go_wp2
          all_goals go_ret
          all_goals exact ⟨ret_bool (by first | rfl | (simp [*]; done)), (Below.refl _ _).alloc (Nat.le_refl _) _⟩
        · have er : r = (b != en) := by rw [ER.out, decide_eq_true hc]; rfl
          have hf : (c != 47) = true := by simp [hc]
          subst er
          clear ER hc
          go_wp2
          all_goals go_ret
          all_goals exact ⟨ret_bool (by first | rfl | (simp [*]; done)), (Below.refl _ _).alloc (Nat.le_refl _) _⟩

set_option maxHeartbeats 8000000 in
theorem fits_calls (e : Em) (c : Int) (hk : e.kind = 0 ∨ e.kind = 1 ∨ e.kind = 3) (hev : ∃ m, e.set.size = 2 * m) (hl : e.set.size ≤ 100000) (w : World) :
    Calls Try.prog 37 #[.agg (encR e).toArray, .int .u8 c] w fun x w' => x = .returned (.bool (accB e c)) ∧ Below w.heap.size w w' := by
  obtain ⟨ek, ec, en, es⟩ := e
  obtain ⟨m, hm⟩ := hev
  simp only [] at hk hm hl
  rcases hk with rfl | rfl | rfl
  · show Calls Try.prog 37 #[.agg #[.int .i64 0, .int .u8 ec, .string es, .bool en], .int .u8 c] w fun x w' => x = .returned (.bool (decide (c = ec))) ∧ Below w.heap.size w w'
    by_cases hc : c = ec
    · subst hc
      go_enter Try.func37, Try.ntmps37
      go_wp2
      all_goals go_ret
      all_goals exact ⟨ret_bool (by simp), (Below.refl _ _).alloc (Nat.le_refl _) _⟩
    · have hf : (c == ec) = false := by simp [hc]
      have hf2 : (ec == c) = false := by simp; exact fun h => hc h.symm
      have hd : decide (c = ec) = false := decide_eq_false hc
      rw [hd]
      clear hc hd
      go_enter Try.func37, Try.ntmps37
      go_wp2
      all_goals go_ret
      all_goals exact ⟨ret_bool (by first | rfl | (simp [*]; done)), (Below.refl _ _).alloc (Nat.le_refl _) _⟩
  · show Calls Try.prog 37 #[.agg #[.int .i64 1, .int .u8 ec, .string es, .bool en], .int .u8 c] w fun x w' => x = .returned (.bool (decide (c ≠ 47))) ∧ Below w.heap.size w w'
    by_cases hc : c = 47
    · subst hc
      go_enter Try.func37, Try.ntmps37
      go_wp2
      all_goals go_ret
      all_goals exact ⟨ret_bool (by first | rfl | (simp; done)), (Below.refl _ _).alloc (Nat.le_refl _) _⟩
    · have hf : (c != 47) = true := by simp [hc]
      have hf2 : (c == 47) = false := by simp [hc]
      have hd : decide (c ≠ 47) = true := decide_eq_true hc
      rw [hd]
      clear hc hd
      go_enter Try.func37, Try.ntmps37
      go_wp2
      all_goals go_ret
      all_goals exact ⟨ret_bool (by first | rfl | (simp [*]; done)), (Below.refl _ _).alloc (Nat.le_refl _) _⟩
  · have h2 : es.size / 2 = m := by omega
    have ER : Aside (accB ⟨3, ec, en, es⟩ c = (decide (c ≠ 47) && (inF es c m != en))) := by
      show _ = _
      unfold accB
      rw [if_neg (by simp), if_neg (by simp), h2]
    show Calls Try.prog 37 #[.agg #[.int .i64 3, .int .u8 ec, .string es, .bool en], .int .u8 c] w fun x w' => x = .returned (.bool (accB ⟨3, ec, en, es⟩ c)) ∧ Below w.heap.size w w'
    generalize accB ⟨3, ec, en, es⟩ c = r at ER ⊢
    clear h2
    by_cases hc : c = 47
    · have er : r = false := by rw [ER.out, decide_eq_false (by simp [hc])]; rfl
      subst er
      subst hc
      clear ER
      go_enter Try.func37, Try.ntmps37
      go_wp2
      all_goals go_ret
      all_goals exact ⟨ret_bool (by first | rfl | (simp [*]; done)), (Below.refl _ _).alloc (Nat.le_refl _) _⟩
    · have hf : (c == 47) = false := by simp [hc]
      have HCN : Aside (c ≠ 47) := hc
      clear hc
      go_enter Try.func37, Try.ntmps37
      go_wp2
      go_loopg [5, 6] m (fun k s5 s6 wr => ∃ t : Nat, s6 = .int .i64 ((2 * t : Nat) : Int) ∧ s5 = .bool (inF es c t) ∧ wr = (w.alloc (.cells #[.int .i64 3, .int .u8 ec, .string es, .bool en] 39)) ∧ k + t = m)
      case atStart => exact ⟨0, rfl, rfl, rfl, by omega⟩
      case round =>
        obtain ⟨t, rfl, rfl, rfl, hk⟩ := hrel
        by_cases ht : t < m
        · have htz : ((2 * t : Nat) : Int) + 1 < (es.size : Int) := by omega
          have k0 : 2 * t < es.size := by omega
          have k1 : 2 * t + 1 < es.size := by omega
          cases hb : inF es c t with
          | true =>
            have A3 : Aside (inF es c (t + 1) = true) := by show _ = _; rw [inF, hb]; rfl
            clear hb
            go_wp2
            go_roundg (gk - 1)
            case measure => omega
            case rel => exact ⟨t + 1, by simp; omega, by rw [A3.out], rfl, by omega⟩
          | false =>
            by_cases g0 : gb es (2 * t) ≤ c
            · have f0 : decide (((es[2 * t]).toNat : Int) ≤ c) = true := decide_eq_true (by rw [← gb_eq]; exact g0)
              by_cases g1 : c ≤ gb es (2 * t + 1)
              · have f1 : decide (c ≤ ((es[2 * t + 1]).toNat : Int)) = true := decide_eq_true (by rw [← gb_eq]; exact g1)
                have A3 : Aside (inF es c (t + 1) = true) := by show _ = _; rw [inF, hb, decide_eq_true g0, decide_eq_true g1]; rfl
                clear hb g0 g1
                go_wp2
                all_goals go_roundg (gk - 1)
                all_goals (try omega)
                all_goals exact ⟨t + 1, by simp; omega, by first | (rw [A3.out]; done) | (rw [A3.out]; simp [*]; done), rfl, by omega⟩
              · have f1 : decide (c ≤ ((es[2 * t + 1]).toNat : Int)) = false := decide_eq_false (by rw [← gb_eq]; exact g1)
                have A3 : Aside (inF es c (t + 1) = false) := by show _ = _; rw [inF, hb, decide_eq_true g0, decide_eq_false g1]; rfl
                clear hb g0 g1
                go_wp2
                all_goals go_roundg (gk - 1)
                all_goals (try omega)
                all_goals exact ⟨t + 1, by simp; omega, by first | (rw [A3.out]; done) | (rw [A3.out]; simp [*]; done), rfl, by omega⟩
            · have f0 : decide (((es[2 * t]).toNat : Int) ≤ c) = false := decide_eq_false (by rw [← gb_eq]; exact g0)
              have A3 : Aside (inF es c (t + 1) = false) := by show _ = _; rw [inF, hb, decide_eq_false g0]; rfl
              clear hb g0
              go_wp2
              all_goals go_roundg (gk - 1)
              all_goals (try omega)
              all_goals exact ⟨t + 1, by simp; omega, by first | (rw [A3.out]; done) | (rw [A3.out]; simp [*]; done), rfl, by omega⟩
        · have htz : ¬ ((2 * t : Nat) : Int) + 1 < (es.size : Int) := by omega
          have etm : t = m := by omega
          subst etm
          generalize inF es c t = b at ER ⊢
          have er : r = (b != en) := by rw [ER.out, decide_eq_true HCN.out]; rfl
          subst er
          clear ER
          go_wp2
          all_goals go_ret
          all_goals exact ⟨ret_bool (by first | rfl | (simp [*]; done)), (Below.refl _ _).alloc (Nat.le_refl _) _⟩

end Go.Proofs.Ytodoilengdnlfaa
