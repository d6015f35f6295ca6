/- This text says in plain Lean which elements a pattern has, and proves the walk of parse of package glob. Conditions: those that each theorem names. -/
import Derived.Test.YtodoilengdnlfaaGlobB
namespace Go.Proofs.Ytodoilengdnlfaa
open Go.ChangeShapes Go.WideShapes Go.ChangeAt Go.RowKit
set_option linter.unusedVariables false
set_option linter.unusedSimpArgs false

/-- The element at i, and the place behind it. -/
def elemAt (s q : ByteArray) (i : Nat) : Em × Nat :=
  if bareB s q i 91 && decide (closeN s q i < s.size) then (classE s q i (closeN s q i), closeN s q i + 1)
  else if bareB s q i 63 then (⟨1, 0, false, ⟨#[]⟩⟩, i + 1) else if bareB s q i 42 then (⟨2, 0, false, ⟨#[]⟩⟩, i + 1) else (⟨0, gb s i, false, ⟨#[]⟩⟩, i + 1)
def elF (s q : ByteArray) : Nat → Nat → List Em
  | 0, _ => []
  | f + 1, i => if i < s.size then (elemAt s q i).1 :: elF s q f (elemAt s q i).2 else []
def elK (s q : ByteArray) (i : Nat) : List Em := elF s q (s.size - i) i
def elems (s q : ByteArray) : List Em := elK s q 0
theorem scan_ge (p : Nat → Bool) : ∀ (f k : Nat), k ≤ scan p f k
  | 0, k => Nat.le_refl _
  | f + 1, k => by
    unfold scan
    split
    · exact Nat.le_refl _
    · have := scan_ge p f (k + 1); omega
theorem closeN_gt (s q : ByteArray) (i : Nat) : i < closeN s q i := by
  have := scan_ge (fun k => bareB s q k 93) (s.size - (i + 1)) (i + 1)
  unfold closeN; omega
theorem elemAt_gt (s q : ByteArray) (i : Nat) : i < (elemAt s q i).2 := by
  unfold elemAt
  split
  · have := closeN_gt s q i; simp only []; omega
  · split
    · simp only []; omega
    · split <;> (simp only []; omega)
theorem elF_fuel (s q : ByteArray) : ∀ (f g i : Nat), s.size - i ≤ f → s.size - i ≤ g → elF s q f i = elF s q g i
  | 0, 0, i, _, _ => rfl
  | 0, g + 1, i, h, _ => by unfold elF; rw [if_neg (by omega)]
  | f + 1, 0, i, _, h => by unfold elF; rw [if_neg (by omega)]
  | f + 1, g + 1, i, h1, h2 => by
    unfold elF
    have := elemAt_gt s q i
    rw [elF_fuel s q f g _ (by omega) (by omega)]
theorem elK_step {s q : ByteArray} {i : Nat} (h : i < s.size) : elK s q i = (elemAt s q i).1 :: elK s q (elemAt s q i).2 := by
  unfold elK
  have := elemAt_gt s q i
  rw [show s.size - i = (s.size - i - 1) + 1 by omega]
  show (if i < s.size then _ else _) = _
  rw [if_pos h, elF_fuel s q (s.size - i - 1) (s.size - (elemAt s q i).2) _ (by omega) (by omega)]
theorem elK_end {s q : ByteArray} {i : Nat} (h : s.size ≤ i) : elK s q i = [] := by
  unfold elK
  rw [show s.size - i = 0 by omega]; rfl
theorem elemAt_le (s q : ByteArray) (i : Nat) (h : i < s.size) : (elemAt s q i).2 ≤ s.size := by
  unfold elemAt
  split
  · rename_i hh
    rw [Bool.and_eq_true, decide_eq_true_eq] at hh
    simp only []; omega
  · split
    · simp only []; omega
    · split <;> (simp only []; omega)
theorem classE_ok (s q : ByteArray) (i e : Nat) (he : e ≤ 20000) : OkE (classE s q i e) := by
  obtain ⟨m, hm, hml⟩ := setF_even s q e (e - (if negB s q i e then i + 2 else i + 1)) (if negB s q i e then i + 2 else i + 1)
  have hsz : (classE s q i e).set.size = 2 * m := by
    show ((setK s q e (if negB s q i e then i + 2 else i + 1)).toArray).size = _
    rw [List.size_toArray]; exact hm
  exact ⟨.inr (.inr (.inr rfl)), ⟨m, hsz⟩, by omega⟩
theorem elemAt_ok (s q : ByteArray) (i : Nat) (hs : s.size ≤ 20000) : OkE (elemAt s q i).1 := by
  unfold elemAt
  split
  · rename_i hh
    rw [Bool.and_eq_true, decide_eq_true_eq] at hh
    exact classE_ok s q i _ (by omega)
  · split
    · exact ⟨.inr (.inl rfl), ⟨0, rfl⟩, by show (0 : Nat) ≤ _; omega⟩
    · split
      · exact ⟨.inr (.inr (.inl rfl)), ⟨0, rfl⟩, by show (0 : Nat) ≤ _; omega⟩
      · exact ⟨.inl rfl, ⟨0, rfl⟩, by show (0 : Nat) ≤ _; omega⟩
theorem elF_ok (s q : ByteArray) (hs : s.size ≤ 20000) : ∀ (f i : Nat), ∀ e ∈ elF s q f i, OkE e
  | 0, i, e, h => by cases h
  | f + 1, i, e, h => by
    unfold elF at h
    split at h
    · rcases List.mem_cons.1 h with rfl | h
      · exact elemAt_ok s q i hs
      · exact elF_ok s q hs f _ e h
    · cases h
theorem elems_ok (s q : ByteArray) (hs : s.size ≤ 20000) : ∀ e ∈ elems s q, OkE e := elF_ok s q hs _ _
theorem elF_len (s q : ByteArray) : ∀ (f i : Nat), (elF s q f i).length ≤ f
  | 0, i => Nat.le_refl _
  | f + 1, i => by
    unfold elF
    split
    · have := elF_len s q f (elemAt s q i).2
      simp; omega
    · simp
theorem elems_len (s q : ByteArray) : (elems s q).length ≤ s.size := by have := elF_len s q (s.size - 0) 0; unfold elems elK; omega
theorem bare_of {s q : ByteArray} {i : Nat} (h : i < s.size) (c : Int) : bareB s q i c = (decide (gb s i = c) && !markB q i) := by unfold bareB; rw [decide_eq_true h, Bool.true_and]

theorem pInfo : ∃ i0 : TypeInfo, Try.prog.info? 35 = some i0 ∧ i0.zero = some (.agg #[.int .i64 0, .int .u8 0, .bool false, .string ⟨#[]⟩]) ∧ i0.size = 4 ∧ i0.bytes = 32 := by
  have h : (Try.prog.info? 35).map (fun i => (i.zero, i.size, i.bytes)) = some (some (.agg #[.int .i64 0, .int .u8 0, .bool false, .string ⟨#[]⟩]), 4, 32) := by kernel_rfl
  cases hi : Try.prog.info? 35 with
  | none => rw [hi] at h; cases h
  | some i0 =>
    rw [hi] at h
    simp only [Option.map_some, Option.some.injEq, Prod.mk.injEq] at h
    exact ⟨i0, rfl, h.1, h.2.1, h.2.2⟩

set_option maxHeartbeats 16000000 in
set_option maxRecDepth 100000 in
theorem parse_calls (s q : ByteArray) (hs : s.size ≤ 20000) (w : World) :
    Calls Try.prog 21 #[.string s, .string q] w fun e w' => ∃ ao cap, e = .returned (.slice ao (elems s q).length cap) ∧ w'.ownsRow w.heap.size 35 4 (.slice ao (elems s q).length cap) (elems s q).length (flatE encP (elems s q)) ∧ Below w.heap.size w w' := by
  obtain ⟨i0, hi0, hz0, hs0, hb0⟩ := pInfo
  have ER : Aside (elems s q = elK s q 0) := rfl
  generalize elems s q = r at ER ⊢
  go_enter Try.func21, Try.ntmps21
  go_wp2
  go_loopg [5, 6] s.size (fun k s5 s6 wr => ∃ (i : Nat) (ao' : Option Addr) (cap' : Nat) (l : List Em), s6 = .int .i64 (i : Int) ∧ s5 = .slice ao' l.length cap' ∧ k + i = s.size ∧ i ≤ s.size ∧ l.length ≤ i ∧ Aside (l ++ elK s q i = r) ∧ Aside (Below w.heap.size w wr ∧ wr.ownsRow w.heap.size 35 4 (.slice ao' l.length cap') l.length (flatE encP l)))
  case atStart => exact ⟨0, none, 0, [], rfl, rfl, by omega, by omega, by simp, ER.out.symm, ⟨Below.refl _ _, World.ownsRow_nil _ _ _ _⟩⟩
  case round =>
    obtain ⟨i, ao', cap', l, rfl, rfl, hk, hkm, hll, A, ST⟩ := hrel
    by_cases hl : i < s.size
    · have hlz : (i : Int) < (s.size : Int) := by omega
      have u0 := ub_eq hl
      have AE : Aside (l ++ (elemAt s q i).1 :: elK s q (elemAt s q i).2 = r) := by show _ = _; rw [← elK_step hl]; exact A.out
      have cb : ∀ U, Calls Try.prog 32 #[.string s, .string q, .int .i64 i, .int .u8 ((ub s i).toNat : Int)] U fun e w' => e = .returned (.bool (!markB q i)) ∧ w' = U := fun U => by
        have := bare_calls s q i (gb s i) U
        rw [bare_of hl, decide_eq_true rfl, Bool.true_and] at this
        exact this
      have eg : gb s i = ((ub s i).toNat : Int) := rfl
      cases hm : markB q i with
      | true =>
        rw [hm] at cb
        have ee : elemAt s q i = (⟨0, ((ub s i).toNat : Int), false, ⟨#[]⟩⟩, i + 1) := by unfold elemAt; rw [bare_of hl, bare_of hl, bare_of hl, hm]; simp [gb]
        have A2 : Aside ((l ++ [(⟨0, ((ub s i).toNat : Int), false, ⟨#[]⟩⟩ : Em)]) ++ elK s q (i + 1) = r) := by have := AE.out; rw [ee] at this; show _ = _; rw [List.append_assoc]; exact this
        clear AE A hm ee ER eg
        have hown := ST.out.2
        have hsw := ST.out.1.size
        go_wp2_with (first | (go_at_call 32; (with_reducible refine (cb _).mono ?_); rintro e w2 ⟨rfl, hw⟩; rw [hw]; clear hw) | (at_builtin; refine wpList_append_own _ rfl _ _ 32 rfl w.heap.size 35 i0 _ 4 32 Try.underlying32 hi0 hz0 hs0 hb0 rfl (by omega) _ _ _ rfl (hown.alloc _) ⟨wr.heap.size, 0, none⟩ 1 1 [.int .i64 1, .int .u8 ((ub s i).toNat : Int), .bool false, .string ⟨#[]⟩] rfl rfl (cells_new _ _ _ _ rfl) (encP_one ⟨0, ((ub s i).toNat : Int), false, ⟨#[]⟩⟩) (by unfold maxLen; omega) (by omega) (by first | (simp; omega) | (simp [size_plus]; omega)) ?_))
        intro v' w9 hown' hgrow _
        obtain ⟨ao9, cap9, rfl, hb9, ho9⟩ := app_stateN (U1 := w) (by first | exact Nat.le_refl _ | (simp [size_plus]; omega)) (by first | exact Nat.le_refl _ | (simp [size_plus]; omega)) encP_len (by omega) (ys := [(⟨0, ((ub s i).toNat : Int), false, ⟨#[]⟩⟩ : Em)]) (ST.out.1.alloc ST.out.1.size _) (hown.alloc _) (by rw [flatE_one]; exact hown') hgrow
        have ST9 : Aside (Below w.heap.size w w9 ∧ w9.ownsRow w.heap.size 35 4 (.slice ao9 (l.length + 1) cap9) (l.length + 1) (flatE encP (l ++ [(⟨0, ((ub s i).toNat : Int), false, ⟨#[]⟩⟩ : Em)]))) := ⟨hb9, ho9⟩
        clear hown hown' hgrow hb9 ho9 hsw
        go_wp2
        go_roundg (s.size - (i + 1))
        case measure => omega
        case rel => exact ⟨i + 1, ao9, cap9, l ++ [(⟨0, ((ub s i).toNat : Int), false, ⟨#[]⟩⟩ : Em)], by first | (simp; done) | (simp; omega), by simp, by omega, by omega, by simp; omega, A2, by first | exact ST9 | simpa using ST9⟩
      | false =>
        rw [hm] at cb
        by_cases g42 : ((ub s i).toNat : Int) = 42
        · have ee : elemAt s q i = (⟨2, 0, false, ⟨#[]⟩⟩, i + 1) := by unfold elemAt; rw [bare_of hl, bare_of hl, bare_of hl, hm, eg, g42]; simp
          have A2 : Aside ((l ++ [(⟨2, 0, false, ⟨#[]⟩⟩ : Em)]) ++ elK s q (i + 1) = r) := by have := AE.out; rw [ee] at this; show _ = _; rw [List.append_assoc]; exact this
          have f42 : (((ub s i).toNat : Int) == 42) = true := by simpa using g42
          clear AE A hm ee ER eg g42
          have hown := ST.out.2
          have hsw := ST.out.1.size
          go_wp2_with (first | (go_at_call 32; (with_reducible refine (cb _).mono ?_); rintro e w2 ⟨rfl, hw⟩; rw [hw]; clear hw) | (at_builtin; refine wpList_append_own _ rfl _ _ 32 rfl w.heap.size 35 i0 _ 4 32 Try.underlying32 hi0 hz0 hs0 hb0 rfl (by omega) _ _ _ rfl (hown.alloc _) ⟨wr.heap.size, 0, none⟩ 1 1 [.int .i64 2, .int .u8 0, .bool false, .string ⟨#[]⟩] rfl rfl (cells_new _ _ _ _ rfl) (encP_one ⟨2, 0, false, ⟨#[]⟩⟩) (by unfold maxLen; omega) (by omega) (by first | (simp; omega) | (simp [size_plus]; omega)) ?_))
          intro v' w9 hown' hgrow _
          obtain ⟨ao9, cap9, rfl, hb9, ho9⟩ := app_stateN (U1 := w) (by first | exact Nat.le_refl _ | (simp [size_plus]; omega)) (by first | exact Nat.le_refl _ | (simp [size_plus]; omega)) encP_len (by omega) (ys := [(⟨2, 0, false, ⟨#[]⟩⟩ : Em)]) (ST.out.1.alloc ST.out.1.size _) (hown.alloc _) (by rw [flatE_one]; exact hown') hgrow
          have ST9 : Aside (Below w.heap.size w w9 ∧ w9.ownsRow w.heap.size 35 4 (.slice ao9 (l.length + 1) cap9) (l.length + 1) (flatE encP (l ++ [(⟨2, 0, false, ⟨#[]⟩⟩ : Em)]))) := ⟨hb9, ho9⟩
          clear hown hown' hgrow hb9 ho9 hsw
          go_wp2
          go_roundg (s.size - (i + 1))
          case measure => omega
          case rel => exact ⟨i + 1, ao9, cap9, l ++ [(⟨2, 0, false, ⟨#[]⟩⟩ : Em)], by first | (simp; done) | (simp; omega), by simp, by omega, by omega, by simp; omega, A2, by first | exact ST9 | simpa using ST9⟩
        · by_cases g63 : ((ub s i).toNat : Int) = 63
          · have ee : elemAt s q i = (⟨1, 0, false, ⟨#[]⟩⟩, i + 1) := by unfold elemAt; rw [bare_of hl, bare_of hl, bare_of hl, hm, eg, g63]; simp
            have A2 : Aside ((l ++ [(⟨1, 0, false, ⟨#[]⟩⟩ : Em)]) ++ elK s q (i + 1) = r) := by have := AE.out; rw [ee] at this; show _ = _; rw [List.append_assoc]; exact this
            have f42 : (((ub s i).toNat : Int) == 42) = false := by simpa using g42
            have f63 : (((ub s i).toNat : Int) == 63) = true := by simpa using g63
            clear AE A hm ee ER eg g42 g63
            have hown := ST.out.2
            have hsw := ST.out.1.size
            go_wp2_with (first | (go_at_call 32; (with_reducible refine (cb _).mono ?_); rintro e w2 ⟨rfl, hw⟩; rw [hw]; clear hw) | (at_builtin; refine wpList_append_own _ rfl _ _ 32 rfl w.heap.size 35 i0 _ 4 32 Try.underlying32 hi0 hz0 hs0 hb0 rfl (by omega) _ _ _ rfl (hown.alloc _) ⟨wr.heap.size, 0, none⟩ 1 1 [.int .i64 3, .int .u8 0, .bool false, .string ⟨#[]⟩] rfl rfl (cells_new _ _ _ _ rfl) (encP_one ⟨1, 0, false, ⟨#[]⟩⟩) (by unfold maxLen; omega) (by omega) (by first | (simp; omega) | (simp [size_plus]; omega)) ?_))
            intro v' w9 hown' hgrow _
            obtain ⟨ao9, cap9, rfl, hb9, ho9⟩ := app_stateN (U1 := w) (by first | exact Nat.le_refl _ | (simp [size_plus]; omega)) (by first | exact Nat.le_refl _ | (simp [size_plus]; omega)) encP_len (by omega) (ys := [(⟨1, 0, false, ⟨#[]⟩⟩ : Em)]) (ST.out.1.alloc ST.out.1.size _) (hown.alloc _) (by rw [flatE_one]; exact hown') hgrow
            have ST9 : Aside (Below w.heap.size w w9 ∧ w9.ownsRow w.heap.size 35 4 (.slice ao9 (l.length + 1) cap9) (l.length + 1) (flatE encP (l ++ [(⟨1, 0, false, ⟨#[]⟩⟩ : Em)]))) := ⟨hb9, ho9⟩
            clear hown hown' hgrow hb9 ho9 hsw
            go_wp2
            go_roundg (s.size - (i + 1))
            case measure => omega
            case rel => exact ⟨i + 1, ao9, cap9, l ++ [(⟨1, 0, false, ⟨#[]⟩⟩ : Em)], by first | (simp; done) | (simp; omega), by simp, by omega, by omega, by simp; omega, A2, by first | exact ST9 | simpa using ST9⟩
          · have f42 : (((ub s i).toNat : Int) == 42) = false := by simpa using g42
            have f63 : (((ub s i).toNat : Int) == 63) = false := by simpa using g63
            by_cases g91 : ((ub s i).toNat : Int) = 91
            · have cc := fun U => closing_calls s q i hl (by omega) U
              by_cases hcl : closeN s q i < s.size
              · rw [if_pos hcl] at cc
                have hgt := closeN_gt s q i
                have ee : elemAt s q i = (classE s q i (closeN s q i), closeN s q i + 1) := by unfold elemAt; rw [bare_of hl, hm, eg, g91, decide_eq_true hcl]; simp
                have ce := fun U => classAt_calls s q i (closeN s q i) hgt hcl hs U
                have AE2 := AE.out
                rw [ee] at AE2
                generalize classE s q i (closeN s q i) = y at AE2 ce
                obtain ⟨yk, yc, yn, ys⟩ := y
                generalize closeN s q i = en at *
                have A2 : Aside ((l ++ [(⟨yk, yc, yn, ys⟩ : Em)]) ++ elK s q (en + 1) = r) := by show _ = _; rw [List.append_assoc]; exact AE2
                have ce : ∀ U, Calls Try.prog 34 #[.string s, .string q, .int .i64 i, .int .i64 en] U fun e w' => e = .returned (.agg #[.int .i64 (pk yk), .int .u8 yc, .bool yn, .string ys]) ∧ Below U.heap.size U w' := ce
                have f91 : (((ub s i).toNat : Int) == 91) = true := by simpa using g91
                clear AE AE2 A hm ee ER eg g42 g63 g91
                go_wp2_with (first
                  | (go_at_call 32; (with_reducible refine (cb _).mono ?_); rintro e w2 ⟨rfl, hw⟩; rw [hw]; clear hw)
                  | (go_at_call 33; (with_reducible refine (cc _).mono ?_); rintro e w2 ⟨rfl, hw⟩; rw [hw]; clear hw))
                refine (ce _).mono ?_
                rintro e w2 ⟨rfl, hb⟩
                have ST2 : Aside (Below w.heap.size w w2 ∧ w2.ownsRow w.heap.size 35 4 (.slice ao' l.length cap') l.length (flatE encP l)) := ⟨ST.out.1.trans (hb.mono ST.out.1.size), by obtain ⟨x, rfl⟩ := plus_of_below hb; exact own_plus ST.out.2⟩
                clear ST hb ce cb cc
                have hown := ST2.out.2
                have hsw := ST2.out.1.size
                go_wp2_with ((at_builtin; refine wpList_append_own _ rfl _ _ 32 rfl w.heap.size 35 i0 _ 4 32 Try.underlying32 hi0 hz0 hs0 hb0 rfl (by omega) _ _ _ rfl (hown.alloc _) ⟨w2.heap.size, 0, none⟩ 1 1 [.int .i64 (pk yk), .int .u8 yc, .bool yn, .string ys] rfl rfl (cells_new _ _ _ _ rfl) (encP_one ⟨yk, yc, yn, ys⟩) (by unfold maxLen; omega) (by omega) (by first | (simp; omega) | (simp [size_plus]; omega)) ?_))
                intro v' w9 hown' hgrow _
                obtain ⟨ao9, cap9, rfl, hb9, ho9⟩ := app_stateN (U1 := w) (by first | exact Nat.le_refl _ | (simp [size_plus]; omega)) (by first | exact Nat.le_refl _ | (simp [size_plus]; omega)) encP_len (by omega) (ys := [(⟨yk, yc, yn, ys⟩ : Em)]) (ST2.out.1.alloc ST2.out.1.size _) (hown.alloc _) (by rw [flatE_one]; exact hown') hgrow
                have ST9 : Aside (Below w.heap.size w w9 ∧ w9.ownsRow w.heap.size 35 4 (.slice ao9 (l.length + 1) cap9) (l.length + 1) (flatE encP (l ++ [(⟨yk, yc, yn, ys⟩ : Em)]))) := ⟨hb9, ho9⟩
                clear hown hown' hgrow hb9 ho9 hsw
                go_wp2
                go_roundg (s.size - (en + 1))
                case measure => omega
                case rel => exact ⟨en + 1, ao9, cap9, l ++ [(⟨yk, yc, yn, ys⟩ : Em)], by first | (simp; done) | (simp; omega), by simp, by omega, by omega, by simp; omega, A2, by first | exact ST9 | simpa using ST9⟩
              · rw [if_neg hcl] at cc
                have ee : elemAt s q i = (⟨0, ((ub s i).toNat : Int), false, ⟨#[]⟩⟩, i + 1) := by unfold elemAt; rw [bare_of hl, bare_of hl, bare_of hl, hm, eg, decide_eq_false hcl, decide_eq_false g63, decide_eq_false g42]; simp
                have A2 : Aside ((l ++ [(⟨0, ((ub s i).toNat : Int), false, ⟨#[]⟩⟩ : Em)]) ++ elK s q (i + 1) = r) := by have := AE.out; rw [ee] at this; show _ = _; rw [List.append_assoc]; exact this
                have f91 : (((ub s i).toNat : Int) == 91) = true := by simpa using g91
                clear AE A hm ee ER eg g42 g63 g91
                have hown := ST.out.2
                have hsw := ST.out.1.size
                go_wp2_with (first | (go_at_call 32; (with_reducible refine (cb _).mono ?_); rintro e w2 ⟨rfl, hw⟩; rw [hw]; clear hw) | (go_at_call 33; (with_reducible refine (cc _).mono ?_); rintro e w2 ⟨rfl, hw⟩; rw [hw]; clear hw) | (at_builtin; refine wpList_append_own _ rfl _ _ 32 rfl w.heap.size 35 i0 _ 4 32 Try.underlying32 hi0 hz0 hs0 hb0 rfl (by omega) _ _ _ rfl (hown.alloc _) ⟨wr.heap.size, 0, none⟩ 1 1 [.int .i64 1, .int .u8 ((ub s i).toNat : Int), .bool false, .string ⟨#[]⟩] rfl rfl (cells_new _ _ _ _ rfl) (encP_one ⟨0, ((ub s i).toNat : Int), false, ⟨#[]⟩⟩) (by unfold maxLen; omega) (by omega) (by first | (simp; omega) | (simp [size_plus]; omega)) ?_))
                intro v' w9 hown' hgrow _
                obtain ⟨ao9, cap9, rfl, hb9, ho9⟩ := app_stateN (U1 := w) (by first | exact Nat.le_refl _ | (simp [size_plus]; omega)) (by first | exact Nat.le_refl _ | (simp [size_plus]; omega)) encP_len (by omega) (ys := [(⟨0, ((ub s i).toNat : Int), false, ⟨#[]⟩⟩ : Em)]) (ST.out.1.alloc ST.out.1.size _) (hown.alloc _) (by rw [flatE_one]; exact hown') hgrow
                have ST9 : Aside (Below w.heap.size w w9 ∧ w9.ownsRow w.heap.size 35 4 (.slice ao9 (l.length + 1) cap9) (l.length + 1) (flatE encP (l ++ [(⟨0, ((ub s i).toNat : Int), false, ⟨#[]⟩⟩ : Em)]))) := ⟨hb9, ho9⟩
                clear hown hown' hgrow hb9 ho9 hsw
                go_wp2
                go_roundg (s.size - (i + 1))
                case measure => omega
                case rel => exact ⟨i + 1, ao9, cap9, l ++ [(⟨0, ((ub s i).toNat : Int), false, ⟨#[]⟩⟩ : Em)], by first | (simp; done) | (simp; omega), by simp, by omega, by omega, by simp; omega, A2, by first | exact ST9 | simpa using ST9⟩
            · have f91 : (((ub s i).toNat : Int) == 91) = false := by simpa using g91
              have ee : elemAt s q i = (⟨0, ((ub s i).toNat : Int), false, ⟨#[]⟩⟩, i + 1) := by unfold elemAt; rw [bare_of hl, bare_of hl, bare_of hl, hm, eg, decide_eq_false g91, decide_eq_false g63, decide_eq_false g42]; simp
              have A2 : Aside ((l ++ [(⟨0, ((ub s i).toNat : Int), false, ⟨#[]⟩⟩ : Em)]) ++ elK s q (i + 1) = r) := by have := AE.out; rw [ee] at this; show _ = _; rw [List.append_assoc]; exact this
              clear AE A hm ee ER eg g42 g63 g91
              have hown := ST.out.2
              have hsw := ST.out.1.size
              go_wp2_with (first | (go_at_call 32; (with_reducible refine (cb _).mono ?_); rintro e w2 ⟨rfl, hw⟩; rw [hw]; clear hw) | (at_builtin; refine wpList_append_own _ rfl _ _ 32 rfl w.heap.size 35 i0 _ 4 32 Try.underlying32 hi0 hz0 hs0 hb0 rfl (by omega) _ _ _ rfl (hown.alloc _) ⟨wr.heap.size, 0, none⟩ 1 1 [.int .i64 1, .int .u8 ((ub s i).toNat : Int), .bool false, .string ⟨#[]⟩] rfl rfl (cells_new _ _ _ _ rfl) (encP_one ⟨0, ((ub s i).toNat : Int), false, ⟨#[]⟩⟩) (by unfold maxLen; omega) (by omega) (by first | (simp; omega) | (simp [size_plus]; omega)) ?_))
              intro v' w9 hown' hgrow _
              obtain ⟨ao9, cap9, rfl, hb9, ho9⟩ := app_stateN (U1 := w) (by first | exact Nat.le_refl _ | (simp [size_plus]; omega)) (by first | exact Nat.le_refl _ | (simp [size_plus]; omega)) encP_len (by omega) (ys := [(⟨0, ((ub s i).toNat : Int), false, ⟨#[]⟩⟩ : Em)]) (ST.out.1.alloc ST.out.1.size _) (hown.alloc _) (by rw [flatE_one]; exact hown') hgrow
              have ST9 : Aside (Below w.heap.size w w9 ∧ w9.ownsRow w.heap.size 35 4 (.slice ao9 (l.length + 1) cap9) (l.length + 1) (flatE encP (l ++ [(⟨0, ((ub s i).toNat : Int), false, ⟨#[]⟩⟩ : Em)]))) := ⟨hb9, ho9⟩
              clear hown hown' hgrow hb9 ho9 hsw
              go_wp2
              go_roundg (s.size - (i + 1))
              case measure => omega
              case rel => exact ⟨i + 1, ao9, cap9, l ++ [(⟨0, ((ub s i).toNat : Int), false, ⟨#[]⟩⟩ : Em)], by first | (simp; done) | (simp; omega), by simp, by omega, by omega, by simp; omega, A2, by first | exact ST9 | simpa using ST9⟩
    · have hlz : ¬ (i : Int) < (s.size : Int) := by omega
      have el : l = r := by rw [← A.out, elK_end (by omega), List.append_nil]
      subst el
      clear A ER
      go_wp2
      go_ret
      exact ⟨ao', cap', rfl, ST.out.2, ST.out.1⟩

end Go.Proofs.Ytodoilengdnlfaa
