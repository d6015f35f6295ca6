/- This text proves the walk of class of the reference. Conditions: those that each theorem names. -/
import Derived.Test.YtfhccmegobbnaaaRegexCC
import Derived.Deep.CutRange
import Derived.BigQuiet
namespace Go.Proofs.Ytfhccmegobbnaaa
open Go.ChangeShapes Go.WideShapes Go.ChangeAt Go.RowKit
set_option linter.unusedVariables false
set_option linter.unusedSimpArgs false

theorem uInfo : ∃ i0 : TypeInfo, Try.prog.info? 5 = some i0 ∧ i0.zero = some (.int .u8 0) ∧ i0.size = 1 ∧ i0.bytes = 1 := by
  have h : (Try.prog.info? 5).map (fun i => (i.zero, i.size, i.bytes)) = some (some (.int .u8 0), 1, 1) := by kernel_rfl
  cases hi : Try.prog.info? 5 with
  | none => rw [hi] at h; cases h
  | some i0 =>
    rw [hi] at h
    simp only [Option.map_some, Option.some.injEq, Prod.mk.injEq] at h
    exact ⟨i0, rfl, h.1, h.2.1, h.2.2⟩
/-- Bytes in memory. -/
def bc (l : List UInt8) : List Value := l.map fun b => Value.int .u8 (b.toNat : Int)
theorem bc_two (l : List UInt8) (a b : UInt8) : bc (l ++ [a, b]) = bc l ++ [.int .u8 (a.toNat : Int), .int .u8 (b.toNat : Int)] := by simp [bc]
theorem two_one (a b : Int) : ∀ u ∈ ([.int .u8 a, .int .u8 b] : List Value), u.oneCell' = true := by
  intro u hu
  simp only [List.mem_cons, List.not_mem_nil, or_false] at hu
  rcases hu with rfl | rfl <;> rfl
theorem conv_bytes (U : World) (g c : Nat) (l : List UInt8) (B : Nat) (h : U.ownsRow B 5 1 (.slice (some ⟨g, 0, none⟩) l.length c) l.length (bc l)) : (convert 82 9 (.slice (some ⟨g, 0, none⟩) l.length c)).run Try.prog U = .ok (.string ⟨l.toArray⟩) U := by
  refine run_convert_bytes_back (P := Try.prog) U 82 9 5 ⟨g, 0, none⟩ c l Try.underlying82 Try.underlying5 Try.underlying9 (fun j hj => ?_)
  obtain ⟨_, ⟨h9, _⟩ | ⟨g', cap, cur, hv, hg, hh, hn, hm, hz, ht⟩⟩ := h
  · cases h9
  · simp only [Value.slice.injEq, Option.some.injEq, Addr.mk.injEq] at hv
    obtain ⟨⟨rfl, -, -⟩, -, -⟩ := hv
    rw [Addr.add_lit, Nat.zero_add]
    refine cell_heap hh _ _ ?_
    have h11 : (cur.toList.take (l.length * 1))[j]? = some (.int .u8 (l[j].toNat : Int)) := by rw [ht]; simp [bc, hj]
    rw [List.getElem?_take, if_pos (by omega)] at h11
    rw [← Array.getElem?_toList]
    exact h11
/-- What char of the reference reads is what the package's char reads, where no bracket and no dash stand. -/
theorem charR_F {s : ByteArray} {i j : Nat} {bad : Bool} {b : UInt8} (hi : i < s.size) (h1 : s[i]! ≠ 93) (h2 : s[i]! ≠ 45) (h : charR s i = (j, bad, b)) : charF s i = if bad = true then .error j else .ok (b, j) := by
  unfold charF
  rw [if_pos ⟨hi, h1, h2⟩]
  unfold charR at h
  by_cases h9 : s[i]! = 92
  · rw [if_neg (fun h => h h9)] at h
    rw [if_pos h9]
    unfold escF
    by_cases he : i + 1 = s.size
    · rw [if_pos he] at h
      simp only [Prod.mk.injEq] at h
      obtain ⟨rfl, rfl, rfl⟩ := h
      rw [if_neg (by omega)]
      rfl
    · rw [if_neg he] at h
      simp only [Prod.mk.injEq] at h
      obtain ⟨rfl, rfl, rfl⟩ := h
      rw [if_pos (by omega)]
      rfl
  · rw [if_pos h9] at h
    simp only [Prod.mk.injEq] at h
    obtain ⟨rfl, rfl, rfl⟩ := h
    rw [if_neg h9]
    rfl
theorem charR_pos {s : ByteArray} {i j : Nat} {bad : Bool} {b : UInt8} (hi : i < s.size) (h : charR s i = (j, bad, b)) : i < j ∧ j ≤ s.size ∧ (bad = true → j = s.size) := by
  unfold charR at h
  repeat' split at h
  all_goals (simp only [Prod.mk.injEq] at h; obtain ⟨rfl, rfl, rfl⟩ := h)
  · exact ⟨by omega, by omega, fun h => by cases h⟩
  · exact ⟨by omega, by omega, fun _ => by assumption⟩
  · exact ⟨by omega, by omega, fun h => by cases h⟩
/-- What class of the reference leaves. -/
def KPr (w0 : World) (code : List In) (la : Option Addr) (n lc g : Nat) (W : World) (r : Except Nat (In × Nat)) (e : Ending) (W' : World) : Prop :=
  ∃ la2 lc2 n2 code2 i2 bad2, e = .returned (.agg #[.slice la2 n2 lc2, .int .i64 ((i2 : Nat) : Int), .int .i64 (g : Int), .bool bad2]) ∧ PS w0 code2 la2 n2 lc2 W' ∧ Kp (.slice la n lc) (.slice la2 n2 lc2) W W' ∧
    (match r with | .ok (x, j) => code2 = code ++ [x] ∧ i2 = j ∧ bad2 = false | .error k => code2 = code ∧ i2 = k ∧ bad2 = true)
/-- The end of a class. -/
def clsE (nt : Bool) (r : Except Nat (ByteArray × Nat)) : Except Nat (In × Nat) :=
  match r with
  | .error k => .error k
  | .ok (set, j) => .ok (⟨3, 0, set, nt, 0, 0⟩, j)
theorem classF_yes {s : ByteArray} {i : Nat} (h : isAt s i 94 = true) : classF s i = clsE true (itemsF (s.size + 1) s (i + 1) true ⟨#[]⟩) := by
  have h1 := isAt_lt h
  unfold classF
  rw [if_pos h1]
  rfl
theorem classF_no {s : ByteArray} {i : Nat} (h : isAt s i 94 = false) : classF s i = clsE false (itemsF (s.size + 1) s i true ⟨#[]⟩) := by
  unfold classF
  rw [if_neg (fun h1 => by unfold isAt at h; rw [decide_eq_true h1.1, decide_eq_true h1.2] at h; cases h)]
  rfl

set_option maxRecDepth 20000 in
set_option maxHeartbeats 64000000 in
theorem rclass_calls (w0 : World) (code : List In) (la : Option Addr) (n lc i g : Nat) (s : ByteArray) (W : World) (h : PS w0 code la n lc W) (hn : n ≤ 90000) (hs : s.size ≤ 1000) (hi : i < s.size) :
    Calls Try.prog 75 #[.string s, .agg #[.slice la n lc, .int .i64 (i : Int), .int .i64 (g : Int), .bool false]] W (KPr w0 code la n lc g W (classF s (i + 1))) := by
  obtain ⟨ip, hip⟩ : ∃ x, i + 1 = x := ⟨_, rfl⟩
  rw [hip]
  have HH : Aside (PS w0 code la n lc W) := h
  obtain ⟨R, hR⟩ : ∃ R, classF s ip = R := ⟨_, rfl⟩
  rw [hR]
  have HR : Aside (classF s ip = R) := hR
  obtain ⟨Q, hQ⟩ : ∃ Q : Ending → World → Prop, KPr w0 code la n lc g W R = Q := ⟨_, rfl⟩
  rw [hQ]
  have HQE : Aside (∀ k W', R = .error k → Below W.heap.size W W' → Q (.returned (.agg #[.slice la n lc, .int .i64 (k : Int), .int .i64 (g : Int), .bool true])) W') := fun k W' h1 h2 => by
    rw [← hQ, h1]
    exact ⟨la, lc, n, code, k, true, rfl, HH.out.later h2, Kp.of_below h2, rfl, rfl, rfl⟩
  have HQO : Aside (∀ (x : In) (j : Nat) (la2 : Option Addr) (lc2 : Nat) (W' : World), R = .ok (x, j) → PS w0 (code ++ [x]) la2 (n + 1) lc2 W' → Kp (.slice la n lc) (.slice la2 (n + 1) lc2) W W' → Q (.returned (.agg #[.slice la2 (n + 1) lc2, .int .i64 (j : Int), .int .i64 (g : Int), .bool false])) W') := fun x j la2 lc2 W' h1 h2 h3 => by
    rw [← hQ, h1]
    exact ⟨la2, lc2, n + 1, code ++ [x], j, false, rfl, h2, h3, rfl, rfl, rfl⟩
  obtain ⟨iu, hiu, hzu, hsu, hbu⟩ := uInfo
  have wi : IntKind.i64.wrap ((i : Int) + 1) = (ip : Int) := by rw [IntKind.wrap_i64]; omega
  have c94 : (((94 : UInt8).toNat : Nat) : Int) = 94 := rfl
  have c45 : (((45 : UInt8).toNat : Nat) : Int) = 45 := rfl
  have ci := ris_calls s la n lc ip g false 94 (((W.alloc (.cells #[.slice la n lc, .int .i64 (ip : Int), .int .i64 (g : Int), .bool false] 58)).alloc (.cells #[.slice none 0 0, .int .i64 0, .int .i64 0, .bool false] 58)).alloc (.cells #[.int .i64 3, .int .u8 0, .string ⟨#[]⟩, .bool false, .int .i64 0, .int .i64 0] 34)) (by omega)
  rw [c94] at ci
  have X0 : Aside ((((W.alloc (.cells #[.slice la n lc, .int .i64 (ip : Int), .int .i64 (g : Int), .bool false] 58)).alloc (.cells #[.slice none 0 0, .int .i64 0, .int .i64 0, .bool false] 58)).alloc (.cells #[.int .i64 3, .int .u8 0, .string ⟨#[]⟩, .bool false, .int .i64 0, .int .i64 0] 34)).heap[W.heap.size]? = some (.cells #[.slice la n lc, .int .i64 (ip : Int), .int .i64 (g : Int), .bool false] 58 (0, 0))) := hp_old (hp_old (hp_new rfl))
  have X1 : Aside ((((W.alloc (.cells #[.slice la n lc, .int .i64 (ip : Int), .int .i64 (g : Int), .bool false] 58)).alloc (.cells #[.slice none 0 0, .int .i64 0, .int .i64 0, .bool false] 58)).alloc (.cells #[.int .i64 3, .int .u8 0, .string ⟨#[]⟩, .bool false, .int .i64 0, .int .i64 0] 34)).heap[(W.heap.size + 1)]? = some (.cells #[.slice none 0 0, .int .i64 0, .int .i64 0, .bool false] 58 (0, 0))) := hp_old (hp_new (by simp))
  have X2 : Aside ((((W.alloc (.cells #[.slice la n lc, .int .i64 (ip : Int), .int .i64 (g : Int), .bool false] 58)).alloc (.cells #[.slice none 0 0, .int .i64 0, .int .i64 0, .bool false] 58)).alloc (.cells #[.int .i64 3, .int .u8 0, .string ⟨#[]⟩, .bool false, .int .i64 0, .int .i64 0] 34)).heap[(W.heap.size + 1 + 1)]? = some (.cells #[.int .i64 3, .int .u8 0, .string ⟨#[]⟩, .bool false, .int .i64 0, .int .i64 0] 34 (0, 0))) := hp_new (by simp)
  have XW : Aside (Below W.heap.size W (((W.alloc (.cells #[.slice la n lc, .int .i64 (ip : Int), .int .i64 (g : Int), .bool false] 58)).alloc (.cells #[.slice none 0 0, .int .i64 0, .int .i64 0, .bool false] 58)).alloc (.cells #[.int .i64 3, .int .u8 0, .string ⟨#[]⟩, .bool false, .int .i64 0, .int .i64 0] 34))) := by
    show Below _ _ _
    repeat (first | (with_reducible exact Below.refl _ _) | (with_reducible assumption) | (with_reducible refine below_to_plus ?_ ?_ _) | (with_reducible refine below_holds ?_ ?_ _ _) | (with_reducible refine Below.alloc ?_ ?_ _) | (with_reducible refine Below.drew ?_) | (with_reducible refine below_drewN ?_ _) | (with_reducible refine Below.setCell ?_ ?_ _))
    all_goals first | omega | (simp; done) | (simp [go_sem]; done) | (simp [go_sem]; omega)
  have hps : ip ≤ s.size := by omega
  clear hQ h hR c94
  go_enter Try.func75, Try.ntmps75
  go_wp2_with fail
  refine ci.mono ?_
  rintro e w1 ⟨rfl, hb⟩
  have H0 : Aside (w1.heap[W.heap.size]? = some (.cells #[.slice la n lc, .int .i64 (ip : Int), .int .i64 (g : Int), .bool false] 58 (0, 0))) := heap_later X0.out hb
  have H1 : Aside (w1.heap[(W.heap.size + 1)]? = some (.cells #[.slice none 0 0, .int .i64 0, .int .i64 0, .bool false] 58 (0, 0))) := heap_later X1.out hb
  have H2 : Aside (w1.heap[(W.heap.size + 1 + 1)]? = some (.cells #[.int .i64 3, .int .u8 0, .string ⟨#[]⟩, .bool false, .int .i64 0, .int .i64 0] 34 (0, 0))) := heap_later X2.out hb
  have HB : Aside (Below W.heap.size W w1) := XW.out.trans (hb.mono XW.out.size)
  clear hb ci X0 X1 X2 XW
  have eF : isF s ip false 94 = isAt s ip 94 := by unfold isF; rfl
  rw [eF]
  clear eF
  obtain ⟨nt, hnt⟩ : ∃ b, isAt s ip 94 = b := ⟨_, rfl⟩
  rw [hnt]
  obtain ⟨i2, hi2⟩ : ∃ x, (if nt = true then ip + 1 else ip) = x := ⟨_, rfl⟩
  have HI : Aside (i2 ≤ s.size ∧ ip ≤ i2) := by
    cases nt with
    | true => have := (isAt_lt hnt).1; rw [if_pos rfl] at hi2; exact ⟨by omega, by omega⟩
    | false => rw [if_neg (by simp)] at hi2; exact ⟨by omega, by omega⟩
  have HRR : Aside (clsE nt (itemsF (s.size + 1) s i2 true ⟨#[]⟩) = R) := by
    show _ = _
    rw [← HR.out]
    cases nt with
    | true => rw [if_pos rfl] at hi2; rw [classF_yes hnt, hi2]
    | false => rw [if_neg (by simp)] at hi2; rw [classF_no hnt, hi2]
  clear HR hnt
  have lH0 : W.heap.size < w1.heap.size := (Array.getElem?_eq_some_iff.1 H0.out).1
  have lH1 : (W.heap.size + 1) < w1.heap.size := (Array.getElem?_eq_some_iff.1 H1.out).1
  have lH2 : (W.heap.size + 1 + 1) < w1.heap.size := (Array.getElem?_eq_some_iff.1 H2.out).1
  obtain ⟨wk, hwk⟩ : ∃ x, x = w1 := ⟨_, rfl⟩
  have HK : Aside (wk = w1) := hwk
  clear hwk
  go_upto_if 18 with fail
  go_cut [18] from 7 to 138 (fun s18 wx => s18 = .bool nt ∧ wx = holds (holds wk W.heap.size #[.slice la n lc, .int .i64 (i2 : Int), .int .i64 (g : Int), .bool false] 58) (W.heap.size + 1 + 1) #[.int .i64 3, .int .u8 0, .string ⟨#[]⟩, .bool nt, .int .i64 0, .int .i64 0] 34)
  case first =>
    cases nt with
    | true =>
      have hi2' : ip + 1 = i2 := hi2
      have w2 : IntKind.i64.wrap ((ip : Int) + 1) = (i2 : Int) := by have := HI.out; rw [IntKind.wrap_i64]; omega
      clear hi2
      rw [holds_add (holds_self H0.out) H2.out]
      go_wp2_with fail
      go_meet
      refine ⟨rfl, ?_⟩
      all_goals (rw [HK.out])
    | false =>
      have hi2' : ip = i2 := hi2
      subst hi2'
      clear hi2
      rw [holds_add (holds_self H0.out) H2.out]
      go_wp2_with fail
      go_meet
      refine ⟨rfl, ?_⟩
      all_goals (rw [HK.out])
  case rest =>
    obtain ⟨rfl, hw⟩ := hcut
    rw [hw, HK.out]
    clear hw HK hi2
    have H0' : Aside ((holds (holds w1 W.heap.size #[.slice la n lc, .int .i64 (i2 : Int), .int .i64 (g : Int), .bool false] 58) (W.heap.size + 1 + 1) #[.int .i64 3, .int .u8 0, .string ⟨#[]⟩, .bool nt, .int .i64 0, .int .i64 0] 34).heap[W.heap.size]? = some (.cells #[.slice la n lc, .int .i64 (i2 : Int), .int .i64 (g : Int), .bool false] 58 (0, 0))) := hh_ne (by omega) (hh_eq lH0)
    have H1' : Aside ((holds (holds w1 W.heap.size #[.slice la n lc, .int .i64 (i2 : Int), .int .i64 (g : Int), .bool false] 58) (W.heap.size + 1 + 1) #[.int .i64 3, .int .u8 0, .string ⟨#[]⟩, .bool nt, .int .i64 0, .int .i64 0] 34).heap[(W.heap.size + 1)]? = some (.cells #[.slice none 0 0, .int .i64 0, .int .i64 0, .bool false] 58 (0, 0))) := hh_ne (by omega) (hh_ne (by omega) H1.out)
    have H2' : Aside ((holds (holds w1 W.heap.size #[.slice la n lc, .int .i64 (i2 : Int), .int .i64 (g : Int), .bool false] 58) (W.heap.size + 1 + 1) #[.int .i64 3, .int .u8 0, .string ⟨#[]⟩, .bool nt, .int .i64 0, .int .i64 0] 34).heap[(W.heap.size + 1 + 1)]? = some (.cells #[.int .i64 3, .int .u8 0, .string ⟨#[]⟩, .bool nt, .int .i64 0, .int .i64 0] 34 (0, 0))) := hh_eq (by rw [size_holds]; exact lH2)
    have HB' : Aside (Below W.heap.size W (holds (holds w1 W.heap.size #[.slice la n lc, .int .i64 (i2 : Int), .int .i64 (g : Int), .bool false] 58) (W.heap.size + 1 + 1) #[.int .i64 3, .int .u8 0, .string ⟨#[]⟩, .bool nt, .int .i64 0, .int .i64 0] 34)) := below_holds (below_holds HB.out (Nat.le_refl _) _ _) (by omega) _ _
    clear H0 H1 H2 HB lH0 lH1 lH2
    go_wp2_with fail
    generalize (holds (holds w1 W.heap.size #[.slice la n lc, .int .i64 (i2 : Int), .int .i64 (g : Int), .bool false] 58) (W.heap.size + 1 + 1) #[.int .i64 3, .int .u8 0, .string ⟨#[]⟩, .bool nt, .int .i64 0, .int .i64 0] 34) = w2 at H0' H1' H2' HB' ⊢
    have RS0 : Aside (w2.ownsRow (W.heap.size + 1 + 1 + 1) 5 1 (.slice none 0 0) 0 (bc [])) := ⟨rfl, .inl ⟨rfl, rfl⟩⟩
    have hi2s := HI.out.1
    obtain ⟨R0, hR0⟩ : ∃ r, itemsF (s.size + 1) s i2 true ⟨#[]⟩ = r := ⟨_, rfl⟩
    rw [hR0] at HRR
    have HI0 : Aside (itemsF (s.size + 1) s i2 (decide ((0 : Nat) = 0)) ⟨([] : List UInt8).toArray⟩ = R0) := hR0
    clear hR0 HI
    go_loopg [6] (s.size + 1) (fun gk s6 wr => ∃ (i : Nat) (bl : List UInt8) (sa : Option Addr) (m sc : Nat), s6 = .slice sa m sc ∧ s.size + 1 ≤ gk + i ∧ i ≤ s.size ∧ m ≤ 2 * i ∧ Aside (bl.length = m) ∧ Aside (itemsF gk s i (decide (m = 0)) ⟨bl.toArray⟩ = R0) ∧ Aside (wr.heap[W.heap.size]? = some (.cells #[.slice la n lc, .int .i64 (i : Int), .int .i64 (g : Int), .bool false] 58 (0, 0))) ∧ Aside (wr.heap[(W.heap.size + 1)]? = some (.cells #[.slice none 0 0, .int .i64 0, .int .i64 0, .bool false] 58 (0, 0))) ∧ Aside (wr.heap[(W.heap.size + 1 + 1)]? = some (.cells #[.int .i64 3, .int .u8 0, .string ⟨#[]⟩, .bool nt, .int .i64 0, .int .i64 0] 34 (0, 0))) ∧ Aside (wr.ownsRow (W.heap.size + 1 + 1 + 1) 5 1 (.slice sa m sc) m (bc bl)) ∧ Aside (Below W.heap.size W wr))
    case atStart => exact ⟨i2, [], none, 0, 0, rfl, by omega, hi2s, by omega, rfl, HI0.out, H0'.out, H1'.out, H2'.out, RS0.out, HB'.out⟩
    case round =>
      clear HI0 H0' H1' H2' HB' RS0 hi
      obtain ⟨i, bl, sa, m, sc, rfl, hg, hi, hm2, BLN, HIT, H0, H1, H2, RS, HB⟩ := hrel
      obtain ⟨f, rfl⟩ : ∃ f, gk = f + 1 := ⟨gk - 1, by omega⟩
      have lH0 : W.heap.size < wr.heap.size := (Array.getElem?_eq_some_iff.1 H0.out).1
      have lH1 : (W.heap.size + 1) < wr.heap.size := (Array.getElem?_eq_some_iff.1 H1.out).1
      have lH2 : (W.heap.size + 1 + 1) < wr.heap.size := (Array.getElem?_eq_some_iff.1 H2.out).1
      have cH00 := cell_heap H0.out 0 _ rfl
      have cH01 := cell_heap H0.out 1 _ rfl
      have cH02 := cell_heap H0.out 2 _ rfl
      have cH03 := cell_heap H0.out 3 _ rfl
      have ERR : Aside (∀ k, R0 = .error k → R = .error k) := fun k h => by rw [← HRR.out, h]; rfl
      by_cases his : i < s.size
      rotate_left
      · have ei : i = s.size := by omega
        have d1 : decide ((i : Int) < (s.size : Int)) = false := decide_eq_false (by omega)
        have d2 : ¬ (i : Int) < (s.size : Int) := by omega
        have d3 : ((i : Int) == (s.size : Int)) = true := by rw [ei]; simp
        have d4 : decide ((i : Int) = (s.size : Int)) = true := decide_eq_true (by omega)
        have ER : Aside (R0 = .error i) := by
          show _ = _
          rw [← HIT.out]
          refine items_err (fun h => by omega) ?_
          unfold charF
          rw [if_neg (fun h => by omega)]
        clear ei HIT his
        rw [holds_add (holds_self H0.out) H1.out]
        go_wp2
        refine bodyPost_ret (v := .agg #[.slice la n lc, .int .i64 (i : Int), .int .i64 (g : Int), .bool true]) (by simp [results, Try.results75, go_sem, ↓IntWalk.iteOmega, *]) rfl (HQE.out _ _ (ERR.out _ ER.out) (below_holds (below_holds (HB.out) (by omega) _ _) (by omega) _ _))
      have d1 : decide ((i : Int) < (s.size : Int)) = true := decide_eq_true (by omega)
      have d2 : (i : Int) < (s.size : Int) := by omega
      have d3 : ((i : Int) == (s.size : Int)) = false := by rw [beq_eq_false_iff_ne]; omega
      have d4 : decide ((i : Int) = (s.size : Int)) = false := decide_eq_false (by omega)
      have d5 : ¬ (i : Int) = (s.size : Int) := by omega
      obtain ⟨y, hy⟩ : ∃ y, s[i] = y := ⟨_, rfl⟩
      have hyb : s[i]! = y := by rw [getElem!_pos s i his, hy]
      obtain ⟨jp, hjp⟩ : ∃ x, i + 1 = x := ⟨_, rfl⟩
      have wip : IntKind.i64.wrap ((i : Int) + 1) = (jp : Int) := by rw [IntKind.wrap_i64]; omega
      by_cases y93 : y = 93
      · have e1 : ((y.toNat : Int) != 93) = false := by rw [y93]; rfl
        have e2 : ((y.toNat : Int) == 93) = true := by rw [y93]; rfl
        by_cases hm0 : m = 0
        · have m1 : ((m : Int) == 0) = true := by rw [hm0]; rfl
          have m2 : decide ((m : Int) = 0) = true := decide_eq_true (by omega)
          have m3 : decide (m = 0) = true := decide_eq_true hm0
          have m4 : (m == 0) = true := by rw [hm0]; rfl
          have ER : Aside (R0 = .error i) := by
            show _ = _
            rw [← HIT.out]
            refine items_err (fun h => by rw [m3] at h; cases h.1) ?_
            unfold charF
            rw [if_neg (fun h => h.2.1 (hyb.trans y93))]
          clear hm0 HIT hyb y93 m3
          rw [holds_add (holds_self H0.out) H1.out]
          go_wp2
          refine bodyPost_ret (v := .agg #[.slice la n lc, .int .i64 (i : Int), .int .i64 (g : Int), .bool true]) (by simp [results, Try.results75, go_sem, ↓IntWalk.iteOmega, *]) rfl (HQE.out _ _ (ERR.out _ ER.out) (below_holds (below_holds (HB.out) (by omega) _ _) (by omega) _ _))
        · have m1 : ((m : Int) == 0) = false := by rw [beq_eq_false_iff_ne]; omega
          have m2 : decide ((m : Int) = 0) = false := decide_eq_false (by omega)
          have m3 : decide (m = 0) = false := decide_eq_false hm0
          have m4 : (m == 0) = false := by rw [beq_eq_false_iff_ne]; exact hm0
          have EO : Aside (R0 = .ok (⟨bl.toArray⟩, jp)) := by
            show _ = _
            rw [← HIT.out, m3, ← hjp]
            exact items_close his (hyb.trans y93)
          have EO2 : Aside (R = .ok (⟨3, 0, ⟨bl.toArray⟩, nt, 0, 0⟩, jp)) := by
            show _ = _
            rw [← HRR.out, EO.out]
            rfl
          obtain ⟨gs, rfl⟩ : ∃ gs, sa = some ⟨gs, 0, none⟩ := by
            obtain ⟨g', c', e'⟩ := own_val RS.out (by omega)
            simp only [Value.slice.injEq] at e'
            exact ⟨g', e'.1⟩
          obtain ⟨st, hst⟩ : ∃ st : ByteArray, (⟨bl.toArray⟩ : ByteArray) = st := ⟨_, rfl⟩
          have CVT : (convert 82 9 (.slice (some ⟨gs, 0, none⟩) m sc)).run Try.prog (holds (holds wr W.heap.size #[.slice la n lc, .int .i64 (i : Int), .int .i64 (g : Int), .bool false] 58) (W.heap.size + 1 + 1) #[.int .i64 3, .int .u8 0, .string ⟨#[]⟩, .bool nt, .int .i64 0, .int .i64 0] 34) = .ok (.string st) (holds (holds wr W.heap.size #[.slice la n lc, .int .i64 (i : Int), .int .i64 (g : Int), .bool false] 58) (W.heap.size + 1 + 1) #[.int .i64 3, .int .u8 0, .string ⟨#[]⟩, .bool nt, .int .i64 0, .int .i64 0] 34) := by
            have hr := own_holds (own_holds RS.out (own_ne RS.out H0.out (by decide)) (c := #[.slice la n lc, .int .i64 (i : Int), .int .i64 (g : Int), .bool false]) (T := 58)) (own_ne RS.out H2.out (by decide)) (c := #[.int .i64 3, .int .u8 0, .string ⟨#[]⟩, .bool nt, .int .i64 0, .int .i64 0]) (T := 34)
            rw [← BLN.out] at hr ⊢
            rw [← hst]
            exact conv_bytes _ gs sc bl _ hr
          have ce := remit_calls w0 code la n lc jp g false 3 0 st nt 0 0
          rw [hst] at EO2
          clear hm0 HIT hyb y93 m3 hst ERR
          rw [holds_add (holds_self H0.out) H2.out]
          go_wp2_with fail
          have BV : Aside (Below W.heap.size W (holds (holds wr W.heap.size #[.slice la n lc, .int .i64 (jp : Int), .int .i64 (g : Int), .bool false] 58) (W.heap.size + 1 + 1) #[.int .i64 3, .int .u8 0, .string st, .bool nt, .int .i64 0, .int .i64 0] 34)) := below_holds (below_holds HB.out (Nat.le_refl _) _ _) (by omega) _ _
          have PV : Aside (PS w0 code la n lc (holds (holds wr W.heap.size #[.slice la n lc, .int .i64 (jp : Int), .int .i64 (g : Int), .bool false] 58) (W.heap.size + 1 + 1) #[.int .i64 3, .int .u8 0, .string st, .bool nt, .int .i64 0, .int .i64 0] 34)) := HH.out.later BV.out
          refine (ce (holds (holds wr W.heap.size #[.slice la n lc, .int .i64 (jp : Int), .int .i64 (g : Int), .bool false] 58) (W.heap.size + 1 + 1) #[.int .i64 3, .int .u8 0, .string st, .bool nt, .int .i64 0, .int .i64 0] 34) PV.out (by omega)).mono ?_
          rintro e w12 ⟨la2, lc2, rfl, hp, hk⟩
          have H1c : Aside (w12.heap[(W.heap.size + 1)]? = some (.cells #[.slice none 0 0, .int .i64 0, .int .i64 0, .bool false] 58 (0, 0))) := hk.type PV.out (hh_ne (by omega) (hh_ne (by omega) H1.out)) (by decide)
          have HP : Aside (PS w0 (code ++ [⟨3, 0, st, nt, 0, 0⟩]) la2 (n + 1) lc2 w12) := hp
          have HKP : Aside (Kp (.slice la n lc) (.slice la2 (n + 1) lc2) W w12) := (Kp.of_below BV.out).trans hk
          have l1c : (W.heap.size + 1) < w12.heap.size := (Array.getElem?_eq_some_iff.1 H1c.out).1
          clear hp hk ce CVT
          rw [holds_self H1c.out]
          go_wp2
          refine bodyPost_ret (v := .agg #[.slice la2 (n + 1) lc2, .int .i64 (jp : Int), .int .i64 (g : Int), .bool false]) (by simp [results, Try.results75, go_sem, ↓IntWalk.iteOmega, *]) rfl (HQO.out _ _ _ _ _ EO2.out (HP.out.other H1c.out (by have := HH.out.hb.size; omega) (by decide)) (HKP.out.other (by omega) _ _))
      have e1 : ((y.toNat : Int) != 93) = true := by rw [bne_iff_ne]; exact fun h => y93 ((u8_at 93).1 h)
      have e2 : ((y.toNat : Int) == 93) = false := by rw [beq_eq_false_iff_ne]; exact fun h => y93 ((u8_at 93).1 h)
      by_cases y45 : y = 45
      · have e3 : ((y.toNat : Int) == 45) = true := by rw [y45]; rfl
        have ER : Aside (R0 = .error i) := by
          show _ = _
          rw [← HIT.out]
          refine items_err (fun h => y93 (hyb.symm.trans h.2.2)) ?_
          unfold charF
          rw [if_neg (fun h => h.2.2 (hyb.trans y45))]
        clear HIT hyb y93 y45
        rw [holds_add (holds_self H0.out) H1.out]
        go_wp2
        refine bodyPost_ret (v := .agg #[.slice la n lc, .int .i64 (i : Int), .int .i64 (g : Int), .bool true]) (by simp [results, Try.results75, go_sem, ↓IntWalk.iteOmega, *]) rfl (HQE.out _ _ (ERR.out _ ER.out) (below_holds (below_holds (HB.out) (by omega) _ _) (by omega) _ _))
      have e3 : ((y.toNat : Int) == 45) = false := by rw [beq_eq_false_iff_ne]; exact fun h => y45 ((u8_at 45).1 h)
      obtain ⟨j, cb, b, hcr⟩ : ∃ j cb b, charR s i = (j, cb, b) := ⟨_, _, _, rfl⟩
      have hch := charR_F his (by rw [hyb]; exact y93) (by rw [hyb]; exact y45) hcr
      obtain ⟨ij, js, jb⟩ := charR_pos his hcr
      have NC : NCl s i (decide (m = 0)) := fun h => y93 (hyb.symm.trans h.2.2)
      have cc := rchar_calls s la n lc i g wr (by omega) his
      rw [hcr] at cc
      simp only [] at cc
      have HCH : Aside (charF s i = if cb = true then .error j else .ok (b, j)) := hch
      have HNC : Aside (NCl s i (decide (m = 0))) := NC
      have HJB : Aside (cb = true → j = s.size) := jb
      clear hch NC hcr y93 y45 hyb jb
      go_wp2_with fail
      refine cc.mono ?_
      rintro e w9 ⟨rfl, hb⟩
      have H0' : Aside (w9.heap[W.heap.size]? = some (.cells #[.slice la n lc, .int .i64 (i : Int), .int .i64 (g : Int), .bool false] 58 (0, 0))) := heap_later H0.out hb
      have H1' : Aside (w9.heap[(W.heap.size + 1)]? = some (.cells #[.slice none 0 0, .int .i64 0, .int .i64 0, .bool false] 58 (0, 0))) := heap_later H1.out hb
      have H2' : Aside (w9.heap[(W.heap.size + 1 + 1)]? = some (.cells #[.int .i64 3, .int .u8 0, .string ⟨#[]⟩, .bool nt, .int .i64 0, .int .i64 0] 34 (0, 0))) := heap_later H2.out hb
      have RS' : Aside (w9.ownsRow (W.heap.size + 1 + 1 + 1) 5 1 (.slice sa m sc) m (bc bl)) := own_from RS.out hb
      have HB' : Aside (Below W.heap.size W w9) := HB.out.trans (hb.mono HB.out.size)
      clear H0 H1 H2 RS HB hb cc cH00 cH01 cH02 cH03 lH0 lH1 lH2 d3 d4 d5 wip
      have H0 : Aside (w9.heap[W.heap.size]? = some (.cells #[.slice la n lc, .int .i64 (i : Int), .int .i64 (g : Int), .bool false] 58 (0, 0))) := H0'.out
      have H1 : Aside (w9.heap[(W.heap.size + 1)]? = some (.cells #[.slice none 0 0, .int .i64 0, .int .i64 0, .bool false] 58 (0, 0))) := H1'.out
      have H2 : Aside (w9.heap[(W.heap.size + 1 + 1)]? = some (.cells #[.int .i64 3, .int .u8 0, .string ⟨#[]⟩, .bool nt, .int .i64 0, .int .i64 0] 34 (0, 0))) := H2'.out
      have RS : Aside (w9.ownsRow (W.heap.size + 1 + 1 + 1) 5 1 (.slice sa m sc) m (bc bl)) := RS'.out
      have HB : Aside (Below W.heap.size W w9) := HB'.out
      clear H0' H1' H2' RS' HB'
      obtain ⟨a7, h7⟩ : ∃ a, w9.heap.size = a := ⟨_, rfl⟩
      have l7 : (W.heap.size + 1 + 1) < w9.heap.size := (Array.getElem?_eq_some_iff.1 H2.out).1
      have H7x : Aside ((w9.alloc (.cells #[.slice la n lc, .int .i64 (j : Int), .int .i64 (g : Int), .bool cb] 58)).heap[a7]? = some (.cells #[.slice la n lc, .int .i64 (j : Int), .int .i64 (g : Int), .bool cb] 58 (0, 0))) := hp_new h7.symm
      have ci := ris_calls s la n lc j g cb 45 (w9.alloc (.cells #[.slice la n lc, .int .i64 (j : Int), .int .i64 (g : Int), .bool cb] 58)) (by omega)
      rw [c45] at ci
      go_wp2_with fail
      refine ci.mono ?_
      rintro e w10 ⟨rfl, hb⟩
      have H7 : Aside (w10.heap[a7]? = some (.cells #[.slice la n lc, .int .i64 (j : Int), .int .i64 (g : Int), .bool cb] 58 (0, 0))) := heap_later H7x.out hb
      have H0' : Aside (w10.heap[W.heap.size]? = some (.cells #[.slice la n lc, .int .i64 (i : Int), .int .i64 (g : Int), .bool false] 58 (0, 0))) := heap_later (hp_old H0.out) hb
      have H1' : Aside (w10.heap[(W.heap.size + 1)]? = some (.cells #[.slice none 0 0, .int .i64 0, .int .i64 0, .bool false] 58 (0, 0))) := heap_later (hp_old H1.out) hb
      have H2' : Aside (w10.heap[(W.heap.size + 1 + 1)]? = some (.cells #[.int .i64 3, .int .u8 0, .string ⟨#[]⟩, .bool nt, .int .i64 0, .int .i64 0] 34 (0, 0))) := heap_later (hp_old H2.out) hb
      have RS' : Aside (w10.ownsRow (W.heap.size + 1 + 1 + 1) 5 1 (.slice sa m sc) m (bc bl)) := own_from (own_alloc RS.out) hb
      have HB' : Aside (Below W.heap.size W w10) := (HB.out.alloc HB.out.size _).trans (hb.mono (by simp; have := HB.out.size; omega))
      clear H0 H1 H2 RS HB hb ci H7x
      have H0 : Aside (w10.heap[W.heap.size]? = some (.cells #[.slice la n lc, .int .i64 (i : Int), .int .i64 (g : Int), .bool false] 58 (0, 0))) := H0'.out
      have H1 : Aside (w10.heap[(W.heap.size + 1)]? = some (.cells #[.slice none 0 0, .int .i64 0, .int .i64 0, .bool false] 58 (0, 0))) := H1'.out
      have H2 : Aside (w10.heap[(W.heap.size + 1 + 1)]? = some (.cells #[.int .i64 3, .int .u8 0, .string ⟨#[]⟩, .bool nt, .int .i64 0, .int .i64 0] 34 (0, 0))) := H2'.out
      have RS : Aside (w10.ownsRow (W.heap.size + 1 + 1 + 1) 5 1 (.slice sa m sc) m (bc bl)) := RS'.out
      have HB : Aside (Below W.heap.size W w10) := HB'.out
      clear H0' H1' H2' RS' HB'
      rw [h7] at l7
      clear h7
      cases cb with
      | true =>
        have ER : Aside (R0 = .error j) := by
          show _ = _
          rw [← HIT.out]
          exact items_err HNC.out (by rw [HCH.out, if_pos rfl])
        have eF : isF s j true 45 = false := rfl
        rw [eF]
        clear eF HIT HCH HNC
        have lH0 : W.heap.size < w10.heap.size := (Array.getElem?_eq_some_iff.1 H0.out).1
        have lH1 : (W.heap.size + 1) < w10.heap.size := (Array.getElem?_eq_some_iff.1 H1.out).1
        have lH7 : a7 < w10.heap.size := (Array.getElem?_eq_some_iff.1 H7.out).1
        have cH70 := cell_heap H7.out 0 _ rfl
        have cH71 := cell_heap H7.out 1 _ rfl
        have cH72 := cell_heap H7.out 2 _ rfl
        have cH73 := cell_heap H7.out 3 _ rfl
        rw [holds_self H1.out]
        have n71 : ¬ a7 = (W.heap.size + 1) := by omega
        go_wp2
        refine bodyPost_ret (v := .agg #[.slice la n lc, .int .i64 (j : Int), .int .i64 (g : Int), .bool true]) (by simp [results, Try.results75, go_sem, ↓IntWalk.iteOmega, *]) rfl (HQE.out _ _ (ERR.out _ ER.out) (below_holds (HB.out) (by omega) _ _))
      | false =>
      have HCO : Aside (charF s i = .ok (b, j)) := by show _ = _; rw [HCH.out, if_neg (by simp)]
      clear HCH HJB
      have eF : isF s j false 45 = isAt s j 45 := by unfold isF; rfl
      rw [eF]
      clear eF
      have lH0 : W.heap.size < w10.heap.size := (Array.getElem?_eq_some_iff.1 H0.out).1
      have lH1 : (W.heap.size + 1) < w10.heap.size := (Array.getElem?_eq_some_iff.1 H1.out).1
      have lH2 : (W.heap.size + 1 + 1) < w10.heap.size := (Array.getElem?_eq_some_iff.1 H2.out).1
      have lH7 : a7 < w10.heap.size := (Array.getElem?_eq_some_iff.1 H7.out).1
      have n70 : ¬ a7 = W.heap.size := by omega
      have n71 : ¬ a7 = (W.heap.size + 1) := by omega
      have n72 : ¬ a7 = (W.heap.size + 1 + 1) := by omega
      have n07 : ¬ W.heap.size = a7 := by omega
      have n17 : ¬ (W.heap.size + 1) = a7 := by omega
      have n27 : ¬ (W.heap.size + 1 + 1) = a7 := by omega
      cases hat : isAt s j 45 with
      | false =>
        have EN : Aside (itemsF f s j false ⟨(bl ++ [b, b]).toArray⟩ = R0) := by
          show _ = _
          rw [← HIT.out, items_one HNC.out HCO.out (fun h => by unfold isAt at hat; rw [decide_eq_true h.1, decide_eq_true h.2] at hat; cases hat)]
          congr 1
        clear HIT HNC HCO hat
        have cH70 := cell_heap H7.out 0 _ rfl
        have cH71 := cell_heap H7.out 1 _ rfl
        have cH72 := cell_heap H7.out 2 _ rfl
        have cH73 := cell_heap H7.out 3 _ rfl
        rw [holds_self H0.out]
        have ON : Aside (∀ u ∈ ([.int .u8 (b.toNat : Int), .int .u8 (b.toNat : Int)] : List Value), u.oneCell' = true) := two_one _ _
        have RW : Aside ((holds w10 W.heap.size #[.slice la n lc, .int .i64 (j : Int), .int .i64 (g : Int), .bool false] 58).ownsRow (W.heap.size + 1 + 1 + 1) 5 1 (.slice sa m sc) m (bc bl)) := (own_holds RS.out (own_ne RS.out H0.out (by decide)))
        have sz9 : (holds w10 W.heap.size #[.slice la n lc, .int .i64 (j : Int), .int .i64 (g : Int), .bool false] 58).heap.size = w10.heap.size := by simp [size_holds]
        have hws := HB.out.size
        go_wp2_with (at_builtin; refine wpList_append_own _ rfl _ _ 82 rfl (W.heap.size + 1 + 1 + 1) 5 iu _ 1 1 Try.underlying82 hiu hzu hsu hbu rfl (by omega) (.slice sa m sc) m (bc bl) rfl (own_alloc RW.out) ⟨w10.heap.size, 0, none⟩ 2 2 [.int .u8 (b.toNat : Int), .int .u8 (b.toNat : Int)] rfl rfl (cells_new _ _ _ _ (by simp [size_holds])) ON.out (by unfold maxLen; omega) (by omega) (by simp [size_holds]; omega) ?_)
        intro v' w12 hown hgrow _
        obtain ⟨g9, c9, rfl⟩ := own_val hown (by omega)
        have A0 : Aside (w12.heap[W.heap.size]? = some (.cells #[.slice la n lc, .int .i64 (j : Int), .int .i64 (g : Int), .bool false] 58 (0, 0))) := (hgrow.block W.heap.size (by simp [size_holds]; omega) (fun e => own_ne RS.out H0.out (by decide) e.symm)).trans (hp_old (hh_eq lH0))
        have A1 : Aside (w12.heap[(W.heap.size + 1)]? = some (.cells #[.slice none 0 0, .int .i64 0, .int .i64 0, .bool false] 58 (0, 0))) := (hgrow.block (W.heap.size + 1) (by simp [size_holds]; omega) (fun e => own_ne RS.out H1.out (by decide) e.symm)).trans (hp_old (hh_ne (by omega) H1.out))
        have A2 : Aside (w12.heap[(W.heap.size + 1 + 1)]? = some (.cells #[.int .i64 3, .int .u8 0, .string ⟨#[]⟩, .bool nt, .int .i64 0, .int .i64 0] 34 (0, 0))) := (hgrow.block (W.heap.size + 1 + 1) (by simp [size_holds]; omega) (fun e => own_ne RS.out H2.out (by decide) e.symm)).trans (hp_old (hh_ne (by omega) H2.out))
        have AR : Aside (w12.ownsRow (W.heap.size + 1 + 1 + 1) 5 1 (.slice (some ⟨g9, 0, none⟩) (m + 2) c9) (m + 2) (bc (bl ++ [b, b]))) := by
          rw [bc_two]
          exact hown
        have AB : Aside (Below W.heap.size W w12) := ((below_holds HB.out (Nat.le_refl _) _ _).alloc (by rw [size_holds]; exact hws) _).grown hgrow (by simp [size_holds]; omega) (fun q hq => by have := (own_lt RS.out hq).1; omega)
        have AL : Aside ((bl ++ [b, b]).length = m + 2) := by show _ = _; rw [List.length_append, BLN.out]; rfl
        clear hown hgrow RW ON
        go_wp2_with fail
        go_roundg f
        case measure => omega
        case rel => exact ⟨j, bl ++ [b, b], _, m + 2, c9, rfl, by omega, by omega, by omega, AL.out, by rw [show decide (m + 2 = 0) = false by simp]; exact EN.out, A0.out, A1.out, A2.out, AR.out, AB.out⟩
      | true =>
        have hj45 := isAt_lt hat
        obtain ⟨jp, hjp⟩ : ∃ x, j + 1 = x := ⟨_, rfl⟩
        have wjp : IntKind.i64.wrap ((j : Int) + 1) = (jp : Int) := by rw [IntKind.wrap_i64]; omega
        have hjps : jp ≤ s.size := by omega
        have HD45 : Aside (j < s.size ∧ s[j]! = 45) := hj45
        have cH70 := cell_heap H7.out 0 _ rfl
        have cH71 := cell_heap H7.out 1 _ rfl
        have cH72 := cell_heap H7.out 2 _ rfl
        have cH73 := cell_heap H7.out 3 _ rfl
        clear hat hj45
        by_cases hjs : jp < s.size
        rotate_left
        · have f1 : ((jp : Int) == (s.size : Int)) = true := by rw [beq_iff_eq]; omega
          have f2 : decide ((jp : Int) = (s.size : Int)) = true := decide_eq_true (by omega)
          have ER : Aside (R0 = .error jp) := by
            show _ = _
            rw [← HIT.out]
            refine items_rerr HNC.out HCO.out HD45.out ?_
            rw [hjp]
            unfold charF
            rw [if_neg (fun h => by omega)]
          clear HIT HNC HCO HD45 hjs
          rw [holds_add (holds_self H7.out) H1.out]
          go_wp2
          refine bodyPost_ret (v := .agg #[.slice la n lc, .int .i64 (jp : Int), .int .i64 (g : Int), .bool true]) (by simp [results, Try.results75, go_sem, ↓IntWalk.iteOmega, *]) rfl (HQE.out _ _ (ERR.out _ ER.out) (below_holds (below_holds (HB.out) (by omega) _ _) (by omega) _ _))
        have f1 : ((jp : Int) == (s.size : Int)) = false := by rw [beq_eq_false_iff_ne]; omega
        have f2 : decide ((jp : Int) = (s.size : Int)) = false := decide_eq_false (by omega)
        have f3 : ¬ (jp : Int) = (s.size : Int) := by omega
        have f4 : (jp : Int) < (s.size : Int) := by omega
        obtain ⟨d, hd⟩ : ∃ d, s[jp] = d := ⟨_, rfl⟩
        have hdb : s[jp]! = d := by rw [getElem!_pos s jp hjs, hd]
        by_cases dbad : d = 93 ∨ d = 45
        · have ER : Aside (R0 = .error jp) := by
            show _ = _
            rw [← HIT.out]
            refine items_rerr HNC.out HCO.out HD45.out ?_
            rw [hjp]
            unfold charF
            rw [if_neg (fun h => by rw [hdb] at h; rcases dbad with h9 | h9; exact h.2.1 h9; exact h.2.2 h9)]
          clear HIT HNC HCO HD45
          by_cases d93 : d = 93
          · have g1 : ((d.toNat : Int) == 93) = true := by rw [d93]; rfl
            clear dbad d93
            rw [holds_add (holds_self H7.out) H1.out]
            go_wp2
            refine bodyPost_ret (v := .agg #[.slice la n lc, .int .i64 (jp : Int), .int .i64 (g : Int), .bool true]) (by simp [results, Try.results75, go_sem, ↓IntWalk.iteOmega, *]) rfl (HQE.out _ _ (ERR.out _ ER.out) (below_holds (below_holds (HB.out) (by omega) _ _) (by omega) _ _))
          · have g1 : ((d.toNat : Int) == 93) = false := by rw [beq_eq_false_iff_ne]; exact fun h => d93 ((u8_at 93).1 h)
            have d45 : d = 45 := by rcases dbad with h9 | h9; exact absurd h9 d93; exact h9
            have g2 : ((d.toNat : Int) == 45) = true := by rw [d45]; rfl
            clear dbad d93 d45
            rw [holds_add (holds_self H7.out) H1.out]
            go_wp2
            refine bodyPost_ret (v := .agg #[.slice la n lc, .int .i64 (jp : Int), .int .i64 (g : Int), .bool true]) (by simp [results, Try.results75, go_sem, ↓IntWalk.iteOmega, *]) rfl (HQE.out _ _ (ERR.out _ ER.out) (below_holds (below_holds (HB.out) (by omega) _ _) (by omega) _ _))
        have d93 : d ≠ 93 := fun h => dbad (.inl h)
        have d45 : d ≠ 45 := fun h => dbad (.inr h)
        have g1 : ((d.toNat : Int) == 93) = false := by rw [beq_eq_false_iff_ne]; exact fun h => d93 ((u8_at 93).1 h)
        have g2 : ((d.toNat : Int) == 45) = false := by rw [beq_eq_false_iff_ne]; exact fun h => d45 ((u8_at 45).1 h)
        obtain ⟨k, cb, b2, hcr⟩ : ∃ k cb b2, charR s jp = (k, cb, b2) := ⟨_, _, _, rfl⟩
        have hch := charR_F hjs (by rw [hdb]; exact d93) (by rw [hdb]; exact d45) hcr
        obtain ⟨ik, ks, -⟩ := charR_pos hjs hcr
        have HCH : Aside (charF s (j + 1) = if cb = true then .error k else .ok (b2, k)) := by show _ = _; rw [hjp]; exact hch
        have cc := rchar_calls s la n lc jp g (holds w10 a7 #[.slice la n lc, .int .i64 (jp : Int), .int .i64 (g : Int), .bool false] 58) (by omega) hjs
        rw [hcr] at cc
        simp only [] at cc
        clear hch hcr dbad d93 d45 hdb
        have H0v := hh_ne (c := #[.slice la n lc, .int .i64 (jp : Int), .int .i64 (g : Int), .bool false]) (T := 58) n07 H0.out
        have H1v := hh_ne (c := #[.slice la n lc, .int .i64 (jp : Int), .int .i64 (g : Int), .bool false]) (T := 58) n17 H1.out
        have H2v := hh_ne (c := #[.slice la n lc, .int .i64 (jp : Int), .int .i64 (g : Int), .bool false]) (T := 58) n27 H2.out
        have H7v : (holds w10 a7 #[.slice la n lc, .int .i64 (jp : Int), .int .i64 (g : Int), .bool false] 58).heap[a7]? = some (.cells #[.slice la n lc, .int .i64 (jp : Int), .int .i64 (g : Int), .bool false] 58 (0, 0)) := hh_eq lH7
        have RSv := own_holds (c := #[.slice la n lc, .int .i64 (jp : Int), .int .i64 (g : Int), .bool false]) (T := 58) RS.out (own_ne RS.out H7.out (by decide))
        have HBv := below_holds HB.out (show W.heap.size ≤ a7 by omega) #[.slice la n lc, .int .i64 (jp : Int), .int .i64 (g : Int), .bool false] 58
        have V0 : Aside _ := H0v
        have V1 : Aside _ := H1v
        have V2 : Aside _ := H2v
        have V7 : Aside _ := H7v
        have VR : Aside ((holds w10 a7 #[.slice la n lc, .int .i64 (jp : Int), .int .i64 (g : Int), .bool false] 58).ownsRow (W.heap.size + 1 + 1 + 1) 5 1 (.slice sa m sc) m (bc bl)) := RSv
        have VB : Aside (Below W.heap.size W (holds w10 a7 #[.slice la n lc, .int .i64 (jp : Int), .int .i64 (g : Int), .bool false] 58)) := HBv
        clear H0v H1v H2v H7v RSv HBv
        rw [holds_self H7.out]
        go_wp2_with fail
        refine cc.mono ?_
        rintro e w11 ⟨rfl, hb⟩
        have H7n : Aside (w11.heap[a7]? = some (.cells #[.slice la n lc, .int .i64 (jp : Int), .int .i64 (g : Int), .bool false] 58 (0, 0))) := heap_later V7.out hb
        have H0' : Aside (w11.heap[W.heap.size]? = some (.cells #[.slice la n lc, .int .i64 (i : Int), .int .i64 (g : Int), .bool false] 58 (0, 0))) := heap_later V0.out hb
        have H1' : Aside (w11.heap[(W.heap.size + 1)]? = some (.cells #[.slice none 0 0, .int .i64 0, .int .i64 0, .bool false] 58 (0, 0))) := heap_later V1.out hb
        have H2' : Aside (w11.heap[(W.heap.size + 1 + 1)]? = some (.cells #[.int .i64 3, .int .u8 0, .string ⟨#[]⟩, .bool nt, .int .i64 0, .int .i64 0] 34 (0, 0))) := heap_later V2.out hb
        have RS' : Aside (w11.ownsRow (W.heap.size + 1 + 1 + 1) 5 1 (.slice sa m sc) m (bc bl)) := own_from VR.out hb
        have HB' : Aside (Below W.heap.size W w11) := VB.out.trans (hb.mono VB.out.size)
        clear H0 H1 H2 RS HB hb cc V0 V1 V2 V7 VR VB H7 lH0 lH1 lH2 lH7 cH70 cH71 cH72 cH73
        have H0 : Aside (w11.heap[W.heap.size]? = some (.cells #[.slice la n lc, .int .i64 (i : Int), .int .i64 (g : Int), .bool false] 58 (0, 0))) := H0'.out
        have H1 : Aside (w11.heap[(W.heap.size + 1)]? = some (.cells #[.slice none 0 0, .int .i64 0, .int .i64 0, .bool false] 58 (0, 0))) := H1'.out
        have H2 : Aside (w11.heap[(W.heap.size + 1 + 1)]? = some (.cells #[.int .i64 3, .int .u8 0, .string ⟨#[]⟩, .bool nt, .int .i64 0, .int .i64 0] 34 (0, 0))) := H2'.out
        have RS : Aside (w11.ownsRow (W.heap.size + 1 + 1 + 1) 5 1 (.slice sa m sc) m (bc bl)) := RS'.out
        have HB : Aside (Below W.heap.size W w11) := HB'.out
        clear H0' H1' H2' RS' HB'
        have H7 : Aside (w11.heap[a7]? = some (.cells #[.slice la n lc, .int .i64 (jp : Int), .int .i64 (g : Int), .bool false] 58 (0, 0))) := H7n.out
        clear H7n
        have lH0 : W.heap.size < w11.heap.size := (Array.getElem?_eq_some_iff.1 H0.out).1
        have lH1 : (W.heap.size + 1) < w11.heap.size := (Array.getElem?_eq_some_iff.1 H1.out).1
        have lH2 : (W.heap.size + 1 + 1) < w11.heap.size := (Array.getElem?_eq_some_iff.1 H2.out).1
        have lH7 : a7 < w11.heap.size := (Array.getElem?_eq_some_iff.1 H7.out).1
        cases cb with
        | true =>
          have ER : Aside (R0 = .error k) := by
            show _ = _
            rw [← HIT.out]
            exact items_rerr HNC.out HCO.out HD45.out (by rw [HCH.out, if_pos rfl])
          clear HIT HNC HCO HD45 HCH
          rw [holds_add (holds_self H7.out) H1.out]
          go_wp2
          refine bodyPost_ret (v := .agg #[.slice la n lc, .int .i64 (k : Int), .int .i64 (g : Int), .bool true]) (by simp [results, Try.results75, go_sem, ↓IntWalk.iteOmega, *]) rfl (HQE.out _ _ (ERR.out _ ER.out) (below_holds (below_holds (HB.out) (by omega) _ _) (by omega) _ _))
        | false =>
        have HCK : Aside (charF s (j + 1) = .ok (b2, k)) := by show _ = _; rw [HCH.out, if_neg (by simp)]
        clear HCH
        by_cases hlt : b2.toNat < b.toNat
        · have k1 : decide ((b2.toNat : Int) < (b.toNat : Int)) = true := decide_eq_true (by omega)
          have k2 : (b2.toNat : Int) < (b.toNat : Int) := by omega
          have k3 : decide (b2.toNat < b.toNat) = true := decide_eq_true hlt
          obtain ⟨km, hkm⟩ : ∃ x, k - 1 = x := ⟨_, rfl⟩
          have wkm : IntKind.i64.wrap ((k : Int) - 1) = (km : Int) := by rw [IntKind.wrap_i64]; omega
          have mx : max (jp : Int) (km : Int) = (km : Int) := by omega
          have ER : Aside (R0 = .error km) := by
            show _ = _
            rw [← HIT.out, ← hkm]
            exact items_less HNC.out HCO.out HD45.out HCK.out (UInt8.lt_iff_toNat_lt.2 hlt)
          have hkk : jp ≤ km := by omega
          clear HIT HNC HCO HD45 HCK hlt mx
          by_cases hx : jp < km
          · have hxz : (jp : Int) < (km : Int) := by omega
            rw [holds_add (holds_self H7.out) H1.out]
            go_wp2
            refine bodyPost_ret (v := .agg #[.slice la n lc, .int .i64 (km : Int), .int .i64 (g : Int), .bool true]) (by simp [results, Try.results75, go_sem, ↓IntWalk.iteOmega, *]) rfl (HQE.out _ _ (ERR.out _ ER.out) (below_holds (below_holds (HB.out) (by omega) _ _) (by omega) _ _))
          · have ek : km = jp := by omega
            subst ek
            have hxz : ¬ (km : Int) < (km : Int) := by omega
            rw [holds_add (holds_self H7.out) H1.out]
            go_wp2
            refine bodyPost_ret (v := .agg #[.slice la n lc, .int .i64 (km : Int), .int .i64 (g : Int), .bool true]) (by simp [results, Try.results75, go_sem, ↓IntWalk.iteOmega, *]) rfl (HQE.out _ _ (ERR.out _ ER.out) (below_holds (below_holds (HB.out) (by omega) _ _) (by omega) _ _))
        have k1 : decide ((b2.toNat : Int) < (b.toNat : Int)) = false := decide_eq_false (by omega)
        have k2 : ¬ (b2.toNat : Int) < (b.toNat : Int) := by omega
        have k3 : decide (b2.toNat < b.toNat) = false := decide_eq_false hlt
        have EN : Aside (itemsF f s k false ⟨(bl ++ [b, b2]).toArray⟩ = R0) := by
          show _ = _
          rw [← HIT.out, items_two HNC.out HCO.out HD45.out HCK.out (fun h => hlt (UInt8.lt_iff_toNat_lt.1 h))]
          congr 1
        clear HIT HNC HCO HD45 HCK hlt
        rw [holds_add (holds_self H7.out) H0.out]
        have ON : Aside (∀ u ∈ ([.int .u8 (b.toNat : Int), .int .u8 (b2.toNat : Int)] : List Value), u.oneCell' = true) := two_one _ _
        have RW : Aside ((holds (holds w11 a7 #[.slice la n lc, .int .i64 (k : Int), .int .i64 (g : Int), .bool false] 58) W.heap.size #[.slice la n lc, .int .i64 (k : Int), .int .i64 (g : Int), .bool false] 58).ownsRow (W.heap.size + 1 + 1 + 1) 5 1 (.slice sa m sc) m (bc bl)) := (own_holds (own_holds RS.out (own_ne RS.out H7.out (by decide))) (own_ne RS.out H0.out (by decide)))
        have sz9 : (holds (holds w11 a7 #[.slice la n lc, .int .i64 (k : Int), .int .i64 (g : Int), .bool false] 58) W.heap.size #[.slice la n lc, .int .i64 (k : Int), .int .i64 (g : Int), .bool false] 58).heap.size = w11.heap.size := by simp [size_holds]
        have hws := HB.out.size
        go_wp2_with (at_builtin; refine wpList_append_own _ rfl _ _ 82 rfl (W.heap.size + 1 + 1 + 1) 5 iu _ 1 1 Try.underlying82 hiu hzu hsu hbu rfl (by omega) (.slice sa m sc) m (bc bl) rfl (own_alloc RW.out) ⟨w11.heap.size, 0, none⟩ 2 2 [.int .u8 (b.toNat : Int), .int .u8 (b2.toNat : Int)] rfl rfl (cells_new _ _ _ _ (by simp [size_holds])) ON.out (by unfold maxLen; omega) (by omega) (by simp [size_holds]; omega) ?_)
        intro v' w12 hown hgrow _
        obtain ⟨g9, c9, rfl⟩ := own_val hown (by omega)
        have A0 : Aside (w12.heap[W.heap.size]? = some (.cells #[.slice la n lc, .int .i64 (k : Int), .int .i64 (g : Int), .bool false] 58 (0, 0))) := (hgrow.block W.heap.size (by simp [size_holds]; omega) (fun e => own_ne RS.out H0.out (by decide) e.symm)).trans (hp_old (hh_eq (by rw [size_holds]; exact lH0)))
        have A1 : Aside (w12.heap[(W.heap.size + 1)]? = some (.cells #[.slice none 0 0, .int .i64 0, .int .i64 0, .bool false] 58 (0, 0))) := (hgrow.block (W.heap.size + 1) (by simp [size_holds]; omega) (fun e => own_ne RS.out H1.out (by decide) e.symm)).trans (hp_old (hh_ne (by omega) (hh_ne (by omega) H1.out)))
        have A2 : Aside (w12.heap[(W.heap.size + 1 + 1)]? = some (.cells #[.int .i64 3, .int .u8 0, .string ⟨#[]⟩, .bool nt, .int .i64 0, .int .i64 0] 34 (0, 0))) := (hgrow.block (W.heap.size + 1 + 1) (by simp [size_holds]; omega) (fun e => own_ne RS.out H2.out (by decide) e.symm)).trans (hp_old (hh_ne (by omega) (hh_ne (by omega) H2.out)))
        have AR : Aside (w12.ownsRow (W.heap.size + 1 + 1 + 1) 5 1 (.slice (some ⟨g9, 0, none⟩) (m + 2) c9) (m + 2) (bc (bl ++ [b, b2]))) := by
          rw [bc_two]
          exact hown
        have AB : Aside (Below W.heap.size W w12) := ((below_holds (below_holds HB.out (by omega) _ _) (Nat.le_refl _) _ _).alloc (by rw [size_holds, size_holds]; exact hws) _).grown hgrow (by simp [size_holds]; omega) (fun q hq => by have := (own_lt RS.out hq).1; omega)
        have AL : Aside ((bl ++ [b, b2]).length = m + 2) := by show _ = _; rw [List.length_append, BLN.out]; rfl
        clear hown hgrow RW ON
        go_wp2_with fail
        go_roundg f
        case measure => omega
        case rel => exact ⟨k, bl ++ [b, b2], _, m + 2, c9, rfl, by omega, by omega, by omega, AL.out, by rw [show decide (m + 2 = 0) = false by simp]; exact EN.out, A0.out, A1.out, A2.out, AR.out, AB.out⟩

end Go.Proofs.Ytfhccmegobbnaaa
