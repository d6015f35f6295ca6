/- This text proves the walks of classAt of package glob. Conditions: those that each theorem names. -/
import Derived.Test.YtodoilengdnlfaaGlobA
import Derived.Test.YtodoilengdnlfaaLook
import Derived.Laws.IdiomStrings
import Derived.Laws.BytesArg
namespace Go.Proofs.Ytodoilengdnlfaa
open Go.ChangeShapes Go.WideShapes Go.ChangeAt Go.RowKit
set_option linter.unusedVariables false
set_option linter.unusedSimpArgs false

/-- The ranges of a class from k up to its bracket e, f steps looked at. -/
def setF (s q : ByteArray) (e : Nat) : Nat → Nat → List UInt8
  | 0, _ => []
  | f + 1, k => if k < e then (if decide (k + 2 < e) && bareB s q (k + 1) 45 then ub s k :: ub s (k + 2) :: setF s q e f (k + 3) else ub s k :: ub s k :: setF s q e f (k + 1)) else []
theorem setF_fuel (s q : ByteArray) (e : Nat) : ∀ (f g k : Nat), e - k ≤ f → e - k ≤ g → setF s q e f k = setF s q e g k
  | 0, 0, k, _, _ => rfl
  | 0, g + 1, k, h, _ => by unfold setF; rw [if_neg (by omega)]
  | f + 1, 0, k, _, h => by unfold setF; rw [if_neg (by omega)]
  | f + 1, g + 1, k, h1, h2 => by
    unfold setF
    rw [setF_fuel s q e f g (k + 3) (by omega) (by omega), setF_fuel s q e f g (k + 1) (by omega) (by omega)]
def setK (s q : ByteArray) (e k : Nat) : List UInt8 := setF s q e (e - k) k
theorem setK_range {s q : ByteArray} {e k : Nat} (h : k + 2 < e) (hb : bareB s q (k + 1) 45 = true) : setK s q e k = [ub s k, ub s (k + 2)] ++ setK s q e (k + 3) := by
  unfold setK
  rw [show e - k = (e - k - 1) + 1 by omega]
  show (if k < e then _ else _) = _
  rw [if_pos (by omega), hb, decide_eq_true h, if_pos (show (true && true) = true from rfl), setF_fuel s q e (e - k - 1) (e - (k + 3)) (k + 3) (by omega) (by omega)]
  rfl
theorem setK_one {s q : ByteArray} {e k : Nat} (h : k < e) (hb : (decide (k + 2 < e) && bareB s q (k + 1) 45) = false) : setK s q e k = [ub s k, ub s k] ++ setK s q e (k + 1) := by
  unfold setK
  rw [show e - k = (e - k - 1) + 1 by omega]
  show (if k < e then _ else _) = _
  rw [if_pos h, hb, if_neg (by simp), setF_fuel s q e (e - k - 1) (e - (k + 1)) (k + 1) (by omega) (by omega)]
  rfl
theorem setK_end {s q : ByteArray} {e k : Nat} (h : e ≤ k) : setK s q e k = [] := by
  unfold setK
  rw [show e - k = 0 by omega]; rfl
theorem setF_even (s q : ByteArray) (e : Nat) : ∀ (f k : Nat), ∃ m, (setF s q e f k).length = 2 * m ∧ m ≤ f
  | 0, k => ⟨0, rfl, by omega⟩
  | f + 1, k => by
    unfold setF
    split
    · split
      · obtain ⟨m, h, hm⟩ := setF_even s q e f (k + 3)
        exact ⟨m + 1, by simp [h]; omega, by omega⟩
      · obtain ⟨m, h, hm⟩ := setF_even s q e f (k + 1)
        exact ⟨m + 1, by simp [h]; omega, by omega⟩
    · exact ⟨0, rfl, by omega⟩
/-- The class from i to the bracket at e. -/
def negB (s q : ByteArray) (i e : Nat) : Bool := decide (i + 1 < e) && bareB s q (i + 1) 94
def classE (s q : ByteArray) (i e : Nat) : Em := ⟨3, 0, negB s q i e, ⟨(setK s q e (if negB s q i e then i + 2 else i + 1)).toArray⟩⟩

def bEnc (b : UInt8) : List Value := [.int .u8 (b.toNat : Int)]
theorem b_len (b : UInt8) : (bEnc b).length = 1 := rfl
theorem b_one (b : UInt8) : ∀ u ∈ bEnc b, u.oneCell' = true := by
  intro u hu
  simp only [bEnc, List.mem_cons, List.not_mem_nil, or_false] at hu
  subst hu; rfl
theorem bInfo : ∃ i0 : TypeInfo, Try.prog.info? 5 = some i0 ∧ i0.zero = some (.int .u8 0) ∧ i0.size = 1 ∧ i0.bytes = 1 := by
  have h : (Try.prog.info? 5).map (fun i => (i.zero, i.size, i.bytes)) = some (some (.int .u8 0), 1, 1) := by kernel_rfl
  cases hi : Try.prog.info? 5 with
  | none => rw [hi] at h; cases h
  | some i0 =>
    rw [hi] at h
    simp only [Option.map_some, Option.some.injEq, Prod.mk.injEq] at h
    exact ⟨i0, rfl, h.1, h.2.1, h.2.2⟩
/-- What an append of some elements to a row of its own leaves. -/
theorem app_stateN {α : Type} {enc : α → List Value} {k B n : Nat} {E : TypeId} {U1 W0 w' : World} {v v' : Value} {m : Nat} {o ys : List α} (hU : B ≤ U1.heap.size) (hUB : U1.heap.size ≤ B) (hk : ∀ x, (enc x).length = k) (hk0 : 0 < k) (hB : Below U1.heap.size U1 W0) (ho : W0.ownsRow B E k v m (flatE enc o)) (ho' : w'.ownsRow B E k v' n (flatE enc o ++ flatE enc ys)) (hg : W0.grownBy w' v.ownBlock) :
    ∃ ao2 cap2, v' = .slice ao2 n cap2 ∧ Below U1.heap.size U1 w' ∧ w'.ownsRow B E k (.slice ao2 n cap2) n (flatE enc (o ++ ys)) := by
  rw [← flatE_append] at ho'
  obtain ⟨ao2, cap2, hv, _⟩ := ownE_sl hk hk0 ho'
  subst hv
  exact ⟨ao2, cap2, rfl, hB.grown hg hB.size (fun k hk => by have := (ho.lt k hk).1; omega), ho'⟩
theorem heap_later {w w' : World} {b : Nat} {o : Obj} (h : w.heap[b]? = some o) (hb : Below w.heap.size w w') : w'.heap[b]? = some o := (hb.block b (Array.getElem?_eq_some_iff.1 h).1).trans h
theorem cell_heap {w : World} {b : Nat} {c : Array Value} {T : TypeId} (h : w.heap[b]? = some (.cells c T (0, 0))) (i : Nat) (v : Value) (hv : c[i]? = some v) : w.cell? ⟨b, i, none⟩ = some v := by
  simp [World.cell?, h, hv]
/-- string(b) of a row of the call's own. -/
theorem conv_own {w : World} {B : Nat} {ao : Option Addr} {cap : Nat} {l : List UInt8} (h : w.ownsRow B 5 1 (.slice ao l.length cap) l.length (flatE bEnc l)) :
    (convert 47 9 (.slice ao l.length cap)).run Try.prog w = .ok (.string ⟨l.toArray⟩) w := by
  obtain ⟨_, ⟨hv, hl⟩ | ⟨g, cap', cur, hv, _, hh, _, _, _, ht⟩⟩ := h
  · injection hv with e1 e2 e3
    subst e1
    have hl0 : l = [] := List.eq_nil_of_length_eq_zero (by omega)
    subst hl0
    exact run_convert_bytes_nil (P := Try.prog) w 47 5 Try.underlying47 Try.underlying5 _ _ _ Try.underlying9
  · injection hv with e1 e2 e3
    subst e1
    refine run_convert_bytes_back (P := Try.prog) w 47 9 5 ⟨g, 0, none⟩ cap l Try.underlying47 Try.underlying5 Try.underlying9 (fun j hj => ?_)
    rw [Addr.add_lit, Nat.zero_add]
    refine cell_heap hh j _ ?_
    have h1 := flatE_get b_len l j 0 (by omega)
    rw [← ht, List.getElem?_take, if_pos (by omega), Array.getElem?_toList, Nat.mul_one, Nat.add_zero, List.getElem?_eq_getElem hj] at h1
    rw [h1]; rfl

set_option maxHeartbeats 16000000 in
set_option maxRecDepth 100000 in
theorem classAt_calls (s q : ByteArray) (i en : Nat) (hie : i < en) (hen : en < s.size) (hs : s.size ≤ 20000) (w : World) :
    Calls Try.prog 34 #[.string s, .string q, .int .i64 i, .int .i64 en] w fun e w' => e = .returned (.agg (encP (classE s q i en)).toArray) ∧ Below w.heap.size w w' := by
  obtain ⟨i0, hi0, hz0, hs0, hb0⟩ := bInfo
  have c0 := fun U => bare_calls s q (i + 1) 94 U
  rw [show ((i + 1 : Nat) : Int) = (i : Int) + 1 by omega] at c0
  by_cases h1 : i + 1 < en
  · have h1z : (i : Int) + 1 < (en : Int) := by omega
    cases hb : bareB s q (i + 1) 94 with
    | true =>
      rw [hb] at c0
      have HR : Aside (classE s q i en = ⟨3, 0, true, ⟨(setK s q en (i + 2)).toArray⟩⟩) := by
        show _ = _
        have hn : negB s q i en = true := by unfold negB; rw [decide_eq_true h1, hb]; rfl
        unfold classE; rw [hn]; rfl
      generalize classE s q i en = r at HR ⊢
      clear hb
      go_enter Try.func34, Try.ntmps34
      go_wp2_with (go_at_call 32; (with_reducible refine (c0 _).mono ?_); rintro e w2 ⟨rfl, hw⟩; rw [hw]; clear hw)
      go_loopg [10, 11] (s.size + 3 - (i + 2)) (fun k s10 s11 wr => ∃ (kk : Nat) (ao' : Option Addr) (cap' : Nat) (l : List UInt8), s10 = .int .i64 (kk : Int) ∧ s11 = .slice ao' l.length cap' ∧ k + kk = s.size + 3 ∧ kk ≤ en + 1 ∧ l.length ≤ 2 * kk ∧ Aside (l ++ setK s q en kk = setK s q en (i + 2)) ∧ Aside (Below ((w.alloc (.cells #[.int .i64 0, .int .u8 0, .bool false, .string ⟨#[]⟩] 35)).alloc (.cells #[.int .i64 4, .int .u8 0, .bool true, .string ⟨#[]⟩] 35)).heap.size ((w.alloc (.cells #[.int .i64 0, .int .u8 0, .bool false, .string ⟨#[]⟩] 35)).alloc (.cells #[.int .i64 4, .int .u8 0, .bool true, .string ⟨#[]⟩] 35)) wr ∧ wr.ownsRow (w.heap.size + 1 + 1) 5 1 (.slice ao' l.length cap') l.length (flatE bEnc l)))
      case atStart => exact ⟨i + 2, none, 0, [], by first | (simp; done) | (simp; omega), rfl, by omega, by omega, by simp, rfl, ⟨Below.refl _ _, World.ownsRow_nil _ _ _ _⟩⟩
      case round =>
        obtain ⟨kk, ao', cap', l, rfl, rfl, hk, hkm, hll, A, ST⟩ := hrel
        by_cases hl : kk < en
        · have hlz : (kk : Int) < (en : Int) := by omega
          have hks : kk < s.size := by omega
          have u0 := ub_eq hks
          have hkw : IntKind.i64.wrap ((kk : Int) + 2) = (kk : Int) + 2 := by rw [IntKind.wrap_i64]; omega
          have htn : ((kk : Int) + 2).toNat = kk + 2 := by omega
          by_cases h2 : kk + 2 < en
          · have h2z : (kk : Int) + 2 < (en : Int) := by omega
            have hks2 : kk + 2 < s.size := by omega
            have u2 := ub_eq hks2
            have hge : (0 : Int) ≤ (kk : Int) + 2 := by omega
            have hlt2 : (kk : Int) + 2 < (s.size : Int) := by omega
            have cb := fun U => bare_calls s q (kk + 1) 45 U
            rw [show ((kk + 1 : Nat) : Int) = (kk : Int) + 1 by omega] at cb
            cases hb : bareB s q (kk + 1) 45 with
            | true =>
              rw [hb] at cb
              have A2 : Aside ((l ++ [ub s kk, ub s (kk + 2)]) ++ setK s q en (kk + 3) = setK s q en (i + 2)) := by show _ = _; rw [← A.out, setK_range h2 hb, List.append_assoc]
              clear hb A
              go_wp2_with (go_at_call 32; (with_reducible refine (cb _).mono ?_); rintro e w2 ⟨rfl, hw⟩; rw [hw]; clear hw)
              refine wp_region_lo_plus 9 [8] (by kernel_rfl) (by kernel_rfl) ?_
              simp only [List.take, List.drop]
              refine lo_tame rfl rfl rfl (fun K hK => ?_)
              simp [go_sem, ↓IntWalk.iteOmega, *]
              refine hK _ ?_
              clear hK
              clear K
              refine lo_tame rfl rfl rfl (fun K hK => ?_)
              simp [go_sem, ↓IntWalk.iteOmega, *]
              refine hK _ ?_
              clear hK
              clear K
              refine lo_tame rfl rfl rfl (fun K hK => ?_)
              simp [go_sem, ↓IntWalk.iteOmega, *]
              refine hK _ ?_
              clear hK
              clear K
              refine lo_tame rfl rfl rfl (fun K hK => ?_)
              simp [go_sem, ↓IntWalk.iteOmega, *]
              refine hK _ ?_
              clear hK
              clear K
              refine lo_tame rfl rfl rfl (fun K hK => ?_)
              simp [go_sem, ↓IntWalk.iteOmega, *]
              refine hK _ ?_
              clear hK
              clear K
              refine lo_tame rfl rfl rfl (fun K hK => ?_)
              simp [go_sem, ↓IntWalk.iteOmega, *]
              refine hK _ ?_
              clear hK
              clear K
              refine lo_tame rfl rfl rfl (fun K hK => ?_)
              simp [go_sem, ↓IntWalk.iteOmega, *]
              refine hK _ ?_
              clear hK
              clear K
              refine lo_tame rfl rfl rfl (fun K hK => ?_)
              simp [go_sem, ↓IntWalk.iteOmega, *]
              refine hK _ ?_
              clear hK
              clear K
              refine lo_build (enc := bEnc) b_len (by omega) [ub s kk, ub s (kk + 2)] 2 rfl (by omega) #[.int .u8 ((ub s kk).toNat : Int), .int .u8 ((ub s (kk + 2)).toNat : Int)] 5 rfl rfl rfl rfl (fun x => by simp [go_sem]) ?_
              simp only [List.nil_append, List.cons_append]
              refine lo_nil ?_
              rintro _ ⟨y, rfl⟩
              refine specEnd_sl (fun aS cS _ hS => ?_)
              refine specEnd_nil ?_
              simp only [Act.put, Array.setIfInBounds, List.size_toArray, List.length_cons, List.length_nil, Nat.reduceAdd, Nat.reduceLT, dite_true, List.set_toArray, List.set_cons_succ, List.set_cons_zero]
              have ST8 : Aside (Below ((w.alloc (.cells #[.int .i64 0, .int .u8 0, .bool false, .string ⟨#[]⟩] 35)).alloc (.cells #[.int .i64 4, .int .u8 0, .bool true, .string ⟨#[]⟩] 35)).heap.size ((w.alloc (.cells #[.int .i64 0, .int .u8 0, .bool false, .string ⟨#[]⟩] 35)).alloc (.cells #[.int .i64 4, .int .u8 0, .bool true, .string ⟨#[]⟩] 35)) (plus wr y) ∧ (plus wr y).ownsRow (w.heap.size + 1 + 1) 5 1 (.slice ao' l.length cap') l.length (flatE bEnc l)) := ⟨ST.out.1.trans ((below_plus wr y).mono ST.out.1.size), own_plus ST.out.2⟩
              clear ST
              generalize plus wr y = w8 at ST8 hS ⊢
              obtain ⟨b9, o9, rfl, _, _⟩ := hS.here (by omega)
              have hc9 := Sl.cellsE b_len (by omega) hS
              have hown := ST8.out.2
              have hsw := ST8.out.1.size
              simp at hsw
              go_wp2_with (at_builtin; refine wpList_append_own _ rfl _ _ 47 rfl (w.heap.size + 1 + 1) 5 i0 _ 1 1 Try.underlying47 hi0 hz0 hs0 hb0 rfl (by omega) _ _ _ rfl hown ⟨b9, o9, none⟩ 2 cS (flatE bEnc [ub s kk, ub s (kk + 2)]) rfl rfl (fun j u hj => by rw [Addr.add_lit]; exact hc9 j u hj) (flatE_cells (enc := bEnc) b_one _) (by unfold maxLen; omega) (by omega) (by omega) ?_)
              intro v' w9 hown' hgrow _
              obtain ⟨ao9, cap9, rfl, hb9, ho9⟩ := app_stateN (U1 := ((w.alloc (.cells #[.int .i64 0, .int .u8 0, .bool false, .string ⟨#[]⟩] 35)).alloc (.cells #[.int .i64 4, .int .u8 0, .bool true, .string ⟨#[]⟩] 35))) (by simp) (by simp) b_len (by omega) (ys := [ub s kk, ub s (kk + 2)]) ST8.out.1 hown hown' hgrow
              have ST9 : Aside (Below ((w.alloc (.cells #[.int .i64 0, .int .u8 0, .bool false, .string ⟨#[]⟩] 35)).alloc (.cells #[.int .i64 4, .int .u8 0, .bool true, .string ⟨#[]⟩] 35)).heap.size ((w.alloc (.cells #[.int .i64 0, .int .u8 0, .bool false, .string ⟨#[]⟩] 35)).alloc (.cells #[.int .i64 4, .int .u8 0, .bool true, .string ⟨#[]⟩] 35)) w9 ∧ w9.ownsRow (w.heap.size + 1 + 1) 5 1 (.slice ao9 (l.length + 2) cap9) (l.length + 2) (flatE bEnc (l ++ [ub s kk, ub s (kk + 2)]))) := ⟨hb9, ho9⟩
              clear hown hown' hgrow hb9 ho9 ST8 hS hc9
              go_wp2
              go_roundg (gk - 3)
              case measure => omega
              case rel => exact ⟨kk + 3, ao9, cap9, l ++ [ub s kk, ub s (kk + 2)], by simp, by simp, by omega, by omega, by simp; omega, A2, by first | exact ST9 | simpa using ST9⟩
            | false =>
              rw [hb] at cb
              have A2 : Aside ((l ++ [ub s kk, ub s kk]) ++ setK s q en (kk + 1) = setK s q en (i + 2)) := by show _ = _; rw [← A.out, setK_one hl (by rw [hb, Bool.and_false]), List.append_assoc]
              clear hb A
              go_wp2_with (go_at_call 32; (with_reducible refine (cb _).mono ?_); rintro e w2 ⟨rfl, hw⟩; rw [hw]; clear hw)
              refine wp_region_lo_plus 8 [7] (by kernel_rfl) (by kernel_rfl) ?_
              simp only [List.take, List.drop]
              refine lo_tame rfl rfl rfl (fun K hK => ?_)
              simp [go_sem, ↓IntWalk.iteOmega, *]
              refine hK _ ?_
              clear hK
              clear K
              refine lo_tame rfl rfl rfl (fun K hK => ?_)
              simp [go_sem, ↓IntWalk.iteOmega, *]
              refine hK _ ?_
              clear hK
              clear K
              refine lo_tame rfl rfl rfl (fun K hK => ?_)
              simp [go_sem, ↓IntWalk.iteOmega, *]
              refine hK _ ?_
              clear hK
              clear K
              refine lo_tame rfl rfl rfl (fun K hK => ?_)
              simp [go_sem, ↓IntWalk.iteOmega, *]
              refine hK _ ?_
              clear hK
              clear K
              refine lo_tame rfl rfl rfl (fun K hK => ?_)
              simp [go_sem, ↓IntWalk.iteOmega, *]
              refine hK _ ?_
              clear hK
              clear K
              refine lo_tame rfl rfl rfl (fun K hK => ?_)
              simp [go_sem, ↓IntWalk.iteOmega, *]
              refine hK _ ?_
              clear hK
              clear K
              refine lo_tame rfl rfl rfl (fun K hK => ?_)
              simp [go_sem, ↓IntWalk.iteOmega, *]
              refine hK _ ?_
              clear hK
              clear K
              refine lo_build (enc := bEnc) b_len (by omega) [ub s kk, ub s kk] 2 rfl (by omega) #[.int .u8 ((ub s kk).toNat : Int), .int .u8 ((ub s kk).toNat : Int)] 5 rfl rfl rfl rfl (fun x => by simp [go_sem]) ?_
              simp only [List.nil_append, List.cons_append]
              refine lo_nil ?_
              rintro _ ⟨y, rfl⟩
              refine specEnd_sl (fun aS cS _ hS => ?_)
              refine specEnd_nil ?_
              simp only [Act.put, Array.setIfInBounds, List.size_toArray, List.length_cons, List.length_nil, Nat.reduceAdd, Nat.reduceLT, dite_true, List.set_toArray, List.set_cons_succ, List.set_cons_zero]
              have ST8 : Aside (Below ((w.alloc (.cells #[.int .i64 0, .int .u8 0, .bool false, .string ⟨#[]⟩] 35)).alloc (.cells #[.int .i64 4, .int .u8 0, .bool true, .string ⟨#[]⟩] 35)).heap.size ((w.alloc (.cells #[.int .i64 0, .int .u8 0, .bool false, .string ⟨#[]⟩] 35)).alloc (.cells #[.int .i64 4, .int .u8 0, .bool true, .string ⟨#[]⟩] 35)) (plus wr y) ∧ (plus wr y).ownsRow (w.heap.size + 1 + 1) 5 1 (.slice ao' l.length cap') l.length (flatE bEnc l)) := ⟨ST.out.1.trans ((below_plus wr y).mono ST.out.1.size), own_plus ST.out.2⟩
              clear ST
              generalize plus wr y = w8 at ST8 hS ⊢
              obtain ⟨b9, o9, rfl, _, _⟩ := hS.here (by omega)
              have hc9 := Sl.cellsE b_len (by omega) hS
              have hown := ST8.out.2
              have hsw := ST8.out.1.size
              simp at hsw
              go_wp2_with (at_builtin; refine wpList_append_own _ rfl _ _ 47 rfl (w.heap.size + 1 + 1) 5 i0 _ 1 1 Try.underlying47 hi0 hz0 hs0 hb0 rfl (by omega) _ _ _ rfl hown ⟨b9, o9, none⟩ 2 cS (flatE bEnc [ub s kk, ub s kk]) rfl rfl (fun j u hj => by rw [Addr.add_lit]; exact hc9 j u hj) (flatE_cells (enc := bEnc) b_one _) (by unfold maxLen; omega) (by omega) (by omega) ?_)
              intro v' w9 hown' hgrow _
              obtain ⟨ao9, cap9, rfl, hb9, ho9⟩ := app_stateN (U1 := ((w.alloc (.cells #[.int .i64 0, .int .u8 0, .bool false, .string ⟨#[]⟩] 35)).alloc (.cells #[.int .i64 4, .int .u8 0, .bool true, .string ⟨#[]⟩] 35))) (by simp) (by simp) b_len (by omega) (ys := [ub s kk, ub s kk]) ST8.out.1 hown hown' hgrow
              have ST9 : Aside (Below ((w.alloc (.cells #[.int .i64 0, .int .u8 0, .bool false, .string ⟨#[]⟩] 35)).alloc (.cells #[.int .i64 4, .int .u8 0, .bool true, .string ⟨#[]⟩] 35)).heap.size ((w.alloc (.cells #[.int .i64 0, .int .u8 0, .bool false, .string ⟨#[]⟩] 35)).alloc (.cells #[.int .i64 4, .int .u8 0, .bool true, .string ⟨#[]⟩] 35)) w9 ∧ w9.ownsRow (w.heap.size + 1 + 1) 5 1 (.slice ao9 (l.length + 2) cap9) (l.length + 2) (flatE bEnc (l ++ [ub s kk, ub s kk]))) := ⟨hb9, ho9⟩
              clear hown hown' hgrow hb9 ho9 ST8 hS hc9
              go_wp2
              go_roundg (gk - 1)
              case measure => omega
              case rel => exact ⟨kk + 1, ao9, cap9, l ++ [ub s kk, ub s kk], by simp, by simp, by omega, by omega, by simp; omega, A2, by first | exact ST9 | simpa using ST9⟩
          · have h2z : ¬ (kk : Int) + 2 < (en : Int) := by omega
            have A2 : Aside ((l ++ [ub s kk, ub s kk]) ++ setK s q en (kk + 1) = setK s q en (i + 2)) := by show _ = _; rw [← A.out, setK_one hl (by rw [decide_eq_false h2]; rfl), List.append_assoc]
            clear A
            go_wp2
            refine wp_region_lo_plus 8 [7] (by kernel_rfl) (by kernel_rfl) ?_
            simp only [List.take, List.drop]
            refine lo_tame rfl rfl rfl (fun K hK => ?_)
            simp [go_sem, ↓IntWalk.iteOmega, *]
            refine hK _ ?_
            clear hK
            clear K
            refine lo_tame rfl rfl rfl (fun K hK => ?_)
            simp [go_sem, ↓IntWalk.iteOmega, *]
            refine hK _ ?_
            clear hK
            clear K
            refine lo_tame rfl rfl rfl (fun K hK => ?_)
            simp [go_sem, ↓IntWalk.iteOmega, *]
            refine hK _ ?_
            clear hK
            clear K
            refine lo_tame rfl rfl rfl (fun K hK => ?_)
            simp [go_sem, ↓IntWalk.iteOmega, *]
            refine hK _ ?_
            clear hK
            clear K
            refine lo_tame rfl rfl rfl (fun K hK => ?_)
            simp [go_sem, ↓IntWalk.iteOmega, *]
            refine hK _ ?_
            clear hK
            clear K
            refine lo_tame rfl rfl rfl (fun K hK => ?_)
            simp [go_sem, ↓IntWalk.iteOmega, *]
            refine hK _ ?_
            clear hK
            clear K
            refine lo_tame rfl rfl rfl (fun K hK => ?_)
            simp [go_sem, ↓IntWalk.iteOmega, *]
            refine hK _ ?_
            clear hK
            clear K
            refine lo_build (enc := bEnc) b_len (by omega) [ub s kk, ub s kk] 2 rfl (by omega) #[.int .u8 ((ub s kk).toNat : Int), .int .u8 ((ub s kk).toNat : Int)] 5 rfl rfl rfl rfl (fun x => by simp [go_sem]) ?_
            simp only [List.nil_append, List.cons_append]
            refine lo_nil ?_
            rintro _ ⟨y, rfl⟩
            refine specEnd_sl (fun aS cS _ hS => ?_)
            refine specEnd_nil ?_
            simp only [Act.put, Array.setIfInBounds, List.size_toArray, List.length_cons, List.length_nil, Nat.reduceAdd, Nat.reduceLT, dite_true, List.set_toArray, List.set_cons_succ, List.set_cons_zero]
            have ST8 : Aside (Below ((w.alloc (.cells #[.int .i64 0, .int .u8 0, .bool false, .string ⟨#[]⟩] 35)).alloc (.cells #[.int .i64 4, .int .u8 0, .bool true, .string ⟨#[]⟩] 35)).heap.size ((w.alloc (.cells #[.int .i64 0, .int .u8 0, .bool false, .string ⟨#[]⟩] 35)).alloc (.cells #[.int .i64 4, .int .u8 0, .bool true, .string ⟨#[]⟩] 35)) (plus wr y) ∧ (plus wr y).ownsRow (w.heap.size + 1 + 1) 5 1 (.slice ao' l.length cap') l.length (flatE bEnc l)) := ⟨ST.out.1.trans ((below_plus wr y).mono ST.out.1.size), own_plus ST.out.2⟩
            clear ST
            generalize plus wr y = w8 at ST8 hS ⊢
            obtain ⟨b9, o9, rfl, _, _⟩ := hS.here (by omega)
            have hc9 := Sl.cellsE b_len (by omega) hS
            have hown := ST8.out.2
            have hsw := ST8.out.1.size
            simp at hsw
            go_wp2_with (at_builtin; refine wpList_append_own _ rfl _ _ 47 rfl (w.heap.size + 1 + 1) 5 i0 _ 1 1 Try.underlying47 hi0 hz0 hs0 hb0 rfl (by omega) _ _ _ rfl hown ⟨b9, o9, none⟩ 2 cS (flatE bEnc [ub s kk, ub s kk]) rfl rfl (fun j u hj => by rw [Addr.add_lit]; exact hc9 j u hj) (flatE_cells (enc := bEnc) b_one _) (by unfold maxLen; omega) (by omega) (by omega) ?_)
            intro v' w9 hown' hgrow _
            obtain ⟨ao9, cap9, rfl, hb9, ho9⟩ := app_stateN (U1 := ((w.alloc (.cells #[.int .i64 0, .int .u8 0, .bool false, .string ⟨#[]⟩] 35)).alloc (.cells #[.int .i64 4, .int .u8 0, .bool true, .string ⟨#[]⟩] 35))) (by simp) (by simp) b_len (by omega) (ys := [ub s kk, ub s kk]) ST8.out.1 hown hown' hgrow
            have ST9 : Aside (Below ((w.alloc (.cells #[.int .i64 0, .int .u8 0, .bool false, .string ⟨#[]⟩] 35)).alloc (.cells #[.int .i64 4, .int .u8 0, .bool true, .string ⟨#[]⟩] 35)).heap.size ((w.alloc (.cells #[.int .i64 0, .int .u8 0, .bool false, .string ⟨#[]⟩] 35)).alloc (.cells #[.int .i64 4, .int .u8 0, .bool true, .string ⟨#[]⟩] 35)) w9 ∧ w9.ownsRow (w.heap.size + 1 + 1) 5 1 (.slice ao9 (l.length + 2) cap9) (l.length + 2) (flatE bEnc (l ++ [ub s kk, ub s kk]))) := ⟨hb9, ho9⟩
            clear hown hown' hgrow hb9 ho9 ST8 hS hc9
            go_wp2
            go_roundg (gk - 1)
            case measure => omega
            case rel => exact ⟨kk + 1, ao9, cap9, l ++ [ub s kk, ub s kk], by simp, by simp, by omega, by omega, by simp; omega, A2, by first | exact ST9 | simpa using ST9⟩
        · have hlz : ¬ (kk : Int) < (en : Int) := by omega
          have el : l = setK s q en (i + 2) := by rw [← A.out, setK_end (by omega), List.append_nil]
          subst el
          clear A
          generalize setK s q en (i + 2) = l at ST HR
          have hr0 : wr.heap[w.heap.size]? = some (.cells #[.int .i64 0, .int .u8 0, .bool false, .string ⟨#[]⟩] 35 (0, 0)) := heap_later (hp_old (hp_new rfl)) ST.out.1
          have hr1 : wr.heap[w.heap.size + 1]? = some (.cells #[.int .i64 4, .int .u8 0, .bool true, .string ⟨#[]⟩] 35 (0, 0)) := heap_later (hp_new (by simp)) ST.out.1
          have s0 : w.heap.size < wr.heap.size := (Array.getElem?_eq_some_iff.1 hr0).1
          have s1 : w.heap.size + 1 < wr.heap.size := (Array.getElem?_eq_some_iff.1 hr1).1
          have kc := conv_own ST.out.2
          have hbw : Below w.heap.size w wr := by
            refine Below.trans (b := ((w.alloc (.cells #[.int .i64 0, .int .u8 0, .bool false, .string ⟨#[]⟩] 35)).alloc (.cells #[.int .i64 4, .int .u8 0, .bool true, .string ⟨#[]⟩] 35))) ?_ (ST.out.1.mono (by simp; omega))
            exact ((Below.refl _ w).alloc (Nat.le_refl _) _).alloc (by simp) _
          have HBW : Aside (Below w.heap.size w wr) := hbw
          have ew := holds_add (holds_self hr0) hr1
          rw [ew] at kc ⊢
          clear ST hr0 hr1 hbw ew
          go_wp2
          refine bodyPost_ret (v := .agg #[.int .i64 4, .int .u8 0, .bool true, .string ⟨l.toArray⟩]) (by simp [results, Try.results34, go_sem, ↓IntWalk.iteOmega, s0, s1]) rfl ⟨by rw [HR.out]; rfl, below_holds (below_holds HBW.out (Nat.le_refl _) _ _) (by omega) _ _⟩
    | false =>
      rw [hb] at c0
      have HR : Aside (classE s q i en = ⟨3, 0, false, ⟨(setK s q en (i + 1)).toArray⟩⟩) := by
        show _ = _
        have hn : negB s q i en = false := by unfold negB; rw [hb, Bool.and_false]
        unfold classE; rw [hn]; rfl
      generalize classE s q i en = r at HR ⊢
      clear hb
      go_enter Try.func34, Try.ntmps34
      go_wp2_with (go_at_call 32; (with_reducible refine (c0 _).mono ?_); rintro e w2 ⟨rfl, hw⟩; rw [hw]; clear hw)
      go_loopg [10, 11] (s.size + 3 - (i + 1)) (fun k s10 s11 wr => ∃ (kk : Nat) (ao' : Option Addr) (cap' : Nat) (l : List UInt8), s10 = .int .i64 (kk : Int) ∧ s11 = .slice ao' l.length cap' ∧ k + kk = s.size + 3 ∧ kk ≤ en + 1 ∧ l.length ≤ 2 * kk ∧ Aside (l ++ setK s q en kk = setK s q en (i + 1)) ∧ Aside (Below ((w.alloc (.cells #[.int .i64 0, .int .u8 0, .bool false, .string ⟨#[]⟩] 35)).alloc (.cells #[.int .i64 4, .int .u8 0, .bool false, .string ⟨#[]⟩] 35)).heap.size ((w.alloc (.cells #[.int .i64 0, .int .u8 0, .bool false, .string ⟨#[]⟩] 35)).alloc (.cells #[.int .i64 4, .int .u8 0, .bool false, .string ⟨#[]⟩] 35)) wr ∧ wr.ownsRow (w.heap.size + 1 + 1) 5 1 (.slice ao' l.length cap') l.length (flatE bEnc l)))
      case atStart => exact ⟨i + 1, none, 0, [], by first | (simp; done) | (simp; omega), rfl, by omega, by omega, by simp, rfl, ⟨Below.refl _ _, World.ownsRow_nil _ _ _ _⟩⟩
      case round =>
        obtain ⟨kk, ao', cap', l, rfl, rfl, hk, hkm, hll, A, ST⟩ := hrel
        by_cases hl : kk < en
        · have hlz : (kk : Int) < (en : Int) := by omega
          have hks : kk < s.size := by omega
          have u0 := ub_eq hks
          have hkw : IntKind.i64.wrap ((kk : Int) + 2) = (kk : Int) + 2 := by rw [IntKind.wrap_i64]; omega
          have htn : ((kk : Int) + 2).toNat = kk + 2 := by omega
          by_cases h2 : kk + 2 < en
          · have h2z : (kk : Int) + 2 < (en : Int) := by omega
            have hks2 : kk + 2 < s.size := by omega
            have u2 := ub_eq hks2
            have hge : (0 : Int) ≤ (kk : Int) + 2 := by omega
            have hlt2 : (kk : Int) + 2 < (s.size : Int) := by omega
            have cb := fun U => bare_calls s q (kk + 1) 45 U
            rw [show ((kk + 1 : Nat) : Int) = (kk : Int) + 1 by omega] at cb
            cases hb : bareB s q (kk + 1) 45 with
            | true =>
              rw [hb] at cb
              have A2 : Aside ((l ++ [ub s kk, ub s (kk + 2)]) ++ setK s q en (kk + 3) = setK s q en (i + 1)) := by show _ = _; rw [← A.out, setK_range h2 hb, List.append_assoc]
              clear hb A
              go_wp2_with (go_at_call 32; (with_reducible refine (cb _).mono ?_); rintro e w2 ⟨rfl, hw⟩; rw [hw]; clear hw)
              refine wp_region_lo_plus 9 [8] (by kernel_rfl) (by kernel_rfl) ?_
              simp only [List.take, List.drop]
              refine lo_tame rfl rfl rfl (fun K hK => ?_)
              simp [go_sem, ↓IntWalk.iteOmega, *]
              refine hK _ ?_
              clear hK
              clear K
              refine lo_tame rfl rfl rfl (fun K hK => ?_)
              simp [go_sem, ↓IntWalk.iteOmega, *]
              refine hK _ ?_
              clear hK
              clear K
              refine lo_tame rfl rfl rfl (fun K hK => ?_)
              simp [go_sem, ↓IntWalk.iteOmega, *]
              refine hK _ ?_
              clear hK
              clear K
              refine lo_tame rfl rfl rfl (fun K hK => ?_)
              simp [go_sem, ↓IntWalk.iteOmega, *]
              refine hK _ ?_
              clear hK
              clear K
              refine lo_tame rfl rfl rfl (fun K hK => ?_)
              simp [go_sem, ↓IntWalk.iteOmega, *]
              refine hK _ ?_
              clear hK
              clear K
              refine lo_tame rfl rfl rfl (fun K hK => ?_)
              simp [go_sem, ↓IntWalk.iteOmega, *]
              refine hK _ ?_
              clear hK
              clear K
              refine lo_tame rfl rfl rfl (fun K hK => ?_)
              simp [go_sem, ↓IntWalk.iteOmega, *]
              refine hK _ ?_
              clear hK
              clear K
              refine lo_tame rfl rfl rfl (fun K hK => ?_)
              simp [go_sem, ↓IntWalk.iteOmega, *]
              refine hK _ ?_
              clear hK
              clear K
              refine lo_build (enc := bEnc) b_len (by omega) [ub s kk, ub s (kk + 2)] 2 rfl (by omega) #[.int .u8 ((ub s kk).toNat : Int), .int .u8 ((ub s (kk + 2)).toNat : Int)] 5 rfl rfl rfl rfl (fun x => by simp [go_sem]) ?_
              simp only [List.nil_append, List.cons_append]
              refine lo_nil ?_
              rintro _ ⟨y, rfl⟩
              refine specEnd_sl (fun aS cS _ hS => ?_)
              refine specEnd_nil ?_
              simp only [Act.put, Array.setIfInBounds, List.size_toArray, List.length_cons, List.length_nil, Nat.reduceAdd, Nat.reduceLT, dite_true, List.set_toArray, List.set_cons_succ, List.set_cons_zero]
              have ST8 : Aside (Below ((w.alloc (.cells #[.int .i64 0, .int .u8 0, .bool false, .string ⟨#[]⟩] 35)).alloc (.cells #[.int .i64 4, .int .u8 0, .bool false, .string ⟨#[]⟩] 35)).heap.size ((w.alloc (.cells #[.int .i64 0, .int .u8 0, .bool false, .string ⟨#[]⟩] 35)).alloc (.cells #[.int .i64 4, .int .u8 0, .bool false, .string ⟨#[]⟩] 35)) (plus wr y) ∧ (plus wr y).ownsRow (w.heap.size + 1 + 1) 5 1 (.slice ao' l.length cap') l.length (flatE bEnc l)) := ⟨ST.out.1.trans ((below_plus wr y).mono ST.out.1.size), own_plus ST.out.2⟩
              clear ST
              generalize plus wr y = w8 at ST8 hS ⊢
              obtain ⟨b9, o9, rfl, _, _⟩ := hS.here (by omega)
              have hc9 := Sl.cellsE b_len (by omega) hS
              have hown := ST8.out.2
              have hsw := ST8.out.1.size
              simp at hsw
              go_wp2_with (at_builtin; refine wpList_append_own _ rfl _ _ 47 rfl (w.heap.size + 1 + 1) 5 i0 _ 1 1 Try.underlying47 hi0 hz0 hs0 hb0 rfl (by omega) _ _ _ rfl hown ⟨b9, o9, none⟩ 2 cS (flatE bEnc [ub s kk, ub s (kk + 2)]) rfl rfl (fun j u hj => by rw [Addr.add_lit]; exact hc9 j u hj) (flatE_cells (enc := bEnc) b_one _) (by unfold maxLen; omega) (by omega) (by omega) ?_)
              intro v' w9 hown' hgrow _
              obtain ⟨ao9, cap9, rfl, hb9, ho9⟩ := app_stateN (U1 := ((w.alloc (.cells #[.int .i64 0, .int .u8 0, .bool false, .string ⟨#[]⟩] 35)).alloc (.cells #[.int .i64 4, .int .u8 0, .bool false, .string ⟨#[]⟩] 35))) (by simp) (by simp) b_len (by omega) (ys := [ub s kk, ub s (kk + 2)]) ST8.out.1 hown hown' hgrow
              have ST9 : Aside (Below ((w.alloc (.cells #[.int .i64 0, .int .u8 0, .bool false, .string ⟨#[]⟩] 35)).alloc (.cells #[.int .i64 4, .int .u8 0, .bool false, .string ⟨#[]⟩] 35)).heap.size ((w.alloc (.cells #[.int .i64 0, .int .u8 0, .bool false, .string ⟨#[]⟩] 35)).alloc (.cells #[.int .i64 4, .int .u8 0, .bool false, .string ⟨#[]⟩] 35)) w9 ∧ w9.ownsRow (w.heap.size + 1 + 1) 5 1 (.slice ao9 (l.length + 2) cap9) (l.length + 2) (flatE bEnc (l ++ [ub s kk, ub s (kk + 2)]))) := ⟨hb9, ho9⟩
              clear hown hown' hgrow hb9 ho9 ST8 hS hc9
              go_wp2
              go_roundg (gk - 3)
              case measure => omega
              case rel => exact ⟨kk + 3, ao9, cap9, l ++ [ub s kk, ub s (kk + 2)], by simp, by simp, by omega, by omega, by simp; omega, A2, by first | exact ST9 | simpa using ST9⟩
            | false =>
              rw [hb] at cb
              have A2 : Aside ((l ++ [ub s kk, ub s kk]) ++ setK s q en (kk + 1) = setK s q en (i + 1)) := by show _ = _; rw [← A.out, setK_one hl (by rw [hb, Bool.and_false]), List.append_assoc]
              clear hb A
              go_wp2_with (go_at_call 32; (with_reducible refine (cb _).mono ?_); rintro e w2 ⟨rfl, hw⟩; rw [hw]; clear hw)
              refine wp_region_lo_plus 8 [7] (by kernel_rfl) (by kernel_rfl) ?_
              simp only [List.take, List.drop]
              refine lo_tame rfl rfl rfl (fun K hK => ?_)
              simp [go_sem, ↓IntWalk.iteOmega, *]
              refine hK _ ?_
              clear hK
              clear K
              refine lo_tame rfl rfl rfl (fun K hK => ?_)
              simp [go_sem, ↓IntWalk.iteOmega, *]
              refine hK _ ?_
              clear hK
              clear K
              refine lo_tame rfl rfl rfl (fun K hK => ?_)
              simp [go_sem, ↓IntWalk.iteOmega, *]
              refine hK _ ?_
              clear hK
              clear K
              refine lo_tame rfl rfl rfl (fun K hK => ?_)
              simp [go_sem, ↓IntWalk.iteOmega, *]
              refine hK _ ?_
              clear hK
              clear K
              refine lo_tame rfl rfl rfl (fun K hK => ?_)
              simp [go_sem, ↓IntWalk.iteOmega, *]
              refine hK _ ?_
              clear hK
              clear K
              refine lo_tame rfl rfl rfl (fun K hK => ?_)
              simp [go_sem, ↓IntWalk.iteOmega, *]
              refine hK _ ?_
              clear hK
              clear K
              refine lo_tame rfl rfl rfl (fun K hK => ?_)
              simp [go_sem, ↓IntWalk.iteOmega, *]
              refine hK _ ?_
              clear hK
              clear K
              refine lo_build (enc := bEnc) b_len (by omega) [ub s kk, ub s kk] 2 rfl (by omega) #[.int .u8 ((ub s kk).toNat : Int), .int .u8 ((ub s kk).toNat : Int)] 5 rfl rfl rfl rfl (fun x => by simp [go_sem]) ?_
              simp only [List.nil_append, List.cons_append]
              refine lo_nil ?_
              rintro _ ⟨y, rfl⟩
              refine specEnd_sl (fun aS cS _ hS => ?_)
              refine specEnd_nil ?_
              simp only [Act.put, Array.setIfInBounds, List.size_toArray, List.length_cons, List.length_nil, Nat.reduceAdd, Nat.reduceLT, dite_true, List.set_toArray, List.set_cons_succ, List.set_cons_zero]
              have ST8 : Aside (Below ((w.alloc (.cells #[.int .i64 0, .int .u8 0, .bool false, .string ⟨#[]⟩] 35)).alloc (.cells #[.int .i64 4, .int .u8 0, .bool false, .string ⟨#[]⟩] 35)).heap.size ((w.alloc (.cells #[.int .i64 0, .int .u8 0, .bool false, .string ⟨#[]⟩] 35)).alloc (.cells #[.int .i64 4, .int .u8 0, .bool false, .string ⟨#[]⟩] 35)) (plus wr y) ∧ (plus wr y).ownsRow (w.heap.size + 1 + 1) 5 1 (.slice ao' l.length cap') l.length (flatE bEnc l)) := ⟨ST.out.1.trans ((below_plus wr y).mono ST.out.1.size), own_plus ST.out.2⟩
              clear ST
              generalize plus wr y = w8 at ST8 hS ⊢
              obtain ⟨b9, o9, rfl, _, _⟩ := hS.here (by omega)
              have hc9 := Sl.cellsE b_len (by omega) hS
              have hown := ST8.out.2
              have hsw := ST8.out.1.size
              simp at hsw
              go_wp2_with (at_builtin; refine wpList_append_own _ rfl _ _ 47 rfl (w.heap.size + 1 + 1) 5 i0 _ 1 1 Try.underlying47 hi0 hz0 hs0 hb0 rfl (by omega) _ _ _ rfl hown ⟨b9, o9, none⟩ 2 cS (flatE bEnc [ub s kk, ub s kk]) rfl rfl (fun j u hj => by rw [Addr.add_lit]; exact hc9 j u hj) (flatE_cells (enc := bEnc) b_one _) (by unfold maxLen; omega) (by omega) (by omega) ?_)
              intro v' w9 hown' hgrow _
              obtain ⟨ao9, cap9, rfl, hb9, ho9⟩ := app_stateN (U1 := ((w.alloc (.cells #[.int .i64 0, .int .u8 0, .bool false, .string ⟨#[]⟩] 35)).alloc (.cells #[.int .i64 4, .int .u8 0, .bool false, .string ⟨#[]⟩] 35))) (by simp) (by simp) b_len (by omega) (ys := [ub s kk, ub s kk]) ST8.out.1 hown hown' hgrow
              have ST9 : Aside (Below ((w.alloc (.cells #[.int .i64 0, .int .u8 0, .bool false, .string ⟨#[]⟩] 35)).alloc (.cells #[.int .i64 4, .int .u8 0, .bool false, .string ⟨#[]⟩] 35)).heap.size ((w.alloc (.cells #[.int .i64 0, .int .u8 0, .bool false, .string ⟨#[]⟩] 35)).alloc (.cells #[.int .i64 4, .int .u8 0, .bool false, .string ⟨#[]⟩] 35)) w9 ∧ w9.ownsRow (w.heap.size + 1 + 1) 5 1 (.slice ao9 (l.length + 2) cap9) (l.length + 2) (flatE bEnc (l ++ [ub s kk, ub s kk]))) := ⟨hb9, ho9⟩
              clear hown hown' hgrow hb9 ho9 ST8 hS hc9
              go_wp2
              go_roundg (gk - 1)
              case measure => omega
              case rel => exact ⟨kk + 1, ao9, cap9, l ++ [ub s kk, ub s kk], by simp, by simp, by omega, by omega, by simp; omega, A2, by first | exact ST9 | simpa using ST9⟩
          · have h2z : ¬ (kk : Int) + 2 < (en : Int) := by omega
            have A2 : Aside ((l ++ [ub s kk, ub s kk]) ++ setK s q en (kk + 1) = setK s q en (i + 1)) := by show _ = _; rw [← A.out, setK_one hl (by rw [decide_eq_false h2]; rfl), List.append_assoc]
            clear A
            go_wp2
            refine wp_region_lo_plus 8 [7] (by kernel_rfl) (by kernel_rfl) ?_
            simp only [List.take, List.drop]
            refine lo_tame rfl rfl rfl (fun K hK => ?_)
            simp [go_sem, ↓IntWalk.iteOmega, *]
            refine hK _ ?_
            clear hK
            clear K
            refine lo_tame rfl rfl rfl (fun K hK => ?_)
            simp [go_sem, ↓IntWalk.iteOmega, *]
            refine hK _ ?_
            clear hK
            clear K
            refine lo_tame rfl rfl rfl (fun K hK => ?_)
            simp [go_sem, ↓IntWalk.iteOmega, *]
            refine hK _ ?_
            clear hK
            clear K
            refine lo_tame rfl rfl rfl (fun K hK => ?_)
            simp [go_sem, ↓IntWalk.iteOmega, *]
            refine hK _ ?_
            clear hK
            clear K
            refine lo_tame rfl rfl rfl (fun K hK => ?_)
            simp [go_sem, ↓IntWalk.iteOmega, *]
            refine hK _ ?_
            clear hK
            clear K
            refine lo_tame rfl rfl rfl (fun K hK => ?_)
            simp [go_sem, ↓IntWalk.iteOmega, *]
            refine hK _ ?_
            clear hK
            clear K
            refine lo_tame rfl rfl rfl (fun K hK => ?_)
            simp [go_sem, ↓IntWalk.iteOmega, *]
            refine hK _ ?_
            clear hK
            clear K
            refine lo_build (enc := bEnc) b_len (by omega) [ub s kk, ub s kk] 2 rfl (by omega) #[.int .u8 ((ub s kk).toNat : Int), .int .u8 ((ub s kk).toNat : Int)] 5 rfl rfl rfl rfl (fun x => by simp [go_sem]) ?_
            simp only [List.nil_append, List.cons_append]
            refine lo_nil ?_
            rintro _ ⟨y, rfl⟩
            refine specEnd_sl (fun aS cS _ hS => ?_)
            refine specEnd_nil ?_
            simp only [Act.put, Array.setIfInBounds, List.size_toArray, List.length_cons, List.length_nil, Nat.reduceAdd, Nat.reduceLT, dite_true, List.set_toArray, List.set_cons_succ, List.set_cons_zero]
            have ST8 : Aside (Below ((w.alloc (.cells #[.int .i64 0, .int .u8 0, .bool false, .string ⟨#[]⟩] 35)).alloc (.cells #[.int .i64 4, .int .u8 0, .bool false, .string ⟨#[]⟩] 35)).heap.size ((w.alloc (.cells #[.int .i64 0, .int .u8 0, .bool false, .string ⟨#[]⟩] 35)).alloc (.cells #[.int .i64 4, .int .u8 0, .bool false, .string ⟨#[]⟩] 35)) (plus wr y) ∧ (plus wr y).ownsRow (w.heap.size + 1 + 1) 5 1 (.slice ao' l.length cap') l.length (flatE bEnc l)) := ⟨ST.out.1.trans ((below_plus wr y).mono ST.out.1.size), own_plus ST.out.2⟩
            clear ST
            generalize plus wr y = w8 at ST8 hS ⊢
            obtain ⟨b9, o9, rfl, _, _⟩ := hS.here (by omega)
            have hc9 := Sl.cellsE b_len (by omega) hS
            have hown := ST8.out.2
            have hsw := ST8.out.1.size
            simp at hsw
            go_wp2_with (at_builtin; refine wpList_append_own _ rfl _ _ 47 rfl (w.heap.size + 1 + 1) 5 i0 _ 1 1 Try.underlying47 hi0 hz0 hs0 hb0 rfl (by omega) _ _ _ rfl hown ⟨b9, o9, none⟩ 2 cS (flatE bEnc [ub s kk, ub s kk]) rfl rfl (fun j u hj => by rw [Addr.add_lit]; exact hc9 j u hj) (flatE_cells (enc := bEnc) b_one _) (by unfold maxLen; omega) (by omega) (by omega) ?_)
            intro v' w9 hown' hgrow _
            obtain ⟨ao9, cap9, rfl, hb9, ho9⟩ := app_stateN (U1 := ((w.alloc (.cells #[.int .i64 0, .int .u8 0, .bool false, .string ⟨#[]⟩] 35)).alloc (.cells #[.int .i64 4, .int .u8 0, .bool false, .string ⟨#[]⟩] 35))) (by simp) (by simp) b_len (by omega) (ys := [ub s kk, ub s kk]) ST8.out.1 hown hown' hgrow
            have ST9 : Aside (Below ((w.alloc (.cells #[.int .i64 0, .int .u8 0, .bool false, .string ⟨#[]⟩] 35)).alloc (.cells #[.int .i64 4, .int .u8 0, .bool false, .string ⟨#[]⟩] 35)).heap.size ((w.alloc (.cells #[.int .i64 0, .int .u8 0, .bool false, .string ⟨#[]⟩] 35)).alloc (.cells #[.int .i64 4, .int .u8 0, .bool false, .string ⟨#[]⟩] 35)) w9 ∧ w9.ownsRow (w.heap.size + 1 + 1) 5 1 (.slice ao9 (l.length + 2) cap9) (l.length + 2) (flatE bEnc (l ++ [ub s kk, ub s kk]))) := ⟨hb9, ho9⟩
            clear hown hown' hgrow hb9 ho9 ST8 hS hc9
            go_wp2
            go_roundg (gk - 1)
            case measure => omega
            case rel => exact ⟨kk + 1, ao9, cap9, l ++ [ub s kk, ub s kk], by simp, by simp, by omega, by omega, by simp; omega, A2, by first | exact ST9 | simpa using ST9⟩
        · have hlz : ¬ (kk : Int) < (en : Int) := by omega
          have el : l = setK s q en (i + 1) := by rw [← A.out, setK_end (by omega), List.append_nil]
          subst el
          clear A
          generalize setK s q en (i + 1) = l at ST HR
          have hr0 : wr.heap[w.heap.size]? = some (.cells #[.int .i64 0, .int .u8 0, .bool false, .string ⟨#[]⟩] 35 (0, 0)) := heap_later (hp_old (hp_new rfl)) ST.out.1
          have hr1 : wr.heap[w.heap.size + 1]? = some (.cells #[.int .i64 4, .int .u8 0, .bool false, .string ⟨#[]⟩] 35 (0, 0)) := heap_later (hp_new (by simp)) ST.out.1
          have s0 : w.heap.size < wr.heap.size := (Array.getElem?_eq_some_iff.1 hr0).1
          have s1 : w.heap.size + 1 < wr.heap.size := (Array.getElem?_eq_some_iff.1 hr1).1
          have kc := conv_own ST.out.2
          have hbw : Below w.heap.size w wr := by
            refine Below.trans (b := ((w.alloc (.cells #[.int .i64 0, .int .u8 0, .bool false, .string ⟨#[]⟩] 35)).alloc (.cells #[.int .i64 4, .int .u8 0, .bool false, .string ⟨#[]⟩] 35))) ?_ (ST.out.1.mono (by simp; omega))
            exact ((Below.refl _ w).alloc (Nat.le_refl _) _).alloc (by simp) _
          have HBW : Aside (Below w.heap.size w wr) := hbw
          have ew := holds_add (holds_self hr0) hr1
          rw [ew] at kc ⊢
          clear ST hr0 hr1 hbw ew
          go_wp2
          refine bodyPost_ret (v := .agg #[.int .i64 4, .int .u8 0, .bool false, .string ⟨l.toArray⟩]) (by simp [results, Try.results34, go_sem, ↓IntWalk.iteOmega, s0, s1]) rfl ⟨by rw [HR.out]; rfl, below_holds (below_holds HBW.out (Nat.le_refl _) _ _) (by omega) _ _⟩
  · have h1z : ¬ (i : Int) + 1 < (en : Int) := by omega
    have HR : Aside (classE s q i en = ⟨3, 0, false, ⟨(setK s q en (i + 1)).toArray⟩⟩) := by
      show _ = _
      have hn : negB s q i en = false := by unfold negB; rw [decide_eq_false h1]; rfl
      unfold classE; rw [hn]; rfl
    generalize classE s q i en = r at HR ⊢
    go_enter Try.func34, Try.ntmps34
    go_wp2_with (go_at_call 32; (with_reducible refine (c0 _).mono ?_); rintro e w2 ⟨rfl, hw⟩; rw [hw]; clear hw)
    go_loopg [10, 11] (s.size + 3 - (i + 1)) (fun k s10 s11 wr => ∃ (kk : Nat) (ao' : Option Addr) (cap' : Nat) (l : List UInt8), s10 = .int .i64 (kk : Int) ∧ s11 = .slice ao' l.length cap' ∧ k + kk = s.size + 3 ∧ kk ≤ en + 1 ∧ l.length ≤ 2 * kk ∧ Aside (l ++ setK s q en kk = setK s q en (i + 1)) ∧ Aside (Below ((w.alloc (.cells #[.int .i64 0, .int .u8 0, .bool false, .string ⟨#[]⟩] 35)).alloc (.cells #[.int .i64 4, .int .u8 0, .bool false, .string ⟨#[]⟩] 35)).heap.size ((w.alloc (.cells #[.int .i64 0, .int .u8 0, .bool false, .string ⟨#[]⟩] 35)).alloc (.cells #[.int .i64 4, .int .u8 0, .bool false, .string ⟨#[]⟩] 35)) wr ∧ wr.ownsRow (w.heap.size + 1 + 1) 5 1 (.slice ao' l.length cap') l.length (flatE bEnc l)))
    case atStart => exact ⟨i + 1, none, 0, [], by first | (simp; done) | (simp; omega), rfl, by omega, by omega, by simp, rfl, ⟨Below.refl _ _, World.ownsRow_nil _ _ _ _⟩⟩
    case round =>
      obtain ⟨kk, ao', cap', l, rfl, rfl, hk, hkm, hll, A, ST⟩ := hrel
      by_cases hl : kk < en
      · have hlz : (kk : Int) < (en : Int) := by omega
        have hks : kk < s.size := by omega
        have u0 := ub_eq hks
        have hkw : IntKind.i64.wrap ((kk : Int) + 2) = (kk : Int) + 2 := by rw [IntKind.wrap_i64]; omega
        have htn : ((kk : Int) + 2).toNat = kk + 2 := by omega
        by_cases h2 : kk + 2 < en
        · have h2z : (kk : Int) + 2 < (en : Int) := by omega
          have hks2 : kk + 2 < s.size := by omega
          have u2 := ub_eq hks2
          have hge : (0 : Int) ≤ (kk : Int) + 2 := by omega
          have hlt2 : (kk : Int) + 2 < (s.size : Int) := by omega
          have cb := fun U => bare_calls s q (kk + 1) 45 U
          rw [show ((kk + 1 : Nat) : Int) = (kk : Int) + 1 by omega] at cb
          cases hb : bareB s q (kk + 1) 45 with
          | true =>
            rw [hb] at cb
            have A2 : Aside ((l ++ [ub s kk, ub s (kk + 2)]) ++ setK s q en (kk + 3) = setK s q en (i + 1)) := by show _ = _; rw [← A.out, setK_range h2 hb, List.append_assoc]
            clear hb A
            go_wp2_with (go_at_call 32; (with_reducible refine (cb _).mono ?_); rintro e w2 ⟨rfl, hw⟩; rw [hw]; clear hw)
            refine wp_region_lo_plus 9 [8] (by kernel_rfl) (by kernel_rfl) ?_
            simp only [List.take, List.drop]
            refine lo_tame rfl rfl rfl (fun K hK => ?_)
            simp [go_sem, ↓IntWalk.iteOmega, *]
            refine hK _ ?_
            clear hK
            clear K
            refine lo_tame rfl rfl rfl (fun K hK => ?_)
            simp [go_sem, ↓IntWalk.iteOmega, *]
            refine hK _ ?_
            clear hK
            clear K
            refine lo_tame rfl rfl rfl (fun K hK => ?_)
            simp [go_sem, ↓IntWalk.iteOmega, *]
            refine hK _ ?_
            clear hK
            clear K
            refine lo_tame rfl rfl rfl (fun K hK => ?_)
            simp [go_sem, ↓IntWalk.iteOmega, *]
            refine hK _ ?_
            clear hK
            clear K
            refine lo_tame rfl rfl rfl (fun K hK => ?_)
            simp [go_sem, ↓IntWalk.iteOmega, *]
            refine hK _ ?_
            clear hK
            clear K
            refine lo_tame rfl rfl rfl (fun K hK => ?_)
            simp [go_sem, ↓IntWalk.iteOmega, *]
            refine hK _ ?_
            clear hK
            clear K
            refine lo_tame rfl rfl rfl (fun K hK => ?_)
            simp [go_sem, ↓IntWalk.iteOmega, *]
            refine hK _ ?_
            clear hK
            clear K
            refine lo_tame rfl rfl rfl (fun K hK => ?_)
            simp [go_sem, ↓IntWalk.iteOmega, *]
            refine hK _ ?_
            clear hK
            clear K
            refine lo_build (enc := bEnc) b_len (by omega) [ub s kk, ub s (kk + 2)] 2 rfl (by omega) #[.int .u8 ((ub s kk).toNat : Int), .int .u8 ((ub s (kk + 2)).toNat : Int)] 5 rfl rfl rfl rfl (fun x => by simp [go_sem]) ?_
            simp only [List.nil_append, List.cons_append]
            refine lo_nil ?_
            rintro _ ⟨y, rfl⟩
            refine specEnd_sl (fun aS cS _ hS => ?_)
            refine specEnd_nil ?_
            simp only [Act.put, Array.setIfInBounds, List.size_toArray, List.length_cons, List.length_nil, Nat.reduceAdd, Nat.reduceLT, dite_true, List.set_toArray, List.set_cons_succ, List.set_cons_zero]
            have ST8 : Aside (Below ((w.alloc (.cells #[.int .i64 0, .int .u8 0, .bool false, .string ⟨#[]⟩] 35)).alloc (.cells #[.int .i64 4, .int .u8 0, .bool false, .string ⟨#[]⟩] 35)).heap.size ((w.alloc (.cells #[.int .i64 0, .int .u8 0, .bool false, .string ⟨#[]⟩] 35)).alloc (.cells #[.int .i64 4, .int .u8 0, .bool false, .string ⟨#[]⟩] 35)) (plus wr y) ∧ (plus wr y).ownsRow (w.heap.size + 1 + 1) 5 1 (.slice ao' l.length cap') l.length (flatE bEnc l)) := ⟨ST.out.1.trans ((below_plus wr y).mono ST.out.1.size), own_plus ST.out.2⟩
            clear ST
            generalize plus wr y = w8 at ST8 hS ⊢
            obtain ⟨b9, o9, rfl, _, _⟩ := hS.here (by omega)
            have hc9 := Sl.cellsE b_len (by omega) hS
            have hown := ST8.out.2
            have hsw := ST8.out.1.size
            simp at hsw
            go_wp2_with (at_builtin; refine wpList_append_own _ rfl _ _ 47 rfl (w.heap.size + 1 + 1) 5 i0 _ 1 1 Try.underlying47 hi0 hz0 hs0 hb0 rfl (by omega) _ _ _ rfl hown ⟨b9, o9, none⟩ 2 cS (flatE bEnc [ub s kk, ub s (kk + 2)]) rfl rfl (fun j u hj => by rw [Addr.add_lit]; exact hc9 j u hj) (flatE_cells (enc := bEnc) b_one _) (by unfold maxLen; omega) (by omega) (by omega) ?_)
            intro v' w9 hown' hgrow _
            obtain ⟨ao9, cap9, rfl, hb9, ho9⟩ := app_stateN (U1 := ((w.alloc (.cells #[.int .i64 0, .int .u8 0, .bool false, .string ⟨#[]⟩] 35)).alloc (.cells #[.int .i64 4, .int .u8 0, .bool false, .string ⟨#[]⟩] 35))) (by simp) (by simp) b_len (by omega) (ys := [ub s kk, ub s (kk + 2)]) ST8.out.1 hown hown' hgrow
            have ST9 : Aside (Below ((w.alloc (.cells #[.int .i64 0, .int .u8 0, .bool false, .string ⟨#[]⟩] 35)).alloc (.cells #[.int .i64 4, .int .u8 0, .bool false, .string ⟨#[]⟩] 35)).heap.size ((w.alloc (.cells #[.int .i64 0, .int .u8 0, .bool false, .string ⟨#[]⟩] 35)).alloc (.cells #[.int .i64 4, .int .u8 0, .bool false, .string ⟨#[]⟩] 35)) w9 ∧ w9.ownsRow (w.heap.size + 1 + 1) 5 1 (.slice ao9 (l.length + 2) cap9) (l.length + 2) (flatE bEnc (l ++ [ub s kk, ub s (kk + 2)]))) := ⟨hb9, ho9⟩
            clear hown hown' hgrow hb9 ho9 ST8 hS hc9
            go_wp2
            go_roundg (gk - 3)
            case measure => omega
            case rel => exact ⟨kk + 3, ao9, cap9, l ++ [ub s kk, ub s (kk + 2)], by simp, by simp, by omega, by omega, by simp; omega, A2, by first | exact ST9 | simpa using ST9⟩
          | false =>
            rw [hb] at cb
            have A2 : Aside ((l ++ [ub s kk, ub s kk]) ++ setK s q en (kk + 1) = setK s q en (i + 1)) := by show _ = _; rw [← A.out, setK_one hl (by rw [hb, Bool.and_false]), List.append_assoc]
            clear hb A
            go_wp2_with (go_at_call 32; (with_reducible refine (cb _).mono ?_); rintro e w2 ⟨rfl, hw⟩; rw [hw]; clear hw)
            refine wp_region_lo_plus 8 [7] (by kernel_rfl) (by kernel_rfl) ?_
            simp only [List.take, List.drop]
            refine lo_tame rfl rfl rfl (fun K hK => ?_)
            simp [go_sem, ↓IntWalk.iteOmega, *]
            refine hK _ ?_
            clear hK
            clear K
            refine lo_tame rfl rfl rfl (fun K hK => ?_)
            simp [go_sem, ↓IntWalk.iteOmega, *]
            refine hK _ ?_
            clear hK
            clear K
            refine lo_tame rfl rfl rfl (fun K hK => ?_)
            simp [go_sem, ↓IntWalk.iteOmega, *]
            refine hK _ ?_
            clear hK
            clear K
            refine lo_tame rfl rfl rfl (fun K hK => ?_)
            simp [go_sem, ↓IntWalk.iteOmega, *]
            refine hK _ ?_
            clear hK
            clear K
            refine lo_tame rfl rfl rfl (fun K hK => ?_)
            simp [go_sem, ↓IntWalk.iteOmega, *]
            refine hK _ ?_
            clear hK
            clear K
            refine lo_tame rfl rfl rfl (fun K hK => ?_)
            simp [go_sem, ↓IntWalk.iteOmega, *]
            refine hK _ ?_
            clear hK
            clear K
            refine lo_tame rfl rfl rfl (fun K hK => ?_)
            simp [go_sem, ↓IntWalk.iteOmega, *]
            refine hK _ ?_
            clear hK
            clear K
            refine lo_build (enc := bEnc) b_len (by omega) [ub s kk, ub s kk] 2 rfl (by omega) #[.int .u8 ((ub s kk).toNat : Int), .int .u8 ((ub s kk).toNat : Int)] 5 rfl rfl rfl rfl (fun x => by simp [go_sem]) ?_
            simp only [List.nil_append, List.cons_append]
            refine lo_nil ?_
            rintro _ ⟨y, rfl⟩
            refine specEnd_sl (fun aS cS _ hS => ?_)
            refine specEnd_nil ?_
            simp only [Act.put, Array.setIfInBounds, List.size_toArray, List.length_cons, List.length_nil, Nat.reduceAdd, Nat.reduceLT, dite_true, List.set_toArray, List.set_cons_succ, List.set_cons_zero]
            have ST8 : Aside (Below ((w.alloc (.cells #[.int .i64 0, .int .u8 0, .bool false, .string ⟨#[]⟩] 35)).alloc (.cells #[.int .i64 4, .int .u8 0, .bool false, .string ⟨#[]⟩] 35)).heap.size ((w.alloc (.cells #[.int .i64 0, .int .u8 0, .bool false, .string ⟨#[]⟩] 35)).alloc (.cells #[.int .i64 4, .int .u8 0, .bool false, .string ⟨#[]⟩] 35)) (plus wr y) ∧ (plus wr y).ownsRow (w.heap.size + 1 + 1) 5 1 (.slice ao' l.length cap') l.length (flatE bEnc l)) := ⟨ST.out.1.trans ((below_plus wr y).mono ST.out.1.size), own_plus ST.out.2⟩
            clear ST
            generalize plus wr y = w8 at ST8 hS ⊢
            obtain ⟨b9, o9, rfl, _, _⟩ := hS.here (by omega)
            have hc9 := Sl.cellsE b_len (by omega) hS
            have hown := ST8.out.2
            have hsw := ST8.out.1.size
            simp at hsw
            go_wp2_with (at_builtin; refine wpList_append_own _ rfl _ _ 47 rfl (w.heap.size + 1 + 1) 5 i0 _ 1 1 Try.underlying47 hi0 hz0 hs0 hb0 rfl (by omega) _ _ _ rfl hown ⟨b9, o9, none⟩ 2 cS (flatE bEnc [ub s kk, ub s kk]) rfl rfl (fun j u hj => by rw [Addr.add_lit]; exact hc9 j u hj) (flatE_cells (enc := bEnc) b_one _) (by unfold maxLen; omega) (by omega) (by omega) ?_)
            intro v' w9 hown' hgrow _
            obtain ⟨ao9, cap9, rfl, hb9, ho9⟩ := app_stateN (U1 := ((w.alloc (.cells #[.int .i64 0, .int .u8 0, .bool false, .string ⟨#[]⟩] 35)).alloc (.cells #[.int .i64 4, .int .u8 0, .bool false, .string ⟨#[]⟩] 35))) (by simp) (by simp) b_len (by omega) (ys := [ub s kk, ub s kk]) ST8.out.1 hown hown' hgrow
            have ST9 : Aside (Below ((w.alloc (.cells #[.int .i64 0, .int .u8 0, .bool false, .string ⟨#[]⟩] 35)).alloc (.cells #[.int .i64 4, .int .u8 0, .bool false, .string ⟨#[]⟩] 35)).heap.size ((w.alloc (.cells #[.int .i64 0, .int .u8 0, .bool false, .string ⟨#[]⟩] 35)).alloc (.cells #[.int .i64 4, .int .u8 0, .bool false, .string ⟨#[]⟩] 35)) w9 ∧ w9.ownsRow (w.heap.size + 1 + 1) 5 1 (.slice ao9 (l.length + 2) cap9) (l.length + 2) (flatE bEnc (l ++ [ub s kk, ub s kk]))) := ⟨hb9, ho9⟩
            clear hown hown' hgrow hb9 ho9 ST8 hS hc9
            go_wp2
            go_roundg (gk - 1)
            case measure => omega
            case rel => exact ⟨kk + 1, ao9, cap9, l ++ [ub s kk, ub s kk], by simp, by simp, by omega, by omega, by simp; omega, A2, by first | exact ST9 | simpa using ST9⟩
        · have h2z : ¬ (kk : Int) + 2 < (en : Int) := by omega
          have A2 : Aside ((l ++ [ub s kk, ub s kk]) ++ setK s q en (kk + 1) = setK s q en (i + 1)) := by show _ = _; rw [← A.out, setK_one hl (by rw [decide_eq_false h2]; rfl), List.append_assoc]
          clear A
          go_wp2
          refine wp_region_lo_plus 8 [7] (by kernel_rfl) (by kernel_rfl) ?_
          simp only [List.take, List.drop]
          refine lo_tame rfl rfl rfl (fun K hK => ?_)
          simp [go_sem, ↓IntWalk.iteOmega, *]
          refine hK _ ?_
          clear hK
          clear K
          refine lo_tame rfl rfl rfl (fun K hK => ?_)
          simp [go_sem, ↓IntWalk.iteOmega, *]
          refine hK _ ?_
          clear hK
          clear K
          refine lo_tame rfl rfl rfl (fun K hK => ?_)
          simp [go_sem, ↓IntWalk.iteOmega, *]
          refine hK _ ?_
          clear hK
          clear K
          refine lo_tame rfl rfl rfl (fun K hK => ?_)
          simp [go_sem, ↓IntWalk.iteOmega, *]
          refine hK _ ?_
          clear hK
          clear K
          refine lo_tame rfl rfl rfl (fun K hK => ?_)
          simp [go_sem, ↓IntWalk.iteOmega, *]
          refine hK _ ?_
          clear hK
          clear K
          refine lo_tame rfl rfl rfl (fun K hK => ?_)
          simp [go_sem, ↓IntWalk.iteOmega, *]
          refine hK _ ?_
          clear hK
          clear K
          refine lo_tame rfl rfl rfl (fun K hK => ?_)
          simp [go_sem, ↓IntWalk.iteOmega, *]
          refine hK _ ?_
          clear hK
          clear K
          refine lo_build (enc := bEnc) b_len (by omega) [ub s kk, ub s kk] 2 rfl (by omega) #[.int .u8 ((ub s kk).toNat : Int), .int .u8 ((ub s kk).toNat : Int)] 5 rfl rfl rfl rfl (fun x => by simp [go_sem]) ?_
          simp only [List.nil_append, List.cons_append]
          refine lo_nil ?_
          rintro _ ⟨y, rfl⟩
          refine specEnd_sl (fun aS cS _ hS => ?_)
          refine specEnd_nil ?_
          simp only [Act.put, Array.setIfInBounds, List.size_toArray, List.length_cons, List.length_nil, Nat.reduceAdd, Nat.reduceLT, dite_true, List.set_toArray, List.set_cons_succ, List.set_cons_zero]
          have ST8 : Aside (Below ((w.alloc (.cells #[.int .i64 0, .int .u8 0, .bool false, .string ⟨#[]⟩] 35)).alloc (.cells #[.int .i64 4, .int .u8 0, .bool false, .string ⟨#[]⟩] 35)).heap.size ((w.alloc (.cells #[.int .i64 0, .int .u8 0, .bool false, .string ⟨#[]⟩] 35)).alloc (.cells #[.int .i64 4, .int .u8 0, .bool false, .string ⟨#[]⟩] 35)) (plus wr y) ∧ (plus wr y).ownsRow (w.heap.size + 1 + 1) 5 1 (.slice ao' l.length cap') l.length (flatE bEnc l)) := ⟨ST.out.1.trans ((below_plus wr y).mono ST.out.1.size), own_plus ST.out.2⟩
          clear ST
          generalize plus wr y = w8 at ST8 hS ⊢
          obtain ⟨b9, o9, rfl, _, _⟩ := hS.here (by omega)
          have hc9 := Sl.cellsE b_len (by omega) hS
          have hown := ST8.out.2
          have hsw := ST8.out.1.size
          simp at hsw
          go_wp2_with (at_builtin; refine wpList_append_own _ rfl _ _ 47 rfl (w.heap.size + 1 + 1) 5 i0 _ 1 1 Try.underlying47 hi0 hz0 hs0 hb0 rfl (by omega) _ _ _ rfl hown ⟨b9, o9, none⟩ 2 cS (flatE bEnc [ub s kk, ub s kk]) rfl rfl (fun j u hj => by rw [Addr.add_lit]; exact hc9 j u hj) (flatE_cells (enc := bEnc) b_one _) (by unfold maxLen; omega) (by omega) (by omega) ?_)
          intro v' w9 hown' hgrow _
          obtain ⟨ao9, cap9, rfl, hb9, ho9⟩ := app_stateN (U1 := ((w.alloc (.cells #[.int .i64 0, .int .u8 0, .bool false, .string ⟨#[]⟩] 35)).alloc (.cells #[.int .i64 4, .int .u8 0, .bool false, .string ⟨#[]⟩] 35))) (by simp) (by simp) b_len (by omega) (ys := [ub s kk, ub s kk]) ST8.out.1 hown hown' hgrow
          have ST9 : Aside (Below ((w.alloc (.cells #[.int .i64 0, .int .u8 0, .bool false, .string ⟨#[]⟩] 35)).alloc (.cells #[.int .i64 4, .int .u8 0, .bool false, .string ⟨#[]⟩] 35)).heap.size ((w.alloc (.cells #[.int .i64 0, .int .u8 0, .bool false, .string ⟨#[]⟩] 35)).alloc (.cells #[.int .i64 4, .int .u8 0, .bool false, .string ⟨#[]⟩] 35)) w9 ∧ w9.ownsRow (w.heap.size + 1 + 1) 5 1 (.slice ao9 (l.length + 2) cap9) (l.length + 2) (flatE bEnc (l ++ [ub s kk, ub s kk]))) := ⟨hb9, ho9⟩
          clear hown hown' hgrow hb9 ho9 ST8 hS hc9
          go_wp2
          go_roundg (gk - 1)
          case measure => omega
          case rel => exact ⟨kk + 1, ao9, cap9, l ++ [ub s kk, ub s kk], by simp, by simp, by omega, by omega, by simp; omega, A2, by first | exact ST9 | simpa using ST9⟩
      · have hlz : ¬ (kk : Int) < (en : Int) := by omega
        have el : l = setK s q en (i + 1) := by rw [← A.out, setK_end (by omega), List.append_nil]
        subst el
        clear A
        generalize setK s q en (i + 1) = l at ST HR
        have hr0 : wr.heap[w.heap.size]? = some (.cells #[.int .i64 0, .int .u8 0, .bool false, .string ⟨#[]⟩] 35 (0, 0)) := heap_later (hp_old (hp_new rfl)) ST.out.1
        have hr1 : wr.heap[w.heap.size + 1]? = some (.cells #[.int .i64 4, .int .u8 0, .bool false, .string ⟨#[]⟩] 35 (0, 0)) := heap_later (hp_new (by simp)) ST.out.1
        have s0 : w.heap.size < wr.heap.size := (Array.getElem?_eq_some_iff.1 hr0).1
        have s1 : w.heap.size + 1 < wr.heap.size := (Array.getElem?_eq_some_iff.1 hr1).1
        have kc := conv_own ST.out.2
        have hbw : Below w.heap.size w wr := by
          refine Below.trans (b := ((w.alloc (.cells #[.int .i64 0, .int .u8 0, .bool false, .string ⟨#[]⟩] 35)).alloc (.cells #[.int .i64 4, .int .u8 0, .bool false, .string ⟨#[]⟩] 35))) ?_ (ST.out.1.mono (by simp; omega))
          exact ((Below.refl _ w).alloc (Nat.le_refl _) _).alloc (by simp) _
        have HBW : Aside (Below w.heap.size w wr) := hbw
        have ew := holds_add (holds_self hr0) hr1
        rw [ew] at kc ⊢
        clear ST hr0 hr1 hbw ew
        go_wp2
        refine bodyPost_ret (v := .agg #[.int .i64 4, .int .u8 0, .bool false, .string ⟨l.toArray⟩]) (by simp [results, Try.results34, go_sem, ↓IntWalk.iteOmega, s0, s1]) rfl ⟨by rw [HR.out]; rfl, below_holds (below_holds HBW.out (Nat.le_refl _) _ _) (by omega) _ _⟩

end Go.Proofs.Ytodoilengdnlfaa
