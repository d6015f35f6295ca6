/- This text proves the walk of the parser's insert. Conditions: those that each theorem names. -/
import Derived.Test.YtfhccmegobbnaaaRegexB
namespace Go.Proofs.Ytfhccmegobbnaaa
open Go.ChangeShapes Go.WideShapes Go.ChangeAt Go.RowKit
set_option linter.unusedVariables false
set_option linter.unusedSimpArgs false

section
variable {α : Type} {enc : α → List Value} {K : Nat}
theorem flatE_set (hK : ∀ x, (enc x).length = K) : ∀ (xs : List α) (k f : Nat) (y : α) (v : Value) (hk : k < xs.length), f < K → enc y = (enc xs[k]).set f v → flatE enc (xs.set k y) = (flatE enc xs).set (k * K + f) v
  | x :: xs, 0, f, y, v, _, hf, he => by
    rw [List.set_cons_zero, flatE_cons, flatE_cons, Nat.zero_mul, Nat.zero_add, List.set_append_left _ _ (by rw [hK]; exact hf), he]
    rfl
  | x :: xs, k + 1, f, y, v, hk, hf, he => by
    rw [List.set_cons_succ, flatE_cons, flatE_cons, flatE_set hK xs k f y v (by simpa using hk) hf (by simpa using he), List.set_append_right _ _ (by rw [hK, Nat.add_mul]; omega)]
    congr 2
    rw [hK, Nat.add_mul]
    omega
theorem flat_upd (hK : ∀ x, (enc x).length = K) {cur : Array Value} {xs : List α} {k f : Nat} {y : α} {v : Value} (hk : k < xs.length) (hf : f < K) (he : enc y = (enc xs[k]).set f v) (h : cur.toList.take (xs.length * K) = flatE enc xs) : (cur.setIfInBounds (k * K + f) v).toList.take ((xs.set k y).length * K) = flatE enc (xs.set k y) := by
  rw [List.length_set, Array.toList_setIfInBounds, List.take_set, h, flatE_set hK xs k f y v hk hf he]
end
theorem own_row {w : World} {g cap B : Nat} {cur : Array Value} {xs : List In} (hh : w.heap[g]? = some (.cells cur 34 (0, 0))) (hB : B ≤ g) (hnc : xs.length ≤ cap) (hcm : cap ≤ maxLen) (hcs : cur.size = cap * 6) (htk : cur.toList.take (xs.length * 6) = flatE In.enc xs) :
    w.ownsRow B 34 6 (.slice (some ⟨g, 0, none⟩) xs.length cap) xs.length (flatE In.enc xs) :=
  ⟨flatE_length in_len xs, .inr ⟨g, cap, cur, rfl, hB, hh, hnc, hcm, hcs, htk⟩⟩
/-- The cells of instruction k. -/
theorem cur_get {cur : Array Value} {xs : List In} (h : cur.toList.take (xs.length * 6) = flatE In.enc xs) {k : Nat} (hk : k < xs.length) (f : Nat) (hf : f < 6) : cur[k * 6 + f]? = xs[k]!.enc[f]? := by
  have h1 := flatE_get in_len xs k f hf
  rw [← h, List.getElem?_take_of_lt (by omega), Array.getElem?_toList, List.getElem?_eq_getElem hk] at h1
  rw [h1, getElem!_pos xs k hk]
  rfl

/-- The targets of an instruction in front of which one is put in. -/
def bump (y : In) : In := if y.op = 6 then { y with x := y.x + 1, y := y.y + 1 } else if y.op = 7 then { y with x := y.x + 1 } else y
def bumpR (fr k : Nat) (code : List In) : List In := code.mapIdx fun j y => if fr ≤ j ∧ j < k then bump y else y
/-- The code with an instruction put in at fr. -/
def insF (fr : Nat) (i : In) (code : List In) : List In := code.take fr ++ i :: (code.drop fr).map bump
theorem bumpR_len (fr k : Nat) (code : List In) : (bumpR fr k code).length = code.length := by simp [bumpR]
theorem bumpR_start (fr : Nat) (code : List In) : bumpR fr fr code = code := by
  unfold bumpR
  apply List.ext_getElem?
  intro j
  rw [List.getElem?_mapIdx]
  cases code[j]? with
  | none => rfl
  | some y => simp; intro _ _; omega
theorem bumpR_get (fr k : Nat) (code : List In) (j : Nat) (hj : j < code.length) : (bumpR fr k code)[j]'(by rw [bumpR_len]; exact hj) = if fr ≤ j ∧ j < k then bump code[j] else code[j] := by simp [bumpR]
theorem bumpR_step {fr k : Nat} {code : List In} (hf : fr ≤ k) (hk : k < code.length) : bumpR fr (k + 1) code = (bumpR fr k code).set k (bump code[k]!) := by
  apply List.ext_getElem
  · rw [bumpR_len, List.length_set, bumpR_len]
  · intro j h1 h2
    have hj : j < code.length := by rw [bumpR_len] at h1; exact h1
    rw [bumpR_get _ _ _ _ hj, List.getElem_set, bumpR_get _ _ _ _ hj, getElem!_pos code k hk]
    by_cases e : k = j
    · subst e
      rw [if_pos ⟨hf, by omega⟩, if_pos rfl]
    · rw [if_neg e]
      by_cases c : fr ≤ j ∧ j < k
      · rw [if_pos ⟨c.1, by omega⟩, if_pos c]
      · rw [if_neg (by omega), if_neg c]
theorem bumpR_end {fr : Nat} {code : List In} (hf : fr ≤ code.length) : bumpR fr code.length code = code.take fr ++ (code.drop fr).map bump := by
  apply List.ext_getElem
  · rw [bumpR_len]; simp; omega
  · intro j h1 h2
    have hj : j < code.length := by rw [bumpR_len] at h1; exact h1
    rw [bumpR_get _ _ _ _ hj, List.getElem_append]
    by_cases c : j < fr
    · rw [if_neg (by omega), dif_pos (by simp; omega)]
      simp
    · rw [if_pos ⟨by omega, hj⟩, dif_neg (by simp; omega)]
      simp only [List.length_take, List.getElem_map, List.getElem_drop]
      congr 2
      omega
theorem bumpR_here {fr k : Nat} {code : List In} (hk : k < code.length) : (bumpR fr k code)[k]! = code[k]! := by
  rw [getElem!_pos _ k (by rw [bumpR_len]; exact hk), getElem!_pos code k hk, bumpR_get _ _ _ _ hk, if_neg (by omega)]
theorem bump_split {cur : Array Value} {xs : List In} {k : Nat} (hk : k < xs.length) (h : cur.toList.take (xs.length * 6) = flatE In.enc xs) (ho : xs[k]!.op = 6) : ((cur.setIfInBounds (k * 6 + 4) (.int .i64 (xs[k]!.x + 1))).setIfInBounds (k * 6 + 5) (.int .i64 (xs[k]!.y + 1))).toList.take (xs.length * 6) = flatE In.enc (xs.set k (bump xs[k]!)) := by
  have e0 := getElem!_pos xs k hk
  have s1 := flat_upd (enc := In.enc) in_len (y := { xs[k]! with x := xs[k]!.x + 1 }) (v := .int .i64 (xs[k]!.x + 1)) hk (f := 4) (by omega) (by rw [← e0]; rfl) h
  have hk2 : k < (xs.set k { xs[k]! with x := xs[k]!.x + 1 }).length := by rw [List.length_set]; exact hk
  have s2 := flat_upd (enc := In.enc) in_len (y := { xs[k]! with x := xs[k]!.x + 1, y := xs[k]!.y + 1 }) (v := .int .i64 (xs[k]!.y + 1)) hk2 (f := 5) (by omega) (by rw [List.getElem_set_self]; rfl) s1
  rw [List.length_set, List.length_set, List.set_set] at s2
  rw [s2]
  unfold bump
  rw [if_pos ho]
theorem bump_jump {cur : Array Value} {xs : List In} {k : Nat} (hk : k < xs.length) (h : cur.toList.take (xs.length * 6) = flatE In.enc xs) (ho : xs[k]!.op = 7) : (cur.setIfInBounds (k * 6 + 4) (.int .i64 (xs[k]!.x + 1))).toList.take (xs.length * 6) = flatE In.enc (xs.set k (bump xs[k]!)) := by
  have e0 := getElem!_pos xs k hk
  have s1 := flat_upd (enc := In.enc) in_len (y := { xs[k]! with x := xs[k]!.x + 1 }) (v := .int .i64 (xs[k]!.x + 1)) hk (f := 4) (by omega) (by rw [← e0]; rfl) h
  rw [List.length_set] at s1
  rw [s1]
  unfold bump
  rw [if_neg (by omega), if_pos ho]
theorem bump_other {cur : Array Value} {xs : List In} {k : Nat} (hk : k < xs.length) (h : cur.toList.take (xs.length * 6) = flatE In.enc xs) (ho : xs[k]!.op ≠ 6) (ho2 : xs[k]!.op ≠ 7) : cur.toList.take (xs.length * 6) = flatE In.enc (xs.set k (bump xs[k]!)) := by
  rw [h]
  unfold bump
  rw [if_neg ho, if_neg ho2, getElem!_pos xs k hk, List.set_getElem_self]
theorem insF_len {fr : Nat} {i : In} {code : List In} (hf : fr ≤ code.length) : (insF fr i code).length = code.length + 1 := by
  unfold insF
  simp
  omega
theorem insF_flat {fr : Nat} {i : In} {code : List In} (hf : fr ≤ code.length) : flatE In.enc (insF fr i code) = (flatE In.enc (code.take fr ++ (code.drop fr).map bump)).take (fr * 6) ++ In.enc i ++ (flatE In.enc (code.take fr ++ (code.drop fr).map bump)).drop (fr * 6) := by
  have ht : (flatE In.enc (code.take fr)).length = fr * 6 := by rw [flatE_length in_len, List.length_take]; omega
  unfold insF
  generalize code.take fr = A at ht ⊢
  generalize (code.drop fr).map bump = C
  rw [flatE_append, flatE_append, flatE_cons, List.take_append_of_le_length (by omega), List.take_of_length_le (by omega), List.drop_append_of_le_length (by omega), List.drop_of_length_le (by omega), List.nil_append, List.append_assoc]
theorem own_drew {w : World} {B : Nat} {E : TypeId} {k : Nat} {v : Value} {n : Nat} {l : List Value} (h : w.ownsRow B E k v n l) : w.drew.ownsRow B E k v n l := h
theorem own_val {w : World} {B : Nat} {E : TypeId} {k : Nat} {v : Value} {n : Nat} {l : List Value} (h : w.ownsRow B E k v n l) (hn : 0 < n) : ∃ g cap, v = .slice (some ⟨g, 0, none⟩) n cap := by
  rcases h.2 with ⟨_, h0⟩ | ⟨g, cap, cur, hv, _⟩
  · omega
  · exact ⟨g, cap, hv⟩
/-- Targets are small. -/
def Sml (code : List In) : Prop := ∀ y ∈ code, 0 ≤ y.x ∧ y.x ≤ 1000000 ∧ 0 ≤ y.y ∧ y.y ≤ 1000000

set_option maxRecDepth 20000 in
set_option maxHeartbeats 16000000 in
theorem insert_calls (s : ByteArray) (pb B at' g : Nat) (code : List In) (bad : Int) (fr : Nat) (i1 i2 : Int) (i3 : ByteArray) (i4 : Bool) (i5 i6 : Int) (w : World) (h : Par s pb B at' g code bad w) (hn : code.length ≤ 100000) (h0 : 0 < code.length) (hfr : fr ≤ code.length) (hsm : Sml code) :
    Calls Try.prog 39 #[.pointer (some ⟨pb, 0, none⟩), .int .i64 (fr : Int), .agg #[.int .i64 i1, .int .u8 i2, .string i3, .bool i4, .int .i64 i5, .int .i64 i6]] w fun e w' => e = .returned (.tuple #[]) ∧ Par s pb B at' g (insF fr ⟨i1, i2, i3, i4, i5, i6⟩ code) bad w' ∧ Below B w w' := by
  have HSZ := h.size
  obtain ⟨hB, v, h1, h2⟩ := h
  have lt : pb < w.heap.size := (Array.getElem?_eq_some_iff.1 h1).1
  have hne := own_ne h2 h1 (by decide)
  obtain ⟨hl0, ⟨_, h09⟩ | ⟨gg, cap, cur, hv9, hBg, hh, hnc, hcm, hcs, htk⟩⟩ := h2
  · omega
  subst hv9
  have HSM : Aside (Sml code) := hsm
  have ngp : ¬ pb = gg := fun e => hne (by rw [e]; rfl)
  have ngp2 : ¬ gg = pb := fun e => ngp e.symm
  have ltg : gg < w.heap.size := (Array.getElem?_eq_some_iff.1 hh).1
  have ng1 : ¬ gg = w.heap.size := by omega
  have ng2 : ¬ w.heap.size = gg := by omega
  obtain ⟨n, hln⟩ : ∃ n, code.length = n := ⟨_, rfl⟩
  have HL : Aside (code.length = n) := hln
  have HTK : Aside (cur.toList.take (code.length * 6) = flatE In.enc code) := htk
  rw [hln] at hnc hn h0 hfr h1
  have hbig : n ≤ 9223372036854775807 := by omega
  have H1 : Aside ((w.alloc (.cells #[.int .i64 i1, .int .u8 i2, .string i3, .bool i4, .int .i64 i5, .int .i64 i6] 34)).heap[pb]? = some (.cells #[.string s, .int .i64 (at' : Int), .int .i64 (g : Int), .slice (some ⟨gg, 0, none⟩) n cap, .int .i64 bad] 46 (0, 0))) := hp_old h1
  have HG : Aside ((w.alloc (.cells #[.int .i64 i1, .int .u8 i2, .string i3, .bool i4, .int .i64 i5, .int .i64 i6] 34)).heap[gg]? = some (.cells cur 34 (0, 0))) := hp_old hh
  have b3 := cell_heap H1.out 3 _ rfl
  have ltw : gg < (w.alloc (.cells #[.int .i64 i1, .int .u8 i2, .string i3, .bool i4, .int .i64 i5, .int .i64 i6] 34)).heap.size := by simp; omega
  have HCS : Aside (cur.size = cap * 6) := hcs
  clear hln h1 hh hne hsm htk hl0 hcs
  go_enter Try.func39, Try.ntmps39
  go_wp2
  go_loopg [6] (n - fr) (fun k s6 wr => ∃ (idx : Nat) (cur2 : Array Value), s6 = .int .i64 (idx : Int) ∧ fr ≤ idx ∧ k + idx = n ∧ wr = holds (w.alloc (.cells #[.int .i64 i1, .int .u8 i2, .string i3, .bool i4, .int .i64 i5, .int .i64 i6] 34)) gg cur2 34 ∧ Aside (cur2.size = cap * 6) ∧ Aside (cur2.toList.take (code.length * 6) = flatE In.enc (bumpR fr idx code)))
  case atStart => exact ⟨fr, cur, rfl, Nat.le_refl _, by omega, by rw [← holds_self HG.out], HCS.out, by rw [bumpR_start]; exact HTK.out⟩
  case round =>
    obtain ⟨idx, cur2, rfl, hfi, hk, rfl, CS, TK⟩ := hrel
    clear HTK HG
    by_cases hi : idx < n
    · have hiz : (idx : Int) < (n : Int) := by omega
      have hix : idx < code.length := by have := HL.out; omega
      have hxl : idx < (bumpR fr idx code).length := by rw [bumpR_len]; exact hix
      have TK0 : cur2.toList.take ((bumpR fr idx code).length * 6) = flatE In.enc (bumpR fr idx code) := by rw [bumpR_len]; exact TK.out
      have q0 := cur_get TK0 hxl 0 (by omega)
      have q4 := cur_get TK0 hxl 4 (by omega)
      have q5 := cur_get TK0 hxl 5 (by omega)
      have T6 : Aside (code[idx]!.op = 6 → ((cur2.setIfInBounds (idx * 6 + 4) (.int .i64 (code[idx]!.x + 1))).setIfInBounds (idx * 6 + 5) (.int .i64 (code[idx]!.y + 1))).toList.take (code.length * 6) = flatE In.enc (bumpR fr (idx + 1) code)) := fun ho => by
        have := bump_split hxl TK0 (by rw [bumpR_here hix]; exact ho)
        rw [bumpR_here hix, bumpR_len] at this
        rw [this, bumpR_step hfi hix]
      have T7 : Aside (code[idx]!.op = 7 → (cur2.setIfInBounds (idx * 6 + 4) (.int .i64 (code[idx]!.x + 1))).toList.take (code.length * 6) = flatE In.enc (bumpR fr (idx + 1) code)) := fun ho => by
        have := bump_jump hxl TK0 (by rw [bumpR_here hix]; exact ho)
        rw [bumpR_here hix, bumpR_len] at this
        rw [this, bumpR_step hfi hix]
      have T0 : Aside (code[idx]!.op ≠ 6 → code[idx]!.op ≠ 7 → cur2.toList.take (code.length * 6) = flatE In.enc (bumpR fr (idx + 1) code)) := fun ho ho2 => by
        have := bump_other hxl TK0 (by rw [bumpR_here hix]; exact ho) (by rw [bumpR_here hix]; exact ho2)
        rw [bumpR_here hix, bumpR_len] at this
        rw [this, bumpR_step hfi hix]
      rw [bumpR_here hix] at q0 q4 q5
      have hsm := HSM.out _ (by rw [getElem!_pos code idx hix]; exact List.getElem_mem _ : code[idx]! ∈ code)
      clear TK TK0 hxl HSM
      generalize code[idx]! = y at q0 q4 q5 T6 T7 T0 hsm
      obtain ⟨y1, y2, y3, y4, y5, y6⟩ := y
      have q0 : cur2[idx * 6]? = some (.int .i64 y1) := q0
      have q4 : cur2[idx * 6 + 4]? = some (.int .i64 y5) := q4
      have q5 : cur2[idx * 6 + 5]? = some (.int .i64 y6) := q5
      simp only [] at hsm
      obtain ⟨s1, s2, s3, s4⟩ := hsm
      have w5 : IntKind.i64.wrap (y5 + 1) = y5 + 1 := by rw [IntKind.wrap_i64]; omega
      have w6 : IntKind.i64.wrap (y6 + 1) = y6 + 1 := by rw [IntKind.wrap_i64]; omega
      clear s1 s2 s3 s4
      by_cases c6 : y1 = 6
      · have T := T6.out c6
        have TT : Aside (_ = flatE In.enc (bumpR fr (idx + 1) code)) := T
        subst c6
        clear T T6 T7 T0
        go_wp2
        go_roundg (n - (idx + 1))
        case measure => omega
        case rel => exact ⟨idx + 1, _, by simp, by omega, by omega, rfl, by show _ = _; rw [Array.size_setIfInBounds, Array.size_setIfInBounds, CS.out], TT⟩
      · have k6 : (y1 == 6) = false := by simpa using c6
        by_cases c7 : y1 = 7
        · have T := T7.out c7
          have TT : Aside (_ = flatE In.enc (bumpR fr (idx + 1) code)) := T
          subst c7
          clear T T6 T7 T0 c6 k6
          go_wp2
          go_roundg (n - (idx + 1))
          case measure => omega
          case rel => exact ⟨idx + 1, _, by simp, by omega, by omega, rfl, by show _ = _; rw [Array.size_setIfInBounds, CS.out], TT⟩
        · have k7 : (y1 == 7) = false := by simpa using c7
          have T := T0.out c6 c7
          have TT : Aside (_ = flatE In.enc (bumpR fr (idx + 1) code)) := T
          clear T T6 T7 T0 c6 c7
          go_wp2
          go_roundg (n - (idx + 1))
          case measure => omega
          case rel => exact ⟨idx + 1, _, by simp, by omega, by omega, rfl, CS.out, TT⟩
    · have hiz : ¬ (idx : Int) < (n : Int) := by omega
      have ei : idx = n := by omega
      have OU : Aside ((holds (w.alloc (.cells #[.int .i64 i1, .int .u8 i2, .string i3, .bool i4, .int .i64 i5, .int .i64 i6] 34)) gg cur2 34).ownsRow B 34 6 (.slice (some ⟨gg, 0, none⟩) n cap) n (flatE In.enc (code.take fr ++ (code.drop fr).map bump))) := by
        have e1 : bumpR fr idx code = code.take fr ++ (code.drop fr).map bump := by rw [ei, ← HL.out]; exact bumpR_end (by rw [HL.out]; exact hfr)
        have h3 := TK.out
        rw [e1] at h3
        have hlx : (code.take fr ++ (code.drop fr).map bump).length = n := by have := HL.out; simp; omega
        have := own_row (w := holds (w.alloc (.cells #[.int .i64 i1, .int .u8 i2, .string i3, .bool i4, .int .i64 i5, .int .i64 i6] 34)) gg cur2 34) (xs := code.take fr ++ (code.drop fr).map bump) (hh_eq ltw) hBg (by rw [hlx]; exact hnc) hcm CS.out (by rw [hlx, ← HL.out]; exact h3)
        rw [hlx] at this
        exact this
      have HU1 : Aside ((holds (w.alloc (.cells #[.int .i64 i1, .int .u8 i2, .string i3, .bool i4, .int .i64 i5, .int .i64 i6] 34)) gg cur2 34).heap[pb]? = some (.cells #[.string s, .int .i64 (at' : Int), .int .i64 (g : Int), .slice (some ⟨gg, 0, none⟩) n cap, .int .i64 bad] 46 (0, 0))) := hh_ne ngp H1.out
      have HUI : Aside ((holds (w.alloc (.cells #[.int .i64 i1, .int .u8 i2, .string i3, .bool i4, .int .i64 i5, .int .i64 i6] 34)) gg cur2 34).heap[w.heap.size]? = some (.cells #[.int .i64 i1, .int .u8 i2, .string i3, .bool i4, .int .i64 i5, .int .i64 i6] 34 (0, 0))) := hh_ne ng2 (hp_new rfl)
      have HBU : Aside (Below B w (holds (w.alloc (.cells #[.int .i64 i1, .int .u8 i2, .string i3, .bool i4, .int .i64 i5, .int .i64 i6] 34)) gg cur2 34)) := below_holds ((Below.refl _ _).alloc HSZ.2 _) hBg _ _
      have hl6 : (code.take fr ++ (code.drop fr).map bump).length = n := by have := HL.out; simp; omega
      have FI : Aside (flatE In.enc (insF fr ⟨i1, i2, i3, i4, i5, i6⟩ code) = (flatE In.enc (code.take fr ++ (code.drop fr).map bump)).take (fr * 6) ++ In.enc ⟨i1, i2, i3, i4, i5, i6⟩ ++ (flatE In.enc (code.take fr ++ (code.drop fr).map bump)).drop (fr * 6)) := by
        exact insF_flat (by rw [HL.out]; exact hfr)
      have FL : Aside ((insF fr ⟨i1, i2, i3, i4, i5, i6⟩ code).length = n + 1) := by
        rw [← HL.out]; exact insF_len (by rw [HL.out]; exact hfr)
      have hx9 : ∀ x ∈ flatE In.enc (code.take fr ++ (code.drop fr).map bump), x.oneCell' = true := flatE_cells in_one _
      generalize flatE In.enc (code.take fr ++ (code.drop fr).map bump) = cs at OU FI hx9
      clear CS TK H1 HCS b3 hl6 HL
      generalize holds (w.alloc (.cells #[.int .i64 i1, .int .u8 i2, .string i3, .bool i4, .int .i64 i5, .int .i64 i6] 34)) gg cur2 34 = u at OU HU1 HUI HBU ⊢
      have b3 := cell_heap HU1.out 3 _ rfl
      have ic0 := cell_heap HUI.out 0 _ rfl
      have ic1 := cell_heap HUI.out 1 _ rfl
      have ic2 := cell_heap HUI.out 2 _ rfl
      have ic3 := cell_heap HUI.out 3 _ rfl
      have ic4 := cell_heap HUI.out 4 _ rfl
      have ic5 := cell_heap HUI.out 5 _ rfl
      have ltu : pb < u.heap.size := (Array.getElem?_eq_some_iff.1 HU1.out).1
      have ltu2 : w.heap.size < u.heap.size := (Array.getElem?_eq_some_iff.1 HUI.out).1
      have h1c : Aside (∀ x ∈ cs, x.oneCell' = true) := fun x hx => hx9 x hx
      have NGB : Aside (∀ k, (Value.slice (some ⟨gg, 0, none⟩) n cap).ownBlock = some k → gg = k) := fun k hk => by simpa [Value.ownBlock] using hk
      go_wp2
      go_region_law (go_simp; go_at_call 59; refine (inInsert_calls (.slice (some ⟨gg, 0, none⟩) n cap) n fr u.heap.size B cs (In.enc ⟨i1, i2, i3, i4, i5, i6⟩) 34 ((u.alloc (.cells #[.int .i64 i1, .int .u8 i2, .string i3, .bool i4, .int .i64 i5, .int .i64 i6] 34)).drew) (own_drew (own_alloc OU.out)) hfr (by omega) rfl h1c.out (in_one _) (show (u.alloc (.cells #[.int .i64 i1, .int .u8 i2, .string i3, .bool i4, .int .i64 i5, .int .i64 i6] 34)).heap[u.heap.size]? = _ from hp_new rfl) (fun e => by have := NGB.out _ e; omega) (by simp; omega)).mono ?_; rintro e w' ⟨v', rfl, hown', hgrow⟩; obtain ⟨g2, cap2, rfl⟩ := own_val hown' (by omega); have hg1 : w'.heap[pb]? = some (.cells #[.string s, .int .i64 (at' : Int), .int .i64 (g : Int), .slice (some ⟨gg, 0, none⟩) n cap, .int .i64 bad] 46 (0, 0)) := (hgrow.block pb (by simp; omega) (fun e => ngp2 (NGB.out _ e.symm))).trans (show (u.alloc (.cells #[.int .i64 i1, .int .u8 i2, .string i3, .bool i4, .int .i64 i5, .int .i64 i6] 34)).heap[pb]? = _ from hp_old HU1.out); have hg2 : Aside (Below B w w') := (HBU.out.alloc (by omega) _).drew.grown hgrow (by simp; omega) (fun k hk => by have := NGB.out _ hk; omega); have hgo : Aside (w'.ownsRow B 34 6 (.slice (some ⟨g2, 0, none⟩) (n + 1) cap2) (n + 1) (cs.take (fr * 6) ++ In.enc ⟨i1, i2, i3, i4, i5, i6⟩ ++ cs.drop (fr * 6))) := hown'; have lt' : pb < w'.heap.size := (Array.getElem?_eq_some_iff.1 hg1).1; have HG1 : Aside (w'.heap[pb]? = some (.cells #[.string s, .int .i64 (at' : Int), .int .i64 (g : Int), .slice (some ⟨gg, 0, none⟩) n cap, .int .i64 bad] 46 (0, 0))) := hg1; rw [holds_self hg1]; clear hg1 hown' hgrow)
      all_goals go_wp2
      all_goals (go_end0; exact ⟨rfl, Par.code hB HG1.out FL.out FI.out hgo.out, below_holds hg2.out hB _ _⟩)

end Go.Proofs.Ytfhccmegobbnaaa
