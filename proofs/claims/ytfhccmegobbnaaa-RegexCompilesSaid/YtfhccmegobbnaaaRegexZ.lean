/- This text proves the walks of first, Match and Whole. Conditions: those that each theorem names. -/
import Derived.Test.YtfhccmegobbnaaaRegexY
namespace Go.Proofs.Ytfhccmegobbnaaa
open Go.ChangeShapes Go.WideShapes Go.ChangeAt Go.RowKit
set_option linter.unusedVariables false
set_option linter.unusedSimpArgs false

theorem AEnv.later {w W : World} {L : List In} {ao : Option Addr} {g : Int} {s : ByteArray} (h : AEnv w L ao g s) (hb : Below w.heap.size w W) : AEnv W L ao g s := ⟨h.hp.later hb, h.hr, h.hs⟩
/-- The first match from a position on: its offsets, where it begins and where it ends. -/
def firstF : Nat → List In → Nat → ByteArray → Nat → Option (List Int × Nat × Nat)
  | 0, _, _, _, _ => none
  | f + 1, L, g, s, p =>
    if s.size < p then none else
    match runTop L g s p false with
    | some (cs, e) => some (cs, p, e)
    | none => firstF f L g s (p + 1)
def firstTop (L : List In) (g : Nat) (s : ByteArray) (p : Nat) : Option (List Int × Nat × Nat) := firstF (s.size + 1 - p) L g s p
theorem foundF_mem {L : List In} : ∀ {l : List Th} {cs : List Int}, foundF L l = some cs → ∃ t ∈ l, t.2 = cs ∧ L[t.1]!.op = 9
  | [], _, h => by cases h
  | t :: l, cs, h => by
    unfold foundF at h
    split at h
    · injection h with h
      exact ⟨t, List.mem_cons_self .., h, ‹_›⟩
    · obtain ⟨u, hu, h1⟩ := foundF_mem h
      exact ⟨u, List.mem_cons_of_mem _ hu, h1⟩
theorem bestF_len {L : List In} {g : Int} {n pos : Nat} {whole : Bool} {l : List Th} {best : Option (List Int × Nat)} (hl : ∀ t ∈ l, TOk L g t) (hb : ∀ cs e, best = some (cs, e) → (cs.length : Int) = 2 * g) : ∀ cs e, bestF L n pos whole l best = some (cs, e) → (cs.length : Int) = 2 * g := by
  intro cs e h
  unfold bestF at h
  split at h
  · exact hb cs e h
  · rename_i c hf
    split at h
    · obtain ⟨t, ht, h1, _⟩ := foundF_mem hf
      injection h with h
      injection h with h _
      rw [← h, ← h1]
      exact (hl t ht).n
    · exact hb cs e h
theorem runF_len {L : List In} {g : Int} (hr : rightF L g = true) {s : ByteArray} {whole : Bool} : ∀ (f pos : Nat) (l : List Th) (best : Option (List Int × Nat)), (∀ t ∈ l, TOk L g t) → (∀ cs e, best = some (cs, e) → (cs.length : Int) = 2 * g) → ∀ cs e, runF f L s whole pos l best = some (cs, e) → (cs.length : Int) = 2 * g
  | 0, _, _, _, _, hb => hb
  | f + 1, pos, l, best, hl, hb => by
    intro cs e h
    unfold runF at h
    split at h
    · exact bestF_len hl hb cs e h
    · exact runF_len hr f _ _ _ (stepF_ok hr _ _ _ _ _ hl (fun t ht => by cases ht)) (bestF_len hl hb) cs e h
theorem runTop_len {L : List In} {g : Nat} (hr : rightF L (g : Int) = true) {s : ByteArray} {whole : Bool} {p : Nat} {cs : List Int} {e : Nat} (h : runTop L g s p whole = some (cs, e)) : cs.length = 2 * g := by
  have := runF_len hr _ p _ none (addF_ok hr _ _ _ _ _ _ (by have := (right_parts hr).2.2.1; omega) (by simp) (fun t ht => by cases ht)) (fun _ _ h => by cases h) cs e h
  omega
theorem firstF_len {L : List In} {g : Nat} (hr : rightF L (g : Int) = true) {s : ByteArray} : ∀ (f p : Nat) {cs : List Int} {a e : Nat}, firstF f L g s p = some (cs, a, e) → cs.length = 2 * g
  | 0, _, _, _, _, h => by cases h
  | f + 1, p, cs, a, e, h => by
    unfold firstF at h
    split at h
    · cases h
    split at h
    · rename_i hq
      injection h with h
      injection h with h _
      rw [← h]
      exact runTop_len hr hq
    · exact firstF_len hr f _ h
/-- Offsets in memory. -/
structure Row (B : Nat) (v : Value) (cs : List Int) (W : World) : Prop where
  row : W.ownsRow B 3 1 v cs.length (cs.map (Value.int .i64))
  pos : 0 < cs.length
theorem Row.later {B : Nat} {v : Value} {cs : List Int} {W W' : World} (h : Row B v cs W) (hb : Below W.heap.size W W') : Row B v cs W' := ⟨own_from h.row hb, h.pos⟩
theorem Row.lower {B B' : Nat} {v : Value} {cs : List Int} {W : World} (h : Row B v cs W) (hB : B' ≤ B) : Row B' v cs W := ⟨own_lower h.row hB, h.pos⟩
theorem Row.form {B : Nat} {v : Value} {cs : List Int} {W : World} (h : Row B v cs W) : ∃ cb cc, v = .slice (some ⟨cb, 0, none⟩) cs.length cc ∧ cb < W.heap.size ∧ ∀ j, j < cs.length → W.cell? ⟨cb, j, none⟩ = some (.int .i64 (cs.getD j 0)) := by
  obtain ⟨_, ⟨_, h0⟩ | ⟨cb, cc, cur, hv, _, hh, _, _, _, ht⟩⟩ := h.row
  · have := h.pos
    omega
  · refine ⟨cb, cc, hv, (Array.getElem?_eq_some_iff.1 hh).1, fun j hj => cell_heap hh _ _ ?_⟩
    have h11 : (cur.toList.take (cs.length * 1))[j]? = some (.int .i64 (cs.getD j 0)) := by rw [ht, List.getElem?_map, List.getElem?_eq_getElem hj, List.getD_eq_getElem?_getD, List.getElem?_eq_getElem hj]; rfl
    rw [List.getElem?_take, if_pos (by omega)] at h11
    rw [← Array.getElem?_toList]
    exact h11
theorem Cap.row_ {B vb : Nat} {v : Value} {cs : List Int} {W : World} (h : Cap B vb v cs W) : Row B v cs W := ⟨h.row, h.pos⟩
/-- What first leaves. -/
def FirstPost (w : World) (r : Option (List Int × Nat × Nat)) (e : Ending) (W : World) : Prop :=
  (match r with
  | none => e = .returned (.tuple #[.slice none 0 0, .int .i64 (-1), .int .i64 (-1)])
  | some (cs, a, z) => ∃ v, e = .returned (.tuple #[v, .int .i64 (a : Int), .int .i64 (z : Int)]) ∧ Row w.heap.size v cs W) ∧ Below w.heap.size w W
set_option maxRecDepth 20000 in
set_option maxHeartbeats 64000000 in
theorem first_calls (L : List In) (ao : Option Addr) (cap g : Nat) (s : ByteArray) (p : Nat) (w : World) (E : AEnv w L ao (g : Int) s) (hp : p ≤ s.size) :
    Calls Try.prog 26 #[.agg #[.slice ao L.length cap, .int .i64 (g : Int)], .string s, .int .i64 (p : Int)] w (FirstPost w (firstTop L g s p)) := by
  obtain ⟨R, hR⟩ : ∃ R, firstTop L g s p = R := ⟨_, rfl⟩
  rw [hR]
  have HR : Aside (firstF (s.size + 1 - p) L g s p = R) := hR
  have HE : Aside (AEnv w L ao (g : Int) s) := E
  have hs := E.hs
  obtain ⟨n, hln⟩ : ∃ n, L.length = n := ⟨_, rfl⟩
  have HN : Aside (L.length = n) := hln
  obtain ⟨Q, hQ⟩ : ∃ Q : Ending → World → Prop, FirstPost w R = Q := ⟨_, rfl⟩
  rw [hQ]
  have HQ : Aside (∀ e W, FirstPost w R e W → Q e W) := fun e W h1 => by rw [← hQ]; exact h1
  obtain ⟨W1, hW1⟩ : ∃ V, w.alloc (.cells #[.slice ao n cap, .int .i64 (g : Int)] 24) = V := ⟨_, rfl⟩
  obtain ⟨rb, hrb⟩ : ∃ b, w.heap.size = b := ⟨_, rfl⟩
  have HRB : Aside (w.heap.size = rb) := hrb
  have R1 : Aside (W1.heap[rb]? = some (.cells #[.slice ao n cap, .int .i64 (g : Int)] 24 (0, 0))) := by show _ = _; rw [← hW1]; exact hp_new hrb.symm
  have B1 : Aside (Below w.heap.size w W1) := by show Below _ _ _; rw [← hW1]; exact Below.alloc (Below.refl _ _) (Nat.le_refl _) _
  have HW : Aside (w.alloc (.cells #[.slice ao n cap, .int .i64 (g : Int)] 24) = W1) := hW1
  rw [hln]
  clear hln hR hQ E hW1
  go_enter Try.func26, Try.ntmps26
  go_wp2_with fail
  try rw [HW.out]
  go_loopg [9] (s.size + 2 - p) (fun gk s9 wr => ∃ q : Nat, s9 = .int .i64 (q : Int) ∧ q + gk = s.size + 2 ∧ q ≤ s.size + 1 ∧ Aside (firstF (s.size + 1 - q) L g s q = R) ∧ Aside (wr.heap[rb]? = some (.cells #[.slice ao n cap, .int .i64 (g : Int)] 24 (0, 0)) ∧ Below w.heap.size w wr))
  case atStart => exact ⟨p, rfl, by omega, by omega, HR.out, R1.out, B1.out⟩
  case round =>
    obtain ⟨q, rfl, hg, hq, HF, HWR⟩ := hrel
    clear HR R1 B1 HW
    have lrb : rb < wr.heap.size := (Array.getElem?_eq_some_iff.1 HWR.out.1).1
    by_cases hqs : s.size < q
    · have hd : decide ((q : Int) ≤ (s.size : Int)) = false := decide_eq_false (by omega)
      have hz : ¬ (q : Int) ≤ (s.size : Int) := by omega
      have eR : R = none := by
        have h := HF.out
        rw [show s.size + 1 - q = 0 by omega] at h
        exact h.symm
      subst eR
      go_wp2
      go_ret3
      exact HQ.out _ _ ⟨rfl, HWR.out.2⟩
    have hd : decide ((q : Int) ≤ (s.size : Int)) = true := decide_eq_true (by omega)
    have hz : (q : Int) ≤ (s.size : Int) := by omega
    have HF2 : Aside (R = match runTop L g s q false with | some (cs, e) => some (cs, q, e) | none => firstF (s.size + 1 - (q + 1)) L g s (q + 1)) := by
      show _ = _
      rw [← HF.out, show s.size + 1 - q = (s.size + 1 - (q + 1)) + 1 by omega]
      conv => lhs; unfold firstF
      rw [if_neg hqs]
    have wq1 : IntKind.i64.wrap ((q : Int) + 1) = ((q + 1 : Nat) : Int) := by rw [IntKind.wrap_i64]; omega
    have c0 := cell_heap HWR.out.1 0 _ rfl
    have c1 := cell_heap HWR.out.1 1 _ rfl
    have cr := run_calls L ao cap g s q false wr (HE.out.later HWR.out.2) (by omega)
    rw [HN.out] at cr
    clear HF hqs
    go_wp2_with fail
    refine cr.mono ?_
    rintro e w3 ⟨vb, bv, be, rfl, HB, hb3⟩
    have B3 : Aside (Below w.heap.size w w3) := HWR.out.2.trans (hb3.mono HWR.out.2.size)
    have R3 : Aside (w3.heap[rb]? = some (.cells #[.slice ao n cap, .int .i64 (g : Int)] 24 (0, 0))) := heap_later HWR.out.1 hb3
    have S3 : Aside (w.heap.size ≤ wr.heap.size) := HWR.out.2.size
    clear cr hb3 HWR c0 c1 lrb
    cases hr : runTop L g s q false with
    | none =>
      rw [hr] at HB HF2
      obtain ⟨rfl, rfl⟩ := HB
      have HF3 : Aside (firstF (s.size + 1 - (q + 1)) L g s (q + 1) = R) := HF2.out.symm
      clear HF2 hr
      go_wp2_with fail
      go_roundg (s.size + 1 - q)
      case measure => omega
      case rel => exact ⟨q + 1, rfl, by omega, by omega, HF3.out, R3.out, B3.out⟩
    | some t =>
      obtain ⟨cs, z⟩ := t
      rw [hr] at HB HF2
      obtain ⟨HC, rfl⟩ := HB
      have HC : Aside (Row w.heap.size bv cs w3) := HC.row_.lower S3.out
      have eR : R = some (cs, q, z) := HF2.out
      subst eR
      clear hr HF2
      go_wp2_with fail
      go_ret3
      exact HQ.out _ _ ⟨⟨_, rfl, HC.out⟩, B3.out⟩
/-- Match. -/
def matchTop (L : List In) (g : Nat) (s : ByteArray) : Option (List Int) := (firstTop L g s 0).map (·.1)
def wholeTop (L : List In) (g : Nat) (s : ByteArray) : Option (List Int) := (runTop L g s 0 true).map (·.1)
/-- What Match and Whole leave. -/
def MatchPost (w : World) (r : Option (List Int)) (e : Ending) (W : World) : Prop :=
  (match r with
  | none => e = .returned (.tuple #[.slice none 0 0, .bool false])
  | some cs => ∃ v, e = .returned (.tuple #[v, .bool true]) ∧ Row w.heap.size v cs W) ∧ Below w.heap.size w W

set_option maxRecDepth 20000 in
set_option maxHeartbeats 64000000 in
theorem match_calls (L : List In) (ao : Option Addr) (cap g : Nat) (s : ByteArray) (w : World) (E : AEnv w L ao (g : Int) s) :
    Calls Try.prog 12 #[.agg #[.slice ao L.length cap, .int .i64 (g : Int)], .string s] w (MatchPost w (matchTop L g s)) := by
  obtain ⟨n, hln⟩ : ∃ n, L.length = n := ⟨_, rfl⟩
  have HN : Aside (L.length = n) := hln
  obtain ⟨R, hR⟩ : ∃ R, firstTop L g s 0 = R := ⟨_, rfl⟩
  have ER : matchTop L g s = R.map (·.1) := by rw [← hR]; rfl
  rw [ER]
  clear ER
  obtain ⟨Q, hQ⟩ : ∃ Q : Ending → World → Prop, MatchPost w (R.map (·.1)) = Q := ⟨_, rfl⟩
  rw [hQ]
  have HQ : Aside (∀ e W, MatchPost w (R.map (·.1)) e W → Q e W) := fun e W h1 => by rw [← hQ]; exact h1
  obtain ⟨W1, hW1⟩ : ∃ V, w.alloc (.cells #[.slice ao n cap, .int .i64 (g : Int)] 24) = V := ⟨_, rfl⟩
  have B1 : Aside (Below w.heap.size w W1) := by show Below _ _ _; rw [← hW1]; exact Below.alloc (Below.refl _ _) (Nat.le_refl _) _
  have cf := first_calls L ao cap g s 0 W1 (E.later B1.out) (Nat.zero_le _)
  rw [hR, hln] at cf
  have HW : Aside (w.alloc (.cells #[.slice ao n cap, .int .i64 (g : Int)] 24) = W1) := hW1
  have LEN : Aside (∀ cs, (∃ t, R = some (cs, t)) → cs.length ≤ 20) := fun cs ⟨t, ht⟩ => by
    have h1 := (right_parts E.hr).2.1
    have h2 := firstF_len E.hr _ _ (hR.trans ht)
    omega
  rw [hln]
  clear hln hR hQ hW1 E
  go_enter Try.func12, Try.ntmps12
  go_wp2_with fail
  rw [HW.out]
  refine cf.mono ?_
  intro e w3 hpost
  have hB := hpost
  clear hpost cf HW
  cases R with
  | none =>
    obtain ⟨he, hb3⟩ := hB
    have he : e = .returned (.tuple #[.slice none 0 0, .int .i64 (-1), .int .i64 (-1)]) := he
    subst he
    have B3 : Aside (Below w.heap.size w w3) := B1.out.trans (hb3.mono B1.out.size)
    clear hb3
    go_wp2_with fail
    refine (Go.Proofs.Ytfhccmegobbnaaa.sh_slices_Clone_int_nil 0 0 _).mono ?_
    rintro e w4 ⟨rfl, hw4⟩
    subst hw4
    go_wp2
    first | (go_ret2; exact HQ.out _ _ ⟨rfl, B3.out⟩) | exact HQ.out _ _ ⟨rfl, B3.out⟩
  | some t =>
    obtain ⟨cs, a, z⟩ := t
    obtain ⟨⟨v, rfl, HC⟩, hb3⟩ := hB
    have B3 : Aside (Below w.heap.size w w3) := B1.out.trans (hb3.mono B1.out.size)
    have HC := HC.lower B1.out.size
    have LC : Aside (cs.length ≤ 1000000) := by
      have h1 := LEN.out cs ⟨_, rfl⟩
      show _ ≤ _
      omega
    clear hb3
    have RW : Aside (Row w.heap.size v cs w3) := HC
    obtain ⟨cb, cc, rfl, hcb, hcells⟩ := HC.form
    have zc : decide ((0 : Int) ≤ (z : Int)) = true := decide_eq_true (by omega)
    have zz : (0 : Int) ≤ (z : Int) := by omega
    have cl := sh_slices_Clone_int cb 0 cs.length cc cs w3 (Nat.le_refl _) (by have := LC.out; omega) (fun j hj => by rw [Nat.zero_add]; exact hcells j hj)
    rw [List.take_length] at cl
    clear hcells HC
    go_wp2_with fail
    refine cl.mono ?_
    rintro e w4 ⟨v', rfl, hown, hnn, hb4⟩
    have RW4 : Aside (Row w.heap.size v' cs w4) := ⟨own_lower hown B3.out.size, RW.out.pos⟩
    have B4 : Aside (Below w.heap.size w w4) := B3.out.trans (hb4.mono B3.out.size)
    clear hown hnn hb4 cl
    go_wp2
    first | (go_ret2; exact HQ.out _ _ ⟨⟨_, rfl, RW4.out⟩, B4.out⟩) | exact HQ.out _ _ ⟨⟨_, rfl, RW4.out⟩, B4.out⟩

set_option maxRecDepth 20000 in
set_option maxHeartbeats 64000000 in
theorem whole_calls (L : List In) (ao : Option Addr) (cap g : Nat) (s : ByteArray) (w : World) (E : AEnv w L ao (g : Int) s) :
    Calls Try.prog 13 #[.agg #[.slice ao L.length cap, .int .i64 (g : Int)], .string s] w (MatchPost w (wholeTop L g s)) := by
  obtain ⟨n, hln⟩ : ∃ n, L.length = n := ⟨_, rfl⟩
  have HN : Aside (L.length = n) := hln
  obtain ⟨R, hR⟩ : ∃ R, runTop L g s 0 true = R := ⟨_, rfl⟩
  have ER : wholeTop L g s = R.map (·.1) := by rw [← hR]; rfl
  rw [ER]
  clear ER
  obtain ⟨Q, hQ⟩ : ∃ Q : Ending → World → Prop, MatchPost w (R.map (·.1)) = Q := ⟨_, rfl⟩
  rw [hQ]
  have HQ : Aside (∀ e W, MatchPost w (R.map (·.1)) e W → Q e W) := fun e W h1 => by rw [← hQ]; exact h1
  obtain ⟨W1, hW1⟩ : ∃ V, w.alloc (.cells #[.slice ao n cap, .int .i64 (g : Int)] 24) = V := ⟨_, rfl⟩
  have B1 : Aside (Below w.heap.size w W1) := by show Below _ _ _; rw [← hW1]; exact Below.alloc (Below.refl _ _) (Nat.le_refl _) _
  have cf := run_calls L ao cap g s 0 true W1 (E.later B1.out) (Nat.zero_le _)
  rw [hR, hln] at cf
  have HW : Aside (w.alloc (.cells #[.slice ao n cap, .int .i64 (g : Int)] 24) = W1) := hW1
  have LEN : Aside (∀ cs, (∃ t, R = some (cs, t)) → cs.length ≤ 20) := fun cs ⟨t, ht⟩ => by
    have h1 := (right_parts E.hr).2.1
    have h2 := runTop_len E.hr (hR.trans ht)
    omega
  rw [hln]
  clear hln hR hQ hW1 E
  go_enter Try.func13, Try.ntmps13
  go_wp2_with fail
  rw [HW.out]
  refine cf.mono ?_
  intro e w3 hpost
  have hB := hpost
  clear hpost cf HW
  cases R with
  | none =>
    obtain ⟨vb, bv, be, rfl, HB, hb3⟩ := hB
    obtain ⟨rfl, rfl⟩ := HB
    have B3 : Aside (Below w.heap.size w w3) := B1.out.trans (hb3.mono B1.out.size)
    clear hb3
    go_wp2_with fail
    refine (Go.Proofs.Ytfhccmegobbnaaa.sh_slices_Clone_int_nil 0 0 _).mono ?_
    rintro e w4 ⟨rfl, hw4⟩
    subst hw4
    go_wp2
    first | (go_ret2; exact HQ.out _ _ ⟨rfl, B3.out⟩) | exact HQ.out _ _ ⟨rfl, B3.out⟩
  | some t =>
    obtain ⟨cs, z⟩ := t
    obtain ⟨vb, v, be, rfl, HB, hb3⟩ := hB
    obtain ⟨HC, rfl⟩ := HB
    have B3 : Aside (Below w.heap.size w w3) := B1.out.trans (hb3.mono B1.out.size)
    have HC := HC.row_.lower B1.out.size
    have LC : Aside (cs.length ≤ 1000000) := by
      have h1 := LEN.out cs ⟨_, rfl⟩
      show _ ≤ _
      omega
    clear hb3
    have RW : Aside (Row w.heap.size v cs w3) := HC
    obtain ⟨cb, cc, rfl, hcb, hcells⟩ := HC.form
    have zc : decide ((0 : Int) ≤ (z : Int)) = true := decide_eq_true (by omega)
    have zz : (0 : Int) ≤ (z : Int) := by omega
    have cl := sh_slices_Clone_int cb 0 cs.length cc cs w3 (Nat.le_refl _) (by have := LC.out; omega) (fun j hj => by rw [Nat.zero_add]; exact hcells j hj)
    rw [List.take_length] at cl
    clear hcells HC
    go_wp2_with fail
    refine cl.mono ?_
    rintro e w4 ⟨v', rfl, hown, hnn, hb4⟩
    have RW4 : Aside (Row w.heap.size v' cs w4) := ⟨own_lower hown B3.out.size, RW.out.pos⟩
    have B4 : Aside (Below w.heap.size w w4) := B3.out.trans (hb4.mono B3.out.size)
    clear hown hnn hb4 cl
    go_wp2
    first | (go_ret2; exact HQ.out _ _ ⟨⟨_, rfl, RW4.out⟩, B4.out⟩) | exact HQ.out _ _ ⟨⟨_, rfl, RW4.out⟩, B4.out⟩

end Go.Proofs.Ytfhccmegobbnaaa
