/- This text speaks of the parser of package regex as a box with a row of instructions of its own, and proves the walks of its small methods. Conditions: those that each theorem names. -/
import Derived.Test.YtfhccmegobbnaaaRegexA
import Derived.Deep.RegionLaw
import Derived.Deep.AppendLies
namespace Go.Proofs.Ytfhccmegobbnaaa
open Go.ChangeShapes Go.WideShapes Go.ChangeAt Go.RowKit
set_option linter.unusedVariables false
set_option linter.unusedSimpArgs false

theorem heap_later {w w' : World} {b : Nat} {o : Obj} (h : w.heap[b]? = some o) (hb : Below w.heap.size w w') : w'.heap[b]? = some o := (hb.block b (Array.getElem?_eq_some_iff.1 h).1).trans h
theorem cell_heap {w : World} {b : Nat} {c : Array Value} {T : TypeId} (h : w.heap[b]? = some (.cells c T (0, 0))) (i : Nat) (v : Value) (hv : c[i]? = some v) : w.cell? ⟨b, i, none⟩ = some v := by
  have lt := (Array.getElem?_eq_some_iff.1 h).1
  rw [holds_self h, cell?_holds, if_pos ⟨rfl, lt⟩]
  exact hv
theorem hh_eq {w : World} {b : Nat} {c : Array Value} {T : TypeId} (h : b < w.heap.size) : (holds w b c T).heap[b]? = some (.cells c T (0, 0)) := by
  rw [heap_holds, if_pos ⟨rfl, h⟩]
theorem hh_ne {w : World} {a b : Nat} {o : Obj} {c : Array Value} {T : TypeId} (hne : ¬ a = b) (h : w.heap[a]? = some o) : (holds w b c T).heap[a]? = some o := by
  rw [heap_holds, if_neg (fun e => hne e.1)]; exact h
theorem own_from {w w' : World} {B : Nat} {E : TypeId} {k : Nat} {v : Value} {n : Nat} {l : List Value} (h : w.ownsRow B E k v n l) (hb : Below w.heap.size w w') : w'.ownsRow B E k v n l := by
  obtain ⟨x, rfl⟩ := plus_of_below hb
  exact own_plus h

/-- The parser in block pb: the text, the position, the groups, the code, the place of an error; all that it keeps lies from block B on. -/
structure Par (s : ByteArray) (pb B at' g : Nat) (code : List In) (bad : Int) (w : World) : Prop where
  hB : B ≤ pb
  row : ∃ v, w.heap[pb]? = some (.cells #[.string s, .int .i64 (at' : Int), .int .i64 (g : Int), v, .int .i64 bad] 46 (0, 0)) ∧ w.ownsRow B 34 6 v code.length (flatE In.enc code)
theorem Par.later {s : ByteArray} {pb B at' g : Nat} {code : List In} {bad : Int} {w w' : World} (h : Par s pb B at' g code bad w) (hb : Below w.heap.size w w') : Par s pb B at' g code bad w' :=
  ⟨h.hB, let ⟨v, h1, h2⟩ := h.row; ⟨v, heap_later h1 hb, own_from h2 hb⟩⟩
theorem Par.size {s : ByteArray} {pb B at' g : Nat} {code : List In} {bad : Int} {w : World} (h : Par s pb B at' g code bad w) : pb < w.heap.size ∧ B ≤ w.heap.size := by
  obtain ⟨v, h1, _⟩ := h.row
  have := (Array.getElem?_eq_some_iff.1 h1).1
  exact ⟨this, by have := h.hB; omega⟩
/-- The same, with the code's slice named. -/
structure ParV (s : ByteArray) (pb B at' g : Nat) (code : List In) (bad : Int) (v : Value) (w : World) : Prop where
  hB : B ≤ pb
  hp : w.heap[pb]? = some (.cells #[.string s, .int .i64 (at' : Int), .int .i64 (g : Int), v, .int .i64 bad] 46 (0, 0))
  hr : w.ownsRow B 34 6 v code.length (flatE In.enc code)
theorem ParV.par {s : ByteArray} {pb B at' g : Nat} {code : List In} {bad : Int} {v : Value} {w : World} (h : ParV s pb B at' g code bad v w) : Par s pb B at' g code bad w := ⟨h.hB, v, h.hp, h.hr⟩
theorem Par.v {s : ByteArray} {pb B at' g : Nat} {code : List In} {bad : Int} {w : World} (h : Par s pb B at' g code bad w) : ∃ v, ParV s pb B at' g code bad v w := let ⟨v, h1, h2⟩ := h.row; ⟨v, h.hB, h1, h2⟩
theorem ParV.later {s : ByteArray} {pb B at' g : Nat} {code : List In} {bad : Int} {v : Value} {w w' : World} (h : ParV s pb B at' g code bad v w) (hb : Below w.heap.size w w') : ParV s pb B at' g code bad v w' := ⟨h.hB, heap_later h.hp hb, own_from h.hr hb⟩
theorem ParV.size {s : ByteArray} {pb B at' g : Nat} {code : List In} {bad : Int} {v : Value} {w : World} (h : ParV s pb B at' g code bad v w) : pb < w.heap.size ∧ B ≤ w.heap.size := h.par.size
theorem ParV.put {s : ByteArray} {pb B at' g : Nat} {code : List In} {bad : Int} {v : Value} {w : World} (h : ParV s pb B at' g code bad v w) (at2 g2 : Nat) (bad2 : Int) : ParV s pb B at2 g2 code bad2 v (holds w pb #[.string s, .int .i64 (at2 : Int), .int .i64 (g2 : Int), v, .int .i64 bad2] 46) :=
  ⟨h.hB, hh_eq (Array.getElem?_eq_some_iff.1 h.hp).1, own_holds h.hr (own_ne h.hr h.hp (by decide))⟩
theorem gtrans {a b c : World} {r : Option Nat} (h : a.grownBy b r) (k : b.grownBy c r) : a.grownBy c r := ⟨k.os.trans h.os, k.tape.trans h.tape, k.output.trans h.output, Nat.le_trans h.size k.size, fun i hi hr => (k.block i (Nat.lt_of_lt_of_le hi h.size) hr).trans (h.block i hi hr)⟩
theorem grefl (w : World) (r : Option Nat) : w.grownBy w r := ⟨rfl, rfl, rfl, Nat.le_refl _, fun _ _ _ => rfl⟩
theorem gholds (w : World) (pb : Nat) (c : Array Value) (T : TypeId) : w.grownBy (holds w pb c T) (some pb) :=
  ⟨rfl, rfl, rfl, by rw [size_holds]; exact Nat.le_refl _, fun k hk hr => by rw [heap_holds, if_neg (fun e => hr (by rw [e.1]))]⟩
theorem gbelow {B pb : Nat} {w w' : World} (h : w.grownBy w' (some pb)) (hB : B ≤ pb) (hs : pb < w.heap.size) : Below B w w' := (Below.refl _ _).grown h (by omega) (fun k hk => by cases hk; exact hB)
/-- Another code is written into the box. -/
theorem Par.code {s : ByteArray} {pb B at' g : Nat} {code : List In} {bad : Int} {w : World} {v v2 : Value} {n : Nat} {cs : List Value} (hB : B ≤ pb) (h1 : w.heap[pb]? = some (.cells #[.string s, .int .i64 (at' : Int), .int .i64 (g : Int), v, .int .i64 bad] 46 (0, 0))) (hn : code.length = n) (hc : flatE In.enc code = cs) (h2 : w.ownsRow B 34 6 v2 n cs) : Par s pb B at' g code bad (holds w pb #[.string s, .int .i64 (at' : Int), .int .i64 (g : Int), v2, .int .i64 bad] 46) := by
  subst hn hc
  exact ⟨hB, v2, hh_eq (Array.getElem?_eq_some_iff.1 h1).1, own_holds h2 (own_ne h2 h1 (by decide))⟩
/-- Other numbers are written into the box. -/
theorem Par.put {s : ByteArray} {pb B at' g : Nat} {code : List In} {bad : Int} {w : World} {v : Value} (hB : B ≤ pb) (h1 : w.heap[pb]? = some (.cells #[.string s, .int .i64 (at' : Int), .int .i64 (g : Int), v, .int .i64 bad] 46 (0, 0))) (h2 : w.ownsRow B 34 6 v code.length (flatE In.enc code)) (at2 g2 : Nat) (bad2 : Int) : Par s pb B at2 g2 code bad2 (holds w pb #[.string s, .int .i64 (at2 : Int), .int .i64 (g2 : Int), v, .int .i64 bad2] 46) :=
  ⟨hB, v, hh_eq (Array.getElem?_eq_some_iff.1 h1).1, own_holds h2 (own_ne h2 h1 (by decide))⟩

/-- The byte at a position, as peek returns it. -/
def pkB (s : ByteArray) (i : Nat) : Int := (s[i]!.toNat : Int)
set_option maxHeartbeats 4000000 in
theorem peek_end (s : ByteArray) (pb B at' g : Nat) (code : List In) (bad : Int) (w : World) (h : Par s pb B at' g code bad w) (he : s.size ≤ at') :
    Calls Try.prog 57 #[.pointer (some ⟨pb, 0, none⟩)] w fun e w' => e = .returned (.tuple #[.int .u8 0, .bool false]) ∧ Below w.heap.size w w' := by
  obtain ⟨hB, v, h1, h2⟩ := h
  have lt : pb < w.heap.size := (Array.getElem?_eq_some_iff.1 h1).1
  have b0 := cell_heap h1 0 _ rfl
  have b1 := cell_heap h1 1 _ rfl
  have b2 := cell_heap h1 2 _ rfl
  have b3 := cell_heap h1 3 _ rfl
  have b4 := cell_heap h1 4 _ rfl
  have hez : (s.size : Int) ≤ (at' : Int) := by omega
  have hed : decide ((s.size : Int) ≤ (at' : Int)) = true := decide_eq_true hez
  clear h1 h2 b2 b3 b4
  go_enter Try.func57, Try.ntmps57
  go_wp2
  refine wp_region_plus (by kernel_rfl) (by kernel_rfl) ?_
  repeat (go_big_quiet_step (first | fail))
  refine wpQuiet_nil ?_
  rintro _ ⟨x1, rfl⟩
  go_wp2
  go_ret2
  exact ⟨rfl, below_plus _ _⟩
set_option maxHeartbeats 4000000 in
theorem peek_here (s : ByteArray) (pb B at' g : Nat) (code : List In) (bad : Int) (w : World) (h : Par s pb B at' g code bad w) (he : at' < s.size) :
    Calls Try.prog 57 #[.pointer (some ⟨pb, 0, none⟩)] w fun e w' => e = .returned (.tuple #[.int .u8 (pkB s at'), .bool true]) ∧ Below w.heap.size w w' := by
  obtain ⟨hB, v, h1, h2⟩ := h
  have lt : pb < w.heap.size := (Array.getElem?_eq_some_iff.1 h1).1
  have b0 := cell_heap h1 0 _ rfl
  have b1 := cell_heap h1 1 _ rfl
  have b2 := cell_heap h1 2 _ rfl
  have b3 := cell_heap h1 3 _ rfl
  have b4 := cell_heap h1 4 _ rfl
  have hez : (at' : Int) < (s.size : Int) := by omega
  have hed : decide ((s.size : Int) ≤ (at' : Int)) = false := decide_eq_false (by omega)
  clear h1 h2 b2 b3 b4
  go_enter Try.func57, Try.ntmps57
  go_wp2
  refine wp_region_plus (by kernel_rfl) (by kernel_rfl) ?_
  repeat (go_big_quiet_step (first | fail))
  refine wpQuiet_nil ?_
  rintro _ ⟨x1, rfl⟩
  go_wp2
  refine wp_region_plus (by kernel_rfl) (by kernel_rfl) ?_
  repeat (go_big_quiet_step (first | fail))
  refine wpQuiet_nil ?_
  rintro _ ⟨x1, rfl⟩
  have ep : (s[at'].toNat : Int) = pkB s at' := by rw [pkB, getElem!_pos s at' he]
  go_wp2
  refine bodyPost_ret (v := .tuple #[.int .u8 (pkB s at'), .bool true]) (by simp [results, Try.results57, go_sem, ↓IntWalk.iteOmega, *]) rfl ⟨rfl, ?_⟩
  · exact (below_plus _ _).trans ((below_plus _ _).mono (below_plus _ _).size)
set_option maxHeartbeats 4000000 in
theorem next_no (s : ByteArray) (pb B at' g : Nat) (code : List In) (bad : Int) (c : Int) (w : World) (h : Par s pb B at' g code bad w) (hc : s.size ≤ at' ∨ pkB s at' ≠ c) :
    Calls Try.prog 38 #[.pointer (some ⟨pb, 0, none⟩), .int .u8 c] w fun e w' => e = .returned (.bool false) ∧ Below w.heap.size w w' := by
  by_cases he : s.size ≤ at'
  · have ck := peek_end s pb B at' g code bad w h he
    clear h hc
    go_enter Try.func38, Try.ntmps38
    go_wp2_with (go_at_call 57; (with_reducible refine ck.mono ?_); (rintro e w1 ⟨rfl, hb⟩); have HB : Aside (Below w.heap.size w w1) := hb; clear hb)
    go_ret
    exact ⟨rfl, HB.out⟩
  · have ck := peek_here s pb B at' g code bad w h (by omega)
    have hc := hc.resolve_left he
    have hcz : (pkB s at' != c) = true := bne_iff_ne.2 hc
    generalize pkB s at' = d at ck hcz
    clear h hc he
    go_enter Try.func38, Try.ntmps38
    go_wp2_with (go_at_call 57; (with_reducible refine ck.mono ?_); (rintro e w1 ⟨rfl, hb⟩); have HB : Aside (Below w.heap.size w w1) := hb; clear hb)
    go_ret
    exact ⟨rfl, HB.out⟩
set_option maxHeartbeats 4000000 in
theorem next_yes (s : ByteArray) (pb B at' g : Nat) (code : List In) (bad : Int) (v : Value) (c : Int) (w : World) (h : ParV s pb B at' g code bad v w) (hz : s.size ≤ 1000000) (he : at' < s.size) (hc : pkB s at' = c) :
    Calls Try.prog 38 #[.pointer (some ⟨pb, 0, none⟩), .int .u8 c] w fun e w' => e = .returned (.bool true) ∧ ParV s pb B (at' + 1) g code bad v w' ∧ w.grownBy w' (some pb) := by
  have ck := peek_here s pb B at' g code bad w h.par he
  have hcz : (c != c) = false := by simp
  rw [hc] at ck
  have HP : Aside (ParV s pb B at' g code bad v w) := h
  have hwr : IntKind.i64.wrap ((at' : Int) + 1) = (at' : Int) + 1 := by rw [IntKind.wrap_i64]; omega
  clear h hc
  go_enter Try.func38, Try.ntmps38
  go_wp2_with fail
  refine ck.mono ?_
  rintro e w1 ⟨rfl, hb⟩
  have hv := HP.out.later hb
  have h1 := hv.hp
  have HG : Aside (w.grownBy w1 (some pb)) := grownBy_of_below hb _
  have lt : pb < w1.heap.size := (Array.getElem?_eq_some_iff.1 h1).1
  have HPP : Aside (ParV s pb B (at' + 1) g code bad v (holds w1 pb #[.string s, .int .i64 ((at' + 1 : Nat) : Int), .int .i64 (g : Int), v, .int .i64 bad] 46)) := hv.put (at' + 1) g bad
  rw [holds_self h1]
  clear hb ck h1 HP hv
  go_wp2
  go_ret
  refine ⟨rfl, ?_, gtrans HG.out (gholds _ _ _ _)⟩
  simpa using HPP.out
set_option maxHeartbeats 4000000 in
theorem fail_calls (s : ByteArray) (pb B at' g : Nat) (code : List In) (bad : Int) (v : Value) (w : World) (h : ParV s pb B at' g code bad v w) :
    Calls Try.prog 70 #[.pointer (some ⟨pb, 0, none⟩)] w fun e w' => e = .returned (.bool false) ∧ ParV s pb B at' g code (at' : Int) v w' ∧ w.grownBy w' (some pb) := by
  have h1 := h.hp
  have lt : pb < w.heap.size := (Array.getElem?_eq_some_iff.1 h1).1
  have HPP : Aside (ParV s pb B at' g code (at' : Int) v (holds w pb #[.string s, .int .i64 (at' : Int), .int .i64 (g : Int), v, .int .i64 (at' : Int)] 46)) := h.put at' g (at' : Int)
  have H : ∀ W, W = holds w pb #[.string s, .int .i64 (at' : Int), .int .i64 (g : Int), v, .int .i64 bad] 46 → Calls Try.prog 70 #[.pointer (some ⟨pb, 0, none⟩)] W fun e w' => e = .returned (.bool false) ∧ ParV s pb B at' g code (at' : Int) v w' ∧ w.grownBy w' (some pb) := fun W hW => by
    subst hW
    clear h1 h
    go_enter Try.func70, Try.ntmps70
    go_wp2
    go_ret
    exact ⟨rfl, HPP.out, gholds _ _ _ _⟩
  exact H w (holds_self h1)
set_option maxHeartbeats 8000000 in
theorem emit_calls (s : ByteArray) (pb B at' g : Nat) (code : List In) (bad : Int) (y1 y2 : Int) (y3 : ByteArray) (y4 : Bool) (y5 y6 : Int) (w : World) (h : Par s pb B at' g code bad w) (hn : code.length ≤ 1000000) :
    Calls Try.prog 23 #[.pointer (some ⟨pb, 0, none⟩), .agg #[.int .i64 y1, .int .u8 y2, .string y3, .bool y4, .int .i64 y5, .int .i64 y6]] w fun e w' => e = .returned (.int .i64 (code.length : Int)) ∧ Par s pb B at' g (code ++ [⟨y1, y2, y3, y4, y5, y6⟩]) bad w' ∧ Below B w w' := by
  obtain ⟨i0, hi0, hz0, hs0, hb0⟩ := inInfo
  have HSZ := h.size
  obtain ⟨hB, v, h1, h2⟩ := h
  have lt : pb < w.heap.size := (Array.getElem?_eq_some_iff.1 h1).1
  have hne := own_ne h2 h1 (by decide)
  obtain ⟨n, hln⟩ : ∃ n, code.length = n := ⟨_, rfl⟩
  have HL : Aside (code.length = n) := hln
  rw [hln] at h2 hn ⊢
  obtain ⟨cs, hcs⟩ : ∃ cs, flatE In.enc code = cs := ⟨_, rfl⟩
  have HF : Aside (flatE In.enc code = cs) := hcs
  rw [hcs] at h2
  have hz : IntKind.i64.wrap (((n + 1 : Nat) : Int) - 1) = (n : Int) := by rw [IntKind.wrap_i64]; omega
  have hz2 : IntKind.i64.wrap ((n : Int) + 1 - 1) = (n : Int) := by rw [IntKind.wrap_i64]; omega
  have H1 : Aside (w.heap[pb]? = some (.cells #[.string s, .int .i64 (at' : Int), .int .i64 (g : Int), v, .int .i64 bad] 46 (0, 0))) := h1
  have H2 : Aside (w.ownsRow B 34 6 v n cs) := h2
  have HN : Aside (v.ownBlock ≠ some pb) := hne
  have b3 := cell_heap h1 3 _ rfl
  clear hln hcs h1 h2 hne
  go_enter Try.func23, Try.ntmps23
  go_wp2
  go_region_law (refine step_append_lies _ rfl _ _ 22 rfl B 34 i0 _ 6 56 Try.underlying22 hi0 hz0 hs0 hb0 rfl (by omega) v n cs (by simp [Act.eval, Act.put]) (own_alloc (own_alloc H2.out)) ⟨w.heap.size + 1, 0, none⟩ 1 1 [.int .i64 y1, .int .u8 y2, .string y3, .bool y4, .int .i64 y5, .int .i64 y6] (by simp [Act.eval, Act.put]) rfl (cells_new _ _ _ _ (by simp)) (in_one ⟨y1, y2, y3, y4, y5, y6⟩) (by omega) (by unfold maxLen; omega) (by omega) (by simp; omega) _ rfl ?_; intro gg cap w' hown' hgrow _ hgl; have hg1 : w'.heap[pb]? = some (.cells #[.string s, .int .i64 (at' : Int), .int .i64 (g : Int), v, .int .i64 bad] 46 (0, 0)) := (hgrow.block pb (by simp; omega) (fun e => HN.out e.symm)).trans (hp_old (hp_old H1.out)); have hg2 : Aside (Below B w w') := (((Below.refl _ _).alloc HSZ.2 _).alloc (by simp; omega) _).drew.grown hgrow (by simp; omega) (fun k hk => (H2.out.lt k hk).1); have hgo : Aside (w'.ownsRow B 34 6 (.slice (some ⟨gg, 0, none⟩) (n + 1) cap) (n + 1) (cs ++ [.int .i64 y1, .int .u8 y2, .string y3, .bool y4, .int .i64 y5, .int .i64 y6])) := hown'; have lt' : pb < w'.heap.size := (Array.getElem?_eq_some_iff.1 hg1).1; have HG1 : Aside (w'.heap[pb]? = some (.cells #[.string s, .int .i64 (at' : Int), .int .i64 (g : Int), v, .int .i64 bad] 46 (0, 0))) := hg1; rw [holds_self hg1]; clear hg1 hown' hgrow)
  all_goals go_wp2
  all_goals refine bodyPost_ret (v := .int .i64 (n : Int)) (by simp [results, Try.results23, go_sem, ↓IntWalk.iteOmega, *]) rfl ⟨rfl, Par.code hB HG1.out (by rw [List.length_append, HL.out]; rfl) (by rw [flatE_snoc, HF.out]; rfl) hgo.out, below_holds hg2.out hB _ _⟩

end Go.Proofs.Ytfhccmegobbnaaa
