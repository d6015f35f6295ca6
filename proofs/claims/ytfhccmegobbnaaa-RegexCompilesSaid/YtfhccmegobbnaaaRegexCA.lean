/- This text speaks of the state of the reference's parser in memory, and proves the walks of emit, is and special of the reference. Conditions: those that each theorem names. -/
import Derived.Test.YtfhccmegobbnaaaRegexL
import Derived.Deep.AppendLies
namespace Go.Proofs.Ytfhccmegobbnaaa
open Go.ChangeShapes Go.WideShapes Go.ChangeAt Go.RowKit
set_option linter.unusedVariables false
set_option linter.unusedSimpArgs false

/-- The code in memory: a row of its own. -/
structure PS (w0 : World) (code : List In) (la : Option Addr) (n lc : Nat) (W : World) : Prop where
  hb : Below w0.heap.size w0 W
  row : W.ownsRow w0.heap.size 34 6 (.slice la n lc) n (flatE In.enc code)
  len : code.length = n
theorem PS.later {w0 : World} {code : List In} {la : Option Addr} {n lc : Nat} {W W' : World} (h : PS w0 code la n lc W) (hb : Below W.heap.size W W') : PS w0 code la n lc W' :=
  ⟨h.hb.trans (hb.mono h.hb.size), own_from h.row hb, h.len⟩
theorem PS.other {w0 : World} {code : List In} {la : Option Addr} {n lc : Nat} {W : World} (h : PS w0 code la n lc W) {b : Nat} {c c' : Array Value} {T : TypeId} (hb : W.heap[b]? = some (.cells c T (0, 0))) (hB : w0.heap.size ≤ b) (hT : T ≠ 34) : PS w0 code la n lc (holds W b c' T) :=
  ⟨below_holds h.hb hB _ _, own_holds h.row (own_ne h.row hb hT), h.len⟩
theorem PS.blk {w0 : World} {code : List In} {la : Option Addr} {n lc : Nat} {W : World} (h : PS w0 code la n lc W) {b : Nat} (hb : (Value.slice la n lc).ownBlock = some b) : w0.heap.size ≤ b ∧ b < W.heap.size := by
  obtain ⟨e, ⟨h0, _⟩ | ⟨g, cap, cur, hv, hg, hh, r⟩⟩ := h.row
  · rw [h0] at hb; cases hb
  · rw [hv] at hb
    have : g = b := Option.some.inj hb
    subst this
    exact ⟨hg, (Array.getElem?_eq_some_iff.1 hh).1⟩
/-- What a step of the parser may change: the code's row; and the new row is the old one or is new. -/
structure Kp (v v' : Value) (w w' : World) : Prop where
  os : w'.os = w.os
  tape : w'.tape = w.tape
  output : w'.output = w.output
  size : w.heap.size ≤ w'.heap.size
  block : ∀ b, b < w.heap.size → v.ownBlock ≠ some b → w'.heap[b]? = w.heap[b]?
  fresh : ∀ b, b < w.heap.size → v'.ownBlock = some b → v.ownBlock = some b
theorem Kp.refl (v : Value) (w : World) : Kp v v w w := ⟨rfl, rfl, rfl, Nat.le_refl _, fun _ _ _ => rfl, fun _ _ h => h⟩
theorem Kp.of_below {v : Value} {w w' : World} (h : Below w.heap.size w w') : Kp v v w w' := ⟨h.os, h.tape, h.output, h.size, fun b hb _ => h.block b hb, fun _ _ h => h⟩
theorem Kp.trans {l1 l2 l3 : Value} {a b c : World} (h : Kp l1 l2 a b) (k : Kp l2 l3 b c) : Kp l1 l3 a c :=
  ⟨k.os.trans h.os, k.tape.trans h.tape, k.output.trans h.output, Nat.le_trans h.size k.size,
   fun i hi h1 => (k.block i (Nat.lt_of_lt_of_le hi h.size) (fun e => h1 (h.fresh i hi e))).trans (h.block i hi h1),
   fun i hi e => h.fresh i hi (k.fresh i (Nat.lt_of_lt_of_le hi h.size) e)⟩
theorem Kp.other {v v' : Value} {w w' : World} (h : Kp v v' w w') {b : Nat} (hb : w.heap.size ≤ b) (c : Array Value) (T : TypeId) : Kp v v' w (holds w' b c T) :=
  ⟨h.os, h.tape, h.output, by rw [size_holds]; exact h.size, fun k hk h1 => by rw [heap_holds, if_neg (by omega)]; exact h.block k hk h1, h.fresh⟩
theorem Kp.hp {v v' : Value} {w w' : World} (h : Kp v v' w w') {b : Nat} {o : Obj} (hb : w.heap[b]? = some o) (h1 : v.ownBlock ≠ some b) : w'.heap[b]? = some o :=
  (h.block b (Array.getElem?_eq_some_iff.1 hb).1 h1).trans hb
theorem Kp.below {B : Nat} {v v' : Value} {w0 w w' : World} (h : Kp v v' w w') (hb : Below B w0 w) (h3 : ∀ b, v.ownBlock = some b → B ≤ b) (hB : B ≤ w.heap.size) : Below B w0 w' :=
  hb.trans ⟨h.os, h.tape, h.output, h.size, fun k hk => h.block k (by omega) (fun e => by have := h3 k e; omega)⟩
/-- A block of other cells of the first world stays. -/
theorem Kp.type {w0 : World} {code : List In} {la : Option Addr} {n lc : Nat} {v' : Value} {w w' : World} (h : Kp (.slice la n lc) v' w w') (p : PS w0 code la n lc w) {b : Nat} {c : Array Value} {T : TypeId} (hb : w.heap[b]? = some (.cells c T (0, 0))) (hT : T ≠ 34) : w'.heap[b]? = some (.cells c T (0, 0)) :=
  h.hp hb (own_ne p.row hb hT)

set_option maxRecDepth 20000 in
set_option maxHeartbeats 32000000 in
theorem remit_calls (w0 : World) (code : List In) (la : Option Addr) (n lc i g : Nat) (bad : Bool) (y1 y2 : Int) (y3 : ByteArray) (y4 : Bool) (y5 y6 : Int) (W : World) (h : PS w0 code la n lc W) (hn : n ≤ 100000) :
    Calls Try.prog 31 #[.agg #[.slice la n lc, .int .i64 (i : Int), .int .i64 (g : Int), .bool bad], .agg #[.int .i64 y1, .int .u8 y2, .string y3, .bool y4, .int .i64 y5, .int .i64 y6]] W fun e W' => ∃ la2 lc2, e = .returned (.agg #[.slice la2 (n + 1) lc2, .int .i64 (i : Int), .int .i64 (g : Int), .bool bad]) ∧ PS w0 (code ++ [⟨y1, y2, y3, y4, y5, y6⟩]) la2 (n + 1) lc2 W' ∧ Kp (.slice la n lc) (.slice la2 (n + 1) lc2) W W' := by
  obtain ⟨Q, hQ⟩ : ∃ Q : Ending → World → Prop, (fun e W' => ∃ la2 lc2, e = .returned (.agg #[.slice la2 (n + 1) lc2, .int .i64 (i : Int), .int .i64 (g : Int), .bool bad]) ∧ PS w0 (code ++ [⟨y1, y2, y3, y4, y5, y6⟩]) la2 (n + 1) lc2 W' ∧ Kp (.slice la n lc) (.slice la2 (n + 1) lc2) W W') = Q := ⟨_, rfl⟩
  rw [hQ]
  have HQ : Aside (∀ la2 lc2 W', PS w0 (code ++ [⟨y1, y2, y3, y4, y5, y6⟩]) la2 (n + 1) lc2 W' → Kp (.slice la n lc) (.slice la2 (n + 1) lc2) W W' → Q (.returned (.agg #[.slice la2 (n + 1) lc2, .int .i64 (i : Int), .int .i64 (g : Int), .bool bad])) W') := fun la2 lc2 W' h1 h2 => by rw [← hQ]; exact ⟨_, _, rfl, h1, h2⟩
  obtain ⟨i0, hi0, hz0, hs0, hb0⟩ := inInfo
  have HH : Aside (PS w0 code la n lc W) := h
  have WB : Aside (Below W.heap.size W ((((W.alloc (.cells #[.slice la n lc, .int .i64 (i : Int), .int .i64 (g : Int), .bool bad] 58)).alloc (.cells #[.int .i64 y1, .int .u8 y2, .string y3, .bool y4, .int .i64 y5, .int .i64 y6] 34)).alloc (.cells #[.slice none 0 0, .int .i64 0, .int .i64 0, .bool false] 58)).alloc (.cells #[.int .i64 y1, .int .u8 y2, .string y3, .bool y4, .int .i64 y5, .int .i64 y6] 34))) := by
    show Below _ _ _
    repeat (first | (with_reducible exact Below.refl _ _) | (with_reducible assumption) | (with_reducible refine below_to_plus ?_ ?_ _) | (with_reducible refine below_holds ?_ ?_ _ _) | (with_reducible refine Below.alloc ?_ ?_ _) | (with_reducible refine Below.drew ?_) | (with_reducible refine below_drewN ?_ _) | (with_reducible refine Below.setCell ?_ ?_ _))
    all_goals first | omega | (simp; done) | (simp [go_sem]; done) | (simp [go_sem]; omega)
  have HS0 : w0.heap.size ≤ W.heap.size := h.hb.size
  have R4 : Aside (((((W.alloc (.cells #[.slice la n lc, .int .i64 (i : Int), .int .i64 (g : Int), .bool bad] 58)).alloc (.cells #[.int .i64 y1, .int .u8 y2, .string y3, .bool y4, .int .i64 y5, .int .i64 y6] 34)).alloc (.cells #[.slice none 0 0, .int .i64 0, .int .i64 0, .bool false] 58)).alloc (.cells #[.int .i64 y1, .int .u8 y2, .string y3, .bool y4, .int .i64 y5, .int .i64 y6] 34)).ownsRow w0.heap.size 34 6 (.slice la n lc) n (flatE In.enc code)) := own_from h.row WB.out
  have NB : Aside (∀ b, W.heap.size ≤ b → (Value.slice la n lc).ownBlock ≠ some b) := fun b hb e => by have := (h.blk e).2; omega
  have X0 : Aside (((((W.alloc (.cells #[.slice la n lc, .int .i64 (i : Int), .int .i64 (g : Int), .bool bad] 58)).alloc (.cells #[.int .i64 y1, .int .u8 y2, .string y3, .bool y4, .int .i64 y5, .int .i64 y6] 34)).alloc (.cells #[.slice none 0 0, .int .i64 0, .int .i64 0, .bool false] 58)).alloc (.cells #[.int .i64 y1, .int .u8 y2, .string y3, .bool y4, .int .i64 y5, .int .i64 y6] 34)).heap[W.heap.size]? = some (.cells #[.slice la n lc, .int .i64 (i : Int), .int .i64 (g : Int), .bool bad] 58 (0, 0))) := hp_old (hp_old (hp_old (hp_new rfl)))
  have X2 : Aside (((((W.alloc (.cells #[.slice la n lc, .int .i64 (i : Int), .int .i64 (g : Int), .bool bad] 58)).alloc (.cells #[.int .i64 y1, .int .u8 y2, .string y3, .bool y4, .int .i64 y5, .int .i64 y6] 34)).alloc (.cells #[.slice none 0 0, .int .i64 0, .int .i64 0, .bool false] 58)).alloc (.cells #[.int .i64 y1, .int .u8 y2, .string y3, .bool y4, .int .i64 y5, .int .i64 y6] 34)).heap[(W.heap.size + 1 + 1)]? = some (.cells #[.slice none 0 0, .int .i64 0, .int .i64 0, .bool false] 58 (0, 0))) := hp_old (hp_new (by simp))
  have SW : Aside (((((W.alloc (.cells #[.slice la n lc, .int .i64 (i : Int), .int .i64 (g : Int), .bool bad] 58)).alloc (.cells #[.int .i64 y1, .int .u8 y2, .string y3, .bool y4, .int .i64 y5, .int .i64 y6] 34)).alloc (.cells #[.slice none 0 0, .int .i64 0, .int .i64 0, .bool false] 58)).alloc (.cells #[.int .i64 y1, .int .u8 y2, .string y3, .bool y4, .int .i64 y5, .int .i64 y6] 34)).heap.size = W.heap.size + 1 + 1 + 1 + 1) := by show _ = _; simp
  have ONE : Aside (∀ u ∈ ([.int .i64 y1, .int .u8 y2, .string y3, .bool y4, .int .i64 y5, .int .i64 y6] : List Value), u.oneCell' = true) := in_one ⟨y1, y2, y3, y4, y5, y6⟩
  clear hQ h
  go_enter Try.func31, Try.ntmps31
  go_wp2_with (at_builtin; refine wpList_append_lies _ rfl _ _ 22 rfl w0.heap.size 34 i0 _ 6 56 Try.underlying22 hi0 hz0 hs0 hb0 rfl (by omega) (.slice la n lc) n (flatE In.enc code) rfl R4.out ⟨(W.heap.size + 1 + 1 + 1), 0, none⟩ 1 1 [.int .i64 y1, .int .u8 y2, .string y3, .bool y4, .int .i64 y5, .int .i64 y6] rfl rfl (cells_new _ _ _ _ (by simp)) ONE.out (by omega) (by unfold maxLen; omega) (by omega) (by simp; omega) _ rfl ?_; intro gg cap2 w9 hown hgrow hat hlt; have hg0 : w9.heap[W.heap.size]? = some (.cells #[.slice la n lc, .int .i64 (i : Int), .int .i64 (g : Int), .bool bad] 58 (0, 0)) := (hgrow.block W.heap.size (by have := SW.out; omega) (fun e => NB.out W.heap.size (by omega) e.symm)).trans X0.out; have hg2 : w9.heap[(W.heap.size + 1 + 1)]? = some (.cells #[.slice none 0 0, .int .i64 0, .int .i64 0, .bool false] 58 (0, 0)) := (hgrow.block (W.heap.size + 1 + 1) (by have := SW.out; omega) (fun e => NB.out (W.heap.size + 1 + 1) (by omega) e.symm)).trans X2.out; have HG0 : Aside _ := hg0; have HG2 : Aside _ := hg2; have HGR : Aside _ := hgrow; have HOW : Aside _ := hown; have HAT : Aside _ := hat; have ltw0 : W.heap.size < w9.heap.size := (Array.getElem?_eq_some_iff.1 hg0).1; have ltw2 : (W.heap.size + 1 + 1) < w9.heap.size := (Array.getElem?_eq_some_iff.1 hg2).1; rw [holds_add (holds_self hg0) hg2]; clear hg0 hg2 hgrow hown hat)
  refine bodyPost_ret (v := .agg #[.slice (some ⟨gg, 0, none⟩) (n + 1) cap2, .int .i64 (i : Int), .int .i64 (g : Int), .bool bad]) (by simp [results, Try.results31, go_sem, ↓IntWalk.iteOmega, *]) rfl ?_
  have hK : Kp (.slice la n lc) (.slice (some ⟨gg, 0, none⟩) (n + 1) cap2) W w9 :=
    ⟨HGR.out.os.trans WB.out.os, HGR.out.tape.trans WB.out.tape, HGR.out.output.trans WB.out.output, Nat.le_trans WB.out.size HGR.out.size, fun b hb h1 => (HGR.out.block b (by have := SW.out; omega) (fun e => h1 e.symm)).trans (WB.out.block b hb), fun b hb e => by
      rcases HAT.out with h | h
      · rw [h]; exact e
      · have : gg = b := by simpa [Value.ownBlock] using e
        have := SW.out
        omega⟩
  have hP : PS w0 (code ++ [⟨y1, y2, y3, y4, y5, y6⟩]) (some ⟨gg, 0, none⟩) (n + 1) cap2 w9 :=
    ⟨hK.below HH.out.hb (fun b e => (HH.out.blk e).1) HS0, by rw [flatE_snoc]; exact HOW.out, by rw [List.length_append, HH.out.len]; rfl⟩
  exact HQ.out _ _ _ ((hP.other HG0.out (by omega) (by decide)).other (hh_ne (by omega) HG2.out) (by omega) (by decide)) ((hK.other (by omega) _ _).other (by omega) _ _)

/-- Is the next byte c, and was there no error? -/
def isF (s : ByteArray) (i : Nat) (bad : Bool) (c : UInt8) : Bool := !bad && isAt s i c
set_option maxRecDepth 20000 in
set_option maxHeartbeats 32000000 in
theorem ris_calls (s : ByteArray) (v : Option Addr) (n lc i g : Nat) (bad : Bool) (c : UInt8) (W : World) (hs : s.size ≤ 1000000) :
    Calls Try.prog 50 #[.string s, .agg #[.slice v n lc, .int .i64 (i : Int), .int .i64 (g : Int), .bool bad], .int .u8 (c.toNat : Int)] W fun e W' => e = .returned (.bool (isF s i bad c)) ∧ Below W.heap.size W W' := by
  cases bad with
  | true =>
    have e : isF s i true c = false := rfl
    rw [e]
    clear e
    go_enter Try.func50, Try.ntmps50
    go_wp2
    refine bodyPost_ret (v := .bool false) (by simp [results, Try.results50, go_sem, ↓IntWalk.iteOmega, *]) rfl ⟨rfl, Below.alloc (Below.refl _ _) (Nat.le_refl _) _⟩
  | false =>
  by_cases h1 : i < s.size
  rotate_left
  · have e : isF s i false c = false := by unfold isF isAt; rw [decide_eq_false h1]; rfl
    have d : decide ((i : Int) < (s.size : Int)) = false := decide_eq_false (by omega)
    have d2 : ¬ (i : Int) < (s.size : Int) := by omega
    rw [e]
    clear e h1
    go_enter Try.func50, Try.ntmps50
    go_wp2
    refine bodyPost_ret (v := .bool false) (by simp [results, Try.results50, go_sem, ↓IntWalk.iteOmega, *]) rfl ⟨rfl, Below.alloc (Below.refl _ _) (Nat.le_refl _) _⟩
  have d : decide ((i : Int) < (s.size : Int)) = true := decide_eq_true (by omega)
  have d2 : (i : Int) < (s.size : Int) := by omega
  obtain ⟨y, hy⟩ : ∃ y, s[i] = y := ⟨_, rfl⟩
  have hyb : s[i]! = y := by rw [getElem!_pos s i h1, hy]
  by_cases h2 : y = c
  · have e : isF s i false c = true := by unfold isF isAt; rw [decide_eq_true h1, hyb, decide_eq_true h2]; rfl
    have e2 : ((y.toNat : Int) == (c.toNat : Int)) = true := by rw [h2]; simp
    have e3 : decide ((y.toNat : Int) = (c.toNat : Int)) = true := by rw [h2]; simp
    rw [e]
    clear e h2 hyb
    go_enter Try.func50, Try.ntmps50
    go_wp2
    refine bodyPost_ret (v := .bool true) (by simp [results, Try.results50, go_sem, ↓IntWalk.iteOmega, *]) rfl ⟨rfl, Below.alloc (Below.refl _ _) (Nat.le_refl _) _⟩
  · have e : isF s i false c = false := by unfold isF isAt; rw [decide_eq_true h1, hyb, decide_eq_false h2]; rfl
    have hne : ¬ (y.toNat : Int) = (c.toNat : Int) := fun h => h2 ((u8_at c).1 h)
    have e2 : ((y.toNat : Int) == (c.toNat : Int)) = false := by rw [beq_eq_false_iff_ne]; exact hne
    have e3 : decide ((y.toNat : Int) = (c.toNat : Int)) = false := decide_eq_false hne
    rw [e]
    clear e h2 hyb hne
    go_enter Try.func50, Try.ntmps50
    go_wp2
    refine bodyPost_ret (v := .bool false) (by simp [results, Try.results50, go_sem, ↓IntWalk.iteOmega, *]) rfl ⟨rfl, Below.alloc (Below.refl _ _) (Nat.le_refl _) _⟩

end Go.Proofs.Ytfhccmegobbnaaa
