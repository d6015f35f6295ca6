/- This text opens a call and a list of calls that came in. It has no conditions. -/
import Derived.Test.YtcgajlobbjoefaaCacheZD
namespace Go.Proofs.Ytcgajlobbjoefaa
open Go.ChangeShapes Go.WideShapes Go.ChangeAt Go.RowKit
set_option linter.unusedVariables false
set_option linter.unusedSimpArgs false

structure Opc where
  kd : Int
  id : Int
  vers : Int
  pos : Int
  cnt : Int
  tm : Int
  data : ByteArray
instance : Inhabited Opc := ⟨⟨0, 0, 0, 0, 0, 0, .empty⟩⟩
def Opc.enc (x : Opc) : List Value := [.int .i64 x.kd, .int .i64 x.id, .int .i64 x.vers, .int .i64 x.pos, .int .i64 x.cnt, .int .i64 x.tm, .string x.data]
def Opc.val (x : Opc) : Value := .agg #[.int .i64 x.kd, .int .i64 x.id, .int .i64 x.vers, .int .i64 x.pos, .int .i64 x.cnt, .int .i64 x.tm, .string x.data]
theorem opc_len (x : Opc) : x.enc.length = 7 := rfl
theorem opc_one (x : Opc) : ∀ u ∈ x.enc, u.oneCell' = true := by
  intro u hu
  simp only [Opc.enc, List.mem_cons, List.not_mem_nil, or_false] at hu
  rcases hu with rfl | rfl | rfl | rfl | rfl | rfl | rfl <;> rfl
/-- The cells of a slice of these elements. -/
def CellsOpc (W : World) (ao : Option Addr) (ys : List Opc) : Prop := ∀ j, j < ys.length → ∃ b off, ao = some ⟨b, off, none⟩ ∧ b < W.heap.size ∧ W.cell? ⟨b, off + j * 7, none⟩ = some (.int .i64 ys[j]!.kd) ∧ W.cell? ⟨b, off + j * 7 + 1, none⟩ = some (.int .i64 ys[j]!.id) ∧ W.cell? ⟨b, off + j * 7 + 2, none⟩ = some (.int .i64 ys[j]!.vers) ∧ W.cell? ⟨b, off + j * 7 + 3, none⟩ = some (.int .i64 ys[j]!.pos) ∧ W.cell? ⟨b, off + j * 7 + 4, none⟩ = some (.int .i64 ys[j]!.cnt) ∧ W.cell? ⟨b, off + j * 7 + 5, none⟩ = some (.int .i64 ys[j]!.tm) ∧ W.cell? ⟨b, off + j * 7 + 6, none⟩ = some (.string ys[j]!.data)
theorem cellsOpc {W : World} {ao : Option Addr} {n cap : Nat} {ys : List Opc} (h : Sl W 7 ao n cap (ys.map Opc.enc)) : CellsOpc W ao ys := by
  intro j hj
  have hl := Sl.lenE h
  obtain ⟨b, off, rfl, hb, hc⟩ := h.here (by omega)
  have hx : (ys.map Opc.enc)[j]? = some ys[j]!.enc := by rw [List.getElem?_map, List.getElem?_eq_getElem hj, getElem!_pos ys j hj]; rfl
  exact ⟨b, off, rfl, hb, hc j _ hx 0 _ rfl, hc j _ hx 1 _ rfl, hc j _ hx 2 _ rfl, hc j _ hx 3 _ rfl, hc j _ hx 4 _ rfl, hc j _ hx 5 _ rfl, hc j _ hx 6 _ rfl⟩
theorem CellsOpc.later {W W' : World} {ao : Option Addr} {ys : List Opc} (h : CellsOpc W ao ys) (hb : Below W.heap.size W W') : CellsOpc W' ao ys := fun j hj => by
  obtain ⟨b, off, e, hlt, h0, h1, h2, h3, h4, h5, h6⟩ := h j hj
  exact ⟨b, off, e, Nat.lt_of_lt_of_le hlt hb.size, (hb.cell (p := ⟨b, off + j * 7, none⟩) hlt).trans h0, (hb.cell (p := ⟨b, off + j * 7 + 1, none⟩) hlt).trans h1, (hb.cell (p := ⟨b, off + j * 7 + 2, none⟩) hlt).trans h2, (hb.cell (p := ⟨b, off + j * 7 + 3, none⟩) hlt).trans h3, (hb.cell (p := ⟨b, off + j * 7 + 4, none⟩) hlt).trans h4, (hb.cell (p := ⟨b, off + j * 7 + 5, none⟩) hlt).trans h5, (hb.cell (p := ⟨b, off + j * 7 + 6, none⟩) hlt).trans h6⟩
theorem opcLeaves : leavesOf Try.prog 8 39 = some [some (some .i64), some (some .i64), some (some .i64), some (some .i64), some (some .i64), some (some .i64), some none] := by kernel_rfl
/-- What the leaves tell of an element: strings are no longer than an int says. -/
def Opc.fit (x : Opc) : Prop := x.data.size ≤ maxLen ∧ (Lit.int .i64 x.kd).wf = true ∧ (Lit.int .i64 x.id).wf = true ∧ (Lit.int .i64 x.vers).wf = true ∧ (Lit.int .i64 x.pos).wf = true ∧ (Lit.int .i64 x.cnt).wf = true ∧ (Lit.int .i64 x.tm).wf = true
theorem opc_cells (l : List Value) (h0 : leavesOk [some (some .i64), some (some .i64), some (some .i64), some (some .i64), some (some .i64), some (some .i64), some none] l) : ∃ y : Opc, l = y.enc ∧ y.fit := by
  obtain ⟨a0, r0, e0, ⟨v0, rfl, g0⟩, h1⟩ := leavesOk_cons h0
  obtain ⟨a1, r1, e1, ⟨v1, rfl, g1⟩, h2⟩ := leavesOk_cons h1
  obtain ⟨a2, r2, e2, ⟨v2, rfl, g2⟩, h3⟩ := leavesOk_cons h2
  obtain ⟨a3, r3, e3, ⟨v3, rfl, g3⟩, h4⟩ := leavesOk_cons h3
  obtain ⟨a4, r4, e4, ⟨v4, rfl, g4⟩, h5⟩ := leavesOk_cons h4
  obtain ⟨a5, r5, e5, ⟨v5, rfl, g5⟩, h6⟩ := leavesOk_cons h5
  obtain ⟨a6, r6, e6, ⟨v6, rfl, g6⟩, h7⟩ := leavesOk_cons h6
  have e7 := leavesOk_nil h7
  exact ⟨⟨v0, v1, v2, v3, v4, v5, v6⟩, by rw [e0, e1, e2, e3, e4, e5, e6, e7]; rfl, ⟨g6, g0, g1, g2, g3, g4, g5⟩⟩
theorem opcs_of : ∀ (xs : List (List Value)), (∀ x ∈ xs, leavesOk [some (some .i64), some (some .i64), some (some .i64), some (some .i64), some (some .i64), some (some .i64), some none] x) → ∃ ys : List Opc, xs = ys.map Opc.enc ∧ ∀ y ∈ ys, y.fit
  | [], _ => ⟨[], rfl, fun y h => by cases h⟩
  | x :: xs, h => by
    obtain ⟨y, rfl, hy⟩ := opc_cells x (h x (by simp))
    obtain ⟨ys, rfl, hys⟩ := opcs_of xs (fun z hz => h z (by simp [hz]))
    exact ⟨y :: ys, rfl, fun z hz => by
      rcases List.mem_cons.1 hz with e | hz'
      · rw [e]; exact hy
      · exact hys z hz'⟩
theorem opcInfo : ∃ i0 : TypeInfo, Try.prog.info? 39 = some i0 ∧ i0.zero = some (.agg #[.int .i64 0, .int .i64 0, .int .i64 0, .int .i64 0, .int .i64 0, .int .i64 0, .string ⟨#[]⟩]) ∧ i0.size = 7 ∧ i0.bytes = 64 := by
  have h : (Try.prog.info? 39).map (fun i => (i.zero, i.size, i.bytes)) = some (some (.agg #[.int .i64 0, .int .i64 0, .int .i64 0, .int .i64 0, .int .i64 0, .int .i64 0, .string ⟨#[]⟩]), 7, 64) := by kernel_rfl
  cases hi : Try.prog.info? 39 with
  | none => rw [hi] at h; cases h
  | some i0 =>
    rw [hi] at h
    simp only [Option.map_some, Option.some.injEq, Prod.mk.injEq] at h
    exact ⟨i0, rfl, h.1, h.2.1, h.2.2⟩


theorem op_open {H : Type} {enc : TypeId × Value → H} {w : World} {base : Nat} {spare : Nat → Bool} {held : Bool} {v : Value} {d : DataW H} {ps : List MemPlace} (hk : ∃ cs, v = .agg cs)
    (h : DataW.Trod enc Try.prog w base spare held 39 v d ps) : ∃ kd id vers at' cnt tm data, v = .agg #[.int .i64 kd, .int .i64 id, .int .i64 vers, .int .i64 at', .int .i64 cnt, .int .i64 tm, .string data] := by
  obtain ⟨⟨l⟩, rfl⟩ := hk
  obtain ⟨y, e, _⟩ := opc_cells l (leaves_of_Trod opcLeaves h)
  subst e
  exact ⟨y.kd, y.id, y.vers, y.pos, y.cnt, y.tm, y.data, rfl⟩

end Go.Proofs.Ytcgajlobbjoefaa
