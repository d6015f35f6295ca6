/- This text opens a group of descriptors that came in, and proves the walk of the statement FdsRight. Conditions: those that each theorem names. -/
import Derived.Test.YtbifanenoejjgaaFdsX
import Derived.Test.YtbifanenoejjgaaFdsZ
import Derived.Deep.RegionHeld3
namespace Go.Proofs.Ytbifanenoejjgaa
open Go.ChangeShapes Go.WideShapes Go.ChangeAt Go.RowKit
set_option linter.unusedVariables false
set_option linter.unusedSimpArgs false

theorem own : ownKnob Try.prog.godebug = none := by kernel_rfl
theorem laidOut : laidOutB Try.prog = true := by kernel_rfl
theorem intLeaves : leavesOf Try.prog 5 3 = some [some (some .i64)] := by kernel_rfl
theorem one_int {H : Type} {enc : TypeId × Value → H} {w : World} {base : Nat} {spare : Nat → Bool} {held : Bool} {fuel : Nat} {l : List Value} {x : DataW H × List MemPlace} (h : DataW.trod enc Try.prog w base spare held fuel 3 l = some x) : ∃ n, l = [.int .i64 n] := by
  have h1 := leaves_of_trod 5 _ _ intLeaves _ _ _ h
  obtain ⟨a, r1, e1, ⟨n1, rfl, _⟩, h2⟩ := leavesOk_cons h1
  have e2 := leavesOk_nil h2
  exact ⟨n1, by rw [e1, e2]⟩
theorem list2 (l : List Value) (h : l.length = 2) : l = l.take 1 ++ (l.drop 1).take 1 := by
  match l, h with
  | [a, b], _ => rfl
theorem fds_open {H : Type} {enc : TypeId × Value → H} {w : World} {base : Nat} {held : Bool} {v : Value} {d : DataW H} {ps : List MemPlace} (hk : ∃ cs, v = .agg cs)
    (h : DataW.Trod enc Try.prog w base (fun _ => true) held 24 v d ps) : ∃ id ao n cap xs, v = .agg #[.int .i64 id, .slice ao n cap] ∧ Sl w 9 ao n cap ((xs : List Fd).map Fd.enc) ∧ ∀ y ∈ xs, y.fit := by
  obtain ⟨cs, rfl⟩ := hk
  obtain ⟨fuel, hf⟩ := h
  obtain ⟨l⟩ := cs
  simp only [Value.cells] at hf
  have hc : Try.prog.cellsOf 24 = 2 := by kernel_rfl
  have hc1 : Try.prog.cellsOf 22 = 1 := by kernel_rfl
  have hc3 : Try.prog.cellsOf 3 = 1 := by kernel_rfl
  obtain ⟨hl, n0, y0, f0⟩ := trod_field Try.underlying24 hf 0 _ rfl
  obtain ⟨_, n1, y1, f1⟩ := trod_field Try.underlying24 hf 1 _ rfl
  have g0 : DataW.trod enc Try.prog w base (fun _ => true) held n0 3 (l.take 1) = some y0 := by rw [← hc3]; exact f0
  have g1 : DataW.trod enc Try.prog w base (fun _ => true) held n1 22 ((l.drop 1).take 1) = some y1 := by rw [← hc1]; exact f1
  rw [hc] at hl
  obtain ⟨id, e0⟩ := one_int g0
  obtain ⟨ao, n, cap, xs, e1, hsl, hlv⟩ := open_rows_l (k := 9) Try.underlying22 fdLeaves (by kernel_rfl) (by omega) g1
  obtain ⟨ys, rfl, hy⟩ := fds_of xs hlv
  refine ⟨id, ao, n, cap, ys, ?_, hsl, hy⟩
  have := list2 l hl
  rw [e0, e1] at this
  rw [this]
  rfl

theorem eq_self_fd (d1 : Int) (d2 : Int) (d3 : Int) (d4 : Int) (d5 : ByteArray) (d6 : ByteArray) (d7 : Int) (d8 : Int) (d9 : Int) (w : World) : (binOp .eql 30 (.agg #[.int .i64 d1, .int .i64 d2, .int .i64 d3, .int .i64 d4, .string d5, .string d6, .int .i64 d7, .int .i64 d8, .int .i64 d9]) (.agg #[.int .i64 d1, .int .i64 d2, .int .i64 d3, .int .i64 d4, .string d5, .string d6, .int .i64 d7, .int .i64 d8, .int .i64 d9])).run Try.prog w = .ok (.bool true) w := by
  rw [eq_fd, (eqF_iff _ _).2 rfl]

set_option maxHeartbeats 16000000 in
set_option maxRecDepth 100000 in
theorem lawRight_calls (id num i2 : Int) (ao : Option Addr) (n cap : Nat) (xs : List Fd) (w : World) (h : Sl w 9 ao n cap (xs.map Fd.enc)) (hft : ∀ y ∈ xs, y.fit) :
    Calls Try.prog 3 #[.agg #[.int .i64 id, .slice ao n cap], .int .i64 num, .int .i64 i2] w fun e w' => e = .returned (.bool true) ∧ Below w.heap.size w w' := by
  have hb0 : Below w.heap.size w (w.alloc (.cells #[.int .i64 id, .slice ao n cap] 24)) := by
    repeat (first | (with_reducible exact Below.refl _ _) | (with_reducible assumption) | (with_reducible refine below_to_plus ?_ ?_ _) | (with_reducible refine below_holds ?_ ?_ _ _) | (with_reducible refine Below.alloc ?_ ?_ _) | (with_reducible refine Below.drew ?_) | (with_reducible refine below_drewN ?_ _) | (with_reducible refine Below.setCell ?_ ?_ _))
    all_goals first | omega | (simp; done) | (simp [go_sem]; done) | (simp [go_sem]; omega)
  have HL : Aside (xs.length = n) := Sl.lenE h
  have hs0 := h.stays hb0
  have H : Aside (Sl w 9 ao n cap (xs.map Fd.enc)) := h
  have HB0 : Aside (Below w.heap.size w (w.alloc (.cells #[.int .i64 id, .slice ao n cap] 24))) := hb0
  have ca : ∀ U : World, _ := fun U => awake_calls U
  have c1 := small_calls id ao n cap xs (w.alloc (.cells #[.int .i64 id, .slice ao n cap] 24)) hs0 hft
  have c2 := fun x => rright_calls id ao n cap xs (plus (w.alloc (.cells #[.int .i64 id, .slice ao n cap] 24)) x) (hs0.stays (below_plus _ _)) hft
  have c3 := fun x => right_calls id ao n cap xs (plus (w.alloc (.cells #[.int .i64 id, .slice ao n cap] 24)) x) (hs0.stays (below_plus _ _)) hft
  have c3U : ∀ U, Below w.heap.size w U → Calls Try.prog 11 #[.agg #[.int .i64 id, .slice ao n cap]] U fun e w' => e = .returned (.bool (rightB id xs)) ∧ Below U.heap.size U w' := fun U hU => right_calls id ao n cap xs U (h.stays hU) hft
  clear h hb0
  cases hsm : smallB xs with
  | false =>
    rw [hsm] at c1
    clear hsm c2 c3 c3U hs0 hft
    go_enter Try.func3, Try.ntmps3
    go_wp2_with fail
    refine (c1).mono ?_
    rintro e w2 ⟨rfl, hb⟩
    obtain ⟨x1, rfl⟩ := plus_of_below hb
    clear hb
    clear c1
    go_wp2_with fail
    refine (ca _).mono ?_
    rintro e w2 ⟨rfl, hb⟩
    obtain ⟨x2, rfl⟩ := plus_next hb
    clear hb
    clear ca
    go_wp2
    go_ret
    refine ⟨rfl, ?_⟩
    repeat (first | (with_reducible exact Below.refl _ _) | (with_reducible assumption) | (with_reducible refine below_to_plus ?_ ?_ _) | (with_reducible refine below_holds ?_ ?_ _ _) | (with_reducible refine Below.alloc ?_ ?_ _) | (with_reducible refine Below.drew ?_) | (with_reducible refine below_drewN ?_ _) | (with_reducible refine Below.setCell ?_ ?_ _))
    all_goals first | omega | (simp; done) | (simp [go_sem]; done) | (simp [go_sem]; omega)
  | true =>
    have hlen : xs.length ≤ 70 := by
      unfold smallB at hsm
      rw [Bool.and_eq_true] at hsm
      exact of_decide_eq_true hsm.1
    rw [hsm] at c1
    cases hri : rightB id xs with
    | false =>
      rw [hri] at c2 c3
      clear hsm hri hs0 hft c3U
      go_enter Try.func3, Try.ntmps3
      go_wp2_with fail
      refine (c1).mono ?_
      rintro e w2 ⟨rfl, hb⟩
      obtain ⟨x1, rfl⟩ := plus_of_below hb
      clear hb
      clear c1
      go_wp2_with fail
      refine (c2 _).mono ?_
      rintro e w2 ⟨rfl, hb⟩
      obtain ⟨x2, rfl⟩ := plus_next hb
      clear hb
      clear c2
      go_wp2_with fail
      refine (c3 _).mono ?_
      rintro e w2 ⟨rfl, hb⟩
      obtain ⟨x3, rfl⟩ := plus_next hb
      clear hb
      clear c3
      go_wp2_with fail
      refine (ca _).mono ?_
      rintro e w2 ⟨rfl, hb⟩
      obtain ⟨x4, rfl⟩ := plus_next hb
      clear hb
      clear ca
      go_wp2
      go_ret
      refine ⟨rfl, ?_⟩
      repeat (first | (with_reducible exact Below.refl _ _) | (with_reducible assumption) | (with_reducible refine below_to_plus ?_ ?_ _) | (with_reducible refine below_holds ?_ ?_ _ _) | (with_reducible refine Below.alloc ?_ ?_ _) | (with_reducible refine Below.drew ?_) | (with_reducible refine below_drewN ?_ _) | (with_reducible refine Below.setCell ?_ ?_ _))
      all_goals first | omega | (simp; done) | (simp [go_sem]; done) | (simp [go_sem]; omega)
    | true =>
      rw [hri] at c2 c3U
      have c4 := fun x => Find_calls id num ao n cap xs (plus (w.alloc (.cells #[.int .i64 id, .slice ao n cap] 24)) x) (hs0.stays (below_plus _ _))
      have c5 : ∀ U, Below w.heap.size w U → Calls Try.prog 13 #[.agg #[.int .i64 id, .slice ao n cap], .int .i64 num] U fun e w' => e = .returned (.tuple #[Fd.val (findF num xs).1, .int .i64 (findF num xs).2]) ∧ Below U.heap.size U w' := fun U hU => rFind_calls id num ao n cap xs U (H.out.stays hU)
      generalize findF num xs = r at c4 c5
      obtain ⟨d, er⟩ := r
      obtain ⟨d1, d2, d3, d4, d5, d6, d7, d8, d9⟩ := d
      have c4 : ∀ x, Calls Try.prog 12 #[.agg #[.int .i64 id, .slice ao n cap], .int .i64 num] (plus (w.alloc (.cells #[.int .i64 id, .slice ao n cap] 24)) x) fun e w' => e = .returned (.tuple #[.agg #[.int .i64 d1, .int .i64 d2, .int .i64 d3, .int .i64 d4, .string d5, .string d6, .int .i64 d7, .int .i64 d8, .int .i64 d9], .int .i64 er]) ∧ Below (plus (w.alloc (.cells #[.int .i64 id, .slice ao n cap] 24)) x).heap.size (plus (w.alloc (.cells #[.int .i64 id, .slice ao n cap] 24)) x) w' := c4
      have c5 : ∀ U, Below w.heap.size w U → Calls Try.prog 13 #[.agg #[.int .i64 id, .slice ao n cap], .int .i64 num] U fun e w' => e = .returned (.tuple #[.agg #[.int .i64 d1, .int .i64 d2, .int .i64 d3, .int .i64 d4, .string d5, .string d6, .int .i64 d7, .int .i64 d8, .int .i64 d9], .int .i64 er]) ∧ Below U.heap.size U w' := c5
      have c6 : ∀ U, Below w.heap.size w U → Calls Try.prog 15 #[.agg #[.int .i64 id, .slice ao n cap], .int .i64 i2] U fun e w' => ∃ ao2 cap2, e = .returned (.agg #[.int .i64 i2, .slice ao2 n cap2]) ∧ Sl w' 9 ao2 n cap2 (xs.map Fd.enc) ∧ Below U.heap.size U w' := fun U hU => by
        refine (copy_calls id i2 ao n cap xs U (H.out.stays hU) (by have := HL.out; omega)).mono ?_
        rintro e w' ⟨ao2, cap2, he, ho, hb⟩
        rw [HL.out] at he ho
        obtain ⟨a9, c9, hv9, hsl9⟩ := ownE_sl fd_len (by omega) ho
        cases hv9
        exact ⟨_, _, he, hsl9, hb⟩
      have c7 := fun U => rCopy_calls id i2 ao n cap U
      have c8 : ∀ (bo : Option Addr) (c2 : Nat) U, Sl U 9 bo n c2 (xs.map Fd.enc) → Below w.heap.size w U → Calls Try.prog 14 #[.agg #[.int .i64 i2, .slice bo n c2], .agg #[.int .i64 i2, .slice ao n cap]] U fun e w' => e = .returned (.bool true) ∧ Below U.heap.size U w' := fun bo c2 U hs hU => by
        have := same_calls i2 i2 bo ao n c2 n cap xs xs U hs (H.out.stays hU)
        rwa [(same_iff i2 xs i2 xs).2 ⟨rfl, rfl⟩] at this
      have ne := fun w => eq_self_fd d1 d2 d3 d4 d5 d6 d7 d8 d9 w
      clear hsm hri hs0 hft c3 hlen
      go_enter Try.func3, Try.ntmps3
      go_wp2_with fail
      refine (c1).mono ?_
      rintro e w2 ⟨rfl, hb⟩
      obtain ⟨x1, rfl⟩ := plus_of_below hb
      clear hb
      clear c1
      go_wp2_with fail
      refine (c2 _).mono ?_
      rintro e w2 ⟨rfl, hb⟩
      obtain ⟨x2, rfl⟩ := plus_next hb
      clear hb
      clear c2
      go_wp2_with fail
      refine (c4 _).mono ?_
      rintro e w2 ⟨rfl, hb⟩
      obtain ⟨x3, rfl⟩ := plus_next hb
      clear hb
      clear c4
      go_wp2_with fail
      refine (c5 _ ?_).mono ?_
      · repeat (first | (with_reducible exact Below.refl _ _) | (with_reducible assumption) | (with_reducible refine below_to_plus ?_ ?_ _) | (with_reducible refine below_holds ?_ ?_ _ _) | (with_reducible refine Below.alloc ?_ ?_ _) | (with_reducible refine Below.drew ?_) | (with_reducible refine below_drewN ?_ _) | (with_reducible refine Below.setCell ?_ ?_ _))
        all_goals first | omega | (simp; done) | (simp [go_sem]; done) | (simp [go_sem]; omega)
      rintro e w2 ⟨rfl, hb⟩
      obtain ⟨x4, rfl⟩ := plus_of_below hb
      clear hb c5
      have HBM : Aside (Below w.heap.size w ((plus ((plus (w.alloc (.cells #[.int .i64 id, .slice ao n cap] 24)) x3).alloc (.cells #[.int .i64 d1, .int .i64 d2, .int .i64 d3, .int .i64 d4, .string d5, .string d6, .int .i64 d7, .int .i64 d8, .int .i64 d9] 30)) x4).alloc (.cells #[.int .i64 d1, .int .i64 d2, .int .i64 d3, .int .i64 d4, .string d5, .string d6, .int .i64 d7, .int .i64 d8, .int .i64 d9] 30))) := by
        show Below _ _ _
        repeat (first | (with_reducible exact Below.refl _ _) | (with_reducible assumption) | (with_reducible refine below_to_plus ?_ ?_ _) | (with_reducible refine below_holds ?_ ?_ _ _) | (with_reducible refine Below.alloc ?_ ?_ _) | (with_reducible refine Below.drew ?_) | (with_reducible refine below_drewN ?_ _) | (with_reducible refine Below.setCell ?_ ?_ _))
        all_goals first | omega | (simp; done) | (simp [go_sem]; done) | (simp [go_sem]; omega)
      go_wp2
      go_region_held3 (fun w3 => w3.cell? ⟨w.heap.size, 0, none⟩ = some (.int .i64 id) ∧ w3.cell? ⟨w.heap.size, 1, none⟩ = some (.slice ao n cap) ∧ w3.cell? ⟨w.heap.size + 1 + x3.heap.size, 0, none⟩ = some (.int .i64 d1) ∧ w3.cell? ⟨w.heap.size + 1 + x3.heap.size, 1, none⟩ = some (.int .i64 d2) ∧ w3.cell? ⟨w.heap.size + 1 + x3.heap.size, 2, none⟩ = some (.int .i64 d3) ∧ w3.cell? ⟨w.heap.size + 1 + x3.heap.size, 3, none⟩ = some (.int .i64 d4) ∧ w3.cell? ⟨w.heap.size + 1 + x3.heap.size, 4, none⟩ = some (.string d5) ∧ w3.cell? ⟨w.heap.size + 1 + x3.heap.size, 5, none⟩ = some (.string d6) ∧ w3.cell? ⟨w.heap.size + 1 + x3.heap.size, 6, none⟩ = some (.int .i64 d7) ∧ w3.cell? ⟨w.heap.size + 1 + x3.heap.size, 7, none⟩ = some (.int .i64 d8) ∧ w3.cell? ⟨w.heap.size + 1 + x3.heap.size, 8, none⟩ = some (.int .i64 d9) ∧ w3.cell? ⟨w.heap.size + 1 + x3.heap.size + 1 + x4.heap.size, 0, none⟩ = some (.int .i64 d1) ∧ w3.cell? ⟨w.heap.size + 1 + x3.heap.size + 1 + x4.heap.size, 1, none⟩ = some (.int .i64 d2) ∧ w3.cell? ⟨w.heap.size + 1 + x3.heap.size + 1 + x4.heap.size, 2, none⟩ = some (.int .i64 d3) ∧ w3.cell? ⟨w.heap.size + 1 + x3.heap.size + 1 + x4.heap.size, 3, none⟩ = some (.int .i64 d4) ∧ w3.cell? ⟨w.heap.size + 1 + x3.heap.size + 1 + x4.heap.size, 4, none⟩ = some (.string d5) ∧ w3.cell? ⟨w.heap.size + 1 + x3.heap.size + 1 + x4.heap.size, 5, none⟩ = some (.string d6) ∧ w3.cell? ⟨w.heap.size + 1 + x3.heap.size + 1 + x4.heap.size, 6, none⟩ = some (.int .i64 d7) ∧ w3.cell? ⟨w.heap.size + 1 + x3.heap.size + 1 + x4.heap.size, 7, none⟩ = some (.int .i64 d8) ∧ w3.cell? ⟨w.heap.size + 1 + x3.heap.size + 1 + x4.heap.size, 8, none⟩ = some (.int .i64 d9)) (first | (simp [go_sem, ↓IntWalk.iteOmega, size_plus]; done))
        ((first | (go_at_call 11; refine (c3U _ (by (repeat (first | (with_reducible exact Below.refl _ _) | (with_reducible assumption) | (with_reducible refine below_to_plus ?_ ?_ _) | (with_reducible refine below_holds ?_ ?_ _ _) | (with_reducible refine Below.alloc ?_ ?_ _) | (with_reducible refine Below.drew ?_) | (with_reducible refine below_drewN ?_ _) | (with_reducible refine Below.setCell ?_ ?_ _))); (all_goals first | omega | (simp; done) | (simp [go_sem]; done) | (simp [go_sem]; omega)))).mono ?_; rintro e w2 ⟨rfl, hb⟩; obtain ⟨x5, hx⟩ := plus_of_below hb; subst hx; clear hb) | (go_at_call 15; refine (c6 _ (by (repeat (first | (with_reducible exact Below.refl _ _) | (with_reducible assumption) | (with_reducible refine below_to_plus ?_ ?_ _) | (with_reducible refine below_holds ?_ ?_ _ _) | (with_reducible refine Below.alloc ?_ ?_ _) | (with_reducible refine Below.drew ?_) | (with_reducible refine below_drewN ?_ _) | (with_reducible refine Below.setCell ?_ ?_ _))); (all_goals first | omega | (simp; done) | (simp [go_sem]; done) | (simp [go_sem]; omega)))).mono ?_; rintro e w2 ⟨ao2, cap2, rfl, ho0, hb⟩; have HO : Aside (Sl w2 9 ao2 n cap2 (xs.map Fd.enc)) := ho0; clear ho0; obtain ⟨x6, hx⟩ := plus_next hb; subst hx; clear hb) | (go_at_call 16; refine (c7 _).mono ?_; rintro e w2 ⟨rfl, hb⟩; have HBC : Aside (Below _ _ _) := hb; obtain ⟨x7, hx⟩ := plus_next hb; subst hx; clear hb) | (go_at_call 14; refine (c8 _ _ _ (by first | exact HO.out | exact HO.out.stays HBC.out) (by (repeat (first | (with_reducible exact Below.refl _ _) | (with_reducible assumption) | (with_reducible refine below_to_plus ?_ ?_ _) | (with_reducible refine below_holds ?_ ?_ _ _) | (with_reducible refine Below.alloc ?_ ?_ _) | (with_reducible refine Below.drew ?_) | (with_reducible refine below_drewN ?_ _) | (with_reducible refine Below.setCell ?_ ?_ _))); (all_goals first | omega | (simp; done) | (simp [go_sem]; done) | (simp [go_sem]; omega)))).mono ?_; rintro e w2 ⟨rfl, hb⟩; obtain ⟨x8, hx⟩ := plus_next hb; subst hx; clear hb) | (go_at_call 9; refine (ca _).mono ?_; rintro e w2 ⟨rfl, hb⟩; obtain ⟨x9, hx⟩ := plus_next hb; subst hx; clear hb)))
      all_goals go_wp2
      all_goals go_ret
      all_goals refine ⟨rfl, ?_⟩
      all_goals repeat (first | (with_reducible exact Below.refl _ _) | (with_reducible assumption) | (with_reducible refine below_to_plus ?_ ?_ _) | (with_reducible refine below_holds ?_ ?_ _ _) | (with_reducible refine Below.alloc ?_ ?_ _) | (with_reducible refine Below.drew ?_) | (with_reducible refine below_drewN ?_ _) | (with_reducible refine Below.setCell ?_ ?_ _))
      all_goals first | omega | (simp; done) | (simp [go_sem]; done) | (simp [go_sem]; omega)

end Go.Proofs.Ytbifanenoejjgaa
