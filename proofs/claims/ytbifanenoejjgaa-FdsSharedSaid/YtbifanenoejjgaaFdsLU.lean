/- This text proves the walk of the statement FdsUndo. Conditions: those that each theorem names. -/
import Derived.Test.YtbifanenoejjgaaFdsLC
namespace Go.Proofs.Ytbifanenoejjgaa
open Go.ChangeShapes Go.WideShapes Go.ChangeAt Go.RowKit
set_option linter.unusedVariables false
set_option linter.unusedSimpArgs false

theorem find_low {xs : List Fd} {i : Nat} (hi : i < lowF Fd.num xs) : (findF (i : Int) xs).2 = 0 := by
  have h1 := (lowF_spec Fd.num xs).1 i hi
  have h2 := (findI_keyAt (i : Int) xs).2 h1
  obtain ⟨k, _, _, _, e⟩ := findF_hit (num := (i : Int)) (xs := xs) (by omega)
  rw [e]
theorem findI_none {num : Int} {xs : List Fd} (h : ∀ x ∈ xs, x.num ≠ num) : findI num xs < 0 := by
  rcases findI_spec num xs with ⟨e, _⟩ | ⟨m, h1, _, h2, _⟩
  · omega
  · exact absurd h2 (h _ (mem_of_get h1))
/-- Close undoes an insertion. -/
theorem close_ins {id : Int} {xs : List Fd} {d : Fd} (h : RightP id (withL d xs)) (hn : ∀ x ∈ xs, x.num ≠ d.num) : closeF d.num (withL d xs) = (xs, d, !(xs.any fun y => decide (y.copy = d.copy)), 0) := by
  rw [← rclose_eq h]
  have hmem : d ∈ withL d xs := by rw [withL_eq, mem_insL]; exact .inl rfl
  have hf : ¬ findI d.num (withL d xs) < 0 := fun e => findI_neg e d hmem rfl
  obtain ⟨k, hk, e, e2, _⟩ := findF_hit hf
  have hd : (withL d xs)[k]! = d := by
    have := mem_of_get hk
    rw [withL_eq, mem_insL] at this
    rw [withL_eq] at e2 ⊢
    rcases this with h1 | h1
    · exact h1
    · exact absurd e2 (hn _ h1)
  have hfl : (withL d xs).filter (fun y => decide (y.num ≠ d.num)) = xs := by
    rw [withL_eq]
    exact ins_filter d _ (by simp) xs (fun x hx => by simpa using hn x hx)
  unfold rcloseF
  rw [if_neg hf, e]
  simp only [Int.toNat_natCast, hd, hfl]
theorem undo_facts1 {id : Int} {xs : List Fd} (h : RightP id xs) (dev ch fid : Int) (p nm : ByteArray) (mode num to off wh lg : Int)  :
    ((didF xs 1 dev ch fid p nm mode num to off wh lg).2.err ≠ 0 → (didF xs 1 dev ch fid p nm mode num to off wh lg).1 = xs ∧ (didF xs 1 dev ch fid p nm mode num to off wh lg).2.n = 0) ∧
    ((didF xs 1 dev ch fid p nm mode num to off wh lg).2.err = 0 → 0 ≤ (didF xs 1 dev ch fid p nm mode num to off wh lg).2.n ∧ (didF xs 1 dev ch fid p nm mode num to off wh lg).2.n < 64 ∧ findF (didF xs 1 dev ch fid p nm mode num to off wh lg).2.n xs = (default, 44) ∧
      ∃ d, closeF (didF xs 1 dev ch fid p nm mode num to off wh lg).2.n (didF xs 1 dev ch fid p nm mode num to off wh lg).1 = (xs, d, true, 0) ∧ d.num = (didF xs 1 dev ch fid p nm mode num to off wh lg).2.n ∧ ∀ i : Nat, (i : Int) < (didF xs 1 dev ch fid p nm mode num to off wh lg).2.n → (findF i xs).2 = 0) := by
  have hdid : didF xs 1 dev ch fid p nm mode num to off wh lg = ((addF xs dev ch fid p nm mode).1, { n := (addF xs dev ch fid p nm mode).2.1, fd := default, last := false, err := (addF xs dev ch fid p nm mode).2.2 }) := by unfold didF; rw [if_pos rfl]
  rw [hdid]
  have hr := add_right h dev ch fid p nm mode
  unfold addF at hr ⊢
  by_cases h1 : validB dev ch fid p nm = false
  · rw [if_pos h1]; exact ⟨fun _ => ⟨rfl, rfl⟩, fun e => by cases e⟩
  rw [if_neg h1] at hr ⊢
  by_cases h2 : mode < 0 ∨ 127 < mode
  · rw [if_pos h2]; exact ⟨fun _ => ⟨rfl, rfl⟩, fun e => by cases e⟩
  rw [if_neg h2] at hr ⊢
  by_cases h3 : 64 ≤ xs.length
  · rw [if_pos h3]; exact ⟨fun _ => ⟨rfl, rfl⟩, fun e => by cases e⟩
  rw [if_neg h3] at hr ⊢
  have hl := lowF_spec Fd.num xs
  have hc := keyAt_false (lowF_spec Fd.copy xs).2.1
  refine ⟨fun e => absurd rfl e, fun _ => ⟨?_, ?_, ?_, ⟨(lowF Fd.num xs : Nat), dev, ch, fid, p, nm, mode, 0, (lowF Fd.copy xs : Nat)⟩, (close_ins (d := ⟨(lowF Fd.num xs : Nat), dev, ch, fid, p, nm, mode, 0, (lowF Fd.copy xs : Nat)⟩) hr (keyAt_false hl.2.1)).trans ?_, rfl, fun i hi => find_low (by simp only at hi; omega)⟩⟩
  · show (0 : Int) ≤ (lowF Fd.num xs : Nat); omega
  · show ((lowF Fd.num xs : Nat) : Int) < 64; omega
  · exact findF_miss (findI_none (keyAt_false hl.2.1))
  · rw [show (xs.any fun y => decide (y.copy = ((lowF Fd.copy xs : Nat) : Int))) = false from by
      rw [List.any_eq_false]
      intro x hx
      simpa using hc x hx]
    rfl

theorem undo_facts2 {id : Int} {xs : List Fd} (h : RightP id xs) (dev ch fid : Int) (p nm : ByteArray) (mode num to off wh lg : Int) (hne : to ≠ num) :
    ((didF xs 2 dev ch fid p nm mode num to off wh lg).2.err ≠ 0 → (didF xs 2 dev ch fid p nm mode num to off wh lg).1 = xs ∧ (didF xs 2 dev ch fid p nm mode num to off wh lg).2.n = 0) ∧
    ((didF xs 2 dev ch fid p nm mode num to off wh lg).2.err = 0 → 0 ≤ (didF xs 2 dev ch fid p nm mode num to off wh lg).2.n ∧ (didF xs 2 dev ch fid p nm mode num to off wh lg).2.n < 64 ∧ findF (didF xs 2 dev ch fid p nm mode num to off wh lg).2.n xs = (default, 44) ∧
      ∃ d, closeF (didF xs 2 dev ch fid p nm mode num to off wh lg).2.n (didF xs 2 dev ch fid p nm mode num to off wh lg).1 = (xs, d, false, 0) ∧ d.num = (didF xs 2 dev ch fid p nm mode num to off wh lg).2.n ∧ ∀ i : Nat, (i : Int) < (didF xs 2 dev ch fid p nm mode num to off wh lg).2.n → to < 0 → (findF i xs).2 = 0) := by
  have hdid : didF xs 2 dev ch fid p nm mode num to off wh lg = ((dupF xs num to).1, { n := (dupF xs num to).2.1, fd := default, last := false, err := (dupF xs num to).2.2 }) := by unfold didF; rw [if_neg (by omega), if_pos rfl]
  rw [hdid]
  have hr := dup_right h num to
  have key : ∀ t : Int, ¬ (findF num xs).2 ≠ 0 → (∀ x ∈ xs, x.num ≠ t) → RightP id (withL { (findF num xs).1 with num := t } xs) → closeF t (withL { (findF num xs).1 with num := t } xs) = (xs, { (findF num xs).1 with num := t }, false, 0) := by
    intro t h1 h2 h3
    rw [close_ins (d := { (findF num xs).1 with num := t }) h3 h2]
    obtain ⟨k, hk, _, _, e⟩ := findF_hit (findF_err h1)
    rw [show (xs.any fun y => decide (y.copy = ({ (findF num xs).1 with num := t } : Fd).copy)) = true from by
      rw [List.any_eq_true]
      refine ⟨xs[k]!, mem_of_get hk, ?_⟩
      rw [e]
      simp]
    rfl
  unfold dupF at hr ⊢
  by_cases h1 : (findF num xs).2 ≠ 0
  · rw [if_pos h1]; exact ⟨fun _ => ⟨rfl, rfl⟩, fun e => absurd e h1⟩
  rw [if_neg h1] at hr ⊢
  by_cases h2 : to < -1 ∨ 63 < to
  · rw [if_pos h2]; exact ⟨fun _ => ⟨rfl, rfl⟩, fun e => by cases e⟩
  rw [if_neg h2] at hr ⊢
  rw [if_neg hne] at hr ⊢
  by_cases h4 : 0 ≤ findI to xs
  · rw [if_pos h4]; exact ⟨fun _ => ⟨rfl, rfl⟩, fun e => by cases e⟩
  rw [if_neg h4] at hr ⊢
  by_cases h5 : to = -1 ∧ 64 ≤ xs.length
  · rw [if_pos h5]; exact ⟨fun _ => ⟨rfl, rfl⟩, fun e => by cases e⟩
  rw [if_neg h5] at hr ⊢
  by_cases h6 : to = -1
  · rw [if_pos h6] at hr ⊢
    have h7 : ¬ 64 ≤ xs.length := fun e => h5 ⟨h6, e⟩
    have hl := lowF_spec Fd.num xs
    refine ⟨fun e => absurd rfl e, fun _ => ⟨?_, ?_, ?_, { (findF num xs).1 with num := ((lowF Fd.num xs : Nat) : Int) }, key _ h1 (keyAt_false hl.2.1) hr, rfl, fun i hi _ => find_low (by simp only at hi; omega)⟩⟩
    · show (0 : Int) ≤ (lowF Fd.num xs : Nat); omega
    · show ((lowF Fd.num xs : Nat) : Int) < 64; omega
    · exact findF_miss (findI_none (keyAt_false hl.2.1))
  · rw [if_neg h6] at hr ⊢
    have hnn := findI_neg (num := to) (xs := xs) (by omega)
    refine ⟨fun e => absurd rfl e, fun _ => ⟨?_, ?_, ?_, { (findF num xs).1 with num := to }, key _ h1 hnn hr, rfl, fun i hi hto => by omega⟩⟩
    · show 0 ≤ to; omega
    · show to < 64; omega
    · exact findF_miss (findI_none hnn)

set_option maxHeartbeats 16000000 in
set_option maxRecDepth 100000 in
theorem lawUndo_main1 (id : Int) (dev ch fid : Int) (p nm : ByteArray) (mode num to off wh lg : Int) (ao : Option Addr) (n cap : Nat) (xs : List Fd) (w : World) (h : Sl w 9 ao n cap (xs.map Fd.enc)) (hft : ∀ y ∈ xs, y.fit) (hp : p.size ≤ maxLen) (hnm : nm.size ≤ maxLen) (ho : -9223372036854775808 ≤ off ∧ off ≤ 9223372036854775807) (hlg : lg ≤ 9223372036854775807) (hsm : smallB xs = true) (hbr : briefB dev ch fid p nm = true) (hri : rightB id xs = true)  :
    Calls Try.prog 7 #[.agg #[.int .i64 id, .slice ao n cap], .agg #[.int .i64 1, .int .i64 dev, .int .i64 ch, .int .i64 fid, .string p, .string nm, .int .i64 mode, .int .i64 num, .int .i64 to, .int .i64 off, .int .i64 wh, .int .i64 lg]] w fun e w' => e = .returned (.bool true) ∧ Below w.heap.size w w' := by
  have HL : Aside (xs.length = n) := Sl.lenE h
  have hb0 : Below w.heap.size w ((w.alloc (.cells #[.int .i64 id, .slice ao n cap] 24)).alloc (.cells #[.int .i64 1, .int .i64 dev, .int .i64 ch, .int .i64 fid, .string p, .string nm, .int .i64 mode, .int .i64 num, .int .i64 to, .int .i64 off, .int .i64 wh, .int .i64 lg] 38)) := by
    repeat (first | (with_reducible exact Below.refl _ _) | (with_reducible assumption) | (with_reducible refine below_to_plus ?_ ?_ _) | (with_reducible refine below_holds ?_ ?_ _ _) | (with_reducible refine Below.alloc ?_ ?_ _) | (with_reducible refine Below.drew ?_) | (with_reducible refine below_drewN ?_ _) | (with_reducible refine Below.setCell ?_ ?_ _))
    all_goals first | omega | (simp; done) | (simp [go_sem]; done) | (simp [go_sem]; omega)
  have hs0 := h.stays hb0
  have H : Aside (Sl w 9 ao n cap (xs.map Fd.enc)) := h
  have c1 := small_calls id ao n cap xs ((w.alloc (.cells #[.int .i64 id, .slice ao n cap] 24)).alloc (.cells #[.int .i64 1, .int .i64 dev, .int .i64 ch, .int .i64 fid, .string p, .string nm, .int .i64 mode, .int .i64 num, .int .i64 to, .int .i64 off, .int .i64 wh, .int .i64 lg] 38)) hs0 hft
  have cb := fun U => brief_calls dev ch fid p nm U hp hnm
  have c2 := fun x => rright_calls id ao n cap xs (plus ((w.alloc (.cells #[.int .i64 id, .slice ao n cap] 24)).alloc (.cells #[.int .i64 1, .int .i64 dev, .int .i64 ch, .int .i64 fid, .string p, .string nm, .int .i64 mode, .int .i64 num, .int .i64 to, .int .i64 off, .int .i64 wh, .int .i64 lg] 38)) x) (hs0.stays (below_plus _ _)) hft
  rw [hsm] at c1
  rw [hbr] at cb
  rw [hri] at c2
  have HR := (rightB_iff id xs).1 hri
  have c3 := fun x => did_calls id 1 dev ch fid p nm mode num to off wh lg ao n cap xs (plus ((w.alloc (.cells #[.int .i64 id, .slice ao n cap] 24)).alloc (.cells #[.int .i64 1, .int .i64 dev, .int .i64 ch, .int .i64 fid, .string p, .string nm, .int .i64 mode, .int .i64 num, .int .i64 to, .int .i64 off, .int .i64 wh, .int .i64 lg] 38)) x) (hs0.stays (below_plus _ _)) hri hp hnm ho hlg
  have HU := undo_facts1 HR dev ch fid p nm mode num to off wh lg 
  have c4 : ∀ (i : Int) U, Below w.heap.size w U → Calls Try.prog 12 #[.agg #[.int .i64 id, .slice ao n cap], .int .i64 i] U fun e w' => e = .returned (.tuple #[Fd.val (findF i xs).1, .int .i64 (findF i xs).2]) ∧ Below U.heap.size U w' := fun i U hU => Find_calls id i ao n cap xs U (h.stays hU)
  have hzr := did_right HR 1 dev ch fid p nm mode num to off wh lg
  generalize didF xs 1 dev ch fid p nm mode num to off wh lg = r at c3 HU hzr
  obtain ⟨zs, o⟩ := r
  obtain ⟨o1, fo, o3, o4⟩ := o
  obtain ⟨g1, g2, g3, g4, g5, g6, g7, g8, g9⟩ := fo
  have hzl : zs.length ≤ 64 := asc_len hzr
  have c3 : ∀ x, Calls Try.prog 18 #[.agg #[.int .i64 id, .slice ao n cap], .agg #[.int .i64 1, .int .i64 dev, .int .i64 ch, .int .i64 fid, .string p, .string nm, .int .i64 mode, .int .i64 num, .int .i64 to, .int .i64 off, .int .i64 wh, .int .i64 lg]] (plus ((w.alloc (.cells #[.int .i64 id, .slice ao n cap] 24)).alloc (.cells #[.int .i64 1, .int .i64 dev, .int .i64 ch, .int .i64 fid, .string p, .string nm, .int .i64 mode, .int .i64 num, .int .i64 to, .int .i64 off, .int .i64 wh, .int .i64 lg] 38)) x) fun e w' => DidP (plus ((w.alloc (.cells #[.int .i64 id, .slice ao n cap] 24)).alloc (.cells #[.int .i64 1, .int .i64 dev, .int .i64 ch, .int .i64 fid, .string p, .string nm, .int .i64 mode, .int .i64 num, .int .i64 to, .int .i64 off, .int .i64 wh, .int .i64 lg] 38)) x) id ao cap xs zs (.agg #[.int .i64 o1, .int .i64 g1, .int .i64 g2, .int .i64 g3, .int .i64 g4, .string g5, .string g6, .int .i64 g7, .int .i64 g8, .int .i64 g9, .bool o3, .int .i64 o4]) e w' := c3
  obtain ⟨hu1, hu2⟩ := HU
  simp only at hu1 hu2
  skip
  clear hsm hbr hri hs0 hft h hb0 hp hnm ho hlg HR hzr 
  go_enter Try.func7, Try.ntmps7
  go_wp2_with fail
  refine (c1).mono ?_
  rintro e w2 ⟨rfl, hb⟩
  obtain ⟨x1, rfl⟩ := plus_of_below hb
  clear hb
  clear c1
  go_wp2_with fail
  refine (cb _).mono ?_
  rintro e w2 ⟨rfl, hb⟩
  obtain ⟨x2, rfl⟩ := plus_next hb
  clear hb
  clear cb
  go_wp2_with fail
  refine (c2 _).mono ?_
  rintro e w2 ⟨rfl, hb⟩
  obtain ⟨x3, rfl⟩ := plus_next hb
  clear hb
  clear c2
  go_wp2_with fail
  refine (c3 _).mono ?_
  rintro e w2 ⟨a1, c1, rfl, hrow, hb⟩
  have hsl := hrow.sl ((H.out.stays (show Below w.heap.size w (plus ((w.alloc (.cells #[.int .i64 id, .slice ao n cap] 24)).alloc (.cells #[.int .i64 1, .int .i64 dev, .int .i64 ch, .int .i64 fid, .string p, .string nm, .int .i64 mode, .int .i64 num, .int .i64 to, .int .i64 off, .int .i64 wh, .int .i64 lg] 38)) x3) by
    repeat (first | (with_reducible exact Below.refl _ _) | (with_reducible assumption) | (with_reducible refine below_to_plus ?_ ?_ _) | (with_reducible refine below_holds ?_ ?_ _ _) | (with_reducible refine Below.alloc ?_ ?_ _) | (with_reducible refine Below.drew ?_) | (with_reducible refine below_drewN ?_ _) | (with_reducible refine Below.setCell ?_ ?_ _))
    all_goals first | omega | (simp; done) | (simp [go_sem]; done) | (simp [go_sem]; omega)))) hb
  have HS1 : Aside (Sl w2 9 a1 zs.length c1 (zs.map Fd.enc)) := hsl
  obtain ⟨x4, rfl⟩ := plus_next hb
  clear hb hrow hsl c3
  by_cases he : o4 = 0
  · obtain ⟨hn1, hn2, hfi, d, hcl, hdn, hlow⟩ := hu2 he
    subst he
    have HLOW : Aside (∀ i : Nat, (i : Int) < o1 → True → (findF i xs).2 = 0) := fun i hi _ => hlow i hi
    have HCL : Aside (closeF o1 zs = (xs, d, true, 0)) := hcl
    have HFI : Aside (findF o1 xs = (default, 44)) := hfi
    have HDN : Aside (d.num = o1) := hdn
    clear hu1 hu2 hlow hcl hfi hdn
    obtain ⟨m, rfl⟩ : ∃ m : Nat, o1 = (m : Int) := ⟨o1.toNat, by omega⟩
    have hm64 : m < 64 := by omega
    clear hn1 hn2
    go_wp2
    go_loopg [7] m (fun g s7 wr => ∃ (i : Nat) (y : World), s7 = .int .i64 (i : Int) ∧ wr = plus (((plus ((w.alloc (.cells #[.int .i64 id, .slice ao n cap] 24)).alloc (.cells #[.int .i64 1, .int .i64 dev, .int .i64 ch, .int .i64 fid, .string p, .string nm, .int .i64 mode, .int .i64 num, .int .i64 to, .int .i64 off, .int .i64 wh, .int .i64 lg] 38)) x4).alloc (.cells #[.int .i64 id, .slice a1 zs.length c1] 24)).alloc (.cells #[.int .i64 (m : Int), .int .i64 g1, .int .i64 g2, .int .i64 g3, .int .i64 g4, .string g5, .string g6, .int .i64 g7, .int .i64 g8, .int .i64 g9, .bool o3, .int .i64 0] 41)) y ∧ g + i = m)
    case atStart => exact ⟨0, _, rfl, plus_self _, by omega⟩
    case round =>
      obtain ⟨i, y, rfl, rfl, hk⟩ := hrel
      by_cases hi : i < m
      · have hiz : (i : Int) < (m : Int) := by omega
        have hi100 : (i : Int) < 100 := by omega
        have c5 := c4 (i : Int)
        have HLI := HLOW.out i hiz
        generalize findF (i : Int) xs = r2 at c5 HLI
        obtain ⟨d2, q2⟩ := r2
        obtain ⟨e1, e2, e3, e4, e5, e6, e7, e8, e9⟩ := d2
        have c5 : ∀ U, Below w.heap.size w U → Calls Try.prog 12 #[.agg #[.int .i64 id, .slice ao n cap], .int .i64 i] U fun e w' => e = .returned (.tuple #[.agg #[.int .i64 e1, .int .i64 e2, .int .i64 e3, .int .i64 e4, .string e5, .string e6, .int .i64 e7, .int .i64 e8, .int .i64 e9], .int .i64 q2]) ∧ Below U.heap.size U w' := c5
        simp only at HLI
        have HX : Aside (Below w.heap.size w (plus (((plus ((w.alloc (.cells #[.int .i64 id, .slice ao n cap] 24)).alloc (.cells #[.int .i64 1, .int .i64 dev, .int .i64 ch, .int .i64 fid, .string p, .string nm, .int .i64 mode, .int .i64 num, .int .i64 to, .int .i64 off, .int .i64 wh, .int .i64 lg] 38)) x4).alloc (.cells #[.int .i64 id, .slice a1 zs.length c1] 24)).alloc (.cells #[.int .i64 (m : Int), .int .i64 g1, .int .i64 g2, .int .i64 g3, .int .i64 g4, .string g5, .string g6, .int .i64 g7, .int .i64 g8, .int .i64 g9, .bool o3, .int .i64 0] 41)) y)) := by
          show Below _ _ _
          repeat (first | (with_reducible exact Below.refl _ _) | (with_reducible assumption) | (with_reducible refine below_to_plus ?_ ?_ _) | (with_reducible refine below_holds ?_ ?_ _ _) | (with_reducible refine Below.alloc ?_ ?_ _) | (with_reducible refine Below.drew ?_) | (with_reducible refine below_drewN ?_ _) | (with_reducible refine Below.setCell ?_ ?_ _))
          all_goals first | omega | (simp; done) | (simp [go_sem]; done) | (simp [go_sem]; omega)
        clear c4 HLOW HCL HFI HDN HS1 H
        have e0 : q2 = 0 := by first | exact HLI trivial | exact HLI
        subst e0
        clear HLI
        go_wp2_with fail
        refine (c5 _ HX.out).mono ?_
        rintro e w2 ⟨rfl, hb⟩
        obtain ⟨y2, rfl⟩ := plus_next hb
        clear hb c5
        go_wp2
        go_roundg (gk - 1)
        case measure => omega
        case rel =>
          obtain ⟨z5, hz5⟩ := plus_of_below (show Below (((plus ((w.alloc (.cells #[.int .i64 id, .slice ao n cap] 24)).alloc (.cells #[.int .i64 1, .int .i64 dev, .int .i64 ch, .int .i64 fid, .string p, .string nm, .int .i64 mode, .int .i64 num, .int .i64 to, .int .i64 off, .int .i64 wh, .int .i64 lg] 38)) x4).alloc (.cells #[.int .i64 id, .slice a1 zs.length c1] 24)).alloc (.cells #[.int .i64 (m : Int), .int .i64 g1, .int .i64 g2, .int .i64 g3, .int .i64 g4, .string g5, .string g6, .int .i64 g7, .int .i64 g8, .int .i64 g9, .bool o3, .int .i64 0] 41)).heap.size (((plus ((w.alloc (.cells #[.int .i64 id, .slice ao n cap] 24)).alloc (.cells #[.int .i64 1, .int .i64 dev, .int .i64 ch, .int .i64 fid, .string p, .string nm, .int .i64 mode, .int .i64 num, .int .i64 to, .int .i64 off, .int .i64 wh, .int .i64 lg] 38)) x4).alloc (.cells #[.int .i64 id, .slice a1 zs.length c1] 24)).alloc (.cells #[.int .i64 (m : Int), .int .i64 g1, .int .i64 g2, .int .i64 g3, .int .i64 g4, .string g5, .string g6, .int .i64 g7, .int .i64 g8, .int .i64 g9, .bool o3, .int .i64 0] 41)) ((plus (((plus ((w.alloc (.cells #[.int .i64 id, .slice ao n cap] 24)).alloc (.cells #[.int .i64 1, .int .i64 dev, .int .i64 ch, .int .i64 fid, .string p, .string nm, .int .i64 mode, .int .i64 num, .int .i64 to, .int .i64 off, .int .i64 wh, .int .i64 lg] 38)) x4).alloc (.cells #[.int .i64 id, .slice a1 zs.length c1] 24)).alloc (.cells #[.int .i64 (m : Int), .int .i64 g1, .int .i64 g2, .int .i64 g3, .int .i64 g4, .string g5, .string g6, .int .i64 g7, .int .i64 g8, .int .i64 g9, .bool o3, .int .i64 0] 41)) y2).alloc (.cells #[.int .i64 e1, .int .i64 e2, .int .i64 e3, .int .i64 e4, .string e5, .string e6, .int .i64 e7, .int .i64 e8, .int .i64 e9] 30)) from by
            repeat (first | (with_reducible exact Below.refl _ _) | (with_reducible assumption) | (with_reducible refine below_to_plus ?_ ?_ _) | (with_reducible refine below_holds ?_ ?_ _ _) | (with_reducible refine Below.alloc ?_ ?_ _) | (with_reducible refine Below.drew ?_) | (with_reducible refine below_drewN ?_ _) | (with_reducible refine Below.setCell ?_ ?_ _))
            all_goals first | omega | (simp; done) | (simp [go_sem]; done) | (simp [go_sem]; omega))
          exact ⟨i + 1, z5, by simp, hz5, by omega⟩
      · have hiz : ¬ (i : Int) < (m : Int) := by omega
        obtain rfl : i = m := by omega
        have c6 := c4 (i : Int)
        rw [HFI.out] at c6
        have c6 : ∀ U, Below w.heap.size w U → Calls Try.prog 12 #[.agg #[.int .i64 id, .slice ao n cap], .int .i64 i] U fun e w' => e = .returned (.tuple #[.agg #[.int .i64 0, .int .i64 0, .int .i64 0, .int .i64 0, .string ⟨#[]⟩, .string ⟨#[]⟩, .int .i64 0, .int .i64 0, .int .i64 0], .int .i64 44]) ∧ Below U.heap.size U w' := c6
        have c7 : ∀ U, Below w.heap.size w U → Sl U 9 a1 zs.length c1 (zs.map Fd.enc) → Calls Try.prog 23 #[.agg #[.int .i64 id, .slice a1 zs.length c1], .int .i64 i] U fun e w' => ClosePost U id (xs, d, true, 0) e w' := fun U _ hU => by
          have := close_calls id (i : Int) a1 zs.length c1 zs U hU (by omega)
          rwa [HCL.out] at this
        have HDN2 := HDN.out
        obtain ⟨e1, e2, e3, e4, e5, e6, e7, e8, e9⟩ := d
        simp only at HDN2
        subst HDN2
        clear c4 HLOW HCL HFI
        go_wp2_with fail
        refine (c6 _ ?_).mono ?_
        · repeat (first | (with_reducible exact Below.refl _ _) | (with_reducible assumption) | (with_reducible refine below_to_plus ?_ ?_ _) | (with_reducible refine below_holds ?_ ?_ _ _) | (with_reducible refine Below.alloc ?_ ?_ _) | (with_reducible refine Below.drew ?_) | (with_reducible refine below_drewN ?_ _) | (with_reducible refine Below.setCell ?_ ?_ _))
          all_goals first | omega | (simp; done) | (simp [go_sem]; done) | (simp [go_sem]; omega)
        rintro e w2 ⟨rfl, hb⟩
        obtain ⟨y2, rfl⟩ := plus_next hb
        clear hb c6
        go_wp2_with fail
        refine (c7 _ ?_ (HS1.out.stays ?_)).mono ?_
        · repeat (first | (with_reducible exact Below.refl _ _) | (with_reducible assumption) | (with_reducible refine below_to_plus ?_ ?_ _) | (with_reducible refine below_holds ?_ ?_ _ _) | (with_reducible refine Below.alloc ?_ ?_ _) | (with_reducible refine Below.drew ?_) | (with_reducible refine below_drewN ?_ _) | (with_reducible refine Below.setCell ?_ ?_ _))
          all_goals first | omega | (simp; done) | (simp [go_sem]; done) | (simp [go_sem]; omega)
        · repeat (first | (with_reducible exact Below.refl _ _) | (with_reducible assumption) | (with_reducible refine below_to_plus ?_ ?_ _) | (with_reducible refine below_holds ?_ ?_ _ _) | (with_reducible refine Below.alloc ?_ ?_ _) | (with_reducible refine Below.drew ?_) | (with_reducible refine below_drewN ?_ _) | (with_reducible refine Below.setCell ?_ ?_ _))
          all_goals first | omega | (simp; done) | (simp [go_sem]; done) | (simp [go_sem]; omega)
        unfold ClosePost Fd.val
        dsimp only
        rintro e w2 ⟨a3, c3, rfl, hown, hb⟩
        have HO3 : Aside (Sl w2 9 a3 xs.length c3 (xs.map Fd.enc)) := (Row.sl hown)
        obtain ⟨z, rfl⟩ := plus_of_below hb
        clear hb hown c7
        rw [HL.out] at HO3 ⊢
        have HBV : Aside (Below w.heap.size w (((plus ((plus (((plus ((w.alloc (.cells #[.int .i64 id, .slice ao n cap] 24)).alloc (.cells #[.int .i64 1, .int .i64 dev, .int .i64 ch, .int .i64 fid, .string p, .string nm, .int .i64 mode, .int .i64 num, .int .i64 to, .int .i64 off, .int .i64 wh, .int .i64 lg] 38)) x4).alloc (.cells #[.int .i64 id, .slice a1 zs.length c1] 24)).alloc (.cells #[.int .i64 (i : Int), .int .i64 g1, .int .i64 g2, .int .i64 g3, .int .i64 g4, .string g5, .string g6, .int .i64 g7, .int .i64 g8, .int .i64 g9, .bool o3, .int .i64 0] 41)) y2).alloc (.cells #[.int .i64 0, .int .i64 0, .int .i64 0, .int .i64 0, .string ⟨#[]⟩, .string ⟨#[]⟩, .int .i64 0, .int .i64 0, .int .i64 0] 30)) z).alloc (.cells #[.int .i64 id, .slice a3 n c3] 24)).alloc (.cells #[.int .i64 (i : Int), .int .i64 e2, .int .i64 e3, .int .i64 e4, .string e5, .string e6, .int .i64 e7, .int .i64 e8, .int .i64 e9] 30))) := by
          show Below _ _ _
          repeat (first | (with_reducible exact Below.refl _ _) | (with_reducible assumption) | (with_reducible refine below_to_plus ?_ ?_ _) | (with_reducible refine below_holds ?_ ?_ _ _) | (with_reducible refine Below.alloc ?_ ?_ _) | (with_reducible refine Below.drew ?_) | (with_reducible refine below_drewN ?_ _) | (with_reducible refine Below.setCell ?_ ?_ _))
          all_goals first | omega | (simp; done) | (simp [go_sem]; done) | (simp [go_sem]; omega)
        have HSA : Aside (Sl (((plus ((plus (((plus ((w.alloc (.cells #[.int .i64 id, .slice ao n cap] 24)).alloc (.cells #[.int .i64 1, .int .i64 dev, .int .i64 ch, .int .i64 fid, .string p, .string nm, .int .i64 mode, .int .i64 num, .int .i64 to, .int .i64 off, .int .i64 wh, .int .i64 lg] 38)) x4).alloc (.cells #[.int .i64 id, .slice a1 zs.length c1] 24)).alloc (.cells #[.int .i64 (i : Int), .int .i64 g1, .int .i64 g2, .int .i64 g3, .int .i64 g4, .string g5, .string g6, .int .i64 g7, .int .i64 g8, .int .i64 g9, .bool o3, .int .i64 0] 41)) y2).alloc (.cells #[.int .i64 0, .int .i64 0, .int .i64 0, .int .i64 0, .string ⟨#[]⟩, .string ⟨#[]⟩, .int .i64 0, .int .i64 0, .int .i64 0] 30)) z).alloc (.cells #[.int .i64 id, .slice a3 n c3] 24)).alloc (.cells #[.int .i64 (i : Int), .int .i64 e2, .int .i64 e3, .int .i64 e4, .string e5, .string e6, .int .i64 e7, .int .i64 e8, .int .i64 e9] 30)) 9 a3 n c3 (xs.map Fd.enc)) := HO3.out.stays (by
          repeat (first | (with_reducible exact Below.refl _ _) | (with_reducible assumption) | (with_reducible refine below_to_plus ?_ ?_ _) | (with_reducible refine below_holds ?_ ?_ _ _) | (with_reducible refine Below.alloc ?_ ?_ _) | (with_reducible refine Below.drew ?_) | (with_reducible refine below_drewN ?_ _) | (with_reducible refine Below.setCell ?_ ?_ _))
          all_goals first | omega | (simp; done) | (simp [go_sem]; done) | (simp [go_sem]; omega))
        have c8 := same_calls id id a3 ao n c3 n cap xs xs (((plus ((plus (((plus ((w.alloc (.cells #[.int .i64 id, .slice ao n cap] 24)).alloc (.cells #[.int .i64 1, .int .i64 dev, .int .i64 ch, .int .i64 fid, .string p, .string nm, .int .i64 mode, .int .i64 num, .int .i64 to, .int .i64 off, .int .i64 wh, .int .i64 lg] 38)) x4).alloc (.cells #[.int .i64 id, .slice a1 zs.length c1] 24)).alloc (.cells #[.int .i64 (i : Int), .int .i64 g1, .int .i64 g2, .int .i64 g3, .int .i64 g4, .string g5, .string g6, .int .i64 g7, .int .i64 g8, .int .i64 g9, .bool o3, .int .i64 0] 41)) y2).alloc (.cells #[.int .i64 0, .int .i64 0, .int .i64 0, .int .i64 0, .string ⟨#[]⟩, .string ⟨#[]⟩, .int .i64 0, .int .i64 0, .int .i64 0] 30)) z).alloc (.cells #[.int .i64 id, .slice a3 n c3] 24)).alloc (.cells #[.int .i64 (i : Int), .int .i64 e2, .int .i64 e3, .int .i64 e4, .string e5, .string e6, .int .i64 e7, .int .i64 e8, .int .i64 e9] 30)) HSA.out (H.out.stays HBV.out)
        rw [(same_iff id xs id xs).2 ⟨rfl, rfl⟩] at c8
        clear HO3 HSA HS1 H
        go_wp2_with fail
        refine (c8).mono ?_
        rintro e w2 ⟨rfl, hb⟩
        obtain ⟨x6, rfl⟩ := plus_of_below hb
        clear hb
        clear c8
        go_wp2_with fail
        refine (awake_calls _).mono ?_
        rintro e w2 ⟨rfl, hb⟩
        obtain ⟨x7, rfl⟩ := plus_next hb
        clear hb
        go_wp2
        go_ret
        refine ⟨rfl, ?_⟩
        exact below_to_plus HBV.out HBV.out.size _
  · obtain ⟨hzs, ho1⟩ := hu1 he
    subst hzs
    subst ho1
    have hef : (o4 != 0) = true := by simp [he]
    clear hu1 hu2 he c4
    have HBV : Aside (Below w.heap.size w (((plus ((w.alloc (.cells #[.int .i64 id, .slice ao n cap] 24)).alloc (.cells #[.int .i64 1, .int .i64 dev, .int .i64 ch, .int .i64 fid, .string p, .string nm, .int .i64 mode, .int .i64 num, .int .i64 to, .int .i64 off, .int .i64 wh, .int .i64 lg] 38)) x4).alloc (.cells #[.int .i64 id, .slice a1 zs.length c1] 24)).alloc (.cells #[.int .i64 0, .int .i64 g1, .int .i64 g2, .int .i64 g3, .int .i64 g4, .string g5, .string g6, .int .i64 g7, .int .i64 g8, .int .i64 g9, .bool o3, .int .i64 o4] 41))) := by
      show Below _ _ _
      repeat (first | (with_reducible exact Below.refl _ _) | (with_reducible assumption) | (with_reducible refine below_to_plus ?_ ?_ _) | (with_reducible refine below_holds ?_ ?_ _ _) | (with_reducible refine Below.alloc ?_ ?_ _) | (with_reducible refine Below.drew ?_) | (with_reducible refine below_drewN ?_ _) | (with_reducible refine Below.setCell ?_ ?_ _))
      all_goals first | omega | (simp; done) | (simp [go_sem]; done) | (simp [go_sem]; omega)
    have HSA : Aside (Sl (((plus ((w.alloc (.cells #[.int .i64 id, .slice ao n cap] 24)).alloc (.cells #[.int .i64 1, .int .i64 dev, .int .i64 ch, .int .i64 fid, .string p, .string nm, .int .i64 mode, .int .i64 num, .int .i64 to, .int .i64 off, .int .i64 wh, .int .i64 lg] 38)) x4).alloc (.cells #[.int .i64 id, .slice a1 zs.length c1] 24)).alloc (.cells #[.int .i64 0, .int .i64 g1, .int .i64 g2, .int .i64 g3, .int .i64 g4, .string g5, .string g6, .int .i64 g7, .int .i64 g8, .int .i64 g9, .bool o3, .int .i64 o4] 41)) 9 a1 zs.length c1 (zs.map Fd.enc)) := HS1.out.stays (by
      repeat (first | (with_reducible exact Below.refl _ _) | (with_reducible assumption) | (with_reducible refine below_to_plus ?_ ?_ _) | (with_reducible refine below_holds ?_ ?_ _ _) | (with_reducible refine Below.alloc ?_ ?_ _) | (with_reducible refine Below.drew ?_) | (with_reducible refine below_drewN ?_ _) | (with_reducible refine Below.setCell ?_ ?_ _))
      all_goals first | omega | (simp; done) | (simp [go_sem]; done) | (simp [go_sem]; omega))
    have c8 := same_calls id id a1 ao zs.length c1 n cap zs zs (((plus ((w.alloc (.cells #[.int .i64 id, .slice ao n cap] 24)).alloc (.cells #[.int .i64 1, .int .i64 dev, .int .i64 ch, .int .i64 fid, .string p, .string nm, .int .i64 mode, .int .i64 num, .int .i64 to, .int .i64 off, .int .i64 wh, .int .i64 lg] 38)) x4).alloc (.cells #[.int .i64 id, .slice a1 zs.length c1] 24)).alloc (.cells #[.int .i64 0, .int .i64 g1, .int .i64 g2, .int .i64 g3, .int .i64 g4, .string g5, .string g6, .int .i64 g7, .int .i64 g8, .int .i64 g9, .bool o3, .int .i64 o4] 41)) HSA.out (H.out.stays HBV.out)
    rw [(same_iff id zs id zs).2 ⟨rfl, rfl⟩] at c8
    clear HS1 HSA H
    go_wp2_with fail
    refine (c8).mono ?_
    rintro e w2 ⟨rfl, hb⟩
    obtain ⟨x6, rfl⟩ := plus_of_below hb
    clear hb
    clear c8
    go_wp2_with fail
    refine (awake_calls _).mono ?_
    rintro e w2 ⟨rfl, hb⟩
    obtain ⟨x7, rfl⟩ := plus_next hb
    clear hb
    go_wp2
    go_ret
    refine ⟨rfl, ?_⟩
    exact below_to_plus HBV.out HBV.out.size _

set_option maxHeartbeats 16000000 in
set_option maxRecDepth 100000 in
theorem lawUndo_main2 (id : Int) (dev ch fid : Int) (p nm : ByteArray) (mode num to off wh lg : Int) (ao : Option Addr) (n cap : Nat) (xs : List Fd) (w : World) (h : Sl w 9 ao n cap (xs.map Fd.enc)) (hft : ∀ y ∈ xs, y.fit) (hp : p.size ≤ maxLen) (hnm : nm.size ≤ maxLen) (ho : -9223372036854775808 ≤ off ∧ off ≤ 9223372036854775807) (hlg : lg ≤ 9223372036854775807) (hsm : smallB xs = true) (hbr : briefB dev ch fid p nm = true) (hri : rightB id xs = true) (hne : to ≠ num) :
    Calls Try.prog 7 #[.agg #[.int .i64 id, .slice ao n cap], .agg #[.int .i64 2, .int .i64 dev, .int .i64 ch, .int .i64 fid, .string p, .string nm, .int .i64 mode, .int .i64 num, .int .i64 to, .int .i64 off, .int .i64 wh, .int .i64 lg]] w fun e w' => e = .returned (.bool true) ∧ Below w.heap.size w w' := by
  have HL : Aside (xs.length = n) := Sl.lenE h
  have hb0 : Below w.heap.size w ((w.alloc (.cells #[.int .i64 id, .slice ao n cap] 24)).alloc (.cells #[.int .i64 2, .int .i64 dev, .int .i64 ch, .int .i64 fid, .string p, .string nm, .int .i64 mode, .int .i64 num, .int .i64 to, .int .i64 off, .int .i64 wh, .int .i64 lg] 38)) := by
    repeat (first | (with_reducible exact Below.refl _ _) | (with_reducible assumption) | (with_reducible refine below_to_plus ?_ ?_ _) | (with_reducible refine below_holds ?_ ?_ _ _) | (with_reducible refine Below.alloc ?_ ?_ _) | (with_reducible refine Below.drew ?_) | (with_reducible refine below_drewN ?_ _) | (with_reducible refine Below.setCell ?_ ?_ _))
    all_goals first | omega | (simp; done) | (simp [go_sem]; done) | (simp [go_sem]; omega)
  have hs0 := h.stays hb0
  have H : Aside (Sl w 9 ao n cap (xs.map Fd.enc)) := h
  have c1 := small_calls id ao n cap xs ((w.alloc (.cells #[.int .i64 id, .slice ao n cap] 24)).alloc (.cells #[.int .i64 2, .int .i64 dev, .int .i64 ch, .int .i64 fid, .string p, .string nm, .int .i64 mode, .int .i64 num, .int .i64 to, .int .i64 off, .int .i64 wh, .int .i64 lg] 38)) hs0 hft
  have cb := fun U => brief_calls dev ch fid p nm U hp hnm
  have c2 := fun x => rright_calls id ao n cap xs (plus ((w.alloc (.cells #[.int .i64 id, .slice ao n cap] 24)).alloc (.cells #[.int .i64 2, .int .i64 dev, .int .i64 ch, .int .i64 fid, .string p, .string nm, .int .i64 mode, .int .i64 num, .int .i64 to, .int .i64 off, .int .i64 wh, .int .i64 lg] 38)) x) (hs0.stays (below_plus _ _)) hft
  rw [hsm] at c1
  rw [hbr] at cb
  rw [hri] at c2
  have HR := (rightB_iff id xs).1 hri
  have c3 := fun x => did_calls id 2 dev ch fid p nm mode num to off wh lg ao n cap xs (plus ((w.alloc (.cells #[.int .i64 id, .slice ao n cap] 24)).alloc (.cells #[.int .i64 2, .int .i64 dev, .int .i64 ch, .int .i64 fid, .string p, .string nm, .int .i64 mode, .int .i64 num, .int .i64 to, .int .i64 off, .int .i64 wh, .int .i64 lg] 38)) x) (hs0.stays (below_plus _ _)) hri hp hnm ho hlg
  have HU := undo_facts2 HR dev ch fid p nm mode num to off wh lg hne
  have c4 : ∀ (i : Int) U, Below w.heap.size w U → Calls Try.prog 12 #[.agg #[.int .i64 id, .slice ao n cap], .int .i64 i] U fun e w' => e = .returned (.tuple #[Fd.val (findF i xs).1, .int .i64 (findF i xs).2]) ∧ Below U.heap.size U w' := fun i U hU => Find_calls id i ao n cap xs U (h.stays hU)
  have hzr := did_right HR 2 dev ch fid p nm mode num to off wh lg
  generalize didF xs 2 dev ch fid p nm mode num to off wh lg = r at c3 HU hzr
  obtain ⟨zs, o⟩ := r
  obtain ⟨o1, fo, o3, o4⟩ := o
  obtain ⟨g1, g2, g3, g4, g5, g6, g7, g8, g9⟩ := fo
  have hzl : zs.length ≤ 64 := asc_len hzr
  have c3 : ∀ x, Calls Try.prog 18 #[.agg #[.int .i64 id, .slice ao n cap], .agg #[.int .i64 2, .int .i64 dev, .int .i64 ch, .int .i64 fid, .string p, .string nm, .int .i64 mode, .int .i64 num, .int .i64 to, .int .i64 off, .int .i64 wh, .int .i64 lg]] (plus ((w.alloc (.cells #[.int .i64 id, .slice ao n cap] 24)).alloc (.cells #[.int .i64 2, .int .i64 dev, .int .i64 ch, .int .i64 fid, .string p, .string nm, .int .i64 mode, .int .i64 num, .int .i64 to, .int .i64 off, .int .i64 wh, .int .i64 lg] 38)) x) fun e w' => DidP (plus ((w.alloc (.cells #[.int .i64 id, .slice ao n cap] 24)).alloc (.cells #[.int .i64 2, .int .i64 dev, .int .i64 ch, .int .i64 fid, .string p, .string nm, .int .i64 mode, .int .i64 num, .int .i64 to, .int .i64 off, .int .i64 wh, .int .i64 lg] 38)) x) id ao cap xs zs (.agg #[.int .i64 o1, .int .i64 g1, .int .i64 g2, .int .i64 g3, .int .i64 g4, .string g5, .string g6, .int .i64 g7, .int .i64 g8, .int .i64 g9, .bool o3, .int .i64 o4]) e w' := c3
  obtain ⟨hu1, hu2⟩ := HU
  simp only at hu1 hu2
  have hnb : (to == num) = false := by simp [hne]
  clear hsm hbr hri hs0 hft h hb0 hp hnm ho hlg HR hzr hne
  go_enter Try.func7, Try.ntmps7
  go_wp2_with fail
  refine (c1).mono ?_
  rintro e w2 ⟨rfl, hb⟩
  obtain ⟨x1, rfl⟩ := plus_of_below hb
  clear hb
  clear c1
  go_wp2_with fail
  refine (cb _).mono ?_
  rintro e w2 ⟨rfl, hb⟩
  obtain ⟨x2, rfl⟩ := plus_next hb
  clear hb
  clear cb
  go_wp2_with fail
  refine (c2 _).mono ?_
  rintro e w2 ⟨rfl, hb⟩
  obtain ⟨x3, rfl⟩ := plus_next hb
  clear hb
  clear c2
  go_wp2_with fail
  refine (c3 _).mono ?_
  rintro e w2 ⟨a1, c1, rfl, hrow, hb⟩
  have hsl := hrow.sl ((H.out.stays (show Below w.heap.size w (plus ((w.alloc (.cells #[.int .i64 id, .slice ao n cap] 24)).alloc (.cells #[.int .i64 2, .int .i64 dev, .int .i64 ch, .int .i64 fid, .string p, .string nm, .int .i64 mode, .int .i64 num, .int .i64 to, .int .i64 off, .int .i64 wh, .int .i64 lg] 38)) x3) by
    repeat (first | (with_reducible exact Below.refl _ _) | (with_reducible assumption) | (with_reducible refine below_to_plus ?_ ?_ _) | (with_reducible refine below_holds ?_ ?_ _ _) | (with_reducible refine Below.alloc ?_ ?_ _) | (with_reducible refine Below.drew ?_) | (with_reducible refine below_drewN ?_ _) | (with_reducible refine Below.setCell ?_ ?_ _))
    all_goals first | omega | (simp; done) | (simp [go_sem]; done) | (simp [go_sem]; omega)))) hb
  have HS1 : Aside (Sl w2 9 a1 zs.length c1 (zs.map Fd.enc)) := hsl
  obtain ⟨x4, rfl⟩ := plus_next hb
  clear hb hrow hsl c3
  by_cases he : o4 = 0
  · obtain ⟨hn1, hn2, hfi, d, hcl, hdn, hlow⟩ := hu2 he
    subst he
    have HLOW : Aside (∀ i : Nat, (i : Int) < o1 → to < 0 → (findF i xs).2 = 0) := hlow
    have HCL : Aside (closeF o1 zs = (xs, d, false, 0)) := hcl
    have HFI : Aside (findF o1 xs = (default, 44)) := hfi
    have HDN : Aside (d.num = o1) := hdn
    clear hu1 hu2 hlow hcl hfi hdn
    obtain ⟨m, rfl⟩ : ∃ m : Nat, o1 = (m : Int) := ⟨o1.toNat, by omega⟩
    have hm64 : m < 64 := by omega
    clear hn1 hn2
    go_wp2
    go_loopg [7] m (fun g s7 wr => ∃ (i : Nat) (y : World), s7 = .int .i64 (i : Int) ∧ wr = plus (((plus ((w.alloc (.cells #[.int .i64 id, .slice ao n cap] 24)).alloc (.cells #[.int .i64 2, .int .i64 dev, .int .i64 ch, .int .i64 fid, .string p, .string nm, .int .i64 mode, .int .i64 num, .int .i64 to, .int .i64 off, .int .i64 wh, .int .i64 lg] 38)) x4).alloc (.cells #[.int .i64 id, .slice a1 zs.length c1] 24)).alloc (.cells #[.int .i64 (m : Int), .int .i64 g1, .int .i64 g2, .int .i64 g3, .int .i64 g4, .string g5, .string g6, .int .i64 g7, .int .i64 g8, .int .i64 g9, .bool o3, .int .i64 0] 41)) y ∧ g + i = m)
    case atStart => exact ⟨0, _, rfl, plus_self _, by omega⟩
    case round =>
      obtain ⟨i, y, rfl, rfl, hk⟩ := hrel
      by_cases hi : i < m
      · have hiz : (i : Int) < (m : Int) := by omega
        have hi100 : (i : Int) < 100 := by omega
        have c5 := c4 (i : Int)
        have HLI := HLOW.out i hiz
        generalize findF (i : Int) xs = r2 at c5 HLI
        obtain ⟨d2, q2⟩ := r2
        obtain ⟨e1, e2, e3, e4, e5, e6, e7, e8, e9⟩ := d2
        have c5 : ∀ U, Below w.heap.size w U → Calls Try.prog 12 #[.agg #[.int .i64 id, .slice ao n cap], .int .i64 i] U fun e w' => e = .returned (.tuple #[.agg #[.int .i64 e1, .int .i64 e2, .int .i64 e3, .int .i64 e4, .string e5, .string e6, .int .i64 e7, .int .i64 e8, .int .i64 e9], .int .i64 q2]) ∧ Below U.heap.size U w' := c5
        simp only at HLI
        have HX : Aside (Below w.heap.size w (plus (((plus ((w.alloc (.cells #[.int .i64 id, .slice ao n cap] 24)).alloc (.cells #[.int .i64 2, .int .i64 dev, .int .i64 ch, .int .i64 fid, .string p, .string nm, .int .i64 mode, .int .i64 num, .int .i64 to, .int .i64 off, .int .i64 wh, .int .i64 lg] 38)) x4).alloc (.cells #[.int .i64 id, .slice a1 zs.length c1] 24)).alloc (.cells #[.int .i64 (m : Int), .int .i64 g1, .int .i64 g2, .int .i64 g3, .int .i64 g4, .string g5, .string g6, .int .i64 g7, .int .i64 g8, .int .i64 g9, .bool o3, .int .i64 0] 41)) y)) := by
          show Below _ _ _
          repeat (first | (with_reducible exact Below.refl _ _) | (with_reducible assumption) | (with_reducible refine below_to_plus ?_ ?_ _) | (with_reducible refine below_holds ?_ ?_ _ _) | (with_reducible refine Below.alloc ?_ ?_ _) | (with_reducible refine Below.drew ?_) | (with_reducible refine below_drewN ?_ _) | (with_reducible refine Below.setCell ?_ ?_ _))
          all_goals first | omega | (simp; done) | (simp [go_sem]; done) | (simp [go_sem]; omega)
        clear c4 HLOW HCL HFI HDN HS1 H
        by_cases hto : to < 0
        · skip
          have e0 : q2 = 0 := HLI hto
          subst e0
          clear HLI
          go_wp2_with fail
          refine (c5 _ HX.out).mono ?_
          rintro e w2 ⟨rfl, hb⟩
          obtain ⟨y2, rfl⟩ := plus_next hb
          clear hb c5
          go_wp2
          go_roundg (gk - 1)
          case measure => omega
          case rel =>
            obtain ⟨z5, hz5⟩ := plus_of_below (show Below (((plus ((w.alloc (.cells #[.int .i64 id, .slice ao n cap] 24)).alloc (.cells #[.int .i64 2, .int .i64 dev, .int .i64 ch, .int .i64 fid, .string p, .string nm, .int .i64 mode, .int .i64 num, .int .i64 to, .int .i64 off, .int .i64 wh, .int .i64 lg] 38)) x4).alloc (.cells #[.int .i64 id, .slice a1 zs.length c1] 24)).alloc (.cells #[.int .i64 (m : Int), .int .i64 g1, .int .i64 g2, .int .i64 g3, .int .i64 g4, .string g5, .string g6, .int .i64 g7, .int .i64 g8, .int .i64 g9, .bool o3, .int .i64 0] 41)).heap.size (((plus ((w.alloc (.cells #[.int .i64 id, .slice ao n cap] 24)).alloc (.cells #[.int .i64 2, .int .i64 dev, .int .i64 ch, .int .i64 fid, .string p, .string nm, .int .i64 mode, .int .i64 num, .int .i64 to, .int .i64 off, .int .i64 wh, .int .i64 lg] 38)) x4).alloc (.cells #[.int .i64 id, .slice a1 zs.length c1] 24)).alloc (.cells #[.int .i64 (m : Int), .int .i64 g1, .int .i64 g2, .int .i64 g3, .int .i64 g4, .string g5, .string g6, .int .i64 g7, .int .i64 g8, .int .i64 g9, .bool o3, .int .i64 0] 41)) ((plus (((plus ((w.alloc (.cells #[.int .i64 id, .slice ao n cap] 24)).alloc (.cells #[.int .i64 2, .int .i64 dev, .int .i64 ch, .int .i64 fid, .string p, .string nm, .int .i64 mode, .int .i64 num, .int .i64 to, .int .i64 off, .int .i64 wh, .int .i64 lg] 38)) x4).alloc (.cells #[.int .i64 id, .slice a1 zs.length c1] 24)).alloc (.cells #[.int .i64 (m : Int), .int .i64 g1, .int .i64 g2, .int .i64 g3, .int .i64 g4, .string g5, .string g6, .int .i64 g7, .int .i64 g8, .int .i64 g9, .bool o3, .int .i64 0] 41)) y2).alloc (.cells #[.int .i64 e1, .int .i64 e2, .int .i64 e3, .int .i64 e4, .string e5, .string e6, .int .i64 e7, .int .i64 e8, .int .i64 e9] 30)) from by
              repeat (first | (with_reducible exact Below.refl _ _) | (with_reducible assumption) | (with_reducible refine below_to_plus ?_ ?_ _) | (with_reducible refine below_holds ?_ ?_ _ _) | (with_reducible refine Below.alloc ?_ ?_ _) | (with_reducible refine Below.drew ?_) | (with_reducible refine below_drewN ?_ _) | (with_reducible refine Below.setCell ?_ ?_ _))
              all_goals first | omega | (simp; done) | (simp [go_sem]; done) | (simp [go_sem]; omega))
            exact ⟨i + 1, z5, by simp, hz5, by omega⟩
        · clear HLI
          by_cases hez : q2 = 0
          · subst hez
            go_wp2_with fail
            refine (c5 _ HX.out).mono ?_
            rintro e w2 ⟨rfl, hb⟩
            obtain ⟨y2, rfl⟩ := plus_next hb
            clear hb c5
            go_wp2
            go_roundg (gk - 1)
            case measure => omega
            case rel =>
              obtain ⟨z5, hz5⟩ := plus_of_below (show Below (((plus ((w.alloc (.cells #[.int .i64 id, .slice ao n cap] 24)).alloc (.cells #[.int .i64 2, .int .i64 dev, .int .i64 ch, .int .i64 fid, .string p, .string nm, .int .i64 mode, .int .i64 num, .int .i64 to, .int .i64 off, .int .i64 wh, .int .i64 lg] 38)) x4).alloc (.cells #[.int .i64 id, .slice a1 zs.length c1] 24)).alloc (.cells #[.int .i64 (m : Int), .int .i64 g1, .int .i64 g2, .int .i64 g3, .int .i64 g4, .string g5, .string g6, .int .i64 g7, .int .i64 g8, .int .i64 g9, .bool o3, .int .i64 0] 41)).heap.size (((plus ((w.alloc (.cells #[.int .i64 id, .slice ao n cap] 24)).alloc (.cells #[.int .i64 2, .int .i64 dev, .int .i64 ch, .int .i64 fid, .string p, .string nm, .int .i64 mode, .int .i64 num, .int .i64 to, .int .i64 off, .int .i64 wh, .int .i64 lg] 38)) x4).alloc (.cells #[.int .i64 id, .slice a1 zs.length c1] 24)).alloc (.cells #[.int .i64 (m : Int), .int .i64 g1, .int .i64 g2, .int .i64 g3, .int .i64 g4, .string g5, .string g6, .int .i64 g7, .int .i64 g8, .int .i64 g9, .bool o3, .int .i64 0] 41)) ((plus (((plus ((w.alloc (.cells #[.int .i64 id, .slice ao n cap] 24)).alloc (.cells #[.int .i64 2, .int .i64 dev, .int .i64 ch, .int .i64 fid, .string p, .string nm, .int .i64 mode, .int .i64 num, .int .i64 to, .int .i64 off, .int .i64 wh, .int .i64 lg] 38)) x4).alloc (.cells #[.int .i64 id, .slice a1 zs.length c1] 24)).alloc (.cells #[.int .i64 (m : Int), .int .i64 g1, .int .i64 g2, .int .i64 g3, .int .i64 g4, .string g5, .string g6, .int .i64 g7, .int .i64 g8, .int .i64 g9, .bool o3, .int .i64 0] 41)) y2).alloc (.cells #[.int .i64 e1, .int .i64 e2, .int .i64 e3, .int .i64 e4, .string e5, .string e6, .int .i64 e7, .int .i64 e8, .int .i64 e9] 30)) from by
                repeat (first | (with_reducible exact Below.refl _ _) | (with_reducible assumption) | (with_reducible refine below_to_plus ?_ ?_ _) | (with_reducible refine below_holds ?_ ?_ _ _) | (with_reducible refine Below.alloc ?_ ?_ _) | (with_reducible refine Below.drew ?_) | (with_reducible refine below_drewN ?_ _) | (with_reducible refine Below.setCell ?_ ?_ _))
                all_goals first | omega | (simp; done) | (simp [go_sem]; done) | (simp [go_sem]; omega))
              exact ⟨i + 1, z5, by simp, hz5, by omega⟩
          · have hef : (q2 != 0) = true := by simp [hez]
            clear hez
            go_wp2_with fail
            refine (c5 _ HX.out).mono ?_
            rintro e w2 ⟨rfl, hb⟩
            obtain ⟨y2, rfl⟩ := plus_next hb
            clear hb c5
            go_wp2
            go_roundg (gk - 1)
            case measure => omega
            case rel =>
              obtain ⟨z5, hz5⟩ := plus_of_below (show Below (((plus ((w.alloc (.cells #[.int .i64 id, .slice ao n cap] 24)).alloc (.cells #[.int .i64 2, .int .i64 dev, .int .i64 ch, .int .i64 fid, .string p, .string nm, .int .i64 mode, .int .i64 num, .int .i64 to, .int .i64 off, .int .i64 wh, .int .i64 lg] 38)) x4).alloc (.cells #[.int .i64 id, .slice a1 zs.length c1] 24)).alloc (.cells #[.int .i64 (m : Int), .int .i64 g1, .int .i64 g2, .int .i64 g3, .int .i64 g4, .string g5, .string g6, .int .i64 g7, .int .i64 g8, .int .i64 g9, .bool o3, .int .i64 0] 41)).heap.size (((plus ((w.alloc (.cells #[.int .i64 id, .slice ao n cap] 24)).alloc (.cells #[.int .i64 2, .int .i64 dev, .int .i64 ch, .int .i64 fid, .string p, .string nm, .int .i64 mode, .int .i64 num, .int .i64 to, .int .i64 off, .int .i64 wh, .int .i64 lg] 38)) x4).alloc (.cells #[.int .i64 id, .slice a1 zs.length c1] 24)).alloc (.cells #[.int .i64 (m : Int), .int .i64 g1, .int .i64 g2, .int .i64 g3, .int .i64 g4, .string g5, .string g6, .int .i64 g7, .int .i64 g8, .int .i64 g9, .bool o3, .int .i64 0] 41)) ((plus (((plus ((w.alloc (.cells #[.int .i64 id, .slice ao n cap] 24)).alloc (.cells #[.int .i64 2, .int .i64 dev, .int .i64 ch, .int .i64 fid, .string p, .string nm, .int .i64 mode, .int .i64 num, .int .i64 to, .int .i64 off, .int .i64 wh, .int .i64 lg] 38)) x4).alloc (.cells #[.int .i64 id, .slice a1 zs.length c1] 24)).alloc (.cells #[.int .i64 (m : Int), .int .i64 g1, .int .i64 g2, .int .i64 g3, .int .i64 g4, .string g5, .string g6, .int .i64 g7, .int .i64 g8, .int .i64 g9, .bool o3, .int .i64 0] 41)) y2).alloc (.cells #[.int .i64 e1, .int .i64 e2, .int .i64 e3, .int .i64 e4, .string e5, .string e6, .int .i64 e7, .int .i64 e8, .int .i64 e9] 30)) from by
                repeat (first | (with_reducible exact Below.refl _ _) | (with_reducible assumption) | (with_reducible refine below_to_plus ?_ ?_ _) | (with_reducible refine below_holds ?_ ?_ _ _) | (with_reducible refine Below.alloc ?_ ?_ _) | (with_reducible refine Below.drew ?_) | (with_reducible refine below_drewN ?_ _) | (with_reducible refine Below.setCell ?_ ?_ _))
                all_goals first | omega | (simp; done) | (simp [go_sem]; done) | (simp [go_sem]; omega))
              exact ⟨i + 1, z5, by simp, hz5, by omega⟩
      · have hiz : ¬ (i : Int) < (m : Int) := by omega
        obtain rfl : i = m := by omega
        have c6 := c4 (i : Int)
        rw [HFI.out] at c6
        have c6 : ∀ U, Below w.heap.size w U → Calls Try.prog 12 #[.agg #[.int .i64 id, .slice ao n cap], .int .i64 i] U fun e w' => e = .returned (.tuple #[.agg #[.int .i64 0, .int .i64 0, .int .i64 0, .int .i64 0, .string ⟨#[]⟩, .string ⟨#[]⟩, .int .i64 0, .int .i64 0, .int .i64 0], .int .i64 44]) ∧ Below U.heap.size U w' := c6
        have c7 : ∀ U, Below w.heap.size w U → Sl U 9 a1 zs.length c1 (zs.map Fd.enc) → Calls Try.prog 23 #[.agg #[.int .i64 id, .slice a1 zs.length c1], .int .i64 i] U fun e w' => ClosePost U id (xs, d, false, 0) e w' := fun U _ hU => by
          have := close_calls id (i : Int) a1 zs.length c1 zs U hU (by omega)
          rwa [HCL.out] at this
        have HDN2 := HDN.out
        obtain ⟨e1, e2, e3, e4, e5, e6, e7, e8, e9⟩ := d
        simp only at HDN2
        subst HDN2
        clear c4 HLOW HCL HFI
        go_wp2_with fail
        refine (c6 _ ?_).mono ?_
        · repeat (first | (with_reducible exact Below.refl _ _) | (with_reducible assumption) | (with_reducible refine below_to_plus ?_ ?_ _) | (with_reducible refine below_holds ?_ ?_ _ _) | (with_reducible refine Below.alloc ?_ ?_ _) | (with_reducible refine Below.drew ?_) | (with_reducible refine below_drewN ?_ _) | (with_reducible refine Below.setCell ?_ ?_ _))
          all_goals first | omega | (simp; done) | (simp [go_sem]; done) | (simp [go_sem]; omega)
        rintro e w2 ⟨rfl, hb⟩
        obtain ⟨y2, rfl⟩ := plus_next hb
        clear hb c6
        go_wp2_with fail
        refine (c7 _ ?_ (HS1.out.stays ?_)).mono ?_
        · repeat (first | (with_reducible exact Below.refl _ _) | (with_reducible assumption) | (with_reducible refine below_to_plus ?_ ?_ _) | (with_reducible refine below_holds ?_ ?_ _ _) | (with_reducible refine Below.alloc ?_ ?_ _) | (with_reducible refine Below.drew ?_) | (with_reducible refine below_drewN ?_ _) | (with_reducible refine Below.setCell ?_ ?_ _))
          all_goals first | omega | (simp; done) | (simp [go_sem]; done) | (simp [go_sem]; omega)
        · repeat (first | (with_reducible exact Below.refl _ _) | (with_reducible assumption) | (with_reducible refine below_to_plus ?_ ?_ _) | (with_reducible refine below_holds ?_ ?_ _ _) | (with_reducible refine Below.alloc ?_ ?_ _) | (with_reducible refine Below.drew ?_) | (with_reducible refine below_drewN ?_ _) | (with_reducible refine Below.setCell ?_ ?_ _))
          all_goals first | omega | (simp; done) | (simp [go_sem]; done) | (simp [go_sem]; omega)
        unfold ClosePost Fd.val
        dsimp only
        rintro e w2 ⟨a3, c3, rfl, hown, hb⟩
        have HO3 : Aside (Sl w2 9 a3 xs.length c3 (xs.map Fd.enc)) := (Row.sl hown)
        obtain ⟨z, rfl⟩ := plus_of_below hb
        clear hb hown c7
        rw [HL.out] at HO3 ⊢
        have HBV : Aside (Below w.heap.size w (((plus ((plus (((plus ((w.alloc (.cells #[.int .i64 id, .slice ao n cap] 24)).alloc (.cells #[.int .i64 2, .int .i64 dev, .int .i64 ch, .int .i64 fid, .string p, .string nm, .int .i64 mode, .int .i64 num, .int .i64 to, .int .i64 off, .int .i64 wh, .int .i64 lg] 38)) x4).alloc (.cells #[.int .i64 id, .slice a1 zs.length c1] 24)).alloc (.cells #[.int .i64 (i : Int), .int .i64 g1, .int .i64 g2, .int .i64 g3, .int .i64 g4, .string g5, .string g6, .int .i64 g7, .int .i64 g8, .int .i64 g9, .bool o3, .int .i64 0] 41)) y2).alloc (.cells #[.int .i64 0, .int .i64 0, .int .i64 0, .int .i64 0, .string ⟨#[]⟩, .string ⟨#[]⟩, .int .i64 0, .int .i64 0, .int .i64 0] 30)) z).alloc (.cells #[.int .i64 id, .slice a3 n c3] 24)).alloc (.cells #[.int .i64 (i : Int), .int .i64 e2, .int .i64 e3, .int .i64 e4, .string e5, .string e6, .int .i64 e7, .int .i64 e8, .int .i64 e9] 30))) := by
          show Below _ _ _
          repeat (first | (with_reducible exact Below.refl _ _) | (with_reducible assumption) | (with_reducible refine below_to_plus ?_ ?_ _) | (with_reducible refine below_holds ?_ ?_ _ _) | (with_reducible refine Below.alloc ?_ ?_ _) | (with_reducible refine Below.drew ?_) | (with_reducible refine below_drewN ?_ _) | (with_reducible refine Below.setCell ?_ ?_ _))
          all_goals first | omega | (simp; done) | (simp [go_sem]; done) | (simp [go_sem]; omega)
        have HSA : Aside (Sl (((plus ((plus (((plus ((w.alloc (.cells #[.int .i64 id, .slice ao n cap] 24)).alloc (.cells #[.int .i64 2, .int .i64 dev, .int .i64 ch, .int .i64 fid, .string p, .string nm, .int .i64 mode, .int .i64 num, .int .i64 to, .int .i64 off, .int .i64 wh, .int .i64 lg] 38)) x4).alloc (.cells #[.int .i64 id, .slice a1 zs.length c1] 24)).alloc (.cells #[.int .i64 (i : Int), .int .i64 g1, .int .i64 g2, .int .i64 g3, .int .i64 g4, .string g5, .string g6, .int .i64 g7, .int .i64 g8, .int .i64 g9, .bool o3, .int .i64 0] 41)) y2).alloc (.cells #[.int .i64 0, .int .i64 0, .int .i64 0, .int .i64 0, .string ⟨#[]⟩, .string ⟨#[]⟩, .int .i64 0, .int .i64 0, .int .i64 0] 30)) z).alloc (.cells #[.int .i64 id, .slice a3 n c3] 24)).alloc (.cells #[.int .i64 (i : Int), .int .i64 e2, .int .i64 e3, .int .i64 e4, .string e5, .string e6, .int .i64 e7, .int .i64 e8, .int .i64 e9] 30)) 9 a3 n c3 (xs.map Fd.enc)) := HO3.out.stays (by
          repeat (first | (with_reducible exact Below.refl _ _) | (with_reducible assumption) | (with_reducible refine below_to_plus ?_ ?_ _) | (with_reducible refine below_holds ?_ ?_ _ _) | (with_reducible refine Below.alloc ?_ ?_ _) | (with_reducible refine Below.drew ?_) | (with_reducible refine below_drewN ?_ _) | (with_reducible refine Below.setCell ?_ ?_ _))
          all_goals first | omega | (simp; done) | (simp [go_sem]; done) | (simp [go_sem]; omega))
        have c8 := same_calls id id a3 ao n c3 n cap xs xs (((plus ((plus (((plus ((w.alloc (.cells #[.int .i64 id, .slice ao n cap] 24)).alloc (.cells #[.int .i64 2, .int .i64 dev, .int .i64 ch, .int .i64 fid, .string p, .string nm, .int .i64 mode, .int .i64 num, .int .i64 to, .int .i64 off, .int .i64 wh, .int .i64 lg] 38)) x4).alloc (.cells #[.int .i64 id, .slice a1 zs.length c1] 24)).alloc (.cells #[.int .i64 (i : Int), .int .i64 g1, .int .i64 g2, .int .i64 g3, .int .i64 g4, .string g5, .string g6, .int .i64 g7, .int .i64 g8, .int .i64 g9, .bool o3, .int .i64 0] 41)) y2).alloc (.cells #[.int .i64 0, .int .i64 0, .int .i64 0, .int .i64 0, .string ⟨#[]⟩, .string ⟨#[]⟩, .int .i64 0, .int .i64 0, .int .i64 0] 30)) z).alloc (.cells #[.int .i64 id, .slice a3 n c3] 24)).alloc (.cells #[.int .i64 (i : Int), .int .i64 e2, .int .i64 e3, .int .i64 e4, .string e5, .string e6, .int .i64 e7, .int .i64 e8, .int .i64 e9] 30)) HSA.out (H.out.stays HBV.out)
        rw [(same_iff id xs id xs).2 ⟨rfl, rfl⟩] at c8
        clear HO3 HSA HS1 H
        go_wp2_with fail
        refine (c8).mono ?_
        rintro e w2 ⟨rfl, hb⟩
        obtain ⟨x6, rfl⟩ := plus_of_below hb
        clear hb
        clear c8
        go_wp2_with fail
        refine (awake_calls _).mono ?_
        rintro e w2 ⟨rfl, hb⟩
        obtain ⟨x7, rfl⟩ := plus_next hb
        clear hb
        go_wp2
        go_ret
        refine ⟨rfl, ?_⟩
        exact below_to_plus HBV.out HBV.out.size _
  · obtain ⟨hzs, ho1⟩ := hu1 he
    subst hzs
    subst ho1
    have hef : (o4 != 0) = true := by simp [he]
    clear hu1 hu2 he c4
    have HBV : Aside (Below w.heap.size w (((plus ((w.alloc (.cells #[.int .i64 id, .slice ao n cap] 24)).alloc (.cells #[.int .i64 2, .int .i64 dev, .int .i64 ch, .int .i64 fid, .string p, .string nm, .int .i64 mode, .int .i64 num, .int .i64 to, .int .i64 off, .int .i64 wh, .int .i64 lg] 38)) x4).alloc (.cells #[.int .i64 id, .slice a1 zs.length c1] 24)).alloc (.cells #[.int .i64 0, .int .i64 g1, .int .i64 g2, .int .i64 g3, .int .i64 g4, .string g5, .string g6, .int .i64 g7, .int .i64 g8, .int .i64 g9, .bool o3, .int .i64 o4] 41))) := by
      show Below _ _ _
      repeat (first | (with_reducible exact Below.refl _ _) | (with_reducible assumption) | (with_reducible refine below_to_plus ?_ ?_ _) | (with_reducible refine below_holds ?_ ?_ _ _) | (with_reducible refine Below.alloc ?_ ?_ _) | (with_reducible refine Below.drew ?_) | (with_reducible refine below_drewN ?_ _) | (with_reducible refine Below.setCell ?_ ?_ _))
      all_goals first | omega | (simp; done) | (simp [go_sem]; done) | (simp [go_sem]; omega)
    have HSA : Aside (Sl (((plus ((w.alloc (.cells #[.int .i64 id, .slice ao n cap] 24)).alloc (.cells #[.int .i64 2, .int .i64 dev, .int .i64 ch, .int .i64 fid, .string p, .string nm, .int .i64 mode, .int .i64 num, .int .i64 to, .int .i64 off, .int .i64 wh, .int .i64 lg] 38)) x4).alloc (.cells #[.int .i64 id, .slice a1 zs.length c1] 24)).alloc (.cells #[.int .i64 0, .int .i64 g1, .int .i64 g2, .int .i64 g3, .int .i64 g4, .string g5, .string g6, .int .i64 g7, .int .i64 g8, .int .i64 g9, .bool o3, .int .i64 o4] 41)) 9 a1 zs.length c1 (zs.map Fd.enc)) := HS1.out.stays (by
      repeat (first | (with_reducible exact Below.refl _ _) | (with_reducible assumption) | (with_reducible refine below_to_plus ?_ ?_ _) | (with_reducible refine below_holds ?_ ?_ _ _) | (with_reducible refine Below.alloc ?_ ?_ _) | (with_reducible refine Below.drew ?_) | (with_reducible refine below_drewN ?_ _) | (with_reducible refine Below.setCell ?_ ?_ _))
      all_goals first | omega | (simp; done) | (simp [go_sem]; done) | (simp [go_sem]; omega))
    have c8 := same_calls id id a1 ao zs.length c1 n cap zs zs (((plus ((w.alloc (.cells #[.int .i64 id, .slice ao n cap] 24)).alloc (.cells #[.int .i64 2, .int .i64 dev, .int .i64 ch, .int .i64 fid, .string p, .string nm, .int .i64 mode, .int .i64 num, .int .i64 to, .int .i64 off, .int .i64 wh, .int .i64 lg] 38)) x4).alloc (.cells #[.int .i64 id, .slice a1 zs.length c1] 24)).alloc (.cells #[.int .i64 0, .int .i64 g1, .int .i64 g2, .int .i64 g3, .int .i64 g4, .string g5, .string g6, .int .i64 g7, .int .i64 g8, .int .i64 g9, .bool o3, .int .i64 o4] 41)) HSA.out (H.out.stays HBV.out)
    rw [(same_iff id zs id zs).2 ⟨rfl, rfl⟩] at c8
    clear HS1 HSA H
    go_wp2_with fail
    refine (c8).mono ?_
    rintro e w2 ⟨rfl, hb⟩
    obtain ⟨x6, rfl⟩ := plus_of_below hb
    clear hb
    clear c8
    go_wp2_with fail
    refine (awake_calls _).mono ?_
    rintro e w2 ⟨rfl, hb⟩
    obtain ⟨x7, rfl⟩ := plus_next hb
    clear hb
    go_wp2
    go_ret
    refine ⟨rfl, ?_⟩
    exact below_to_plus HBV.out HBV.out.size _

set_option maxHeartbeats 16000000 in
set_option maxRecDepth 100000 in
theorem lawUndo_calls (id : Int) (kind dev ch fid : Int) (p nm : ByteArray) (mode num to off wh lg : Int) (ao : Option Addr) (n cap : Nat) (xs : List Fd) (w : World) (h : Sl w 9 ao n cap (xs.map Fd.enc)) (hft : ∀ y ∈ xs, y.fit) (hp : p.size ≤ maxLen) (hnm : nm.size ≤ maxLen) (ho : -9223372036854775808 ≤ off ∧ off ≤ 9223372036854775807) (hlg : lg ≤ 9223372036854775807) :
    Calls Try.prog 7 #[.agg #[.int .i64 id, .slice ao n cap], .agg #[.int .i64 kind, .int .i64 dev, .int .i64 ch, .int .i64 fid, .string p, .string nm, .int .i64 mode, .int .i64 num, .int .i64 to, .int .i64 off, .int .i64 wh, .int .i64 lg]] w fun e w' => e = .returned (.bool true) ∧ Below w.heap.size w w' := by
  have HL : Aside (xs.length = n) := Sl.lenE h
  have hb0 : Below w.heap.size w ((w.alloc (.cells #[.int .i64 id, .slice ao n cap] 24)).alloc (.cells #[.int .i64 kind, .int .i64 dev, .int .i64 ch, .int .i64 fid, .string p, .string nm, .int .i64 mode, .int .i64 num, .int .i64 to, .int .i64 off, .int .i64 wh, .int .i64 lg] 38)) := by
    repeat (first | (with_reducible exact Below.refl _ _) | (with_reducible assumption) | (with_reducible refine below_to_plus ?_ ?_ _) | (with_reducible refine below_holds ?_ ?_ _ _) | (with_reducible refine Below.alloc ?_ ?_ _) | (with_reducible refine Below.drew ?_) | (with_reducible refine below_drewN ?_ _) | (with_reducible refine Below.setCell ?_ ?_ _))
    all_goals first | omega | (simp; done) | (simp [go_sem]; done) | (simp [go_sem]; omega)
  have hs0 := h.stays hb0
  have H : Aside (Sl w 9 ao n cap (xs.map Fd.enc)) := h
  have c1 := small_calls id ao n cap xs ((w.alloc (.cells #[.int .i64 id, .slice ao n cap] 24)).alloc (.cells #[.int .i64 kind, .int .i64 dev, .int .i64 ch, .int .i64 fid, .string p, .string nm, .int .i64 mode, .int .i64 num, .int .i64 to, .int .i64 off, .int .i64 wh, .int .i64 lg] 38)) hs0 hft
  have cb := fun U => brief_calls dev ch fid p nm U hp hnm
  have c2 := fun x => rright_calls id ao n cap xs (plus ((w.alloc (.cells #[.int .i64 id, .slice ao n cap] 24)).alloc (.cells #[.int .i64 kind, .int .i64 dev, .int .i64 ch, .int .i64 fid, .string p, .string nm, .int .i64 mode, .int .i64 num, .int .i64 to, .int .i64 off, .int .i64 wh, .int .i64 lg] 38)) x) (hs0.stays (below_plus _ _)) hft
  cases hsm : smallB xs with
  | false =>
    rw [hsm] at c1
    clear hsm c2 hs0 hft h hb0 cb hp hnm ho hlg
    go_enter Try.func7, Try.ntmps7
    go_wp2_with fail
    refine (c1).mono ?_
    rintro e w2 ⟨rfl, hb⟩
    obtain ⟨x1, rfl⟩ := plus_of_below hb
    clear hb
    clear c1
    go_wp2_with fail
    refine (awake_calls _).mono ?_
    rintro e w2 ⟨rfl, hb⟩
    obtain ⟨x9, rfl⟩ := plus_next hb
    clear hb
    go_wp2
    go_ret
    refine ⟨rfl, ?_⟩
    repeat (first | (with_reducible exact Below.refl _ _) | (with_reducible assumption) | (with_reducible refine below_to_plus ?_ ?_ _) | (with_reducible refine below_holds ?_ ?_ _ _) | (with_reducible refine Below.alloc ?_ ?_ _) | (with_reducible refine Below.drew ?_) | (with_reducible refine below_drewN ?_ _) | (with_reducible refine Below.setCell ?_ ?_ _))
    all_goals first | omega | (simp; done) | (simp [go_sem]; done) | (simp [go_sem]; omega)
  | true =>
  rw [hsm] at c1
  cases hbr : briefB dev ch fid p nm with
  | false =>
    rw [hbr] at cb
    clear hsm hbr c2 hs0 hft h hb0 hp hnm ho hlg
    go_enter Try.func7, Try.ntmps7
    go_wp2_with fail
    refine (c1).mono ?_
    rintro e w2 ⟨rfl, hb⟩
    obtain ⟨x1, rfl⟩ := plus_of_below hb
    clear hb
    clear c1
    go_wp2_with fail
    refine (cb _).mono ?_
    rintro e w2 ⟨rfl, hb⟩
    obtain ⟨x2, rfl⟩ := plus_next hb
    clear hb
    clear cb
    go_wp2_with fail
    refine (awake_calls _).mono ?_
    rintro e w2 ⟨rfl, hb⟩
    obtain ⟨x9, rfl⟩ := plus_next hb
    clear hb
    go_wp2
    go_ret
    refine ⟨rfl, ?_⟩
    repeat (first | (with_reducible exact Below.refl _ _) | (with_reducible assumption) | (with_reducible refine below_to_plus ?_ ?_ _) | (with_reducible refine below_holds ?_ ?_ _ _) | (with_reducible refine Below.alloc ?_ ?_ _) | (with_reducible refine Below.drew ?_) | (with_reducible refine below_drewN ?_ _) | (with_reducible refine Below.setCell ?_ ?_ _))
    all_goals first | omega | (simp; done) | (simp [go_sem]; done) | (simp [go_sem]; omega)
  | true =>
  rw [hbr] at cb
  cases hri : rightB id xs with
  | false =>
    rw [hri] at c2
    clear hsm hbr hri hs0 hft h hb0 hp hnm ho hlg
    go_enter Try.func7, Try.ntmps7
    go_wp2_with fail
    refine (c1).mono ?_
    rintro e w2 ⟨rfl, hb⟩
    obtain ⟨x1, rfl⟩ := plus_of_below hb
    clear hb
    clear c1
    go_wp2_with fail
    refine (cb _).mono ?_
    rintro e w2 ⟨rfl, hb⟩
    obtain ⟨x2, rfl⟩ := plus_next hb
    clear hb
    clear cb
    go_wp2_with fail
    refine (c2 _).mono ?_
    rintro e w2 ⟨rfl, hb⟩
    obtain ⟨x3, rfl⟩ := plus_next hb
    clear hb
    clear c2
    go_wp2_with fail
    refine (awake_calls _).mono ?_
    rintro e w2 ⟨rfl, hb⟩
    obtain ⟨x9, rfl⟩ := plus_next hb
    clear hb
    go_wp2
    go_ret
    refine ⟨rfl, ?_⟩
    repeat (first | (with_reducible exact Below.refl _ _) | (with_reducible assumption) | (with_reducible refine below_to_plus ?_ ?_ _) | (with_reducible refine below_holds ?_ ?_ _ _) | (with_reducible refine Below.alloc ?_ ?_ _) | (with_reducible refine Below.drew ?_) | (with_reducible refine below_drewN ?_ _) | (with_reducible refine Below.setCell ?_ ?_ _))
    all_goals first | omega | (simp; done) | (simp [go_sem]; done) | (simp [go_sem]; omega)
  | true =>
  rw [hri] at c2
  by_cases k1 : kind = 1
  · subst k1
    exact lawUndo_main1 id dev ch fid p nm mode num to off wh lg ao n cap xs w h hft hp hnm ho hlg hsm hbr hri
  by_cases k2 : kind = 2
  · subst k2
    by_cases kt : to = num
    · subst kt
      clear hsm hbr hri hs0 hft h hb0 hp hnm ho hlg
      go_enter Try.func7, Try.ntmps7
      go_wp2_with fail
      refine (c1).mono ?_
      rintro e w2 ⟨rfl, hb⟩
      obtain ⟨x1, rfl⟩ := plus_of_below hb
      clear hb
      clear c1
      go_wp2_with fail
      refine (cb _).mono ?_
      rintro e w2 ⟨rfl, hb⟩
      obtain ⟨x2, rfl⟩ := plus_next hb
      clear hb
      clear cb
      go_wp2_with fail
      refine (c2 _).mono ?_
      rintro e w2 ⟨rfl, hb⟩
      obtain ⟨x3, rfl⟩ := plus_next hb
      clear hb
      clear c2
      go_wp2_with fail
      refine (awake_calls _).mono ?_
      rintro e w2 ⟨rfl, hb⟩
      obtain ⟨x9, rfl⟩ := plus_next hb
      clear hb
      go_wp2
      go_ret
      refine ⟨rfl, ?_⟩
      repeat (first | (with_reducible exact Below.refl _ _) | (with_reducible assumption) | (with_reducible refine below_to_plus ?_ ?_ _) | (with_reducible refine below_holds ?_ ?_ _ _) | (with_reducible refine Below.alloc ?_ ?_ _) | (with_reducible refine Below.drew ?_) | (with_reducible refine below_drewN ?_ _) | (with_reducible refine Below.setCell ?_ ?_ _))
      all_goals first | omega | (simp; done) | (simp [go_sem]; done) | (simp [go_sem]; omega)
    · exact lawUndo_main2 id dev ch fid p nm mode num to off wh lg ao n cap xs w h hft hp hnm ho hlg hsm hbr hri kt
  have f1 : (kind != 1) = true := by simp [k1]
  have f2 : (kind != 2) = true := by simp [k2]
  clear hsm hbr hri hs0 hft h hb0 hp hnm ho hlg k1 k2
  go_enter Try.func7, Try.ntmps7
  go_wp2_with fail
  refine (c1).mono ?_
  rintro e w2 ⟨rfl, hb⟩
  obtain ⟨x1, rfl⟩ := plus_of_below hb
  clear hb
  clear c1
  go_wp2_with fail
  refine (cb _).mono ?_
  rintro e w2 ⟨rfl, hb⟩
  obtain ⟨x2, rfl⟩ := plus_next hb
  clear hb
  clear cb
  go_wp2_with fail
  refine (c2 _).mono ?_
  rintro e w2 ⟨rfl, hb⟩
  obtain ⟨x3, rfl⟩ := plus_next hb
  clear hb
  clear c2
  go_wp2_with fail
  refine (awake_calls _).mono ?_
  rintro e w2 ⟨rfl, hb⟩
  obtain ⟨x9, rfl⟩ := plus_next hb
  clear hb
  go_wp2
  go_ret
  refine ⟨rfl, ?_⟩
  repeat (first | (with_reducible exact Below.refl _ _) | (with_reducible assumption) | (with_reducible refine below_to_plus ?_ ?_ _) | (with_reducible refine below_holds ?_ ?_ _ _) | (with_reducible refine Below.alloc ?_ ?_ _) | (with_reducible refine Below.drew ?_) | (with_reducible refine below_drewN ?_ _) | (with_reducible refine Below.setCell ?_ ?_ _))
  all_goals first | omega | (simp; done) | (simp [go_sem]; done) | (simp [go_sem]; omega)

end Go.Proofs.Ytbifanenoejjgaa
