/- This text proves the walks of Add, Dup, Seek and Moved of the reference. Conditions: those that each theorem names. -/
import Derived.Test.YtbifanenoejjgaaFdsU
import Derived.Deep.RegionHeld3
namespace Go.Proofs.Ytbifanenoejjgaa
open Go.ChangeShapes Go.WideShapes Go.ChangeAt Go.RowKit
set_option linter.unusedVariables false
set_option linter.unusedSimpArgs false

/-- What Add of the reference returns. -/
def raddF (xs : List Fd) (dev ch fid : Int) (p nm : ByteArray) (mode : Int) : List Fd × Int × Int :=
  if validB dev ch fid p nm = false then (xs, 0, 1) else if mode < 0 ∨ 127 < mode then (xs, 0, 12) else if 64 ≤ lowF Fd.num xs then (xs, 0, 22)
  else (rwithL ⟨(lowF Fd.num xs : Nat), dev, ch, fid, p, nm, mode, 0, (min 64 (lowF Fd.copy xs) : Nat)⟩ xs, (lowF Fd.num xs : Nat), 0)
theorem rwithL_len (d : Fd) (xs : List Fd) : (rwithL d xs).length = xs.length + 1 := by
  have key : ∀ (xs : List Fd) (l : List Fd) (b : Bool), (xs.foldl (wStep d) (l, b)).1.length + (if b then 1 else 0) = l.length + xs.length + (if (xs.foldl (wStep d) (l, b)).2 then 1 else 0) := by
    intro xs
    induction xs with
    | nil => intro l b; rfl
    | cons y xs ih =>
      intro l b
      rw [List.foldl_cons]
      by_cases h : b = false ∧ d.num < y.num
      · have e : wStep d (l, b) y = (l ++ [d] ++ [y], true) := by unfold wStep; rw [if_pos h]
        have e2 : (l ++ [d] ++ [y]).length = l.length + 2 := by simp
        have := ih (l ++ [d] ++ [y]) true
        rw [e, h.1]
        rw [e2] at this
        rw [if_pos rfl] at this
        rw [if_neg (by simp), List.length_cons]
        omega
      · have e : wStep d (l, b) y = (l ++ [y], b) := by unfold wStep; rw [if_neg h]
        have e2 : (l ++ [y]).length = l.length + 1 := by simp
        have := ih (l ++ [y]) b
        rw [e]
        rw [e2] at this
        rw [List.length_cons]
        omega
  have := key xs [] false
  unfold rwithL
  split
  · rename_i h
    rw [h] at this
    simp at this
    omega
  · rename_i h
    simp only [h, Bool.false_eq_true, if_false] at this
    rw [List.length_append]
    simp at this ⊢
    omega

set_option maxHeartbeats 8000000 in
theorem radd_calls (id dev ch fid : Int) (p nm : ByteArray) (mode : Int) (ao : Option Addr) (n cap : Nat) (xs : List Fd) (w : World) (h : Sl w 9 ao n cap (xs.map Fd.enc)) (hn : n ≤ 1000) (hp : p.size ≤ maxLen) (hnm : nm.size ≤ maxLen) :
    Calls Try.prog 31 #[.agg #[.int .i64 id, .slice ao n cap], .agg #[.int .i64 dev, .int .i64 ch, .int .i64 fid, .string p, .string nm], .int .i64 mode] w fun e w' => RRet w id ao cap xs (raddF xs dev ch fid p nm mode) e w' := by
  have HL : Aside (xs.length = n) := Sl.lenE h
  have H : Aside (Sl w 9 ao n cap (xs.map Fd.enc)) := h
  have hb0 : Below w.heap.size w (((w.alloc (.cells #[.int .i64 id, .slice ao n cap] 24)).alloc (.cells #[.int .i64 dev, .int .i64 ch, .int .i64 fid, .string p, .string nm] 28)).alloc (.cells #[.int .i64 0, .slice none 0 0] 24)) := by
    repeat (first | (with_reducible exact Below.refl _ _) | (with_reducible assumption) | (with_reducible refine below_to_plus ?_ ?_ _) | (with_reducible refine below_holds ?_ ?_ _ _) | (with_reducible refine Below.alloc ?_ ?_ _) | (with_reducible refine Below.drew ?_) | (with_reducible refine below_drewN ?_ _) | (with_reducible refine Below.setCell ?_ ?_ _))
    all_goals first | omega | (simp; done) | (simp [go_sem]; done) | (simp [go_sem]; omega)
  have HB0 : Aside (Below w.heap.size w (((w.alloc (.cells #[.int .i64 id, .slice ao n cap] 24)).alloc (.cells #[.int .i64 dev, .int .i64 ch, .int .i64 fid, .string p, .string nm] 28)).alloc (.cells #[.int .i64 0, .slice none 0 0] 24))) := hb0
  have c0 := free_calls id ao n cap xs (((w.alloc (.cells #[.int .i64 id, .slice ao n cap] 24)).alloc (.cells #[.int .i64 dev, .int .i64 ch, .int .i64 fid, .string p, .string nm] 28)).alloc (.cells #[.int .i64 0, .slice none 0 0] 24)) (h.stays hb0)
  have c1 := fun x => rvalid_calls dev ch fid p nm (plus (((w.alloc (.cells #[.int .i64 id, .slice ao n cap] 24)).alloc (.cells #[.int .i64 dev, .int .i64 ch, .int .i64 fid, .string p, .string nm] 28)).alloc (.cells #[.int .i64 0, .slice none 0 0] 24)) x) hp hnm
  have c2 : ∀ x, Calls Try.prog 49 #[.agg #[.int .i64 id, .slice ao n cap]] (plus (((w.alloc (.cells #[.int .i64 id, .slice ao n cap] 24)).alloc (.cells #[.int .i64 dev, .int .i64 ch, .int .i64 fid, .string p, .string nm] 28)).alloc (.cells #[.int .i64 0, .slice none 0 0] 24)) x) fun e w' => e = .returned (.int .i64 ((min 64 (lowF Fd.copy xs) : Nat) : Int)) ∧ Below (plus (((w.alloc (.cells #[.int .i64 id, .slice ao n cap] 24)).alloc (.cells #[.int .i64 dev, .int .i64 ch, .int .i64 fid, .string p, .string nm] 28)).alloc (.cells #[.int .i64 0, .slice none 0 0] 24)) x).heap.size (plus (((w.alloc (.cells #[.int .i64 id, .slice ao n cap] 24)).alloc (.cells #[.int .i64 dev, .int .i64 ch, .int .i64 fid, .string p, .string nm] 28)).alloc (.cells #[.int .i64 0, .slice none 0 0] 24)) x) w' := fun x => fresh_calls id ao n cap xs _ ((h.stays hb0).stays (below_plus _ _))
  have hmn : ((min 64 (lowF Fd.num xs) : Nat) : Int) = if 64 ≤ lowF Fd.num xs then 64 else ((lowF Fd.num xs : Nat) : Int) := by
    split <;> omega
  rw [hmn] at c0
  clear h hb0 hp hnm hmn
  have c4 : ∀ (k1 k2 : Int) x, Calls Try.prog 48 #[.agg #[.int .i64 id, .slice ao n cap], .agg #[.int .i64 k1, .int .i64 dev, .int .i64 ch, .int .i64 fid, .string p, .string nm, .int .i64 mode, .int .i64 0, .int .i64 k2]] (plus (((w.alloc (.cells #[.int .i64 id, .slice ao n cap] 24)).alloc (.cells #[.int .i64 dev, .int .i64 ch, .int .i64 fid, .string p, .string nm] 28)).alloc (.cells #[.int .i64 0, .slice none 0 0] 24)) x) fun e w' => CopyPost (plus (((w.alloc (.cells #[.int .i64 id, .slice ao n cap] 24)).alloc (.cells #[.int .i64 dev, .int .i64 ch, .int .i64 fid, .string p, .string nm] 28)).alloc (.cells #[.int .i64 0, .slice none 0 0] 24)) x) id (rwithL ⟨k1, dev, ch, fid, p, nm, mode, 0, k2⟩ xs) e w' := fun k1 k2 x => rwith_calls id ao n cap xs k1 dev ch fid p nm mode 0 k2 _ ((H.out.stays HB0.out).stays (below_plus _ _)) hn
  cases hv : validB dev ch fid p nm with
  | false =>
    have ER : Aside (raddF xs dev ch fid p nm mode = (xs, 0, 1)) := by show _ = _; unfold raddF; rw [if_pos hv]
    rw [hv] at c1
    clear hv c2 c4
    generalize (if 64 ≤ lowF Fd.num xs then (64 : Int) else ((lowF Fd.num xs : Nat) : Int)) = k at c0
    go_enter Try.func31, Try.ntmps31
    go_wp2_with fail
    refine (c0).mono ?_
    rintro e w2 ⟨rfl, hb⟩
    obtain ⟨x, rfl⟩ := plus_of_below hb
    clear hb
    go_wp2_with fail
    refine (c1 _).mono ?_
    rintro e w2 ⟨rfl, hb⟩
    obtain ⟨x2, rfl⟩ := plus_next hb
    clear hb
    clear c0 c1
    go_wp2
    refine bodyPost_ret (v := .tuple #[.agg #[.int .i64 id, .slice ao n cap], .int .i64 0, .int .i64 1]) (by simp [results, Try.results31, go_sem, ↓IntWalk.iteOmega]) rfl ⟨ao, cap, ?_, ?_, ?_⟩
    · rw [ER.out, HL.out]
    · rw [ER.out]; exact .inl ⟨rfl, rfl, rfl⟩
    · repeat (first | (with_reducible exact Below.refl _ _) | (with_reducible assumption) | (with_reducible refine below_to_plus ?_ ?_ _) | (with_reducible refine below_holds ?_ ?_ _ _) | (with_reducible refine Below.alloc ?_ ?_ _) | (with_reducible refine Below.drew ?_) | (with_reducible refine below_drewN ?_ _) | (with_reducible refine Below.setCell ?_ ?_ _))
      all_goals first | omega | (simp; done) | (simp [go_sem]; done) | (simp [go_sem]; omega)
  | true =>
    rw [hv] at c1
    by_cases hm : mode < 0 ∨ 127 < mode
    · have ER : Aside (raddF xs dev ch fid p nm mode = (xs, 0, 12)) := by show _ = _; unfold raddF; rw [if_neg (by simp [hv]), if_pos hm]
      clear hv c2 c4
      generalize (if 64 ≤ lowF Fd.num xs then (64 : Int) else ((lowF Fd.num xs : Nat) : Int)) = k at c0
      rcases hm with hm | hm
      · have hm2 : ¬ 127 < mode := by omega
        go_enter Try.func31, Try.ntmps31
        go_wp2_with fail
        refine (c0).mono ?_
        rintro e w2 ⟨rfl, hb⟩
        obtain ⟨x, rfl⟩ := plus_of_below hb
        clear hb
        go_wp2_with fail
        refine (c1 _).mono ?_
        rintro e w2 ⟨rfl, hb⟩
        obtain ⟨x2, rfl⟩ := plus_next hb
        clear hb
        clear c0 c1
        go_wp2
        refine bodyPost_ret (v := .tuple #[.agg #[.int .i64 id, .slice ao n cap], .int .i64 0, .int .i64 12]) (by simp [results, Try.results31, go_sem, ↓IntWalk.iteOmega]) rfl ⟨ao, cap, ?_, ?_, ?_⟩
        · rw [ER.out, HL.out]
        · rw [ER.out]; exact .inl ⟨rfl, rfl, rfl⟩
        · repeat (first | (with_reducible exact Below.refl _ _) | (with_reducible assumption) | (with_reducible refine below_to_plus ?_ ?_ _) | (with_reducible refine below_holds ?_ ?_ _ _) | (with_reducible refine Below.alloc ?_ ?_ _) | (with_reducible refine Below.drew ?_) | (with_reducible refine below_drewN ?_ _) | (with_reducible refine Below.setCell ?_ ?_ _))
          all_goals first | omega | (simp; done) | (simp [go_sem]; done) | (simp [go_sem]; omega)


      · have hm1 : ¬ mode < 0 := by omega
        go_enter Try.func31, Try.ntmps31
        go_wp2_with fail
        refine (c0).mono ?_
        rintro e w2 ⟨rfl, hb⟩
        obtain ⟨x, rfl⟩ := plus_of_below hb
        clear hb
        go_wp2_with fail
        refine (c1 _).mono ?_
        rintro e w2 ⟨rfl, hb⟩
        obtain ⟨x2, rfl⟩ := plus_next hb
        clear hb
        clear c0 c1
        go_wp2
        refine bodyPost_ret (v := .tuple #[.agg #[.int .i64 id, .slice ao n cap], .int .i64 0, .int .i64 12]) (by simp [results, Try.results31, go_sem, ↓IntWalk.iteOmega]) rfl ⟨ao, cap, ?_, ?_, ?_⟩
        · rw [ER.out, HL.out]
        · rw [ER.out]; exact .inl ⟨rfl, rfl, rfl⟩
        · repeat (first | (with_reducible exact Below.refl _ _) | (with_reducible assumption) | (with_reducible refine below_to_plus ?_ ?_ _) | (with_reducible refine below_holds ?_ ?_ _ _) | (with_reducible refine Below.alloc ?_ ?_ _) | (with_reducible refine Below.drew ?_) | (with_reducible refine below_drewN ?_ _) | (with_reducible refine Below.setCell ?_ ?_ _))
          all_goals first | omega | (simp; done) | (simp [go_sem]; done) | (simp [go_sem]; omega)


    have hm1 : ¬ mode < 0 := fun h => hm (.inl h)
    have hm2 : ¬ 127 < mode := fun h => hm (.inr h)
    by_cases hL : 64 ≤ lowF Fd.num xs
    · have ER : Aside (raddF xs dev ch fid p nm mode = (xs, 0, 22)) := by show _ = _; unfold raddF; rw [if_neg (by simp [hv]), if_neg hm, if_pos hL]
      rw [if_pos hL] at c0
      clear hv c2 c4 hL hm
      go_enter Try.func31, Try.ntmps31
      go_wp2_with fail
      refine (c0).mono ?_
      rintro e w2 ⟨rfl, hb⟩
      obtain ⟨x, rfl⟩ := plus_of_below hb
      clear hb
      go_wp2_with fail
      refine (c1 _).mono ?_
      rintro e w2 ⟨rfl, hb⟩
      obtain ⟨x2, rfl⟩ := plus_next hb
      clear hb
      clear c0 c1
      go_wp2
      refine bodyPost_ret (v := .tuple #[.agg #[.int .i64 id, .slice ao n cap], .int .i64 0, .int .i64 22]) (by simp [results, Try.results31, go_sem, ↓IntWalk.iteOmega]) rfl ⟨ao, cap, ?_, ?_, ?_⟩
      · rw [ER.out, HL.out]
      · rw [ER.out]; exact .inl ⟨rfl, rfl, rfl⟩
      · repeat (first | (with_reducible exact Below.refl _ _) | (with_reducible assumption) | (with_reducible refine below_to_plus ?_ ?_ _) | (with_reducible refine below_holds ?_ ?_ _ _) | (with_reducible refine Below.alloc ?_ ?_ _) | (with_reducible refine Below.drew ?_) | (with_reducible refine below_drewN ?_ _) | (with_reducible refine Below.setCell ?_ ?_ _))
        all_goals first | omega | (simp; done) | (simp [go_sem]; done) | (simp [go_sem]; omega)


    have ER : Aside (raddF xs dev ch fid p nm mode = (rwithL ⟨(lowF Fd.num xs : Nat), dev, ch, fid, p, nm, mode, 0, (min 64 (lowF Fd.copy xs) : Nat)⟩ xs, ((lowF Fd.num xs : Nat) : Int), 0)) := by
      show _ = _; unfold raddF; rw [if_neg (by simp [hv]), if_neg hm, if_neg hL]
    rw [if_neg hL] at c0
    have c4 := c4 (lowF Fd.num xs : Nat) (min 64 (lowF Fd.copy xs) : Nat)
    have HYL : Aside ((rwithL ⟨(lowF Fd.num xs : Nat), dev, ch, fid, p, nm, mode, 0, (min 64 (lowF Fd.copy xs) : Nat)⟩ xs).length = n + 1) := by show _ = _; rw [rwithL_len, HL.out]
    generalize rwithL ⟨(lowF Fd.num xs : Nat), dev, ch, fid, p, nm, mode, 0, (min 64 (lowF Fd.copy xs) : Nat)⟩ xs = ys at ER c4 HYL
    have hk64 : ((lowF Fd.num xs : Nat) : Int) < 64 := by omega
    have hk0 : 0 ≤ ((lowF Fd.num xs : Nat) : Int) := by omega
    generalize ((lowF Fd.num xs : Nat) : Int) = k1 at ER c0 c4 hk64 hk0
    have hke : (k1 == 64) = false := by simp; omega
    generalize ((min 64 (lowF Fd.copy xs) : Nat) : Int) = k2 at c2 c4
    clear hv hm hL
    go_enter Try.func31, Try.ntmps31
    go_wp2_with fail
    refine (c0).mono ?_
    rintro e w2 ⟨rfl, hb⟩
    obtain ⟨x, rfl⟩ := plus_of_below hb
    clear hb
    go_wp2_with fail
    refine (c1 _).mono ?_
    rintro e w2 ⟨rfl, hb⟩
    obtain ⟨x2, rfl⟩ := plus_next hb
    clear hb
    clear c0 c1
    go_wp2
    go_region_held3 (fun w' => w'.cell? ⟨w.heap.size, 0, none⟩ = some (.int .i64 id) ∧ w'.cell? ⟨w.heap.size, 1, none⟩ = some (.slice ao n cap) ∧ w'.cell? ⟨w.heap.size + 1, 0, none⟩ = some (.int .i64 dev) ∧ w'.cell? ⟨w.heap.size + 1, 1, none⟩ = some (.int .i64 ch) ∧ w'.cell? ⟨w.heap.size + 1, 2, none⟩ = some (.int .i64 fid) ∧ w'.cell? ⟨w.heap.size + 1, 3, none⟩ = some (.string p) ∧ w'.cell? ⟨w.heap.size + 1, 4, none⟩ = some (.string nm)) (first | (simp [go_sem, ↓IntWalk.iteOmega]; done))
      ((first | (go_at_call 49; refine (c2 _).mono ?_; rintro e w2 ⟨rfl, hb⟩; obtain ⟨x3, hx⟩ := plus_next hb; subst hx; clear hb) | (go_at_call 48; refine (c4 _).mono ?_; rintro e w2 ⟨ao2, cap2, rfl, hsl0, hb⟩; have hsl : Aside _ := hsl0; clear hsl0; obtain ⟨x4, hx⟩ := plus_next hb; subst hx; clear hb)))
    all_goals go_wp2
    rw [HYL.out] at hsl ⊢
    refine bodyPost_ret (v := .tuple #[.agg #[.int .i64 id, .slice ao2 (n + 1) cap2], .int .i64 k1, .int .i64 0]) (by simp [results, Try.results31, go_sem, ↓IntWalk.iteOmega]) rfl ⟨ao2, cap2, by rw [ER.out, HYL.out], ?_, ?_⟩
    · rw [ER.out]
      refine .inr ?_
      show World.ownsRow _ _ _ _ (.slice ao2 ys.length cap2) ys.length (flatE Fd.enc ys)
      rw [HYL.out]
      exact own_lower (own_past (W' := ((((w.alloc (.cells #[.int .i64 id, .slice ao n cap] 24)).alloc (.cells #[.int .i64 dev, .int .i64 ch, .int .i64 fid, .string p, .string nm] 28)).alloc (.cells #[.int .i64 id, .slice ao2 (n + 1) cap2] 24)))) hsl.out (by simp [size_plus]) (by simp)) (by simp [size_plus]; omega)
    · repeat (first | (with_reducible exact Below.refl _ _) | (with_reducible assumption) | (with_reducible refine below_to_plus ?_ ?_ _) | (with_reducible refine below_holds ?_ ?_ _ _) | (with_reducible refine Below.alloc ?_ ?_ _) | (with_reducible refine Below.drew ?_) | (with_reducible refine below_drewN ?_ _) | (with_reducible refine Below.setCell ?_ ?_ _))
      all_goals first | omega | (simp; done) | (simp [go_sem]; done) | (simp [go_sem]; omega)

/-- What Seek and Moved of the reference return. -/
def rseekF (xs : List Fd) (num offset whence length : Int) : List Fd × Int × Int :=
  if (findF num xs).2 ≠ 0 then (xs, 0, (findF num xs).2) else if whence < 0 ∨ 2 < whence ∨ length < 0 then (xs, 0, 1) else mvdF xs (findF num xs).1.copy (baseF (findF num xs).1 whence length) offset
def rmovedF (xs : List Fd) (num m : Int) : List Fd × Int :=
  if (findF num xs).2 ≠ 0 then (xs, (findF num xs).2) else if m < 0 then (xs, 1) else ((mvdF xs (findF num xs).1.copy (findF num xs).1.offset m).1, (mvdF xs (findF num xs).1.copy (findF num xs).1.offset m).2.2)
def RRet2 (w : World) (id : Int) (ao : Option Addr) (cap : Nat) (xs : List Fd) (r : List Fd × Int) (e : Ending) (w' : World) : Prop :=
  ∃ ao2 cap2, e = .returned (.tuple #[.agg #[.int .i64 id, .slice ao2 r.1.length cap2], .int .i64 r.2]) ∧ RRow w ao cap xs ao2 cap2 r.1 w' ∧ Below w.heap.size w w'

set_option maxHeartbeats 8000000 in
theorem rmoved_calls (id num m : Int) (ao : Option Addr) (n cap : Nat) (xs : List Fd) (w : World) (h : Sl w 9 ao n cap (xs.map Fd.enc)) (hn : n ≤ 1000) (hf : ∀ y ∈ xs, 0 ≤ y.offset ∧ y.offset ≤ 9223372036854775807) (hm : -9223372036854775808 ≤ m ∧ m ≤ 9223372036854775807) :
    Calls Try.prog 35 #[.agg #[.int .i64 id, .slice ao n cap], .int .i64 num, .int .i64 m] w fun e w' => RRet2 w id ao cap xs (rmovedF xs num m) e w' := by
  have HL : Aside (xs.length = n) := Sl.lenE h
  have H : Aside (Sl w 9 ao n cap (xs.map Fd.enc)) := h
  have hb0 : Below w.heap.size w ((w.alloc (.cells #[.int .i64 id, .slice ao n cap] 24)).alloc (.cells #[.int .i64 0, .slice none 0 0] 24)) := by
    repeat (first | (with_reducible exact Below.refl _ _) | (with_reducible assumption) | (with_reducible refine below_to_plus ?_ ?_ _) | (with_reducible refine below_holds ?_ ?_ _ _) | (with_reducible refine Below.alloc ?_ ?_ _) | (with_reducible refine Below.drew ?_) | (with_reducible refine below_drewN ?_ _) | (with_reducible refine Below.setCell ?_ ?_ _))
    all_goals first | omega | (simp; done) | (simp [go_sem]; done) | (simp [go_sem]; omega)
  have c0 := rFind_calls id num ao n cap xs ((w.alloc (.cells #[.int .i64 id, .slice ao n cap] 24)).alloc (.cells #[.int .i64 0, .slice none 0 0] 24)) (h.stays hb0)
  clear h hb0
  rcases findI_spec num xs with ⟨e1, _⟩ | ⟨k, hk, e1, _⟩
  · have ER : Aside (rmovedF xs num m = (xs, 44)) := by show _ = _; unfold rmovedF; rw [show findF num xs = (default, 44) by unfold findF; rw [e1]; rfl]; rfl
    rw [show findF num xs = (default, 44) by unfold findF; rw [e1]; rfl] at c0
    have c0' : Calls Try.prog 13 #[.agg #[.int .i64 id, .slice ao n cap], .int .i64 num] ((w.alloc (.cells #[.int .i64 id, .slice ao n cap] 24)).alloc (.cells #[.int .i64 0, .slice none 0 0] 24)) fun e w' => e = .returned (.tuple #[.agg #[.int .i64 0, .int .i64 0, .int .i64 0, .int .i64 0, .string ⟨#[]⟩, .string ⟨#[]⟩, .int .i64 0, .int .i64 0, .int .i64 0], .int .i64 44]) ∧ Below ((w.alloc (.cells #[.int .i64 id, .slice ao n cap] 24)).alloc (.cells #[.int .i64 0, .slice none 0 0] 24)).heap.size ((w.alloc (.cells #[.int .i64 id, .slice ao n cap] 24)).alloc (.cells #[.int .i64 0, .slice none 0 0] 24)) w' := c0
    clear c0 e1
    go_enter Try.func35, Try.ntmps35
    go_wp2_with fail
    refine (c0').mono ?_
    rintro e w2 ⟨rfl, hb⟩
    obtain ⟨x, rfl⟩ := plus_of_below hb
    clear hb
    clear c0'
    go_wp2
    refine bodyPost_ret (v := .tuple #[.agg #[.int .i64 id, .slice ao n cap], .int .i64 44]) (by simp [results, Try.results35, go_sem, ↓IntWalk.iteOmega]) rfl ⟨ao, cap, ?_, ?_, ?_⟩
    · rw [ER.out, HL.out]
    · rw [ER.out]; exact .inl ⟨rfl, rfl, rfl⟩
    · repeat (first | (with_reducible exact Below.refl _ _) | (with_reducible assumption) | (with_reducible refine below_to_plus ?_ ?_ _) | (with_reducible refine below_holds ?_ ?_ _ _) | (with_reducible refine Below.alloc ?_ ?_ _) | (with_reducible refine Below.drew ?_) | (with_reducible refine below_drewN ?_ _) | (with_reducible refine Below.setCell ?_ ?_ _))
      all_goals first | omega | (simp; done) | (simp [go_sem]; done) | (simp [go_sem]; omega)
  · have ef : findF num xs = (xs[k]!, 0) := by unfold findF; rw [e1, if_neg (by omega)]; rfl
    rw [ef] at c0
    have hn0 : 0 < n := by have := HL.out; omega
    have ho := hf xs[k]! (by rw [getElem!_pos xs k hk]; exact List.getElem_mem _)
    clear hf hk
    generalize xs[k]! = d at ef c0 ho
    obtain ⟨d1, d2, d3, d4, d5, d6, d7, d8, d9⟩ := d
    simp only [] at ho
    have c0' : Calls Try.prog 13 #[.agg #[.int .i64 id, .slice ao n cap], .int .i64 num] ((w.alloc (.cells #[.int .i64 id, .slice ao n cap] 24)).alloc (.cells #[.int .i64 0, .slice none 0 0] 24)) fun e w' => e = .returned (.tuple #[.agg #[.int .i64 d1, .int .i64 d2, .int .i64 d3, .int .i64 d4, .string d5, .string d6, .int .i64 d7, .int .i64 d8, .int .i64 d9], .int .i64 0]) ∧ Below ((w.alloc (.cells #[.int .i64 id, .slice ao n cap] 24)).alloc (.cells #[.int .i64 0, .slice none 0 0] 24)).heap.size ((w.alloc (.cells #[.int .i64 id, .slice ao n cap] 24)).alloc (.cells #[.int .i64 0, .slice none 0 0] 24)) w' := c0
    clear c0 e1
    by_cases ht : m < 0
    · have ER : Aside (rmovedF xs num m = (xs, 1)) := by show _ = _; unfold rmovedF; rw [ef, if_neg (by simp), if_pos ht]
      clear ef
      go_enter Try.func35, Try.ntmps35
      go_wp2_with fail
      refine (c0').mono ?_
      rintro e w2 ⟨rfl, hb⟩
      obtain ⟨x, rfl⟩ := plus_of_below hb
      clear hb

      clear c0'
      go_wp2
      refine bodyPost_ret (v := .tuple #[.agg #[.int .i64 id, .slice ao n cap], .int .i64 1]) (by simp [results, Try.results35, go_sem, ↓IntWalk.iteOmega]) rfl ⟨ao, cap, ?_, ?_, ?_⟩
      · rw [ER.out, HL.out]
      · rw [ER.out]; exact .inl ⟨rfl, rfl, rfl⟩
      · repeat (first | (with_reducible exact Below.refl _ _) | (with_reducible assumption) | (with_reducible refine below_to_plus ?_ ?_ _) | (with_reducible refine below_holds ?_ ?_ _ _) | (with_reducible refine Below.alloc ?_ ?_ _) | (with_reducible refine Below.drew ?_) | (with_reducible refine below_drewN ?_ _) | (with_reducible refine Below.setCell ?_ ?_ _))
        all_goals first | omega | (simp; done) | (simp [go_sem]; done) | (simp [go_sem]; omega)
    have ER : Aside (rmovedF xs num m = ((mvdF xs d9 d8 m).1, (mvdF xs d9 d8 m).2.2)) := by show _ = _; unfold rmovedF; rw [ef, if_neg (by simp), if_neg ht]
    have cm : ∀ U, Below w.heap.size w U → Calls Try.prog 50 #[.agg #[.int .i64 id, .slice ao n cap], .agg #[.int .i64 d1, .int .i64 d2, .int .i64 d3, .int .i64 d4, .string d5, .string d6, .int .i64 d7, .int .i64 d8, .int .i64 d9], .int .i64 d8, .int .i64 m] U fun e w' => RRet U id ao cap xs (mvdF xs d9 d8 m) e w' := fun U hU => mvd_calls id d8 m d1 d2 d3 d4 d5 d6 d7 d8 d9 ao n cap xs U (H.out.stays hU) hn hn0 (by omega) (by omega)
    generalize mvdF xs d9 d8 m = r at cm ER
    obtain ⟨zs, rv, re⟩ := r
    clear ef ho
    go_enter Try.func35, Try.ntmps35
    go_wp2_with fail
    refine (c0').mono ?_
    rintro e w2 ⟨rfl, hb⟩
    obtain ⟨x, rfl⟩ := plus_of_below hb
    clear hb

    clear c0'
    go_wp2_with fail
    refine (cm _ ?_).mono ?_
    · repeat (first | (with_reducible exact Below.refl _ _) | (with_reducible assumption) | (with_reducible refine below_to_plus ?_ ?_ _) | (with_reducible refine below_holds ?_ ?_ _ _) | (with_reducible refine Below.alloc ?_ ?_ _) | (with_reducible refine Below.drew ?_) | (with_reducible refine below_drewN ?_ _) | (with_reducible refine Below.setCell ?_ ?_ _))
      all_goals first | omega | (simp; done) | (simp [go_sem]; done) | (simp [go_sem]; omega)
    rintro e w2 ⟨ao2, cap2, rfl, hs2, hb⟩
    have HS2 : Aside (_) := hs2
    obtain ⟨y, rfl⟩ := plus_of_below hb
    clear hb hs2 cm
    go_wp2
    refine bodyPost_ret (v := .tuple #[.agg #[.int .i64 id, .slice ao2 zs.length cap2], .int .i64 re]) (by simp [results, Try.results35, go_sem, ↓IntWalk.iteOmega]) rfl ⟨ao2, cap2, ?_, ?_, ?_⟩
    · rw [ER.out]
    · rw [ER.out]
      rcases HS2.out with hh | hh
      · exact .inl hh
      · exact .inr (own_lower (own_alloc (own_past (W' := ((plus ((w.alloc (.cells #[.int .i64 id, .slice ao n cap] 24)).alloc (.cells #[.int .i64 id, .slice ao2 zs.length cap2] 24)) x).alloc (.cells #[.int .i64 d1, .int .i64 d2, .int .i64 d3, .int .i64 d4, .string d5, .string d6, .int .i64 d7, .int .i64 d8, .int .i64 d9] 30))) hh (Nat.le_refl _) (by simp [size_plus]))) (by simp [size_plus]; omega))
    · repeat (first | (with_reducible exact Below.refl _ _) | (with_reducible assumption) | (with_reducible refine below_to_plus ?_ ?_ _) | (with_reducible refine below_holds ?_ ?_ _ _) | (with_reducible refine Below.alloc ?_ ?_ _) | (with_reducible refine Below.drew ?_) | (with_reducible refine below_drewN ?_ _) | (with_reducible refine Below.setCell ?_ ?_ _))
      all_goals first | omega | (simp; done) | (simp [go_sem]; done) | (simp [go_sem]; omega)

set_option maxHeartbeats 8000000 in
theorem rseek_calls (id num offset whence length : Int) (ao : Option Addr) (n cap : Nat) (xs : List Fd) (w : World) (h : Sl w 9 ao n cap (xs.map Fd.enc)) (hn : n ≤ 1000) (hf : ∀ y ∈ xs, 0 ≤ y.offset ∧ y.offset ≤ 9223372036854775807) (hm : -9223372036854775808 ≤ offset ∧ offset ≤ 9223372036854775807) (hlg : length ≤ 9223372036854775807) :
    Calls Try.prog 34 #[.agg #[.int .i64 id, .slice ao n cap], .int .i64 num, .int .i64 offset, .int .i64 whence, .int .i64 length] w fun e w' => RRet w id ao cap xs (rseekF xs num offset whence length) e w' := by
  have HL : Aside (xs.length = n) := Sl.lenE h
  have H : Aside (Sl w 9 ao n cap (xs.map Fd.enc)) := h
  have hb0 : Below w.heap.size w ((w.alloc (.cells #[.int .i64 id, .slice ao n cap] 24)).alloc (.cells #[.int .i64 0, .slice none 0 0] 24)) := by
    repeat (first | (with_reducible exact Below.refl _ _) | (with_reducible assumption) | (with_reducible refine below_to_plus ?_ ?_ _) | (with_reducible refine below_holds ?_ ?_ _ _) | (with_reducible refine Below.alloc ?_ ?_ _) | (with_reducible refine Below.drew ?_) | (with_reducible refine below_drewN ?_ _) | (with_reducible refine Below.setCell ?_ ?_ _))
    all_goals first | omega | (simp; done) | (simp [go_sem]; done) | (simp [go_sem]; omega)
  have c0 := rFind_calls id num ao n cap xs ((w.alloc (.cells #[.int .i64 id, .slice ao n cap] 24)).alloc (.cells #[.int .i64 0, .slice none 0 0] 24)) (h.stays hb0)
  clear h hb0
  rcases findI_spec num xs with ⟨e1, _⟩ | ⟨k, hk, e1, _⟩
  · have ER : Aside (rseekF xs num offset whence length = (xs, 0, 44)) := by show _ = _; unfold rseekF; rw [show findF num xs = (default, 44) by unfold findF; rw [e1]; rfl]; rfl
    rw [show findF num xs = (default, 44) by unfold findF; rw [e1]; rfl] at c0
    have c0' : Calls Try.prog 13 #[.agg #[.int .i64 id, .slice ao n cap], .int .i64 num] ((w.alloc (.cells #[.int .i64 id, .slice ao n cap] 24)).alloc (.cells #[.int .i64 0, .slice none 0 0] 24)) fun e w' => e = .returned (.tuple #[.agg #[.int .i64 0, .int .i64 0, .int .i64 0, .int .i64 0, .string ⟨#[]⟩, .string ⟨#[]⟩, .int .i64 0, .int .i64 0, .int .i64 0], .int .i64 44]) ∧ Below ((w.alloc (.cells #[.int .i64 id, .slice ao n cap] 24)).alloc (.cells #[.int .i64 0, .slice none 0 0] 24)).heap.size ((w.alloc (.cells #[.int .i64 id, .slice ao n cap] 24)).alloc (.cells #[.int .i64 0, .slice none 0 0] 24)) w' := c0
    clear c0 e1
    go_enter Try.func34, Try.ntmps34
    go_wp2_with fail
    refine (c0').mono ?_
    rintro e w2 ⟨rfl, hb⟩
    obtain ⟨x, rfl⟩ := plus_of_below hb
    clear hb
    clear c0'
    go_wp2
    refine bodyPost_ret (v := .tuple #[.agg #[.int .i64 id, .slice ao n cap], .int .i64 0, .int .i64 44]) (by simp [results, Try.results34, go_sem, ↓IntWalk.iteOmega]) rfl ⟨ao, cap, ?_, ?_, ?_⟩
    · rw [ER.out, HL.out]
    · rw [ER.out]; exact .inl ⟨rfl, rfl, rfl⟩
    · repeat (first | (with_reducible exact Below.refl _ _) | (with_reducible assumption) | (with_reducible refine below_to_plus ?_ ?_ _) | (with_reducible refine below_holds ?_ ?_ _ _) | (with_reducible refine Below.alloc ?_ ?_ _) | (with_reducible refine Below.drew ?_) | (with_reducible refine below_drewN ?_ _) | (with_reducible refine Below.setCell ?_ ?_ _))
      all_goals first | omega | (simp; done) | (simp [go_sem]; done) | (simp [go_sem]; omega)
  · have ef : findF num xs = (xs[k]!, 0) := by unfold findF; rw [e1, if_neg (by omega)]; rfl
    rw [ef] at c0
    have hn0 : 0 < n := by have := HL.out; omega
    have ho := hf xs[k]! (by rw [getElem!_pos xs k hk]; exact List.getElem_mem _)
    clear hf hk
    generalize xs[k]! = d at ef c0 ho
    obtain ⟨d1, d2, d3, d4, d5, d6, d7, d8, d9⟩ := d
    simp only [] at ho
    have c0' : Calls Try.prog 13 #[.agg #[.int .i64 id, .slice ao n cap], .int .i64 num] ((w.alloc (.cells #[.int .i64 id, .slice ao n cap] 24)).alloc (.cells #[.int .i64 0, .slice none 0 0] 24)) fun e w' => e = .returned (.tuple #[.agg #[.int .i64 d1, .int .i64 d2, .int .i64 d3, .int .i64 d4, .string d5, .string d6, .int .i64 d7, .int .i64 d8, .int .i64 d9], .int .i64 0]) ∧ Below ((w.alloc (.cells #[.int .i64 id, .slice ao n cap] 24)).alloc (.cells #[.int .i64 0, .slice none 0 0] 24)).heap.size ((w.alloc (.cells #[.int .i64 id, .slice ao n cap] 24)).alloc (.cells #[.int .i64 0, .slice none 0 0] 24)) w' := c0
    clear c0 e1
    by_cases ht : whence < 0 ∨ 2 < whence ∨ length < 0
    · have ER : Aside (rseekF xs num offset whence length = (xs, 0, 1)) := by show _ = _; unfold rseekF; rw [ef, if_neg (by simp), if_pos ht]
      clear ef
      by_cases t1 : whence < 0
      · have t2 : ¬ 2 < whence := by omega
        clear ht
        go_enter Try.func34, Try.ntmps34
        go_wp2_with fail
        refine (c0').mono ?_
        rintro e w2 ⟨rfl, hb⟩
        obtain ⟨x, rfl⟩ := plus_of_below hb
        clear hb

        clear c0'
        go_wp2
        refine bodyPost_ret (v := .tuple #[.agg #[.int .i64 id, .slice ao n cap], .int .i64 0, .int .i64 1]) (by simp [results, Try.results34, go_sem, ↓IntWalk.iteOmega]) rfl ⟨ao, cap, ?_, ?_, ?_⟩
        · rw [ER.out, HL.out]
        · rw [ER.out]; exact .inl ⟨rfl, rfl, rfl⟩
        · repeat (first | (with_reducible exact Below.refl _ _) | (with_reducible assumption) | (with_reducible refine below_to_plus ?_ ?_ _) | (with_reducible refine below_holds ?_ ?_ _ _) | (with_reducible refine Below.alloc ?_ ?_ _) | (with_reducible refine Below.drew ?_) | (with_reducible refine below_drewN ?_ _) | (with_reducible refine Below.setCell ?_ ?_ _))
          all_goals first | omega | (simp; done) | (simp [go_sem]; done) | (simp [go_sem]; omega)
      · by_cases t2 : 2 < whence
        · clear ht
          go_enter Try.func34, Try.ntmps34
          go_wp2_with fail
          refine (c0').mono ?_
          rintro e w2 ⟨rfl, hb⟩
          obtain ⟨x, rfl⟩ := plus_of_below hb
          clear hb

          clear c0'
          go_wp2
          refine bodyPost_ret (v := .tuple #[.agg #[.int .i64 id, .slice ao n cap], .int .i64 0, .int .i64 1]) (by simp [results, Try.results34, go_sem, ↓IntWalk.iteOmega]) rfl ⟨ao, cap, ?_, ?_, ?_⟩
          · rw [ER.out, HL.out]
          · rw [ER.out]; exact .inl ⟨rfl, rfl, rfl⟩
          · repeat (first | (with_reducible exact Below.refl _ _) | (with_reducible assumption) | (with_reducible refine below_to_plus ?_ ?_ _) | (with_reducible refine below_holds ?_ ?_ _ _) | (with_reducible refine Below.alloc ?_ ?_ _) | (with_reducible refine Below.drew ?_) | (with_reducible refine below_drewN ?_ _) | (with_reducible refine Below.setCell ?_ ?_ _))
            all_goals first | omega | (simp; done) | (simp [go_sem]; done) | (simp [go_sem]; omega)
        · have t3 : length < 0 := by omega
          clear ht
          go_enter Try.func34, Try.ntmps34
          go_wp2_with fail
          refine (c0').mono ?_
          rintro e w2 ⟨rfl, hb⟩
          obtain ⟨x, rfl⟩ := plus_of_below hb
          clear hb

          clear c0'
          go_wp2
          refine bodyPost_ret (v := .tuple #[.agg #[.int .i64 id, .slice ao n cap], .int .i64 0, .int .i64 1]) (by simp [results, Try.results34, go_sem, ↓IntWalk.iteOmega]) rfl ⟨ao, cap, ?_, ?_, ?_⟩
          · rw [ER.out, HL.out]
          · rw [ER.out]; exact .inl ⟨rfl, rfl, rfl⟩
          · repeat (first | (with_reducible exact Below.refl _ _) | (with_reducible assumption) | (with_reducible refine below_to_plus ?_ ?_ _) | (with_reducible refine below_holds ?_ ?_ _ _) | (with_reducible refine Below.alloc ?_ ?_ _) | (with_reducible refine Below.drew ?_) | (with_reducible refine below_drewN ?_ _) | (with_reducible refine Below.setCell ?_ ?_ _))
            all_goals first | omega | (simp; done) | (simp [go_sem]; done) | (simp [go_sem]; omega)
    have ER : Aside (rseekF xs num offset whence length = mvdF xs d9 (baseF ⟨d1, d2, d3, d4, d5, d6, d7, d8, d9⟩ whence length) offset) := by show _ = _; unfold rseekF; rw [ef, if_neg (by simp), if_neg ht]
    have t1 : ¬ whence < 0 := by omega
    have t2 : ¬ 2 < whence := by omega
    have t3 : ¬ length < 0 := by omega
    obtain hw | hw | hw : whence = 0 ∨ whence = 1 ∨ whence = 2 := by omega
    · subst hw
      rw [show baseF ⟨d1, d2, d3, d4, d5, d6, d7, d8, d9⟩ 0 length = 0 from rfl] at ER
      have cm : ∀ U, Below w.heap.size w U → Calls Try.prog 50 #[.agg #[.int .i64 id, .slice ao n cap], .agg #[.int .i64 d1, .int .i64 d2, .int .i64 d3, .int .i64 d4, .string d5, .string d6, .int .i64 d7, .int .i64 d8, .int .i64 d9], .int .i64 0, .int .i64 offset] U fun e w' => RRet U id ao cap xs (mvdF xs d9 0 offset) e w' := fun U hU => mvd_calls id 0 offset d1 d2 d3 d4 d5 d6 d7 d8 d9 ao n cap xs U (H.out.stays hU) hn hn0 (by omega) (by omega)
      generalize mvdF xs d9 0 offset = r at cm ER
      obtain ⟨zs, rv, re⟩ := r
      clear ef ho
      go_enter Try.func34, Try.ntmps34
      go_wp2_with fail
      refine (c0').mono ?_
      rintro e w2 ⟨rfl, hb⟩
      obtain ⟨x, rfl⟩ := plus_of_below hb
      clear hb

      clear c0'
      go_wp2_with fail
      refine (cm _ ?_).mono ?_
      · repeat (first | (with_reducible exact Below.refl _ _) | (with_reducible assumption) | (with_reducible refine below_to_plus ?_ ?_ _) | (with_reducible refine below_holds ?_ ?_ _ _) | (with_reducible refine Below.alloc ?_ ?_ _) | (with_reducible refine Below.drew ?_) | (with_reducible refine below_drewN ?_ _) | (with_reducible refine Below.setCell ?_ ?_ _))
        all_goals first | omega | (simp; done) | (simp [go_sem]; done) | (simp [go_sem]; omega)
      rintro e w2 ⟨ao2, cap2, rfl, hs2, hb⟩
      have HS2 : Aside (_) := hs2
      obtain ⟨y, rfl⟩ := plus_of_below hb
      clear hb hs2 cm
      go_wp2
      refine bodyPost_ret (v := .tuple #[.agg #[.int .i64 id, .slice ao2 zs.length cap2], .int .i64 rv, .int .i64 re]) (by simp [results, Try.results34, go_sem, ↓IntWalk.iteOmega]) rfl ⟨ao2, cap2, ?_, ?_, ?_⟩
      · rw [ER.out]
      · rw [ER.out]
        rcases HS2.out with hh | hh
        · exact .inl hh
        · exact .inr (own_lower (own_past (W' := ((plus ((w.alloc (.cells #[.int .i64 id, .slice ao n cap] 24)).alloc (.cells #[.int .i64 id, .slice ao2 zs.length cap2] 24)) x).alloc (.cells #[.int .i64 d1, .int .i64 d2, .int .i64 d3, .int .i64 d4, .string d5, .string d6, .int .i64 d7, .int .i64 d8, .int .i64 d9] 30))) hh (Nat.le_refl _) (by simp [size_plus])) (by simp [size_plus]; omega))
      · repeat (first | (with_reducible exact Below.refl _ _) | (with_reducible assumption) | (with_reducible refine below_to_plus ?_ ?_ _) | (with_reducible refine below_holds ?_ ?_ _ _) | (with_reducible refine Below.alloc ?_ ?_ _) | (with_reducible refine Below.drew ?_) | (with_reducible refine below_drewN ?_ _) | (with_reducible refine Below.setCell ?_ ?_ _))
        all_goals first | omega | (simp; done) | (simp [go_sem]; done) | (simp [go_sem]; omega)

    · subst hw
      rw [show baseF ⟨d1, d2, d3, d4, d5, d6, d7, d8, d9⟩ 1 length = d8 from rfl] at ER
      have cm : ∀ U, Below w.heap.size w U → Calls Try.prog 50 #[.agg #[.int .i64 id, .slice ao n cap], .agg #[.int .i64 d1, .int .i64 d2, .int .i64 d3, .int .i64 d4, .string d5, .string d6, .int .i64 d7, .int .i64 d8, .int .i64 d9], .int .i64 d8, .int .i64 offset] U fun e w' => RRet U id ao cap xs (mvdF xs d9 d8 offset) e w' := fun U hU => mvd_calls id d8 offset d1 d2 d3 d4 d5 d6 d7 d8 d9 ao n cap xs U (H.out.stays hU) hn hn0 (by omega) (by omega)
      generalize mvdF xs d9 d8 offset = r at cm ER
      obtain ⟨zs, rv, re⟩ := r
      clear ef ho
      go_enter Try.func34, Try.ntmps34
      go_wp2_with fail
      refine (c0').mono ?_
      rintro e w2 ⟨rfl, hb⟩
      obtain ⟨x, rfl⟩ := plus_of_below hb
      clear hb

      clear c0'
      go_wp2_with fail
      refine (cm _ ?_).mono ?_
      · repeat (first | (with_reducible exact Below.refl _ _) | (with_reducible assumption) | (with_reducible refine below_to_plus ?_ ?_ _) | (with_reducible refine below_holds ?_ ?_ _ _) | (with_reducible refine Below.alloc ?_ ?_ _) | (with_reducible refine Below.drew ?_) | (with_reducible refine below_drewN ?_ _) | (with_reducible refine Below.setCell ?_ ?_ _))
        all_goals first | omega | (simp; done) | (simp [go_sem]; done) | (simp [go_sem]; omega)
      rintro e w2 ⟨ao2, cap2, rfl, hs2, hb⟩
      have HS2 : Aside (_) := hs2
      obtain ⟨y, rfl⟩ := plus_of_below hb
      clear hb hs2 cm
      go_wp2
      refine bodyPost_ret (v := .tuple #[.agg #[.int .i64 id, .slice ao2 zs.length cap2], .int .i64 rv, .int .i64 re]) (by simp [results, Try.results34, go_sem, ↓IntWalk.iteOmega]) rfl ⟨ao2, cap2, ?_, ?_, ?_⟩
      · rw [ER.out]
      · rw [ER.out]
        rcases HS2.out with hh | hh
        · exact .inl hh
        · exact .inr (own_lower (own_past (W' := ((plus ((w.alloc (.cells #[.int .i64 id, .slice ao n cap] 24)).alloc (.cells #[.int .i64 id, .slice ao2 zs.length cap2] 24)) x).alloc (.cells #[.int .i64 d1, .int .i64 d2, .int .i64 d3, .int .i64 d4, .string d5, .string d6, .int .i64 d7, .int .i64 d8, .int .i64 d9] 30))) hh (Nat.le_refl _) (by simp [size_plus])) (by simp [size_plus]; omega))
      · repeat (first | (with_reducible exact Below.refl _ _) | (with_reducible assumption) | (with_reducible refine below_to_plus ?_ ?_ _) | (with_reducible refine below_holds ?_ ?_ _ _) | (with_reducible refine Below.alloc ?_ ?_ _) | (with_reducible refine Below.drew ?_) | (with_reducible refine below_drewN ?_ _) | (with_reducible refine Below.setCell ?_ ?_ _))
        all_goals first | omega | (simp; done) | (simp [go_sem]; done) | (simp [go_sem]; omega)

    · subst hw
      rw [show baseF ⟨d1, d2, d3, d4, d5, d6, d7, d8, d9⟩ 2 length = length from rfl] at ER
      have cm : ∀ U, Below w.heap.size w U → Calls Try.prog 50 #[.agg #[.int .i64 id, .slice ao n cap], .agg #[.int .i64 d1, .int .i64 d2, .int .i64 d3, .int .i64 d4, .string d5, .string d6, .int .i64 d7, .int .i64 d8, .int .i64 d9], .int .i64 length, .int .i64 offset] U fun e w' => RRet U id ao cap xs (mvdF xs d9 length offset) e w' := fun U hU => mvd_calls id length offset d1 d2 d3 d4 d5 d6 d7 d8 d9 ao n cap xs U (H.out.stays hU) hn hn0 (by omega) (by omega)
      generalize mvdF xs d9 length offset = r at cm ER
      obtain ⟨zs, rv, re⟩ := r
      clear ef ho
      go_enter Try.func34, Try.ntmps34
      go_wp2_with fail
      refine (c0').mono ?_
      rintro e w2 ⟨rfl, hb⟩
      obtain ⟨x, rfl⟩ := plus_of_below hb
      clear hb

      clear c0'
      go_wp2_with fail
      refine (cm _ ?_).mono ?_
      · repeat (first | (with_reducible exact Below.refl _ _) | (with_reducible assumption) | (with_reducible refine below_to_plus ?_ ?_ _) | (with_reducible refine below_holds ?_ ?_ _ _) | (with_reducible refine Below.alloc ?_ ?_ _) | (with_reducible refine Below.drew ?_) | (with_reducible refine below_drewN ?_ _) | (with_reducible refine Below.setCell ?_ ?_ _))
        all_goals first | omega | (simp; done) | (simp [go_sem]; done) | (simp [go_sem]; omega)
      rintro e w2 ⟨ao2, cap2, rfl, hs2, hb⟩
      have HS2 : Aside (_) := hs2
      obtain ⟨y, rfl⟩ := plus_of_below hb
      clear hb hs2 cm
      go_wp2
      refine bodyPost_ret (v := .tuple #[.agg #[.int .i64 id, .slice ao2 zs.length cap2], .int .i64 rv, .int .i64 re]) (by simp [results, Try.results34, go_sem, ↓IntWalk.iteOmega]) rfl ⟨ao2, cap2, ?_, ?_, ?_⟩
      · rw [ER.out]
      · rw [ER.out]
        rcases HS2.out with hh | hh
        · exact .inl hh
        · exact .inr (own_lower (own_past (W' := ((plus ((w.alloc (.cells #[.int .i64 id, .slice ao n cap] 24)).alloc (.cells #[.int .i64 id, .slice ao2 zs.length cap2] 24)) x).alloc (.cells #[.int .i64 d1, .int .i64 d2, .int .i64 d3, .int .i64 d4, .string d5, .string d6, .int .i64 d7, .int .i64 d8, .int .i64 d9] 30))) hh (Nat.le_refl _) (by simp [size_plus])) (by simp [size_plus]; omega))
      · repeat (first | (with_reducible exact Below.refl _ _) | (with_reducible assumption) | (with_reducible refine below_to_plus ?_ ?_ _) | (with_reducible refine below_holds ?_ ?_ _ _) | (with_reducible refine Below.alloc ?_ ?_ _) | (with_reducible refine Below.drew ?_) | (with_reducible refine below_drewN ?_ _) | (with_reducible refine Below.setCell ?_ ?_ _))
        all_goals first | omega | (simp; done) | (simp [go_sem]; done) | (simp [go_sem]; omega)

end Go.Proofs.Ytbifanenoejjgaa
