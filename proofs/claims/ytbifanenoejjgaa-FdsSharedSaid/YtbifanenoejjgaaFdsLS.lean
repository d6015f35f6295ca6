/- This text proves the walk of the statement FdsShared. Conditions: those that each theorem names. -/
import Derived.Test.YtbifanenoejjgaaFdsLU
import Derived.Deep.RegionHeld3
namespace Go.Proofs.Ytbifanenoejjgaa
open Go.ChangeShapes Go.WideShapes Go.ChangeAt Go.RowKit
set_option linter.unusedVariables false
set_option linter.unusedSimpArgs false

/-- What FdsShared asks of the group zs that Dup returned, and of hs, in which its descriptor was moved. -/
def SharedOk (zs hs : List Fd) (fr k offset ie : Int) (mv : Bool) : Prop :=
  ∃ da : Fd, ∃ kb : Int, findF fr hs = (da, 0) ∧ findF k hs = ({ da with num := kb }, 0) ∧ (ie = 0 → mv = false → da.offset = offset) ∧ ∀ m, m < zs.length → ∃ c, findF zs[m]!.num hs = (c, 0) ∧ (c.offset = zs[m]!.offset ∨ c.copy = da.copy)
/-- In an ascending list each descriptor is found. -/
theorem find_mem {id : Int} {xs : List Fd} (h : RightP id xs) {x : Fd} (hx : x ∈ xs) : findF x.num xs = (x, 0) := by
  have hf : ¬ findI x.num xs < 0 := fun e => findI_neg e x hx rfl
  obtain ⟨k, hk, _, e, e2⟩ := findF_hit hf
  obtain ⟨i, hi, ei⟩ := get_of_mem hx
  rw [e2]
  rcases Nat.lt_trichotomy k i with h1 | h1 | h1
  · have := asc_get h.asc h1 hi; rw [ei] at this; omega
  · rw [h1, ei]
  · have := asc_get h.asc h1 hk; rw [ei] at this; omega
/-- After Dup both the original and its copy stand in the group. -/
theorem dup_two {id : Int} {xs : List Fd} (h : RightP id xs) {fr to : Int} (hd : (dupF xs fr to).2.2 = 0) :
    ∃ d ∈ (dupF xs fr to).1, d.num = fr ∧ { d with num := (dupF xs fr to).2.1 } ∈ (dupF xs fr to).1 := by
  unfold dupF at hd ⊢
  by_cases h1 : (findF fr xs).2 ≠ 0
  · rw [if_pos h1] at hd; exact absurd hd h1
  rw [if_neg h1] at hd ⊢
  obtain ⟨k, hk, _, e, e2⟩ := findF_hit (findF_err h1)
  by_cases h2 : to < -1 ∨ 63 < to
  · rw [if_pos h2] at hd; cases hd
  rw [if_neg h2] at hd ⊢
  by_cases h3 : to = fr
  · rw [if_pos h3]
    refine ⟨xs[k]!, mem_of_get hk, e, ?_⟩
    show ({ xs[k]! with num := to } : Fd) ∈ xs
    rw [h3, ← e]
    exact mem_of_get hk
  rw [if_neg h3] at hd ⊢
  by_cases h4 : 0 ≤ findI to xs
  · rw [if_pos h4] at hd; cases hd
  rw [if_neg h4] at hd ⊢
  by_cases h5 : to = -1 ∧ 64 ≤ xs.length
  · rw [if_pos h5] at hd; cases hd
  rw [if_neg h5] at hd ⊢
  by_cases h6 : to = -1
  · rw [if_pos h6, e2]
    refine ⟨xs[k]!, ?_, e, ?_⟩
    · show xs[k]! ∈ withL _ xs
      rw [withL_eq, mem_insL]; exact .inr (mem_of_get hk)
    · show _ ∈ withL _ xs
      rw [withL_eq, mem_insL]; exact .inl rfl
  · rw [if_neg h6, e2]
    refine ⟨xs[k]!, ?_, e, ?_⟩
    · show xs[k]! ∈ withL _ xs
      rw [withL_eq, mem_insL]; exact .inr (mem_of_get hk)
    · show _ ∈ withL _ xs
      rw [withL_eq, mem_insL]; exact .inl rfl
theorem shared_map {id : Int} {zs : List Fd} (h : RightP id zs) {d : Fd} (hd : d ∈ zs) {k : Int} (hk : { d with num := k } ∈ zs) (off offset ie : Int) (mv : Bool) (ho : 0 ≤ off ∧ off ≤ 9007199254740991) (hio : ie = 0 → mv = false → off = offset) :
    SharedOk zs (zs.map (mvF d.copy off)) d.num k offset ie mv := by
  have hm : ∀ x ∈ zs, findF x.num (zs.map (mvF d.copy off)) = (mvF d.copy off x, 0) := fun x hx => by
    have hr := right_move h d.copy off ho
    have := find_mem hr (List.mem_map.2 ⟨x, hx, rfl⟩)
    rwa [show (mvF d.copy off x).num = x.num by unfold mvF; split <;> rfl] at this
  have hdm : mvF d.copy off d = { d with offset := off } := by unfold mvF; rw [if_pos rfl]
  refine ⟨_, k, hm d hd, ?_, fun a b => ?_, fun m hm2 => ⟨_, hm _ (mem_of_get hm2), ?_⟩⟩
  · have := hm _ hk
    rw [hdm]
    refine this.trans ?_
    unfold mvF
    rw [if_pos rfl]
  · rw [hdm]; exact hio a b
  · rw [hdm]
    unfold mvF
    split
    · rename_i e; exact .inr e
    · exact .inl rfl
theorem shared_same {id : Int} {zs : List Fd} (h : RightP id zs) {d : Fd} (hd : d ∈ zs) {k : Int} (hk : { d with num := k } ∈ zs) (offset ie : Int) (mv : Bool) (hie : ie ≠ 0) : SharedOk zs zs d.num k offset ie mv :=
  ⟨d, k, find_mem h hd, find_mem h hk, fun a => absurd a hie, fun m hm => ⟨_, find_mem h (mem_of_get hm), .inl rfl⟩⟩
theorem shared_move {id : Int} {xs : List Fd} (h : RightP id xs) (fr to offset : Int) (hd : (dupF xs fr to).2.2 = 0) :
    SharedOk (dupF xs fr to).1 (movedF (dupF xs fr to).1 (dupF xs fr to).2.1 offset).1 fr (dupF xs fr to).2.1 offset (movedF (dupF xs fr to).1 (dupF xs fr to).2.1 offset).2 true := by
  obtain ⟨d, h1, h2, h3⟩ := dup_two h hd
  have hz := dup_right h fr to
  generalize dupF xs fr to = r at hd h1 h3 hz ⊢
  obtain ⟨zs, k, er⟩ := r
  simp only at hd h1 h3 hz ⊢
  have hfk : findF k zs = ({ d with num := k }, 0) := find_mem hz h3
  subst h2
  unfold movedF
  rw [hfk, if_neg (by simp)]
  split
  · exact shared_same hz h1 h3 _ _ _ (by simp)
  split
  · exact shared_same hz h1 h3 _ _ _ (by simp)
  · rename_i h5
    exact shared_map hz h1 h3 _ _ _ _ (sum_low h5) (fun _ e => by cases e)
theorem shared_seek {id : Int} {xs : List Fd} (h : RightP id xs) (fr to offset : Int) (hd : (dupF xs fr to).2.2 = 0) :
    SharedOk (dupF xs fr to).1 (seekF (dupF xs fr to).1 (dupF xs fr to).2.1 offset 0 0).1 fr (dupF xs fr to).2.1 offset (seekF (dupF xs fr to).1 (dupF xs fr to).2.1 offset 0 0).2.2 false := by
  obtain ⟨d, h1, h2, h3⟩ := dup_two h hd
  have hz := dup_right h fr to
  generalize dupF xs fr to = r at hd h1 h3 hz ⊢
  obtain ⟨zs, k, er⟩ := r
  simp only at hd h1 h3 hz ⊢
  have hfk : findF k zs = ({ d with num := k }, 0) := find_mem hz h3
  subst h2
  unfold seekF
  rw [hfk, if_neg (by simp), if_neg (by omega)]
  split
  · exact shared_same hz h1 h3 _ _ _ (by simp)
  · rename_i h5
    refine shared_map hz h1 h3 _ _ _ _ (sum_low h5) (fun _ _ => ?_)
    unfold sumF at h5 ⊢
    split at h5
    · exact absurd rfl h5
    · rename_i h6
      rw [if_neg h6]
      show offset + baseF _ 0 0 = offset
      rw [show baseF ({ d with num := k } : Fd) 0 0 = 0 from rfl]
      omega

set_option maxHeartbeats 16000000 in
set_option maxRecDepth 100000 in
theorem lawShared_move (id fr to offset : Int) (ao : Option Addr) (n cap : Nat) (xs : List Fd) (w : World) (h : Sl w 9 ao n cap (xs.map Fd.enc)) (hft : ∀ y ∈ xs, y.fit) (hofr : -9223372036854775808 ≤ offset ∧ offset ≤ 9223372036854775807) (hsm : smallB xs = true) (hri : rightB id xs = true) (hde : (dupF xs fr to).2.2 = 0) :
    Calls Try.prog 6 #[.agg #[.int .i64 id, .slice ao n cap], .int .i64 fr, .int .i64 to, .int .i64 offset, .bool true] w fun e w' => e = .returned (.bool true) ∧ Below w.heap.size w w' := by
  have HL : Aside (xs.length = n) := Sl.lenE h
  have hb0 : Below w.heap.size w (w.alloc (.cells #[.int .i64 id, .slice ao n cap] 24)) := by
    repeat (first | (with_reducible exact Below.refl _ _) | (with_reducible assumption) | (with_reducible refine below_to_plus ?_ ?_ _) | (with_reducible refine below_holds ?_ ?_ _ _) | (with_reducible refine Below.alloc ?_ ?_ _) | (with_reducible refine Below.drew ?_) | (with_reducible refine below_drewN ?_ _) | (with_reducible refine Below.setCell ?_ ?_ _))
    all_goals first | omega | (simp; done) | (simp [go_sem]; done) | (simp [go_sem]; omega)
  have hs0 := h.stays hb0
  have H : Aside (Sl w 9 ao n cap (xs.map Fd.enc)) := h
  have c1 := small_calls id ao n cap xs (w.alloc (.cells #[.int .i64 id, .slice ao n cap] 24)) hs0 hft
  have c2 := fun x => rright_calls id ao n cap xs (plus (w.alloc (.cells #[.int .i64 id, .slice ao n cap] 24)) x) (hs0.stays (below_plus _ _)) hft
  rw [hsm] at c1
  rw [hri] at c2
  have HR := (rightB_iff id xs).1 hri
  have hnl : n ≤ 1000 := by
    have h1 := asc_len HR
    rw [HL.out] at h1
    omega
  have c3 := fun x => dup_calls id fr to ao n cap xs (plus (w.alloc (.cells #[.int .i64 id, .slice ao n cap] 24)) x) (hs0.stays (below_plus _ _)) hnl (asc_mono HR.asc _) (asc_mono HR.asc _)
  have hzr := dup_right HR fr to
  have hfx := shared_move HR fr to offset hde
  generalize dupF xs fr to = r at c3 hzr hfx hde
  obtain ⟨zs, k, er⟩ := r
  simp only at hzr hfx hde
  subst hde
  have hzl : zs.length ≤ 64 := asc_len hzr
  have hof : ∀ y ∈ zs, 0 ≤ y.offset ∧ y.offset ≤ 9223372036854775807 := fun y hy => by
    have := (okB_iff y).1 (hzr.ok y hy)
    omega
  have c4 : ∀ (a1 : Option Addr) (c1 : Nat) (U : World), Sl U 9 a1 zs.length c1 (zs.map Fd.enc) → Calls Try.prog 21 #[.agg #[.int .i64 id, .slice a1 zs.length c1], .int .i64 k, .int .i64 offset] U fun e w' => MovedPost U id (movedF zs k offset) e w' := fun a1 c1 U hU => moved_calls id k offset a1 zs.length c1 zs U hU (by omega) hof hofr
  generalize movedF zs k offset = r2 at c4 hfx
  obtain ⟨hs, ie⟩ := r2
  simp only at hfx
  have HFX : Aside (SharedOk zs hs fr k offset ie true) := hfx
  clear hsm hri hs0 hft h hb0 HR hzr hof hfx hofr
  go_enter Try.func6, Try.ntmps6
  go_wp2_with fail
  refine (c1).mono ?_
  rintro e w2 ⟨rfl, hb⟩
  obtain ⟨x1, rfl⟩ := plus_of_below hb
  clear hb
  clear c1
  go_wp2_with fail
  refine (c2 _).mono ?_
  rintro e w2 ⟨rfl, hb⟩
  obtain ⟨x2, rfl⟩ := plus_next hb
  clear hb
  clear c2
  go_wp2_with fail
  refine (c3 _).mono ?_
  rintro e w2 ⟨a1, c1, rfl, hown, hb⟩
  have HO1 : Aside (Row w2 (plus (w.alloc (.cells #[.int .i64 id, .slice ao n cap] 24)) x2).heap.size a1 c1 zs) := hown
  obtain ⟨x3, rfl⟩ := plus_next hb
  clear hb hown c3
  have hs1 : Sl (((plus (w.alloc (.cells #[.int .i64 id, .slice ao n cap] 24)) x3).alloc (.cells #[.int .i64 id, .slice a1 zs.length c1] 24)).alloc (.cells #[.int .i64 id, .slice a1 zs.length c1] 24)) 9 a1 zs.length c1 (zs.map Fd.enc) := HO1.out.sl.stays (by
    repeat (first | (with_reducible exact Below.refl _ _) | (with_reducible assumption) | (with_reducible refine below_to_plus ?_ ?_ _) | (with_reducible refine below_holds ?_ ?_ _ _) | (with_reducible refine Below.alloc ?_ ?_ _) | (with_reducible refine Below.drew ?_) | (with_reducible refine below_drewN ?_ _) | (with_reducible refine Below.setCell ?_ ?_ _))
    all_goals first | omega | (simp; done) | (simp [go_sem]; done) | (simp [go_sem]; omega))
  have c5 := c4 a1 c1 _ hs1
  clear c4 hs1
  go_wp2_with fail
  refine c5.mono ?_
  rintro e w2 ⟨a2, c2, rfl, hown, hb⟩
  have HO2 : Aside (Row w2 (((plus (w.alloc (.cells #[.int .i64 id, .slice ao n cap] 24)) x3).alloc (.cells #[.int .i64 id, .slice a1 zs.length c1] 24)).alloc (.cells #[.int .i64 id, .slice a1 zs.length c1] 24)).heap.size a2 c2 hs) := hown
  obtain ⟨x4, rfl⟩ := plus_of_below hb
  clear hb hown c5
  have hro : Row (plus (((plus (w.alloc (.cells #[.int .i64 id, .slice ao n cap] 24)) x3).alloc (.cells #[.int .i64 id, .slice a1 zs.length c1] 24)).alloc (.cells #[.int .i64 id, .slice a2 hs.length c2] 24)) x4) (((plus (w.alloc (.cells #[.int .i64 id, .slice ao n cap] 24)) x3).alloc (.cells #[.int .i64 id, .slice a1 zs.length c1] 24)).alloc (.cells #[.int .i64 id, .slice a1 zs.length c1] 24)).heap.size a2 c2 hs := own_past (W := (((plus (w.alloc (.cells #[.int .i64 id, .slice ao n cap] 24)) x3).alloc (.cells #[.int .i64 id, .slice a1 zs.length c1] 24)).alloc (.cells #[.int .i64 id, .slice a1 zs.length c1] 24))) (W' := (((plus (w.alloc (.cells #[.int .i64 id, .slice ao n cap] 24)) x3).alloc (.cells #[.int .i64 id, .slice a1 zs.length c1] 24)).alloc (.cells #[.int .i64 id, .slice a2 hs.length c2] 24))) HO2.out (Nat.le_refl _) (by simp)
  have HS2 : Aside (Sl (plus (((plus (w.alloc (.cells #[.int .i64 id, .slice ao n cap] 24)) x3).alloc (.cells #[.int .i64 id, .slice a1 zs.length c1] 24)).alloc (.cells #[.int .i64 id, .slice a2 hs.length c2] 24)) x4) 9 a2 hs.length c2 (hs.map Fd.enc)) := hro.sl
  have HS1 : Aside (Sl (plus (((plus (w.alloc (.cells #[.int .i64 id, .slice ao n cap] 24)) x3).alloc (.cells #[.int .i64 id, .slice a1 zs.length c1] 24)).alloc (.cells #[.int .i64 id, .slice a2 hs.length c2] 24)) x4) 9 a1 zs.length c1 (zs.map Fd.enc)) := HO1.out.sl.stays (by
    repeat (first | (with_reducible exact Below.refl _ _) | (with_reducible assumption) | (with_reducible refine below_to_plus ?_ ?_ _) | (with_reducible refine below_holds ?_ ?_ _ _) | (with_reducible refine Below.alloc ?_ ?_ _) | (with_reducible refine Below.drew ?_) | (with_reducible refine below_drewN ?_ _) | (with_reducible refine Below.setCell ?_ ?_ _))
    all_goals first | omega | (simp; done) | (simp [go_sem]; done) | (simp [go_sem]; omega))
  have c6 : Aside (∀ (i : Int) U, Below (plus (((plus (w.alloc (.cells #[.int .i64 id, .slice ao n cap] 24)) x3).alloc (.cells #[.int .i64 id, .slice a1 zs.length c1] 24)).alloc (.cells #[.int .i64 id, .slice a2 hs.length c2] 24)) x4).heap.size (plus (((plus (w.alloc (.cells #[.int .i64 id, .slice ao n cap] 24)) x3).alloc (.cells #[.int .i64 id, .slice a1 zs.length c1] 24)).alloc (.cells #[.int .i64 id, .slice a2 hs.length c2] 24)) x4) U → Calls Try.prog 12 #[.agg #[.int .i64 id, .slice a2 hs.length c2], .int .i64 i] U fun e w' => e = .returned (.tuple #[Fd.val (findF i hs).1, .int .i64 (findF i hs).2]) ∧ Below U.heap.size U w') := fun i U hU => Find_calls id i a2 hs.length c2 hs U (HS2.out.stays hU)
  have HBV : Aside (Below w.heap.size w (plus (((plus (w.alloc (.cells #[.int .i64 id, .slice ao n cap] 24)) x3).alloc (.cells #[.int .i64 id, .slice a1 zs.length c1] 24)).alloc (.cells #[.int .i64 id, .slice a2 hs.length c2] 24)) x4)) := by
    show Below _ _ _
    repeat (first | (with_reducible exact Below.refl _ _) | (with_reducible assumption) | (with_reducible refine below_to_plus ?_ ?_ _) | (with_reducible refine below_holds ?_ ?_ _ _) | (with_reducible refine Below.alloc ?_ ?_ _) | (with_reducible refine Below.drew ?_) | (with_reducible refine below_drewN ?_ _) | (with_reducible refine Below.setCell ?_ ?_ _))
    all_goals first | omega | (simp; done) | (simp [go_sem]; done) | (simp [go_sem]; omega)
  clear hro HO1 HO2
  obtain ⟨da, kb, hfa, hfb, pe, HEACH⟩ := HFX.out
  have c7 := c6.out fr
  have c8 := c6.out k
  rw [hfa] at c7
  rw [hfb] at c8
  clear hfa hfb HFX
  obtain ⟨q1, q2, q3, q4, q5, q6, q7, q8, q9⟩ := da
  simp only at pe HEACH
  have c7 : ∀ U, Below (plus (((plus (w.alloc (.cells #[.int .i64 id, .slice ao n cap] 24)) x3).alloc (.cells #[.int .i64 id, .slice a1 zs.length c1] 24)).alloc (.cells #[.int .i64 id, .slice a2 hs.length c2] 24)) x4).heap.size (plus (((plus (w.alloc (.cells #[.int .i64 id, .slice ao n cap] 24)) x3).alloc (.cells #[.int .i64 id, .slice a1 zs.length c1] 24)).alloc (.cells #[.int .i64 id, .slice a2 hs.length c2] 24)) x4) U → Calls Try.prog 12 #[.agg #[.int .i64 id, .slice a2 hs.length c2], .int .i64 fr] U fun e w' => e = .returned (.tuple #[.agg #[.int .i64 q1, .int .i64 q2, .int .i64 q3, .int .i64 q4, .string q5, .string q6, .int .i64 q7, .int .i64 q8, .int .i64 q9], .int .i64 0]) ∧ Below U.heap.size U w' := c7
  have c8 : ∀ U, Below (plus (((plus (w.alloc (.cells #[.int .i64 id, .slice ao n cap] 24)) x3).alloc (.cells #[.int .i64 id, .slice a1 zs.length c1] 24)).alloc (.cells #[.int .i64 id, .slice a2 hs.length c2] 24)) x4).heap.size (plus (((plus (w.alloc (.cells #[.int .i64 id, .slice ao n cap] 24)) x3).alloc (.cells #[.int .i64 id, .slice a1 zs.length c1] 24)).alloc (.cells #[.int .i64 id, .slice a2 hs.length c2] 24)) x4) U → Calls Try.prog 12 #[.agg #[.int .i64 id, .slice a2 hs.length c2], .int .i64 k] U fun e w' => e = .returned (.tuple #[.agg #[.int .i64 kb, .int .i64 q2, .int .i64 q3, .int .i64 q4, .string q5, .string q6, .int .i64 q7, .int .i64 q8, .int .i64 q9], .int .i64 0]) ∧ Below U.heap.size U w' := c8
  have EACH : Aside (∀ m, m < zs.length → ∃ c, findF zs[m]!.num hs = (c, 0) ∧ (c.offset = zs[m]!.offset ∨ c.copy = q9)) := HEACH
  have nq := fun w => neq_chan q2 q3 q4 q5 q6 q2 q3 q4 q5 q6 w
  rw [(eqC_iff _ _ _ _ _ _ _ _ _ _).2 ⟨rfl, rfl, rfl, rfl, rfl⟩] at nq
  clear HEACH
  go_wp2_with fail
  refine (c7 _ (Below.refl _ _)).mono ?_
  rintro e w2 ⟨rfl, hb⟩
  obtain ⟨x5, rfl⟩ := plus_of_below hb
  clear hb c7
  go_wp2_with fail
  refine (c8 _ (by
    repeat (first | (with_reducible exact Below.refl _ _) | (with_reducible assumption) | (with_reducible refine below_to_plus ?_ ?_ _) | (with_reducible refine below_holds ?_ ?_ _ _) | (with_reducible refine Below.alloc ?_ ?_ _) | (with_reducible refine Below.drew ?_) | (with_reducible refine below_drewN ?_ _) | (with_reducible refine Below.setCell ?_ ?_ _))
    all_goals first | omega | (simp; done) | (simp [go_sem]; done) | (simp [go_sem]; omega))).mono ?_
  rintro e w2 ⟨rfl, hb⟩
  obtain ⟨x6, rfl⟩ := plus_of_below hb
  clear hb c8
  have hb24 : Below (plus (((plus (w.alloc (.cells #[.int .i64 id, .slice ao n cap] 24)) x3).alloc (.cells #[.int .i64 id, .slice a1 zs.length c1] 24)).alloc (.cells #[.int .i64 id, .slice a2 hs.length c2] 24)) x4).heap.size (plus (((plus (w.alloc (.cells #[.int .i64 id, .slice ao n cap] 24)) x3).alloc (.cells #[.int .i64 id, .slice a1 zs.length c1] 24)).alloc (.cells #[.int .i64 id, .slice a2 hs.length c2] 24)) x4) ((plus ((plus (plus (((plus (w.alloc (.cells #[.int .i64 id, .slice ao n cap] 24)) x3).alloc (.cells #[.int .i64 id, .slice a1 zs.length c1] 24)).alloc (.cells #[.int .i64 id, .slice a2 hs.length c2] 24)) x4) x5).alloc (.cells #[.int .i64 q1, .int .i64 q2, .int .i64 q3, .int .i64 q4, .string q5, .string q6, .int .i64 q7, .int .i64 q8, .int .i64 q9] 30)) x6).alloc (.cells #[.int .i64 kb, .int .i64 q2, .int .i64 q3, .int .i64 q4, .string q5, .string q6, .int .i64 q7, .int .i64 q8, .int .i64 q9] 30)) := by
    repeat (first | (with_reducible exact Below.refl _ _) | (with_reducible assumption) | (with_reducible refine below_to_plus ?_ ?_ _) | (with_reducible refine below_holds ?_ ?_ _ _) | (with_reducible refine Below.alloc ?_ ?_ _) | (with_reducible refine Below.drew ?_) | (with_reducible refine below_drewN ?_ _) | (with_reducible refine Below.setCell ?_ ?_ _))
    all_goals first | omega | (simp; done) | (simp [go_sem]; done) | (simp [go_sem]; omega)
  have HC : Aside (CellsFd ((plus ((plus (plus (((plus (w.alloc (.cells #[.int .i64 id, .slice ao n cap] 24)) x3).alloc (.cells #[.int .i64 id, .slice a1 zs.length c1] 24)).alloc (.cells #[.int .i64 id, .slice a2 hs.length c2] 24)) x4) x5).alloc (.cells #[.int .i64 q1, .int .i64 q2, .int .i64 q3, .int .i64 q4, .string q5, .string q6, .int .i64 q7, .int .i64 q8, .int .i64 q9] 30)) x6).alloc (.cells #[.int .i64 kb, .int .i64 q2, .int .i64 q3, .int .i64 q4, .string q5, .string q6, .int .i64 q7, .int .i64 q8, .int .i64 q9] 30)) a1 zs) := cellsFd (HS1.out.stays hb24)
  have c6 : Aside (∀ (i : Int) U, Below ((plus ((plus (plus (((plus (w.alloc (.cells #[.int .i64 id, .slice ao n cap] 24)) x3).alloc (.cells #[.int .i64 id, .slice a1 zs.length c1] 24)).alloc (.cells #[.int .i64 id, .slice a2 hs.length c2] 24)) x4) x5).alloc (.cells #[.int .i64 q1, .int .i64 q2, .int .i64 q3, .int .i64 q4, .string q5, .string q6, .int .i64 q7, .int .i64 q8, .int .i64 q9] 30)) x6).alloc (.cells #[.int .i64 kb, .int .i64 q2, .int .i64 q3, .int .i64 q4, .string q5, .string q6, .int .i64 q7, .int .i64 q8, .int .i64 q9] 30)).heap.size ((plus ((plus (plus (((plus (w.alloc (.cells #[.int .i64 id, .slice ao n cap] 24)) x3).alloc (.cells #[.int .i64 id, .slice a1 zs.length c1] 24)).alloc (.cells #[.int .i64 id, .slice a2 hs.length c2] 24)) x4) x5).alloc (.cells #[.int .i64 q1, .int .i64 q2, .int .i64 q3, .int .i64 q4, .string q5, .string q6, .int .i64 q7, .int .i64 q8, .int .i64 q9] 30)) x6).alloc (.cells #[.int .i64 kb, .int .i64 q2, .int .i64 q3, .int .i64 q4, .string q5, .string q6, .int .i64 q7, .int .i64 q8, .int .i64 q9] 30)) U → Calls Try.prog 12 #[.agg #[.int .i64 id, .slice a2 hs.length c2], .int .i64 i] U fun e w' => e = .returned (.tuple #[Fd.val (findF i hs).1, .int .i64 (findF i hs).2]) ∧ Below U.heap.size U w') := fun i U hU => c6.out i U (hb24.trans (hU.mono hb24.size))
  have HBV4 : Aside (Below w.heap.size w ((plus ((plus (plus (((plus (w.alloc (.cells #[.int .i64 id, .slice ao n cap] 24)) x3).alloc (.cells #[.int .i64 id, .slice a1 zs.length c1] 24)).alloc (.cells #[.int .i64 id, .slice a2 hs.length c2] 24)) x4) x5).alloc (.cells #[.int .i64 q1, .int .i64 q2, .int .i64 q3, .int .i64 q4, .string q5, .string q6, .int .i64 q7, .int .i64 q8, .int .i64 q9] 30)) x6).alloc (.cells #[.int .i64 kb, .int .i64 q2, .int .i64 q3, .int .i64 q4, .string q5, .string q6, .int .i64 q7, .int .i64 q8, .int .i64 q9] 30))) := HBV.out.trans (hb24.mono HBV.out.size)
  have LB : Aside (((plus ((plus (plus (((plus (w.alloc (.cells #[.int .i64 id, .slice ao n cap] 24)) x3).alloc (.cells #[.int .i64 id, .slice a1 zs.length c1] 24)).alloc (.cells #[.int .i64 id, .slice a2 hs.length c2] 24)) x4) x5).alloc (.cells #[.int .i64 q1, .int .i64 q2, .int .i64 q3, .int .i64 q4, .string q5, .string q6, .int .i64 q7, .int .i64 q8, .int .i64 q9] 30)) x6).alloc (.cells #[.int .i64 kb, .int .i64 q2, .int .i64 q3, .int .i64 q4, .string q5, .string q6, .int .i64 q7, .int .i64 q8, .int .i64 q9] 30)).cell? ⟨w.heap.size + 1 + x3.heap.size, 1, none⟩ = some (.slice a1 zs.length c1) ∧ ((plus ((plus (plus (((plus (w.alloc (.cells #[.int .i64 id, .slice ao n cap] 24)) x3).alloc (.cells #[.int .i64 id, .slice a1 zs.length c1] 24)).alloc (.cells #[.int .i64 id, .slice a2 hs.length c2] 24)) x4) x5).alloc (.cells #[.int .i64 q1, .int .i64 q2, .int .i64 q3, .int .i64 q4, .string q5, .string q6, .int .i64 q7, .int .i64 q8, .int .i64 q9] 30)) x6).alloc (.cells #[.int .i64 kb, .int .i64 q2, .int .i64 q3, .int .i64 q4, .string q5, .string q6, .int .i64 q7, .int .i64 q8, .int .i64 q9] 30)).cell? ⟨w.heap.size + 1 + x3.heap.size + 1, 0, none⟩ = some (.int .i64 id) ∧ ((plus ((plus (plus (((plus (w.alloc (.cells #[.int .i64 id, .slice ao n cap] 24)) x3).alloc (.cells #[.int .i64 id, .slice a1 zs.length c1] 24)).alloc (.cells #[.int .i64 id, .slice a2 hs.length c2] 24)) x4) x5).alloc (.cells #[.int .i64 q1, .int .i64 q2, .int .i64 q3, .int .i64 q4, .string q5, .string q6, .int .i64 q7, .int .i64 q8, .int .i64 q9] 30)) x6).alloc (.cells #[.int .i64 kb, .int .i64 q2, .int .i64 q3, .int .i64 q4, .string q5, .string q6, .int .i64 q7, .int .i64 q8, .int .i64 q9] 30)).cell? ⟨w.heap.size + 1 + x3.heap.size + 1, 1, none⟩ = some (.slice a2 hs.length c2) ∧ ((plus ((plus (plus (((plus (w.alloc (.cells #[.int .i64 id, .slice ao n cap] 24)) x3).alloc (.cells #[.int .i64 id, .slice a1 zs.length c1] 24)).alloc (.cells #[.int .i64 id, .slice a2 hs.length c2] 24)) x4) x5).alloc (.cells #[.int .i64 q1, .int .i64 q2, .int .i64 q3, .int .i64 q4, .string q5, .string q6, .int .i64 q7, .int .i64 q8, .int .i64 q9] 30)) x6).alloc (.cells #[.int .i64 kb, .int .i64 q2, .int .i64 q3, .int .i64 q4, .string q5, .string q6, .int .i64 q7, .int .i64 q8, .int .i64 q9] 30)).cell? ⟨w.heap.size + 1 + x3.heap.size + 1 + 1 + x4.heap.size + x5.heap.size, 8, none⟩ = some (.int .i64 q9)) := ⟨by simp [go_sem, ↓IntWalk.iteOmega], by simp [go_sem, ↓IntWalk.iteOmega], by simp [go_sem, ↓IntWalk.iteOmega], by simp [go_sem, ↓IntWalk.iteOmega]⟩
  clear hb24 HBV HS1 HS2
  have hzb : zs.length ≤ 9223372036854775807 := by omega
  by_cases hie : ie = 0
  · subst hie
    skip
    clear pe
    go_wp2
    go_loopg [128] zs.length (fun k s128 wr => ∃ idx : Nat, s128 = .int .i64 (idx : Int) ∧ k + idx = zs.length ∧ Aside (Below ((plus ((plus (plus (((plus (w.alloc (.cells #[.int .i64 id, .slice ao n cap] 24)) x3).alloc (.cells #[.int .i64 id, .slice a1 zs.length c1] 24)).alloc (.cells #[.int .i64 id, .slice a2 hs.length c2] 24)) x4) x5).alloc (.cells #[.int .i64 q1, .int .i64 q2, .int .i64 q3, .int .i64 q4, .string q5, .string q6, .int .i64 q7, .int .i64 q8, .int .i64 q9] 30)) x6).alloc (.cells #[.int .i64 kb, .int .i64 q2, .int .i64 q3, .int .i64 q4, .string q5, .string q6, .int .i64 q7, .int .i64 q8, .int .i64 q9] 30)).heap.size ((plus ((plus (plus (((plus (w.alloc (.cells #[.int .i64 id, .slice ao n cap] 24)) x3).alloc (.cells #[.int .i64 id, .slice a1 zs.length c1] 24)).alloc (.cells #[.int .i64 id, .slice a2 hs.length c2] 24)) x4) x5).alloc (.cells #[.int .i64 q1, .int .i64 q2, .int .i64 q3, .int .i64 q4, .string q5, .string q6, .int .i64 q7, .int .i64 q8, .int .i64 q9] 30)) x6).alloc (.cells #[.int .i64 kb, .int .i64 q2, .int .i64 q3, .int .i64 q4, .string q5, .string q6, .int .i64 q7, .int .i64 q8, .int .i64 q9] 30)) wr))
    case atStart => exact ⟨0, rfl, by omega, Below.refl _ _⟩
    case round =>
      obtain ⟨idx, rfl, hk, HW⟩ := hrel
      have hsw := HW.out.size
      by_cases hi : idx < zs.length
      · have hiz : (idx : Int) < (zs.length : Int) := by omega
        obtain ⟨b, off, ea, hbw, l0, l1, l2, l3, l4, l5, l6, l7, l8⟩ := HC.out idx hi
        subst ea
        have hbr : b < wr.heap.size := Nat.lt_of_lt_of_le hbw hsw
        have k0 := (HW.out.cell (p := ⟨b, off + idx * 9, none⟩) hbw).trans l0
        have k7 := (HW.out.cell (p := ⟨b, off + idx * 9 + 7, none⟩) hbw).trans l7
        have bg1 := (HW.out.cell (p := ⟨w.heap.size + 1 + x3.heap.size, 1, none⟩) (by simp [size_plus]; omega)).trans LB.out.1
        have bh0 := (HW.out.cell (p := ⟨w.heap.size + 1 + x3.heap.size + 1, 0, none⟩) (by simp [size_plus]; omega)).trans LB.out.2.1
        have bh1 := (HW.out.cell (p := ⟨w.heap.size + 1 + x3.heap.size + 1, 1, none⟩) (by simp [size_plus]; omega)).trans LB.out.2.2.1
        have ba8 := (HW.out.cell (p := ⟨w.heap.size + 1 + x3.heap.size + 1 + 1 + x4.heap.size + x5.heap.size, 8, none⟩) (by simp [size_plus]; omega)).trans LB.out.2.2.2
        clear l0 l1 l2 l3 l4 l5 l6 l7 l8
        simp [size_plus] at hsw
        have E := EACH.out idx hi
        have c9 : ∀ U, Below wr.heap.size wr U → Calls Try.prog 12 #[.agg #[.int .i64 id, .slice a2 hs.length c2], .int .i64 zs[idx]!.num] U fun e w' => e = .returned (.tuple #[Fd.val (findF zs[idx]!.num hs).1, .int .i64 (findF zs[idx]!.num hs).2]) ∧ Below U.heap.size U w' := fun U hU => c6.out _ U (HW.out.trans (hU.mono HW.out.size))
        obtain ⟨c, ec, hc⟩ := E
        rw [ec] at c9
        clear ec
        generalize zs[idx]! = y at k0 k7 c9 hc
        obtain ⟨y1, y2, y3, y4, y5, y6, y7, y8, y9⟩ := y
        obtain ⟨e1, e2, e3, e4, e5, e6, e7, e8, e9⟩ := c
        simp only at k0 k7 hc
        have c9 : ∀ U, Below wr.heap.size wr U → Calls Try.prog 12 #[.agg #[.int .i64 id, .slice a2 hs.length c2], .int .i64 y1] U fun e w' => e = .returned (.tuple #[.agg #[.int .i64 e1, .int .i64 e2, .int .i64 e3, .int .i64 e4, .string e5, .string e6, .int .i64 e7, .int .i64 e8, .int .i64 e9], .int .i64 0]) ∧ Below U.heap.size U w' := c9
        have HWR : Aside (Below ((plus ((plus (plus (((plus (w.alloc (.cells #[.int .i64 id, .slice ao n cap] 24)) x3).alloc (.cells #[.int .i64 id, .slice (some ⟨b, off, none⟩) zs.length c1] 24)).alloc (.cells #[.int .i64 id, .slice a2 hs.length c2] 24)) x4) x5).alloc (.cells #[.int .i64 q1, .int .i64 q2, .int .i64 q3, .int .i64 q4, .string q5, .string q6, .int .i64 q7, .int .i64 q8, .int .i64 q9] 30)) x6).alloc (.cells #[.int .i64 kb, .int .i64 q2, .int .i64 q3, .int .i64 q4, .string q5, .string q6, .int .i64 q7, .int .i64 q8, .int .i64 q9] 30)).heap.size ((plus ((plus (plus (((plus (w.alloc (.cells #[.int .i64 id, .slice ao n cap] 24)) x3).alloc (.cells #[.int .i64 id, .slice (some ⟨b, off, none⟩) zs.length c1] 24)).alloc (.cells #[.int .i64 id, .slice a2 hs.length c2] 24)) x4) x5).alloc (.cells #[.int .i64 q1, .int .i64 q2, .int .i64 q3, .int .i64 q4, .string q5, .string q6, .int .i64 q7, .int .i64 q8, .int .i64 q9] 30)) x6).alloc (.cells #[.int .i64 kb, .int .i64 q2, .int .i64 q3, .int .i64 q4, .string q5, .string q6, .int .i64 q7, .int .i64 q8, .int .i64 q9] 30)) wr) := HW.out
        clear HC EACH LB c6 HW
        by_cases hof : e8 = y8
        · have f1 : (e8 != y8) = false := by simp [hof]
          clear hof hc
          go_wp2
          go_region_held3 (fun w3 => w3.cell? ⟨w.heap.size + 1 + x3.heap.size + 1, 0, none⟩ = some (.int .i64 id) ∧ w3.cell? ⟨w.heap.size + 1 + x3.heap.size + 1, 1, none⟩ = some (.slice a2 hs.length c2) ∧ w3.cell? ⟨w.heap.size + 1 + x3.heap.size, 1, none⟩ = some (.slice (some ⟨b, off, none⟩) zs.length c1) ∧ w3.cell? ⟨b, off + idx * 9, none⟩ = some (.int .i64 y1)) (first | (simp [go_sem, ↓IntWalk.iteOmega, *]; done))
            ((first | (go_at_call 12; refine (c9 _ (by (repeat (first | (with_reducible exact Below.refl _ _) | (with_reducible assumption) | (with_reducible refine below_to_plus ?_ ?_ _) | (with_reducible refine below_holds ?_ ?_ _ _) | (with_reducible refine Below.alloc ?_ ?_ _) | (with_reducible refine Below.drew ?_) | (with_reducible refine below_drewN ?_ _) | (with_reducible refine Below.setCell ?_ ?_ _))); (all_goals first | omega | (simp; done) | (simp [go_sem]; done) | (simp [go_sem]; omega)))).mono ?_; rintro e w2 ⟨rfl, hb⟩; obtain ⟨x7, hx⟩ := plus_of_below hb; subst hx; clear hb)))
          all_goals
            go_wp2
            refine wp_region_plus (by kernel_rfl) (by kernel_rfl) ?_
            repeat (go_big_quiet_step (fail))
            refine wpQuiet_nil ?_
            rintro _ ⟨x1, rfl⟩
            go_wp2
            go_roundg (gk - 1)
            case measure => omega
            case rel =>
              have hwr := HWR.out
              refine ⟨idx + 1, by simp, by omega, (show Below _ _ _ from ?_)⟩
              repeat (first | (with_reducible exact Below.refl _ _) | (with_reducible assumption) | (with_reducible refine below_to_plus ?_ ?_ _) | (with_reducible refine below_holds ?_ ?_ _ _) | (with_reducible refine Below.alloc ?_ ?_ _) | (with_reducible refine Below.drew ?_) | (with_reducible refine below_drewN ?_ _) | (with_reducible refine Below.setCell ?_ ?_ _))
              all_goals first | omega | (simp; done) | (simp [go_sem]; done) | (simp [go_sem]; omega)
        · have f1 : (e8 != y8) = true := by simp [hof]
          have f2 : (e9 != q9) = false := by
            rcases hc with h1 | h1
            · exact absurd h1 hof
            · simp [h1]
          clear hof hc
          go_wp2
          go_region_held3 (fun w3 => w3.cell? ⟨w.heap.size + 1 + x3.heap.size + 1, 0, none⟩ = some (.int .i64 id) ∧ w3.cell? ⟨w.heap.size + 1 + x3.heap.size + 1, 1, none⟩ = some (.slice a2 hs.length c2) ∧ w3.cell? ⟨w.heap.size + 1 + x3.heap.size, 1, none⟩ = some (.slice (some ⟨b, off, none⟩) zs.length c1) ∧ w3.cell? ⟨b, off + idx * 9, none⟩ = some (.int .i64 y1)) (first | (simp [go_sem, ↓IntWalk.iteOmega, *]; done))
            ((first | (go_at_call 12; refine (c9 _ (by (repeat (first | (with_reducible exact Below.refl _ _) | (with_reducible assumption) | (with_reducible refine below_to_plus ?_ ?_ _) | (with_reducible refine below_holds ?_ ?_ _ _) | (with_reducible refine Below.alloc ?_ ?_ _) | (with_reducible refine Below.drew ?_) | (with_reducible refine below_drewN ?_ _) | (with_reducible refine Below.setCell ?_ ?_ _))); (all_goals first | omega | (simp; done) | (simp [go_sem]; done) | (simp [go_sem]; omega)))).mono ?_; rintro e w2 ⟨rfl, hb⟩; obtain ⟨x7, hx⟩ := plus_of_below hb; subst hx; clear hb)))
          all_goals
            go_wp2
            refine wp_region_plus (by kernel_rfl) (by kernel_rfl) ?_
            repeat (go_big_quiet_step (fail))
            refine wpQuiet_nil ?_
            rintro _ ⟨x1, rfl⟩
            go_wp2
            go_roundg (gk - 1)
            case measure => omega
            case rel =>
              have hwr := HWR.out
              refine ⟨idx + 1, by simp, by omega, (show Below _ _ _ from ?_)⟩
              repeat (first | (with_reducible exact Below.refl _ _) | (with_reducible assumption) | (with_reducible refine below_to_plus ?_ ?_ _) | (with_reducible refine below_holds ?_ ?_ _ _) | (with_reducible refine Below.alloc ?_ ?_ _) | (with_reducible refine Below.drew ?_) | (with_reducible refine below_drewN ?_ _) | (with_reducible refine Below.setCell ?_ ?_ _))
              all_goals first | omega | (simp; done) | (simp [go_sem]; done) | (simp [go_sem]; omega)
      · have hiz : ¬ (idx : Int) < (zs.length : Int) := by omega
        clear EACH HC LB c6
        have HBW : Aside (Below w.heap.size w wr) := HBV4.out.trans (HW.out.mono HBV4.out.size)
        clear HW HBV4 hsw
        go_wp2_with fail
        refine (awake_calls _).mono ?_
        rintro e w2 ⟨rfl, hb⟩
        obtain ⟨x9, rfl⟩ := plus_of_below hb
        clear hb
        go_wp2
        go_ret
        exact ⟨rfl, below_to_plus HBW.out HBW.out.size _⟩
  · have hif : (ie == 0) = false := by simp [hie]
    clear hie pe
    go_wp2
    go_loopg [128] zs.length (fun k s128 wr => ∃ idx : Nat, s128 = .int .i64 (idx : Int) ∧ k + idx = zs.length ∧ Aside (Below ((plus ((plus (plus (((plus (w.alloc (.cells #[.int .i64 id, .slice ao n cap] 24)) x3).alloc (.cells #[.int .i64 id, .slice a1 zs.length c1] 24)).alloc (.cells #[.int .i64 id, .slice a2 hs.length c2] 24)) x4) x5).alloc (.cells #[.int .i64 q1, .int .i64 q2, .int .i64 q3, .int .i64 q4, .string q5, .string q6, .int .i64 q7, .int .i64 q8, .int .i64 q9] 30)) x6).alloc (.cells #[.int .i64 kb, .int .i64 q2, .int .i64 q3, .int .i64 q4, .string q5, .string q6, .int .i64 q7, .int .i64 q8, .int .i64 q9] 30)).heap.size ((plus ((plus (plus (((plus (w.alloc (.cells #[.int .i64 id, .slice ao n cap] 24)) x3).alloc (.cells #[.int .i64 id, .slice a1 zs.length c1] 24)).alloc (.cells #[.int .i64 id, .slice a2 hs.length c2] 24)) x4) x5).alloc (.cells #[.int .i64 q1, .int .i64 q2, .int .i64 q3, .int .i64 q4, .string q5, .string q6, .int .i64 q7, .int .i64 q8, .int .i64 q9] 30)) x6).alloc (.cells #[.int .i64 kb, .int .i64 q2, .int .i64 q3, .int .i64 q4, .string q5, .string q6, .int .i64 q7, .int .i64 q8, .int .i64 q9] 30)) wr))
    case atStart => exact ⟨0, rfl, by omega, Below.refl _ _⟩
    case round =>
      obtain ⟨idx, rfl, hk, HW⟩ := hrel
      have hsw := HW.out.size
      by_cases hi : idx < zs.length
      · have hiz : (idx : Int) < (zs.length : Int) := by omega
        obtain ⟨b, off, ea, hbw, l0, l1, l2, l3, l4, l5, l6, l7, l8⟩ := HC.out idx hi
        subst ea
        have hbr : b < wr.heap.size := Nat.lt_of_lt_of_le hbw hsw
        have k0 := (HW.out.cell (p := ⟨b, off + idx * 9, none⟩) hbw).trans l0
        have k7 := (HW.out.cell (p := ⟨b, off + idx * 9 + 7, none⟩) hbw).trans l7
        have bg1 := (HW.out.cell (p := ⟨w.heap.size + 1 + x3.heap.size, 1, none⟩) (by simp [size_plus]; omega)).trans LB.out.1
        have bh0 := (HW.out.cell (p := ⟨w.heap.size + 1 + x3.heap.size + 1, 0, none⟩) (by simp [size_plus]; omega)).trans LB.out.2.1
        have bh1 := (HW.out.cell (p := ⟨w.heap.size + 1 + x3.heap.size + 1, 1, none⟩) (by simp [size_plus]; omega)).trans LB.out.2.2.1
        have ba8 := (HW.out.cell (p := ⟨w.heap.size + 1 + x3.heap.size + 1 + 1 + x4.heap.size + x5.heap.size, 8, none⟩) (by simp [size_plus]; omega)).trans LB.out.2.2.2
        clear l0 l1 l2 l3 l4 l5 l6 l7 l8
        simp [size_plus] at hsw
        have E := EACH.out idx hi
        have c9 : ∀ U, Below wr.heap.size wr U → Calls Try.prog 12 #[.agg #[.int .i64 id, .slice a2 hs.length c2], .int .i64 zs[idx]!.num] U fun e w' => e = .returned (.tuple #[Fd.val (findF zs[idx]!.num hs).1, .int .i64 (findF zs[idx]!.num hs).2]) ∧ Below U.heap.size U w' := fun U hU => c6.out _ U (HW.out.trans (hU.mono HW.out.size))
        obtain ⟨c, ec, hc⟩ := E
        rw [ec] at c9
        clear ec
        generalize zs[idx]! = y at k0 k7 c9 hc
        obtain ⟨y1, y2, y3, y4, y5, y6, y7, y8, y9⟩ := y
        obtain ⟨e1, e2, e3, e4, e5, e6, e7, e8, e9⟩ := c
        simp only at k0 k7 hc
        have c9 : ∀ U, Below wr.heap.size wr U → Calls Try.prog 12 #[.agg #[.int .i64 id, .slice a2 hs.length c2], .int .i64 y1] U fun e w' => e = .returned (.tuple #[.agg #[.int .i64 e1, .int .i64 e2, .int .i64 e3, .int .i64 e4, .string e5, .string e6, .int .i64 e7, .int .i64 e8, .int .i64 e9], .int .i64 0]) ∧ Below U.heap.size U w' := c9
        have HWR : Aside (Below ((plus ((plus (plus (((plus (w.alloc (.cells #[.int .i64 id, .slice ao n cap] 24)) x3).alloc (.cells #[.int .i64 id, .slice (some ⟨b, off, none⟩) zs.length c1] 24)).alloc (.cells #[.int .i64 id, .slice a2 hs.length c2] 24)) x4) x5).alloc (.cells #[.int .i64 q1, .int .i64 q2, .int .i64 q3, .int .i64 q4, .string q5, .string q6, .int .i64 q7, .int .i64 q8, .int .i64 q9] 30)) x6).alloc (.cells #[.int .i64 kb, .int .i64 q2, .int .i64 q3, .int .i64 q4, .string q5, .string q6, .int .i64 q7, .int .i64 q8, .int .i64 q9] 30)).heap.size ((plus ((plus (plus (((plus (w.alloc (.cells #[.int .i64 id, .slice ao n cap] 24)) x3).alloc (.cells #[.int .i64 id, .slice (some ⟨b, off, none⟩) zs.length c1] 24)).alloc (.cells #[.int .i64 id, .slice a2 hs.length c2] 24)) x4) x5).alloc (.cells #[.int .i64 q1, .int .i64 q2, .int .i64 q3, .int .i64 q4, .string q5, .string q6, .int .i64 q7, .int .i64 q8, .int .i64 q9] 30)) x6).alloc (.cells #[.int .i64 kb, .int .i64 q2, .int .i64 q3, .int .i64 q4, .string q5, .string q6, .int .i64 q7, .int .i64 q8, .int .i64 q9] 30)) wr) := HW.out
        clear HC EACH LB c6 HW
        by_cases hof : e8 = y8
        · have f1 : (e8 != y8) = false := by simp [hof]
          clear hof hc
          go_wp2
          go_region_held3 (fun w3 => w3.cell? ⟨w.heap.size + 1 + x3.heap.size + 1, 0, none⟩ = some (.int .i64 id) ∧ w3.cell? ⟨w.heap.size + 1 + x3.heap.size + 1, 1, none⟩ = some (.slice a2 hs.length c2) ∧ w3.cell? ⟨w.heap.size + 1 + x3.heap.size, 1, none⟩ = some (.slice (some ⟨b, off, none⟩) zs.length c1) ∧ w3.cell? ⟨b, off + idx * 9, none⟩ = some (.int .i64 y1)) (first | (simp [go_sem, ↓IntWalk.iteOmega, *]; done))
            ((first | (go_at_call 12; refine (c9 _ (by (repeat (first | (with_reducible exact Below.refl _ _) | (with_reducible assumption) | (with_reducible refine below_to_plus ?_ ?_ _) | (with_reducible refine below_holds ?_ ?_ _ _) | (with_reducible refine Below.alloc ?_ ?_ _) | (with_reducible refine Below.drew ?_) | (with_reducible refine below_drewN ?_ _) | (with_reducible refine Below.setCell ?_ ?_ _))); (all_goals first | omega | (simp; done) | (simp [go_sem]; done) | (simp [go_sem]; omega)))).mono ?_; rintro e w2 ⟨rfl, hb⟩; obtain ⟨x7, hx⟩ := plus_of_below hb; subst hx; clear hb)))
          all_goals
            go_wp2
            refine wp_region_plus (by kernel_rfl) (by kernel_rfl) ?_
            repeat (go_big_quiet_step (fail))
            refine wpQuiet_nil ?_
            rintro _ ⟨x1, rfl⟩
            go_wp2
            go_roundg (gk - 1)
            case measure => omega
            case rel =>
              have hwr := HWR.out
              refine ⟨idx + 1, by simp, by omega, (show Below _ _ _ from ?_)⟩
              repeat (first | (with_reducible exact Below.refl _ _) | (with_reducible assumption) | (with_reducible refine below_to_plus ?_ ?_ _) | (with_reducible refine below_holds ?_ ?_ _ _) | (with_reducible refine Below.alloc ?_ ?_ _) | (with_reducible refine Below.drew ?_) | (with_reducible refine below_drewN ?_ _) | (with_reducible refine Below.setCell ?_ ?_ _))
              all_goals first | omega | (simp; done) | (simp [go_sem]; done) | (simp [go_sem]; omega)
        · have f1 : (e8 != y8) = true := by simp [hof]
          have f2 : (e9 != q9) = false := by
            rcases hc with h1 | h1
            · exact absurd h1 hof
            · simp [h1]
          clear hof hc
          go_wp2
          go_region_held3 (fun w3 => w3.cell? ⟨w.heap.size + 1 + x3.heap.size + 1, 0, none⟩ = some (.int .i64 id) ∧ w3.cell? ⟨w.heap.size + 1 + x3.heap.size + 1, 1, none⟩ = some (.slice a2 hs.length c2) ∧ w3.cell? ⟨w.heap.size + 1 + x3.heap.size, 1, none⟩ = some (.slice (some ⟨b, off, none⟩) zs.length c1) ∧ w3.cell? ⟨b, off + idx * 9, none⟩ = some (.int .i64 y1)) (first | (simp [go_sem, ↓IntWalk.iteOmega, *]; done))
            ((first | (go_at_call 12; refine (c9 _ (by (repeat (first | (with_reducible exact Below.refl _ _) | (with_reducible assumption) | (with_reducible refine below_to_plus ?_ ?_ _) | (with_reducible refine below_holds ?_ ?_ _ _) | (with_reducible refine Below.alloc ?_ ?_ _) | (with_reducible refine Below.drew ?_) | (with_reducible refine below_drewN ?_ _) | (with_reducible refine Below.setCell ?_ ?_ _))); (all_goals first | omega | (simp; done) | (simp [go_sem]; done) | (simp [go_sem]; omega)))).mono ?_; rintro e w2 ⟨rfl, hb⟩; obtain ⟨x7, hx⟩ := plus_of_below hb; subst hx; clear hb)))
          all_goals
            go_wp2
            refine wp_region_plus (by kernel_rfl) (by kernel_rfl) ?_
            repeat (go_big_quiet_step (fail))
            refine wpQuiet_nil ?_
            rintro _ ⟨x1, rfl⟩
            go_wp2
            go_roundg (gk - 1)
            case measure => omega
            case rel =>
              have hwr := HWR.out
              refine ⟨idx + 1, by simp, by omega, (show Below _ _ _ from ?_)⟩
              repeat (first | (with_reducible exact Below.refl _ _) | (with_reducible assumption) | (with_reducible refine below_to_plus ?_ ?_ _) | (with_reducible refine below_holds ?_ ?_ _ _) | (with_reducible refine Below.alloc ?_ ?_ _) | (with_reducible refine Below.drew ?_) | (with_reducible refine below_drewN ?_ _) | (with_reducible refine Below.setCell ?_ ?_ _))
              all_goals first | omega | (simp; done) | (simp [go_sem]; done) | (simp [go_sem]; omega)
      · have hiz : ¬ (idx : Int) < (zs.length : Int) := by omega
        clear EACH HC LB c6
        have HBW : Aside (Below w.heap.size w wr) := HBV4.out.trans (HW.out.mono HBV4.out.size)
        clear HW HBV4 hsw
        go_wp2_with fail
        refine (awake_calls _).mono ?_
        rintro e w2 ⟨rfl, hb⟩
        obtain ⟨x9, rfl⟩ := plus_of_below hb
        clear hb
        go_wp2
        go_ret
        exact ⟨rfl, below_to_plus HBW.out HBW.out.size _⟩

set_option maxHeartbeats 16000000 in
set_option maxRecDepth 100000 in
theorem lawShared_seek (id fr to offset : Int) (ao : Option Addr) (n cap : Nat) (xs : List Fd) (w : World) (h : Sl w 9 ao n cap (xs.map Fd.enc)) (hft : ∀ y ∈ xs, y.fit) (hofr : -9223372036854775808 ≤ offset ∧ offset ≤ 9223372036854775807) (hsm : smallB xs = true) (hri : rightB id xs = true) (hde : (dupF xs fr to).2.2 = 0) :
    Calls Try.prog 6 #[.agg #[.int .i64 id, .slice ao n cap], .int .i64 fr, .int .i64 to, .int .i64 offset, .bool false] w fun e w' => e = .returned (.bool true) ∧ Below w.heap.size w w' := by
  have HL : Aside (xs.length = n) := Sl.lenE h
  have hb0 : Below w.heap.size w (w.alloc (.cells #[.int .i64 id, .slice ao n cap] 24)) := by
    repeat (first | (with_reducible exact Below.refl _ _) | (with_reducible assumption) | (with_reducible refine below_to_plus ?_ ?_ _) | (with_reducible refine below_holds ?_ ?_ _ _) | (with_reducible refine Below.alloc ?_ ?_ _) | (with_reducible refine Below.drew ?_) | (with_reducible refine below_drewN ?_ _) | (with_reducible refine Below.setCell ?_ ?_ _))
    all_goals first | omega | (simp; done) | (simp [go_sem]; done) | (simp [go_sem]; omega)
  have hs0 := h.stays hb0
  have H : Aside (Sl w 9 ao n cap (xs.map Fd.enc)) := h
  have c1 := small_calls id ao n cap xs (w.alloc (.cells #[.int .i64 id, .slice ao n cap] 24)) hs0 hft
  have c2 := fun x => rright_calls id ao n cap xs (plus (w.alloc (.cells #[.int .i64 id, .slice ao n cap] 24)) x) (hs0.stays (below_plus _ _)) hft
  rw [hsm] at c1
  rw [hri] at c2
  have HR := (rightB_iff id xs).1 hri
  have hnl : n ≤ 1000 := by
    have h1 := asc_len HR
    rw [HL.out] at h1
    omega
  have c3 := fun x => dup_calls id fr to ao n cap xs (plus (w.alloc (.cells #[.int .i64 id, .slice ao n cap] 24)) x) (hs0.stays (below_plus _ _)) hnl (asc_mono HR.asc _) (asc_mono HR.asc _)
  have hzr := dup_right HR fr to
  have hfx := shared_seek HR fr to offset hde
  generalize dupF xs fr to = r at c3 hzr hfx hde
  obtain ⟨zs, k, er⟩ := r
  simp only at hzr hfx hde
  subst hde
  have hzl : zs.length ≤ 64 := asc_len hzr
  have hof : ∀ y ∈ zs, 0 ≤ y.offset ∧ y.offset ≤ 9223372036854775807 := fun y hy => by
    have := (okB_iff y).1 (hzr.ok y hy)
    omega
  have c4 : ∀ (a1 : Option Addr) (c1 : Nat) (U : World), Sl U 9 a1 zs.length c1 (zs.map Fd.enc) → Calls Try.prog 22 #[.agg #[.int .i64 id, .slice a1 zs.length c1], .int .i64 k, .int .i64 offset, .int .i64 0, .int .i64 0] U fun e w' => RetPost U id (seekF zs k offset 0 0) e w' := fun a1 c1 U hU => seek_calls id k offset 0 0 a1 zs.length c1 zs U hU (by omega) hof hofr (by omega)
  generalize seekF zs k offset 0 0 = r2 at c4 hfx
  obtain ⟨hs, rv, ie⟩ := r2
  simp only at hfx
  have HFX : Aside (SharedOk zs hs fr k offset ie false) := hfx
  clear hsm hri hs0 hft h hb0 HR hzr hof hfx hofr
  go_enter Try.func6, Try.ntmps6
  go_wp2_with fail
  refine (c1).mono ?_
  rintro e w2 ⟨rfl, hb⟩
  obtain ⟨x1, rfl⟩ := plus_of_below hb
  clear hb
  clear c1
  go_wp2_with fail
  refine (c2 _).mono ?_
  rintro e w2 ⟨rfl, hb⟩
  obtain ⟨x2, rfl⟩ := plus_next hb
  clear hb
  clear c2
  go_wp2_with fail
  refine (c3 _).mono ?_
  rintro e w2 ⟨a1, c1, rfl, hown, hb⟩
  have HO1 : Aside (Row w2 (plus (w.alloc (.cells #[.int .i64 id, .slice ao n cap] 24)) x2).heap.size a1 c1 zs) := hown
  obtain ⟨x3, rfl⟩ := plus_next hb
  clear hb hown c3
  have hs1 : Sl (((plus (w.alloc (.cells #[.int .i64 id, .slice ao n cap] 24)) x3).alloc (.cells #[.int .i64 id, .slice a1 zs.length c1] 24)).alloc (.cells #[.int .i64 id, .slice a1 zs.length c1] 24)) 9 a1 zs.length c1 (zs.map Fd.enc) := HO1.out.sl.stays (by
    repeat (first | (with_reducible exact Below.refl _ _) | (with_reducible assumption) | (with_reducible refine below_to_plus ?_ ?_ _) | (with_reducible refine below_holds ?_ ?_ _ _) | (with_reducible refine Below.alloc ?_ ?_ _) | (with_reducible refine Below.drew ?_) | (with_reducible refine below_drewN ?_ _) | (with_reducible refine Below.setCell ?_ ?_ _))
    all_goals first | omega | (simp; done) | (simp [go_sem]; done) | (simp [go_sem]; omega))
  have c5 := c4 a1 c1 _ hs1
  clear c4 hs1
  go_wp2_with fail
  refine c5.mono ?_
  rintro e w2 ⟨a2, c2, rfl, hown, hb⟩
  have HO2 : Aside (Row w2 (((plus (w.alloc (.cells #[.int .i64 id, .slice ao n cap] 24)) x3).alloc (.cells #[.int .i64 id, .slice a1 zs.length c1] 24)).alloc (.cells #[.int .i64 id, .slice a1 zs.length c1] 24)).heap.size a2 c2 hs) := hown
  obtain ⟨x4, rfl⟩ := plus_of_below hb
  clear hb hown c5
  have hro : Row (plus (((plus (w.alloc (.cells #[.int .i64 id, .slice ao n cap] 24)) x3).alloc (.cells #[.int .i64 id, .slice a1 zs.length c1] 24)).alloc (.cells #[.int .i64 id, .slice a2 hs.length c2] 24)) x4) (((plus (w.alloc (.cells #[.int .i64 id, .slice ao n cap] 24)) x3).alloc (.cells #[.int .i64 id, .slice a1 zs.length c1] 24)).alloc (.cells #[.int .i64 id, .slice a1 zs.length c1] 24)).heap.size a2 c2 hs := own_past (W := (((plus (w.alloc (.cells #[.int .i64 id, .slice ao n cap] 24)) x3).alloc (.cells #[.int .i64 id, .slice a1 zs.length c1] 24)).alloc (.cells #[.int .i64 id, .slice a1 zs.length c1] 24))) (W' := (((plus (w.alloc (.cells #[.int .i64 id, .slice ao n cap] 24)) x3).alloc (.cells #[.int .i64 id, .slice a1 zs.length c1] 24)).alloc (.cells #[.int .i64 id, .slice a2 hs.length c2] 24))) HO2.out (Nat.le_refl _) (by simp)
  have HS2 : Aside (Sl (plus (((plus (w.alloc (.cells #[.int .i64 id, .slice ao n cap] 24)) x3).alloc (.cells #[.int .i64 id, .slice a1 zs.length c1] 24)).alloc (.cells #[.int .i64 id, .slice a2 hs.length c2] 24)) x4) 9 a2 hs.length c2 (hs.map Fd.enc)) := hro.sl
  have HS1 : Aside (Sl (plus (((plus (w.alloc (.cells #[.int .i64 id, .slice ao n cap] 24)) x3).alloc (.cells #[.int .i64 id, .slice a1 zs.length c1] 24)).alloc (.cells #[.int .i64 id, .slice a2 hs.length c2] 24)) x4) 9 a1 zs.length c1 (zs.map Fd.enc)) := HO1.out.sl.stays (by
    repeat (first | (with_reducible exact Below.refl _ _) | (with_reducible assumption) | (with_reducible refine below_to_plus ?_ ?_ _) | (with_reducible refine below_holds ?_ ?_ _ _) | (with_reducible refine Below.alloc ?_ ?_ _) | (with_reducible refine Below.drew ?_) | (with_reducible refine below_drewN ?_ _) | (with_reducible refine Below.setCell ?_ ?_ _))
    all_goals first | omega | (simp; done) | (simp [go_sem]; done) | (simp [go_sem]; omega))
  have c6 : Aside (∀ (i : Int) U, Below (plus (((plus (w.alloc (.cells #[.int .i64 id, .slice ao n cap] 24)) x3).alloc (.cells #[.int .i64 id, .slice a1 zs.length c1] 24)).alloc (.cells #[.int .i64 id, .slice a2 hs.length c2] 24)) x4).heap.size (plus (((plus (w.alloc (.cells #[.int .i64 id, .slice ao n cap] 24)) x3).alloc (.cells #[.int .i64 id, .slice a1 zs.length c1] 24)).alloc (.cells #[.int .i64 id, .slice a2 hs.length c2] 24)) x4) U → Calls Try.prog 12 #[.agg #[.int .i64 id, .slice a2 hs.length c2], .int .i64 i] U fun e w' => e = .returned (.tuple #[Fd.val (findF i hs).1, .int .i64 (findF i hs).2]) ∧ Below U.heap.size U w') := fun i U hU => Find_calls id i a2 hs.length c2 hs U (HS2.out.stays hU)
  have HBV : Aside (Below w.heap.size w (plus (((plus (w.alloc (.cells #[.int .i64 id, .slice ao n cap] 24)) x3).alloc (.cells #[.int .i64 id, .slice a1 zs.length c1] 24)).alloc (.cells #[.int .i64 id, .slice a2 hs.length c2] 24)) x4)) := by
    show Below _ _ _
    repeat (first | (with_reducible exact Below.refl _ _) | (with_reducible assumption) | (with_reducible refine below_to_plus ?_ ?_ _) | (with_reducible refine below_holds ?_ ?_ _ _) | (with_reducible refine Below.alloc ?_ ?_ _) | (with_reducible refine Below.drew ?_) | (with_reducible refine below_drewN ?_ _) | (with_reducible refine Below.setCell ?_ ?_ _))
    all_goals first | omega | (simp; done) | (simp [go_sem]; done) | (simp [go_sem]; omega)
  clear hro HO1 HO2
  obtain ⟨da, kb, hfa, hfb, pe, HEACH⟩ := HFX.out
  have c7 := c6.out fr
  have c8 := c6.out k
  rw [hfa] at c7
  rw [hfb] at c8
  clear hfa hfb HFX
  obtain ⟨q1, q2, q3, q4, q5, q6, q7, q8, q9⟩ := da
  simp only at pe HEACH
  have c7 : ∀ U, Below (plus (((plus (w.alloc (.cells #[.int .i64 id, .slice ao n cap] 24)) x3).alloc (.cells #[.int .i64 id, .slice a1 zs.length c1] 24)).alloc (.cells #[.int .i64 id, .slice a2 hs.length c2] 24)) x4).heap.size (plus (((plus (w.alloc (.cells #[.int .i64 id, .slice ao n cap] 24)) x3).alloc (.cells #[.int .i64 id, .slice a1 zs.length c1] 24)).alloc (.cells #[.int .i64 id, .slice a2 hs.length c2] 24)) x4) U → Calls Try.prog 12 #[.agg #[.int .i64 id, .slice a2 hs.length c2], .int .i64 fr] U fun e w' => e = .returned (.tuple #[.agg #[.int .i64 q1, .int .i64 q2, .int .i64 q3, .int .i64 q4, .string q5, .string q6, .int .i64 q7, .int .i64 q8, .int .i64 q9], .int .i64 0]) ∧ Below U.heap.size U w' := c7
  have c8 : ∀ U, Below (plus (((plus (w.alloc (.cells #[.int .i64 id, .slice ao n cap] 24)) x3).alloc (.cells #[.int .i64 id, .slice a1 zs.length c1] 24)).alloc (.cells #[.int .i64 id, .slice a2 hs.length c2] 24)) x4).heap.size (plus (((plus (w.alloc (.cells #[.int .i64 id, .slice ao n cap] 24)) x3).alloc (.cells #[.int .i64 id, .slice a1 zs.length c1] 24)).alloc (.cells #[.int .i64 id, .slice a2 hs.length c2] 24)) x4) U → Calls Try.prog 12 #[.agg #[.int .i64 id, .slice a2 hs.length c2], .int .i64 k] U fun e w' => e = .returned (.tuple #[.agg #[.int .i64 kb, .int .i64 q2, .int .i64 q3, .int .i64 q4, .string q5, .string q6, .int .i64 q7, .int .i64 q8, .int .i64 q9], .int .i64 0]) ∧ Below U.heap.size U w' := c8
  have EACH : Aside (∀ m, m < zs.length → ∃ c, findF zs[m]!.num hs = (c, 0) ∧ (c.offset = zs[m]!.offset ∨ c.copy = q9)) := HEACH
  have nq := fun w => neq_chan q2 q3 q4 q5 q6 q2 q3 q4 q5 q6 w
  rw [(eqC_iff _ _ _ _ _ _ _ _ _ _).2 ⟨rfl, rfl, rfl, rfl, rfl⟩] at nq
  clear HEACH
  go_wp2_with fail
  refine (c7 _ (Below.refl _ _)).mono ?_
  rintro e w2 ⟨rfl, hb⟩
  obtain ⟨x5, rfl⟩ := plus_of_below hb
  clear hb c7
  go_wp2_with fail
  refine (c8 _ (by
    repeat (first | (with_reducible exact Below.refl _ _) | (with_reducible assumption) | (with_reducible refine below_to_plus ?_ ?_ _) | (with_reducible refine below_holds ?_ ?_ _ _) | (with_reducible refine Below.alloc ?_ ?_ _) | (with_reducible refine Below.drew ?_) | (with_reducible refine below_drewN ?_ _) | (with_reducible refine Below.setCell ?_ ?_ _))
    all_goals first | omega | (simp; done) | (simp [go_sem]; done) | (simp [go_sem]; omega))).mono ?_
  rintro e w2 ⟨rfl, hb⟩
  obtain ⟨x6, rfl⟩ := plus_of_below hb
  clear hb c8
  have hb24 : Below (plus (((plus (w.alloc (.cells #[.int .i64 id, .slice ao n cap] 24)) x3).alloc (.cells #[.int .i64 id, .slice a1 zs.length c1] 24)).alloc (.cells #[.int .i64 id, .slice a2 hs.length c2] 24)) x4).heap.size (plus (((plus (w.alloc (.cells #[.int .i64 id, .slice ao n cap] 24)) x3).alloc (.cells #[.int .i64 id, .slice a1 zs.length c1] 24)).alloc (.cells #[.int .i64 id, .slice a2 hs.length c2] 24)) x4) ((plus ((plus (plus (((plus (w.alloc (.cells #[.int .i64 id, .slice ao n cap] 24)) x3).alloc (.cells #[.int .i64 id, .slice a1 zs.length c1] 24)).alloc (.cells #[.int .i64 id, .slice a2 hs.length c2] 24)) x4) x5).alloc (.cells #[.int .i64 q1, .int .i64 q2, .int .i64 q3, .int .i64 q4, .string q5, .string q6, .int .i64 q7, .int .i64 q8, .int .i64 q9] 30)) x6).alloc (.cells #[.int .i64 kb, .int .i64 q2, .int .i64 q3, .int .i64 q4, .string q5, .string q6, .int .i64 q7, .int .i64 q8, .int .i64 q9] 30)) := by
    repeat (first | (with_reducible exact Below.refl _ _) | (with_reducible assumption) | (with_reducible refine below_to_plus ?_ ?_ _) | (with_reducible refine below_holds ?_ ?_ _ _) | (with_reducible refine Below.alloc ?_ ?_ _) | (with_reducible refine Below.drew ?_) | (with_reducible refine below_drewN ?_ _) | (with_reducible refine Below.setCell ?_ ?_ _))
    all_goals first | omega | (simp; done) | (simp [go_sem]; done) | (simp [go_sem]; omega)
  have HC : Aside (CellsFd ((plus ((plus (plus (((plus (w.alloc (.cells #[.int .i64 id, .slice ao n cap] 24)) x3).alloc (.cells #[.int .i64 id, .slice a1 zs.length c1] 24)).alloc (.cells #[.int .i64 id, .slice a2 hs.length c2] 24)) x4) x5).alloc (.cells #[.int .i64 q1, .int .i64 q2, .int .i64 q3, .int .i64 q4, .string q5, .string q6, .int .i64 q7, .int .i64 q8, .int .i64 q9] 30)) x6).alloc (.cells #[.int .i64 kb, .int .i64 q2, .int .i64 q3, .int .i64 q4, .string q5, .string q6, .int .i64 q7, .int .i64 q8, .int .i64 q9] 30)) a1 zs) := cellsFd (HS1.out.stays hb24)
  have c6 : Aside (∀ (i : Int) U, Below ((plus ((plus (plus (((plus (w.alloc (.cells #[.int .i64 id, .slice ao n cap] 24)) x3).alloc (.cells #[.int .i64 id, .slice a1 zs.length c1] 24)).alloc (.cells #[.int .i64 id, .slice a2 hs.length c2] 24)) x4) x5).alloc (.cells #[.int .i64 q1, .int .i64 q2, .int .i64 q3, .int .i64 q4, .string q5, .string q6, .int .i64 q7, .int .i64 q8, .int .i64 q9] 30)) x6).alloc (.cells #[.int .i64 kb, .int .i64 q2, .int .i64 q3, .int .i64 q4, .string q5, .string q6, .int .i64 q7, .int .i64 q8, .int .i64 q9] 30)).heap.size ((plus ((plus (plus (((plus (w.alloc (.cells #[.int .i64 id, .slice ao n cap] 24)) x3).alloc (.cells #[.int .i64 id, .slice a1 zs.length c1] 24)).alloc (.cells #[.int .i64 id, .slice a2 hs.length c2] 24)) x4) x5).alloc (.cells #[.int .i64 q1, .int .i64 q2, .int .i64 q3, .int .i64 q4, .string q5, .string q6, .int .i64 q7, .int .i64 q8, .int .i64 q9] 30)) x6).alloc (.cells #[.int .i64 kb, .int .i64 q2, .int .i64 q3, .int .i64 q4, .string q5, .string q6, .int .i64 q7, .int .i64 q8, .int .i64 q9] 30)) U → Calls Try.prog 12 #[.agg #[.int .i64 id, .slice a2 hs.length c2], .int .i64 i] U fun e w' => e = .returned (.tuple #[Fd.val (findF i hs).1, .int .i64 (findF i hs).2]) ∧ Below U.heap.size U w') := fun i U hU => c6.out i U (hb24.trans (hU.mono hb24.size))
  have HBV4 : Aside (Below w.heap.size w ((plus ((plus (plus (((plus (w.alloc (.cells #[.int .i64 id, .slice ao n cap] 24)) x3).alloc (.cells #[.int .i64 id, .slice a1 zs.length c1] 24)).alloc (.cells #[.int .i64 id, .slice a2 hs.length c2] 24)) x4) x5).alloc (.cells #[.int .i64 q1, .int .i64 q2, .int .i64 q3, .int .i64 q4, .string q5, .string q6, .int .i64 q7, .int .i64 q8, .int .i64 q9] 30)) x6).alloc (.cells #[.int .i64 kb, .int .i64 q2, .int .i64 q3, .int .i64 q4, .string q5, .string q6, .int .i64 q7, .int .i64 q8, .int .i64 q9] 30))) := HBV.out.trans (hb24.mono HBV.out.size)
  have LB : Aside (((plus ((plus (plus (((plus (w.alloc (.cells #[.int .i64 id, .slice ao n cap] 24)) x3).alloc (.cells #[.int .i64 id, .slice a1 zs.length c1] 24)).alloc (.cells #[.int .i64 id, .slice a2 hs.length c2] 24)) x4) x5).alloc (.cells #[.int .i64 q1, .int .i64 q2, .int .i64 q3, .int .i64 q4, .string q5, .string q6, .int .i64 q7, .int .i64 q8, .int .i64 q9] 30)) x6).alloc (.cells #[.int .i64 kb, .int .i64 q2, .int .i64 q3, .int .i64 q4, .string q5, .string q6, .int .i64 q7, .int .i64 q8, .int .i64 q9] 30)).cell? ⟨w.heap.size + 1 + x3.heap.size, 1, none⟩ = some (.slice a1 zs.length c1) ∧ ((plus ((plus (plus (((plus (w.alloc (.cells #[.int .i64 id, .slice ao n cap] 24)) x3).alloc (.cells #[.int .i64 id, .slice a1 zs.length c1] 24)).alloc (.cells #[.int .i64 id, .slice a2 hs.length c2] 24)) x4) x5).alloc (.cells #[.int .i64 q1, .int .i64 q2, .int .i64 q3, .int .i64 q4, .string q5, .string q6, .int .i64 q7, .int .i64 q8, .int .i64 q9] 30)) x6).alloc (.cells #[.int .i64 kb, .int .i64 q2, .int .i64 q3, .int .i64 q4, .string q5, .string q6, .int .i64 q7, .int .i64 q8, .int .i64 q9] 30)).cell? ⟨w.heap.size + 1 + x3.heap.size + 1, 0, none⟩ = some (.int .i64 id) ∧ ((plus ((plus (plus (((plus (w.alloc (.cells #[.int .i64 id, .slice ao n cap] 24)) x3).alloc (.cells #[.int .i64 id, .slice a1 zs.length c1] 24)).alloc (.cells #[.int .i64 id, .slice a2 hs.length c2] 24)) x4) x5).alloc (.cells #[.int .i64 q1, .int .i64 q2, .int .i64 q3, .int .i64 q4, .string q5, .string q6, .int .i64 q7, .int .i64 q8, .int .i64 q9] 30)) x6).alloc (.cells #[.int .i64 kb, .int .i64 q2, .int .i64 q3, .int .i64 q4, .string q5, .string q6, .int .i64 q7, .int .i64 q8, .int .i64 q9] 30)).cell? ⟨w.heap.size + 1 + x3.heap.size + 1, 1, none⟩ = some (.slice a2 hs.length c2) ∧ ((plus ((plus (plus (((plus (w.alloc (.cells #[.int .i64 id, .slice ao n cap] 24)) x3).alloc (.cells #[.int .i64 id, .slice a1 zs.length c1] 24)).alloc (.cells #[.int .i64 id, .slice a2 hs.length c2] 24)) x4) x5).alloc (.cells #[.int .i64 q1, .int .i64 q2, .int .i64 q3, .int .i64 q4, .string q5, .string q6, .int .i64 q7, .int .i64 q8, .int .i64 q9] 30)) x6).alloc (.cells #[.int .i64 kb, .int .i64 q2, .int .i64 q3, .int .i64 q4, .string q5, .string q6, .int .i64 q7, .int .i64 q8, .int .i64 q9] 30)).cell? ⟨w.heap.size + 1 + x3.heap.size + 1 + 1 + x4.heap.size + x5.heap.size, 8, none⟩ = some (.int .i64 q9)) := ⟨by simp [go_sem, ↓IntWalk.iteOmega], by simp [go_sem, ↓IntWalk.iteOmega], by simp [go_sem, ↓IntWalk.iteOmega], by simp [go_sem, ↓IntWalk.iteOmega]⟩
  clear hb24 HBV HS1 HS2
  have hzb : zs.length ≤ 9223372036854775807 := by omega
  by_cases hie : ie = 0
  · subst hie
    have hpo : q8 = offset := by first | exact pe rfl rfl | exact pe rfl trivial | exact pe rfl
    subst hpo
    clear pe
    go_wp2
    go_loopg [128] zs.length (fun k s128 wr => ∃ idx : Nat, s128 = .int .i64 (idx : Int) ∧ k + idx = zs.length ∧ Aside (Below ((plus ((plus (plus (((plus (w.alloc (.cells #[.int .i64 id, .slice ao n cap] 24)) x3).alloc (.cells #[.int .i64 id, .slice a1 zs.length c1] 24)).alloc (.cells #[.int .i64 id, .slice a2 hs.length c2] 24)) x4) x5).alloc (.cells #[.int .i64 q1, .int .i64 q2, .int .i64 q3, .int .i64 q4, .string q5, .string q6, .int .i64 q7, .int .i64 q8, .int .i64 q9] 30)) x6).alloc (.cells #[.int .i64 kb, .int .i64 q2, .int .i64 q3, .int .i64 q4, .string q5, .string q6, .int .i64 q7, .int .i64 q8, .int .i64 q9] 30)).heap.size ((plus ((plus (plus (((plus (w.alloc (.cells #[.int .i64 id, .slice ao n cap] 24)) x3).alloc (.cells #[.int .i64 id, .slice a1 zs.length c1] 24)).alloc (.cells #[.int .i64 id, .slice a2 hs.length c2] 24)) x4) x5).alloc (.cells #[.int .i64 q1, .int .i64 q2, .int .i64 q3, .int .i64 q4, .string q5, .string q6, .int .i64 q7, .int .i64 q8, .int .i64 q9] 30)) x6).alloc (.cells #[.int .i64 kb, .int .i64 q2, .int .i64 q3, .int .i64 q4, .string q5, .string q6, .int .i64 q7, .int .i64 q8, .int .i64 q9] 30)) wr))
    case atStart => exact ⟨0, rfl, by omega, Below.refl _ _⟩
    case round =>
      obtain ⟨idx, rfl, hk, HW⟩ := hrel
      have hsw := HW.out.size
      by_cases hi : idx < zs.length
      · have hiz : (idx : Int) < (zs.length : Int) := by omega
        obtain ⟨b, off, ea, hbw, l0, l1, l2, l3, l4, l5, l6, l7, l8⟩ := HC.out idx hi
        subst ea
        have hbr : b < wr.heap.size := Nat.lt_of_lt_of_le hbw hsw
        have k0 := (HW.out.cell (p := ⟨b, off + idx * 9, none⟩) hbw).trans l0
        have k7 := (HW.out.cell (p := ⟨b, off + idx * 9 + 7, none⟩) hbw).trans l7
        have bg1 := (HW.out.cell (p := ⟨w.heap.size + 1 + x3.heap.size, 1, none⟩) (by simp [size_plus]; omega)).trans LB.out.1
        have bh0 := (HW.out.cell (p := ⟨w.heap.size + 1 + x3.heap.size + 1, 0, none⟩) (by simp [size_plus]; omega)).trans LB.out.2.1
        have bh1 := (HW.out.cell (p := ⟨w.heap.size + 1 + x3.heap.size + 1, 1, none⟩) (by simp [size_plus]; omega)).trans LB.out.2.2.1
        have ba8 := (HW.out.cell (p := ⟨w.heap.size + 1 + x3.heap.size + 1 + 1 + x4.heap.size + x5.heap.size, 8, none⟩) (by simp [size_plus]; omega)).trans LB.out.2.2.2
        clear l0 l1 l2 l3 l4 l5 l6 l7 l8
        simp [size_plus] at hsw
        have E := EACH.out idx hi
        have c9 : ∀ U, Below wr.heap.size wr U → Calls Try.prog 12 #[.agg #[.int .i64 id, .slice a2 hs.length c2], .int .i64 zs[idx]!.num] U fun e w' => e = .returned (.tuple #[Fd.val (findF zs[idx]!.num hs).1, .int .i64 (findF zs[idx]!.num hs).2]) ∧ Below U.heap.size U w' := fun U hU => c6.out _ U (HW.out.trans (hU.mono HW.out.size))
        obtain ⟨c, ec, hc⟩ := E
        rw [ec] at c9
        clear ec
        generalize zs[idx]! = y at k0 k7 c9 hc
        obtain ⟨y1, y2, y3, y4, y5, y6, y7, y8, y9⟩ := y
        obtain ⟨e1, e2, e3, e4, e5, e6, e7, e8, e9⟩ := c
        simp only at k0 k7 hc
        have c9 : ∀ U, Below wr.heap.size wr U → Calls Try.prog 12 #[.agg #[.int .i64 id, .slice a2 hs.length c2], .int .i64 y1] U fun e w' => e = .returned (.tuple #[.agg #[.int .i64 e1, .int .i64 e2, .int .i64 e3, .int .i64 e4, .string e5, .string e6, .int .i64 e7, .int .i64 e8, .int .i64 e9], .int .i64 0]) ∧ Below U.heap.size U w' := c9
        have HWR : Aside (Below ((plus ((plus (plus (((plus (w.alloc (.cells #[.int .i64 id, .slice ao n cap] 24)) x3).alloc (.cells #[.int .i64 id, .slice (some ⟨b, off, none⟩) zs.length c1] 24)).alloc (.cells #[.int .i64 id, .slice a2 hs.length c2] 24)) x4) x5).alloc (.cells #[.int .i64 q1, .int .i64 q2, .int .i64 q3, .int .i64 q4, .string q5, .string q6, .int .i64 q7, .int .i64 q8, .int .i64 q9] 30)) x6).alloc (.cells #[.int .i64 kb, .int .i64 q2, .int .i64 q3, .int .i64 q4, .string q5, .string q6, .int .i64 q7, .int .i64 q8, .int .i64 q9] 30)).heap.size ((plus ((plus (plus (((plus (w.alloc (.cells #[.int .i64 id, .slice ao n cap] 24)) x3).alloc (.cells #[.int .i64 id, .slice (some ⟨b, off, none⟩) zs.length c1] 24)).alloc (.cells #[.int .i64 id, .slice a2 hs.length c2] 24)) x4) x5).alloc (.cells #[.int .i64 q1, .int .i64 q2, .int .i64 q3, .int .i64 q4, .string q5, .string q6, .int .i64 q7, .int .i64 q8, .int .i64 q9] 30)) x6).alloc (.cells #[.int .i64 kb, .int .i64 q2, .int .i64 q3, .int .i64 q4, .string q5, .string q6, .int .i64 q7, .int .i64 q8, .int .i64 q9] 30)) wr) := HW.out
        clear HC EACH LB c6 HW
        by_cases hof : e8 = y8
        · have f1 : (e8 != y8) = false := by simp [hof]
          clear hof hc
          go_wp2
          go_region_held3 (fun w3 => w3.cell? ⟨w.heap.size + 1 + x3.heap.size + 1, 0, none⟩ = some (.int .i64 id) ∧ w3.cell? ⟨w.heap.size + 1 + x3.heap.size + 1, 1, none⟩ = some (.slice a2 hs.length c2) ∧ w3.cell? ⟨w.heap.size + 1 + x3.heap.size, 1, none⟩ = some (.slice (some ⟨b, off, none⟩) zs.length c1) ∧ w3.cell? ⟨b, off + idx * 9, none⟩ = some (.int .i64 y1)) (first | (simp [go_sem, ↓IntWalk.iteOmega, *]; done))
            ((first | (go_at_call 12; refine (c9 _ (by (repeat (first | (with_reducible exact Below.refl _ _) | (with_reducible assumption) | (with_reducible refine below_to_plus ?_ ?_ _) | (with_reducible refine below_holds ?_ ?_ _ _) | (with_reducible refine Below.alloc ?_ ?_ _) | (with_reducible refine Below.drew ?_) | (with_reducible refine below_drewN ?_ _) | (with_reducible refine Below.setCell ?_ ?_ _))); (all_goals first | omega | (simp; done) | (simp [go_sem]; done) | (simp [go_sem]; omega)))).mono ?_; rintro e w2 ⟨rfl, hb⟩; obtain ⟨x7, hx⟩ := plus_of_below hb; subst hx; clear hb)))
          all_goals
            go_wp2
            refine wp_region_plus (by kernel_rfl) (by kernel_rfl) ?_
            repeat (go_big_quiet_step (fail))
            refine wpQuiet_nil ?_
            rintro _ ⟨x1, rfl⟩
            go_wp2
            go_roundg (gk - 1)
            case measure => omega
            case rel =>
              have hwr := HWR.out
              refine ⟨idx + 1, by simp, by omega, (show Below _ _ _ from ?_)⟩
              repeat (first | (with_reducible exact Below.refl _ _) | (with_reducible assumption) | (with_reducible refine below_to_plus ?_ ?_ _) | (with_reducible refine below_holds ?_ ?_ _ _) | (with_reducible refine Below.alloc ?_ ?_ _) | (with_reducible refine Below.drew ?_) | (with_reducible refine below_drewN ?_ _) | (with_reducible refine Below.setCell ?_ ?_ _))
              all_goals first | omega | (simp; done) | (simp [go_sem]; done) | (simp [go_sem]; omega)
        · have f1 : (e8 != y8) = true := by simp [hof]
          have f2 : (e9 != q9) = false := by
            rcases hc with h1 | h1
            · exact absurd h1 hof
            · simp [h1]
          clear hof hc
          go_wp2
          go_region_held3 (fun w3 => w3.cell? ⟨w.heap.size + 1 + x3.heap.size + 1, 0, none⟩ = some (.int .i64 id) ∧ w3.cell? ⟨w.heap.size + 1 + x3.heap.size + 1, 1, none⟩ = some (.slice a2 hs.length c2) ∧ w3.cell? ⟨w.heap.size + 1 + x3.heap.size, 1, none⟩ = some (.slice (some ⟨b, off, none⟩) zs.length c1) ∧ w3.cell? ⟨b, off + idx * 9, none⟩ = some (.int .i64 y1)) (first | (simp [go_sem, ↓IntWalk.iteOmega, *]; done))
            ((first | (go_at_call 12; refine (c9 _ (by (repeat (first | (with_reducible exact Below.refl _ _) | (with_reducible assumption) | (with_reducible refine below_to_plus ?_ ?_ _) | (with_reducible refine below_holds ?_ ?_ _ _) | (with_reducible refine Below.alloc ?_ ?_ _) | (with_reducible refine Below.drew ?_) | (with_reducible refine below_drewN ?_ _) | (with_reducible refine Below.setCell ?_ ?_ _))); (all_goals first | omega | (simp; done) | (simp [go_sem]; done) | (simp [go_sem]; omega)))).mono ?_; rintro e w2 ⟨rfl, hb⟩; obtain ⟨x7, hx⟩ := plus_of_below hb; subst hx; clear hb)))
          all_goals
            go_wp2
            refine wp_region_plus (by kernel_rfl) (by kernel_rfl) ?_
            repeat (go_big_quiet_step (fail))
            refine wpQuiet_nil ?_
            rintro _ ⟨x1, rfl⟩
            go_wp2
            go_roundg (gk - 1)
            case measure => omega
            case rel =>
              have hwr := HWR.out
              refine ⟨idx + 1, by simp, by omega, (show Below _ _ _ from ?_)⟩
              repeat (first | (with_reducible exact Below.refl _ _) | (with_reducible assumption) | (with_reducible refine below_to_plus ?_ ?_ _) | (with_reducible refine below_holds ?_ ?_ _ _) | (with_reducible refine Below.alloc ?_ ?_ _) | (with_reducible refine Below.drew ?_) | (with_reducible refine below_drewN ?_ _) | (with_reducible refine Below.setCell ?_ ?_ _))
              all_goals first | omega | (simp; done) | (simp [go_sem]; done) | (simp [go_sem]; omega)
      · have hiz : ¬ (idx : Int) < (zs.length : Int) := by omega
        clear EACH HC LB c6
        have HBW : Aside (Below w.heap.size w wr) := HBV4.out.trans (HW.out.mono HBV4.out.size)
        clear HW HBV4 hsw
        go_wp2_with fail
        refine (awake_calls _).mono ?_
        rintro e w2 ⟨rfl, hb⟩
        obtain ⟨x9, rfl⟩ := plus_of_below hb
        clear hb
        go_wp2
        go_ret
        exact ⟨rfl, below_to_plus HBW.out HBW.out.size _⟩
  · have hif : (ie == 0) = false := by simp [hie]
    clear hie pe
    go_wp2
    go_loopg [128] zs.length (fun k s128 wr => ∃ idx : Nat, s128 = .int .i64 (idx : Int) ∧ k + idx = zs.length ∧ Aside (Below ((plus ((plus (plus (((plus (w.alloc (.cells #[.int .i64 id, .slice ao n cap] 24)) x3).alloc (.cells #[.int .i64 id, .slice a1 zs.length c1] 24)).alloc (.cells #[.int .i64 id, .slice a2 hs.length c2] 24)) x4) x5).alloc (.cells #[.int .i64 q1, .int .i64 q2, .int .i64 q3, .int .i64 q4, .string q5, .string q6, .int .i64 q7, .int .i64 q8, .int .i64 q9] 30)) x6).alloc (.cells #[.int .i64 kb, .int .i64 q2, .int .i64 q3, .int .i64 q4, .string q5, .string q6, .int .i64 q7, .int .i64 q8, .int .i64 q9] 30)).heap.size ((plus ((plus (plus (((plus (w.alloc (.cells #[.int .i64 id, .slice ao n cap] 24)) x3).alloc (.cells #[.int .i64 id, .slice a1 zs.length c1] 24)).alloc (.cells #[.int .i64 id, .slice a2 hs.length c2] 24)) x4) x5).alloc (.cells #[.int .i64 q1, .int .i64 q2, .int .i64 q3, .int .i64 q4, .string q5, .string q6, .int .i64 q7, .int .i64 q8, .int .i64 q9] 30)) x6).alloc (.cells #[.int .i64 kb, .int .i64 q2, .int .i64 q3, .int .i64 q4, .string q5, .string q6, .int .i64 q7, .int .i64 q8, .int .i64 q9] 30)) wr))
    case atStart => exact ⟨0, rfl, by omega, Below.refl _ _⟩
    case round =>
      obtain ⟨idx, rfl, hk, HW⟩ := hrel
      have hsw := HW.out.size
      by_cases hi : idx < zs.length
      · have hiz : (idx : Int) < (zs.length : Int) := by omega
        obtain ⟨b, off, ea, hbw, l0, l1, l2, l3, l4, l5, l6, l7, l8⟩ := HC.out idx hi
        subst ea
        have hbr : b < wr.heap.size := Nat.lt_of_lt_of_le hbw hsw
        have k0 := (HW.out.cell (p := ⟨b, off + idx * 9, none⟩) hbw).trans l0
        have k7 := (HW.out.cell (p := ⟨b, off + idx * 9 + 7, none⟩) hbw).trans l7
        have bg1 := (HW.out.cell (p := ⟨w.heap.size + 1 + x3.heap.size, 1, none⟩) (by simp [size_plus]; omega)).trans LB.out.1
        have bh0 := (HW.out.cell (p := ⟨w.heap.size + 1 + x3.heap.size + 1, 0, none⟩) (by simp [size_plus]; omega)).trans LB.out.2.1
        have bh1 := (HW.out.cell (p := ⟨w.heap.size + 1 + x3.heap.size + 1, 1, none⟩) (by simp [size_plus]; omega)).trans LB.out.2.2.1
        have ba8 := (HW.out.cell (p := ⟨w.heap.size + 1 + x3.heap.size + 1 + 1 + x4.heap.size + x5.heap.size, 8, none⟩) (by simp [size_plus]; omega)).trans LB.out.2.2.2
        clear l0 l1 l2 l3 l4 l5 l6 l7 l8
        simp [size_plus] at hsw
        have E := EACH.out idx hi
        have c9 : ∀ U, Below wr.heap.size wr U → Calls Try.prog 12 #[.agg #[.int .i64 id, .slice a2 hs.length c2], .int .i64 zs[idx]!.num] U fun e w' => e = .returned (.tuple #[Fd.val (findF zs[idx]!.num hs).1, .int .i64 (findF zs[idx]!.num hs).2]) ∧ Below U.heap.size U w' := fun U hU => c6.out _ U (HW.out.trans (hU.mono HW.out.size))
        obtain ⟨c, ec, hc⟩ := E
        rw [ec] at c9
        clear ec
        generalize zs[idx]! = y at k0 k7 c9 hc
        obtain ⟨y1, y2, y3, y4, y5, y6, y7, y8, y9⟩ := y
        obtain ⟨e1, e2, e3, e4, e5, e6, e7, e8, e9⟩ := c
        simp only at k0 k7 hc
        have c9 : ∀ U, Below wr.heap.size wr U → Calls Try.prog 12 #[.agg #[.int .i64 id, .slice a2 hs.length c2], .int .i64 y1] U fun e w' => e = .returned (.tuple #[.agg #[.int .i64 e1, .int .i64 e2, .int .i64 e3, .int .i64 e4, .string e5, .string e6, .int .i64 e7, .int .i64 e8, .int .i64 e9], .int .i64 0]) ∧ Below U.heap.size U w' := c9
        have HWR : Aside (Below ((plus ((plus (plus (((plus (w.alloc (.cells #[.int .i64 id, .slice ao n cap] 24)) x3).alloc (.cells #[.int .i64 id, .slice (some ⟨b, off, none⟩) zs.length c1] 24)).alloc (.cells #[.int .i64 id, .slice a2 hs.length c2] 24)) x4) x5).alloc (.cells #[.int .i64 q1, .int .i64 q2, .int .i64 q3, .int .i64 q4, .string q5, .string q6, .int .i64 q7, .int .i64 q8, .int .i64 q9] 30)) x6).alloc (.cells #[.int .i64 kb, .int .i64 q2, .int .i64 q3, .int .i64 q4, .string q5, .string q6, .int .i64 q7, .int .i64 q8, .int .i64 q9] 30)).heap.size ((plus ((plus (plus (((plus (w.alloc (.cells #[.int .i64 id, .slice ao n cap] 24)) x3).alloc (.cells #[.int .i64 id, .slice (some ⟨b, off, none⟩) zs.length c1] 24)).alloc (.cells #[.int .i64 id, .slice a2 hs.length c2] 24)) x4) x5).alloc (.cells #[.int .i64 q1, .int .i64 q2, .int .i64 q3, .int .i64 q4, .string q5, .string q6, .int .i64 q7, .int .i64 q8, .int .i64 q9] 30)) x6).alloc (.cells #[.int .i64 kb, .int .i64 q2, .int .i64 q3, .int .i64 q4, .string q5, .string q6, .int .i64 q7, .int .i64 q8, .int .i64 q9] 30)) wr) := HW.out
        clear HC EACH LB c6 HW
        by_cases hof : e8 = y8
        · have f1 : (e8 != y8) = false := by simp [hof]
          clear hof hc
          go_wp2
          go_region_held3 (fun w3 => w3.cell? ⟨w.heap.size + 1 + x3.heap.size + 1, 0, none⟩ = some (.int .i64 id) ∧ w3.cell? ⟨w.heap.size + 1 + x3.heap.size + 1, 1, none⟩ = some (.slice a2 hs.length c2) ∧ w3.cell? ⟨w.heap.size + 1 + x3.heap.size, 1, none⟩ = some (.slice (some ⟨b, off, none⟩) zs.length c1) ∧ w3.cell? ⟨b, off + idx * 9, none⟩ = some (.int .i64 y1)) (first | (simp [go_sem, ↓IntWalk.iteOmega, *]; done))
            ((first | (go_at_call 12; refine (c9 _ (by (repeat (first | (with_reducible exact Below.refl _ _) | (with_reducible assumption) | (with_reducible refine below_to_plus ?_ ?_ _) | (with_reducible refine below_holds ?_ ?_ _ _) | (with_reducible refine Below.alloc ?_ ?_ _) | (with_reducible refine Below.drew ?_) | (with_reducible refine below_drewN ?_ _) | (with_reducible refine Below.setCell ?_ ?_ _))); (all_goals first | omega | (simp; done) | (simp [go_sem]; done) | (simp [go_sem]; omega)))).mono ?_; rintro e w2 ⟨rfl, hb⟩; obtain ⟨x7, hx⟩ := plus_of_below hb; subst hx; clear hb)))
          all_goals
            go_wp2
            refine wp_region_plus (by kernel_rfl) (by kernel_rfl) ?_
            repeat (go_big_quiet_step (fail))
            refine wpQuiet_nil ?_
            rintro _ ⟨x1, rfl⟩
            go_wp2
            go_roundg (gk - 1)
            case measure => omega
            case rel =>
              have hwr := HWR.out
              refine ⟨idx + 1, by simp, by omega, (show Below _ _ _ from ?_)⟩
              repeat (first | (with_reducible exact Below.refl _ _) | (with_reducible assumption) | (with_reducible refine below_to_plus ?_ ?_ _) | (with_reducible refine below_holds ?_ ?_ _ _) | (with_reducible refine Below.alloc ?_ ?_ _) | (with_reducible refine Below.drew ?_) | (with_reducible refine below_drewN ?_ _) | (with_reducible refine Below.setCell ?_ ?_ _))
              all_goals first | omega | (simp; done) | (simp [go_sem]; done) | (simp [go_sem]; omega)
        · have f1 : (e8 != y8) = true := by simp [hof]
          have f2 : (e9 != q9) = false := by
            rcases hc with h1 | h1
            · exact absurd h1 hof
            · simp [h1]
          clear hof hc
          go_wp2
          go_region_held3 (fun w3 => w3.cell? ⟨w.heap.size + 1 + x3.heap.size + 1, 0, none⟩ = some (.int .i64 id) ∧ w3.cell? ⟨w.heap.size + 1 + x3.heap.size + 1, 1, none⟩ = some (.slice a2 hs.length c2) ∧ w3.cell? ⟨w.heap.size + 1 + x3.heap.size, 1, none⟩ = some (.slice (some ⟨b, off, none⟩) zs.length c1) ∧ w3.cell? ⟨b, off + idx * 9, none⟩ = some (.int .i64 y1)) (first | (simp [go_sem, ↓IntWalk.iteOmega, *]; done))
            ((first | (go_at_call 12; refine (c9 _ (by (repeat (first | (with_reducible exact Below.refl _ _) | (with_reducible assumption) | (with_reducible refine below_to_plus ?_ ?_ _) | (with_reducible refine below_holds ?_ ?_ _ _) | (with_reducible refine Below.alloc ?_ ?_ _) | (with_reducible refine Below.drew ?_) | (with_reducible refine below_drewN ?_ _) | (with_reducible refine Below.setCell ?_ ?_ _))); (all_goals first | omega | (simp; done) | (simp [go_sem]; done) | (simp [go_sem]; omega)))).mono ?_; rintro e w2 ⟨rfl, hb⟩; obtain ⟨x7, hx⟩ := plus_of_below hb; subst hx; clear hb)))
          all_goals
            go_wp2
            refine wp_region_plus (by kernel_rfl) (by kernel_rfl) ?_
            repeat (go_big_quiet_step (fail))
            refine wpQuiet_nil ?_
            rintro _ ⟨x1, rfl⟩
            go_wp2
            go_roundg (gk - 1)
            case measure => omega
            case rel =>
              have hwr := HWR.out
              refine ⟨idx + 1, by simp, by omega, (show Below _ _ _ from ?_)⟩
              repeat (first | (with_reducible exact Below.refl _ _) | (with_reducible assumption) | (with_reducible refine below_to_plus ?_ ?_ _) | (with_reducible refine below_holds ?_ ?_ _ _) | (with_reducible refine Below.alloc ?_ ?_ _) | (with_reducible refine Below.drew ?_) | (with_reducible refine below_drewN ?_ _) | (with_reducible refine Below.setCell ?_ ?_ _))
              all_goals first | omega | (simp; done) | (simp [go_sem]; done) | (simp [go_sem]; omega)
      · have hiz : ¬ (idx : Int) < (zs.length : Int) := by omega
        clear EACH HC LB c6
        have HBW : Aside (Below w.heap.size w wr) := HBV4.out.trans (HW.out.mono HBV4.out.size)
        clear HW HBV4 hsw
        go_wp2_with fail
        refine (awake_calls _).mono ?_
        rintro e w2 ⟨rfl, hb⟩
        obtain ⟨x9, rfl⟩ := plus_of_below hb
        clear hb
        go_wp2
        go_ret
        exact ⟨rfl, below_to_plus HBW.out HBW.out.size _⟩

set_option maxHeartbeats 16000000 in
set_option maxRecDepth 100000 in
theorem lawShared_calls (id fr to offset : Int) (mv : Bool) (ao : Option Addr) (n cap : Nat) (xs : List Fd) (w : World) (h : Sl w 9 ao n cap (xs.map Fd.enc)) (hft : ∀ y ∈ xs, y.fit) (hofr : -9223372036854775808 ≤ offset ∧ offset ≤ 9223372036854775807) :
    Calls Try.prog 6 #[.agg #[.int .i64 id, .slice ao n cap], .int .i64 fr, .int .i64 to, .int .i64 offset, .bool mv] w fun e w' => e = .returned (.bool true) ∧ Below w.heap.size w w' := by
  have HL : Aside (xs.length = n) := Sl.lenE h
  have hb0 : Below w.heap.size w (w.alloc (.cells #[.int .i64 id, .slice ao n cap] 24)) := by
    repeat (first | (with_reducible exact Below.refl _ _) | (with_reducible assumption) | (with_reducible refine below_to_plus ?_ ?_ _) | (with_reducible refine below_holds ?_ ?_ _ _) | (with_reducible refine Below.alloc ?_ ?_ _) | (with_reducible refine Below.drew ?_) | (with_reducible refine below_drewN ?_ _) | (with_reducible refine Below.setCell ?_ ?_ _))
    all_goals first | omega | (simp; done) | (simp [go_sem]; done) | (simp [go_sem]; omega)
  have hs0 := h.stays hb0
  have H : Aside (Sl w 9 ao n cap (xs.map Fd.enc)) := h
  have c1 := small_calls id ao n cap xs (w.alloc (.cells #[.int .i64 id, .slice ao n cap] 24)) hs0 hft
  have c2 := fun x => rright_calls id ao n cap xs (plus (w.alloc (.cells #[.int .i64 id, .slice ao n cap] 24)) x) (hs0.stays (below_plus _ _)) hft
  cases hsm : smallB xs with
  | false =>
    rw [hsm] at c1
    clear hsm c2 hs0 hft h hb0
    go_enter Try.func6, Try.ntmps6
    go_wp2_with fail
    refine (c1).mono ?_
    rintro e w2 ⟨rfl, hb⟩
    obtain ⟨x1, rfl⟩ := plus_of_below hb
    clear hb
    clear c1
    go_wp2_with fail
    refine (awake_calls _).mono ?_
    rintro e w2 ⟨rfl, hb⟩
    obtain ⟨x9, rfl⟩ := plus_next hb
    clear hb
    go_wp2
    go_ret
    refine ⟨rfl, ?_⟩
    repeat (first | (with_reducible exact Below.refl _ _) | (with_reducible assumption) | (with_reducible refine below_to_plus ?_ ?_ _) | (with_reducible refine below_holds ?_ ?_ _ _) | (with_reducible refine Below.alloc ?_ ?_ _) | (with_reducible refine Below.drew ?_) | (with_reducible refine below_drewN ?_ _) | (with_reducible refine Below.setCell ?_ ?_ _))
    all_goals first | omega | (simp; done) | (simp [go_sem]; done) | (simp [go_sem]; omega)
  | true =>
  rw [hsm] at c1
  cases hri : rightB id xs with
  | false =>
    rw [hri] at c2
    clear hsm hri hs0 hft h hb0
    go_enter Try.func6, Try.ntmps6
    go_wp2_with fail
    refine (c1).mono ?_
    rintro e w2 ⟨rfl, hb⟩
    obtain ⟨x1, rfl⟩ := plus_of_below hb
    clear hb
    clear c1
    go_wp2_with fail
    refine (c2 _).mono ?_
    rintro e w2 ⟨rfl, hb⟩
    obtain ⟨x2, rfl⟩ := plus_next hb
    clear hb
    clear c2
    go_wp2_with fail
    refine (awake_calls _).mono ?_
    rintro e w2 ⟨rfl, hb⟩
    obtain ⟨x9, rfl⟩ := plus_next hb
    clear hb
    go_wp2
    go_ret
    refine ⟨rfl, ?_⟩
    repeat (first | (with_reducible exact Below.refl _ _) | (with_reducible assumption) | (with_reducible refine below_to_plus ?_ ?_ _) | (with_reducible refine below_holds ?_ ?_ _ _) | (with_reducible refine Below.alloc ?_ ?_ _) | (with_reducible refine Below.drew ?_) | (with_reducible refine below_drewN ?_ _) | (with_reducible refine Below.setCell ?_ ?_ _))
    all_goals first | omega | (simp; done) | (simp [go_sem]; done) | (simp [go_sem]; omega)
  | true =>
  rw [hri] at c2
  by_cases hde : (dupF xs fr to).2.2 = 0
  · cases mv with
    | true => exact lawShared_move id fr to offset ao n cap xs w h hft hofr hsm hri hde
    | false => exact lawShared_seek id fr to offset ao n cap xs w h hft hofr hsm hri hde
  have HR := (rightB_iff id xs).1 hri
  have hnl : n ≤ 1000 := by
    have h1 := asc_len HR
    rw [HL.out] at h1
    omega
  have c3 := fun x => dup_calls id fr to ao n cap xs (plus (w.alloc (.cells #[.int .i64 id, .slice ao n cap] 24)) x) (hs0.stays (below_plus _ _)) hnl (asc_mono HR.asc _) (asc_mono HR.asc _)
  have hsame : (dupF xs fr to).1 = xs := by
    unfold dupF at hde ⊢
    split
    · rfl
    rename_i g1
    rw [if_neg g1] at hde
    split
    · rfl
    rename_i g2
    rw [if_neg g2] at hde
    split
    · rfl
    rename_i g3
    rw [if_neg g3] at hde
    split
    · rfl
    rename_i g4
    rw [if_neg g4] at hde
    split
    · rfl
    rename_i g5
    rw [if_neg g5] at hde
    split at hde <;> exact absurd rfl hde
  generalize dupF xs fr to = r at c3 hsame hde
  obtain ⟨zs, k, er⟩ := r
  simp only at hsame hde
  subst hsame
  have hef : (er != 0) = true := by simp [hde]
  clear hsm hri hs0 hft h hb0 HR hofr hde
  go_enter Try.func6, Try.ntmps6
  go_wp2_with fail
  refine (c1).mono ?_
  rintro e w2 ⟨rfl, hb⟩
  obtain ⟨x1, rfl⟩ := plus_of_below hb
  clear hb
  clear c1
  go_wp2_with fail
  refine (c2 _).mono ?_
  rintro e w2 ⟨rfl, hb⟩
  obtain ⟨x2, rfl⟩ := plus_next hb
  clear hb
  clear c2
  go_wp2_with fail
  refine (c3 _).mono ?_
  rintro e w2 ⟨a1, c1, rfl, hown, hb⟩
  have HO1 : Aside (Row w2 (plus (w.alloc (.cells #[.int .i64 id, .slice ao n cap] 24)) x2).heap.size a1 c1 zs) := hown
  obtain ⟨x3, rfl⟩ := plus_next hb
  clear hb hown c3
  have HBV : Aside (Below w.heap.size w ((plus (w.alloc (.cells #[.int .i64 id, .slice ao n cap] 24)) x3).alloc (.cells #[.int .i64 id, .slice a1 zs.length c1] 24))) := by
    show Below _ _ _
    repeat (first | (with_reducible exact Below.refl _ _) | (with_reducible assumption) | (with_reducible refine below_to_plus ?_ ?_ _) | (with_reducible refine below_holds ?_ ?_ _ _) | (with_reducible refine Below.alloc ?_ ?_ _) | (with_reducible refine Below.drew ?_) | (with_reducible refine below_drewN ?_ _) | (with_reducible refine Below.setCell ?_ ?_ _))
    all_goals first | omega | (simp; done) | (simp [go_sem]; done) | (simp [go_sem]; omega)
  have hs1 : Sl ((plus (w.alloc (.cells #[.int .i64 id, .slice ao n cap] 24)) x3).alloc (.cells #[.int .i64 id, .slice a1 zs.length c1] 24)) 9 a1 zs.length c1 (zs.map Fd.enc) := HO1.out.sl.stays (by
    repeat (first | (with_reducible exact Below.refl _ _) | (with_reducible assumption) | (with_reducible refine below_to_plus ?_ ?_ _) | (with_reducible refine below_holds ?_ ?_ _ _) | (with_reducible refine Below.alloc ?_ ?_ _) | (with_reducible refine Below.drew ?_) | (with_reducible refine below_drewN ?_ _) | (with_reducible refine Below.setCell ?_ ?_ _))
    all_goals first | omega | (simp; done) | (simp [go_sem]; done) | (simp [go_sem]; omega))
  have c8 := same_calls id id a1 ao zs.length c1 n cap zs zs ((plus (w.alloc (.cells #[.int .i64 id, .slice ao n cap] 24)) x3).alloc (.cells #[.int .i64 id, .slice a1 zs.length c1] 24)) hs1 (H.out.stays HBV.out)
  rw [(same_iff id zs id zs).2 ⟨rfl, rfl⟩] at c8
  clear hs1 HO1 H
  go_wp2_with fail
  refine (c8).mono ?_
  rintro e w2 ⟨rfl, hb⟩
  obtain ⟨x6, rfl⟩ := plus_of_below hb
  clear hb
  clear c8
  go_wp2_with fail
  refine (awake_calls _).mono ?_
  rintro e w2 ⟨rfl, hb⟩
  obtain ⟨x7, rfl⟩ := plus_next hb
  clear hb
  go_wp2
  go_ret
  exact ⟨rfl, below_to_plus HBV.out HBV.out.size _⟩

end Go.Proofs.Ytbifanenoejjgaa
