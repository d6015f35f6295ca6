/- This text proves the walk of Add of package fds. Conditions: those that each theorem names. -/
import Derived.Test.YtbifanenoejjgaaFdsH
import Derived.Deep.RegionHeld3
namespace Go.Proofs.Ytbifanenoejjgaa
open Go.ChangeShapes Go.WideShapes Go.ChangeAt Go.RowKit
set_option linter.unusedVariables false
set_option linter.unusedSimpArgs false

theorem number_calls' (y : Fd) (W : World) : Calls Try.prog 37 #[Fd.val y] W fun e w' => e = .returned (.int .i64 y.num) ∧ Below W.heap.size W w' := number_calls y.num y.dev y.id y.fid y.path y.name y.mode y.offset y.copy W
theorem share_calls' (y : Fd) (W : World) : Calls Try.prog 44 #[Fd.val y] W fun e w' => e = .returned (.int .i64 y.copy) ∧ Below W.heap.size W w' := share_calls y.num y.dev y.id y.fid y.path y.name y.mode y.offset y.copy W

/-- What Add returns: the list, the number, the error. -/
def addF (xs : List Fd) (dev ch fid : Int) (p nm : ByteArray) (mode : Int) : List Fd × Int × Int :=
  if validB dev ch fid p nm = false then (xs, 0, 1) else if mode < 0 ∨ 127 < mode then (xs, 0, 12) else if 64 ≤ xs.length then (xs, 0, 22)
  else (withL ⟨(lowF Fd.num xs : Nat), dev, ch, fid, p, nm, mode, 0, (lowF Fd.copy xs : Nat)⟩ xs, (lowF Fd.num xs : Nat), 0)
def RetPost (w : World) (id : Int) (r : List Fd × Int × Int) (e : Ending) (w' : World) : Prop :=
  ∃ ao cap, e = .returned (.tuple #[.agg #[.int .i64 id, .slice ao r.1.length cap], .int .i64 r.2.1, .int .i64 r.2.2]) ∧ w'.ownsRow w.heap.size 30 9 (.slice ao r.1.length cap) r.1.length (flatE Fd.enc r.1) ∧ Below w.heap.size w w'

set_option maxHeartbeats 4000000 in
theorem add_calls (id dev ch fid : Int) (p nm : ByteArray) (mode : Int) (ao : Option Addr) (n cap : Nat) (xs : List Fd) (w : World) (h : Sl w 9 ao n cap (xs.map Fd.enc)) (hn : n ≤ 1000) (hp : p.size ≤ maxLen) (hnm : nm.size ≤ maxLen) (hs : MonoE (fun y : Fd => cmpI y.num (lowF Fd.num xs : Nat)) xs) :
    Calls Try.prog 24 #[.agg #[.int .i64 id, .slice ao n cap], .agg #[.int .i64 dev, .int .i64 ch, .int .i64 fid, .string p, .string nm], .int .i64 mode] w fun e w' => RetPost w id (addF xs dev ch fid p nm mode) e w' := by
  have hln := Sl.lenE h
  have HL : Aside (xs.length = n) := hln
  have hb0 : Below w.heap.size w (((w.alloc (.cells #[.int .i64 id, .slice ao n cap] 24)).alloc (.cells #[.int .i64 dev, .int .i64 ch, .int .i64 fid, .string p, .string nm] 28)).alloc (.cells #[.int .i64 0, .slice none 0 0] 24)) := by
    repeat (first | (with_reducible exact Below.refl _ _) | (with_reducible assumption) | (with_reducible refine below_to_plus ?_ ?_ _) | (with_reducible refine below_holds ?_ ?_ _ _) | (with_reducible refine Below.alloc ?_ ?_ _) | (with_reducible refine Below.drew ?_) | (with_reducible refine below_drewN ?_ _) | (with_reducible refine Below.setCell ?_ ?_ _))
    all_goals first | omega | (simp; done) | (simp [go_sem]; done) | (simp [go_sem]; omega)
  have HB0 : Aside (Below w.heap.size w (((w.alloc (.cells #[.int .i64 id, .slice ao n cap] 24)).alloc (.cells #[.int .i64 dev, .int .i64 ch, .int .i64 fid, .string p, .string nm] 28)).alloc (.cells #[.int .i64 0, .slice none 0 0] 24))) := hb0
  have c0 := valid_calls dev ch fid p nm (((w.alloc (.cells #[.int .i64 id, .slice ao n cap] 24)).alloc (.cells #[.int .i64 dev, .int .i64 ch, .int .i64 fid, .string p, .string nm] 28)).alloc (.cells #[.int .i64 0, .slice none 0 0] 24)) hp hnm
  have c1 : ∀ x, _ := fun x => copy_calls id id ao n cap xs (plus (((w.alloc (.cells #[.int .i64 id, .slice ao n cap] 24)).alloc (.cells #[.int .i64 dev, .int .i64 ch, .int .i64 fid, .string p, .string nm] 28)).alloc (.cells #[.int .i64 0, .slice none 0 0] 24)) x) ((h.stays hb0).stays (below_plus _ _)) (by omega)
  have H : Aside (Sl w 9 ao n cap (xs.map Fd.enc)) := h
  have HM : Aside (MonoE (fun y : Fd => cmpI y.num (lowF Fd.num xs : Nat)) xs) := hs
  clear h hb0 hs hp hnm
  generalize hr : addF xs dev ch fid p nm mode = r
  have HR : Aside (r = addF xs dev ch fid p nm mode) := hr.symm
  clear hr
  cases hv : validB dev ch fid p nm with
  | false =>
    have HF : Aside (r = (xs, 0, 1)) := by show _ = _; rw [HR.out]; unfold addF; rw [if_pos hv]
    rw [hv] at c0
    clear hv
    go_enter Try.func24, Try.ntmps24
    go_wp2_with fail
    refine c0.mono ?_
    rintro e w2 ⟨rfl, hb⟩
    obtain ⟨x, rfl⟩ := plus_of_below hb
    clear hb c0
    go_wp2_with fail
    refine (c1 _).mono ?_
    rintro e w1 ⟨ao2, cap2, rfl, hown, hb⟩
    rw [HL.out] at hown ⊢
    have HO : Aside (w1.ownsRow _ 30 9 (.slice ao2 n cap2) n (flatE Fd.enc xs)) := hown
    obtain ⟨y, rfl⟩ := plus_of_below hb
    clear hb c1 hown
    go_wp2
    refine bodyPost_ret (v := .tuple #[.agg #[.int .i64 id, .slice ao2 n cap2], .int .i64 0, .int .i64 1]) (by simp [results, Try.results24, go_sem, ↓IntWalk.iteOmega]) rfl ⟨ao2, cap2, by rw [HF.out, HL.out], ?_, ?_⟩
    · rw [HF.out]
      show World.ownsRow _ _ _ _ (.slice ao2 xs.length cap2) xs.length (flatE Fd.enc xs)
      rw [HL.out]
      exact own_lower (own_past (W' := (plus (((w.alloc (.cells #[.int .i64 id, .slice ao n cap] 24)).alloc (.cells #[.int .i64 dev, .int .i64 ch, .int .i64 fid, .string p, .string nm] 28)).alloc (.cells #[.int .i64 id, .slice ao2 n cap2] 24)) x)) HO.out (Nat.le_refl _) (by simp [size_plus])) (by simp [size_plus]; omega)
    · repeat (first | (with_reducible exact Below.refl _ _) | (with_reducible assumption) | (with_reducible refine below_to_plus ?_ ?_ _) | (with_reducible refine below_holds ?_ ?_ _ _) | (with_reducible refine Below.alloc ?_ ?_ _) | (with_reducible refine Below.drew ?_) | (with_reducible refine below_drewN ?_ _) | (with_reducible refine Below.setCell ?_ ?_ _))
      all_goals first | omega | (simp; done) | (simp [go_sem]; done) | (simp [go_sem]; omega)

  | true =>
    rw [hv] at c0
    by_cases hm : mode < 0 ∨ 127 < mode
    · have HF : Aside (r = (xs, 0, 12)) := by show _ = _; rw [HR.out]; unfold addF; rw [if_neg (by simp [hv]), if_pos hm]
      clear hv
      clear HR H HM
      rcases hm with hm | hm
      · have hm2 : ¬ 127 < mode := by omega
        go_enter Try.func24, Try.ntmps24
        go_wp2_with fail
        refine c0.mono ?_
        rintro e w2 ⟨rfl, hb⟩
        obtain ⟨x, rfl⟩ := plus_of_below hb
        clear hb c0
        go_wp2_with fail
        refine (c1 _).mono ?_
        rintro e w1 ⟨ao2, cap2, rfl, hown, hb⟩
        rw [HL.out] at hown ⊢
        have HO : Aside (w1.ownsRow _ 30 9 (.slice ao2 n cap2) n (flatE Fd.enc xs)) := hown
        obtain ⟨y, rfl⟩ := plus_of_below hb
        clear hb c1 hown
        go_wp2
        refine bodyPost_ret (v := .tuple #[.agg #[.int .i64 id, .slice ao2 n cap2], .int .i64 0, .int .i64 12]) (by simp [results, Try.results24, go_sem, ↓IntWalk.iteOmega]) rfl ⟨ao2, cap2, by rw [HF.out, HL.out], ?_, ?_⟩
        · rw [HF.out]
          show World.ownsRow _ _ _ _ (.slice ao2 xs.length cap2) xs.length (flatE Fd.enc xs)
          rw [HL.out]
          exact own_lower (own_past (W' := (plus (((w.alloc (.cells #[.int .i64 id, .slice ao n cap] 24)).alloc (.cells #[.int .i64 dev, .int .i64 ch, .int .i64 fid, .string p, .string nm] 28)).alloc (.cells #[.int .i64 id, .slice ao2 n cap2] 24)) x)) HO.out (Nat.le_refl _) (by simp [size_plus])) (by simp [size_plus]; omega)
        · repeat (first | (with_reducible exact Below.refl _ _) | (with_reducible assumption) | (with_reducible refine below_to_plus ?_ ?_ _) | (with_reducible refine below_holds ?_ ?_ _ _) | (with_reducible refine Below.alloc ?_ ?_ _) | (with_reducible refine Below.drew ?_) | (with_reducible refine below_drewN ?_ _) | (with_reducible refine Below.setCell ?_ ?_ _))
          all_goals first | omega | (simp; done) | (simp [go_sem]; done) | (simp [go_sem]; omega)


      · have hm1 : ¬ mode < 0 := by omega
        go_enter Try.func24, Try.ntmps24
        go_wp2_with fail
        refine c0.mono ?_
        rintro e w2 ⟨rfl, hb⟩
        obtain ⟨x, rfl⟩ := plus_of_below hb
        clear hb c0
        go_wp2_with fail
        refine (c1 _).mono ?_
        rintro e w1 ⟨ao2, cap2, rfl, hown, hb⟩
        rw [HL.out] at hown ⊢
        have HO : Aside (w1.ownsRow _ 30 9 (.slice ao2 n cap2) n (flatE Fd.enc xs)) := hown
        obtain ⟨y, rfl⟩ := plus_of_below hb
        clear hb c1 hown
        go_wp2
        refine bodyPost_ret (v := .tuple #[.agg #[.int .i64 id, .slice ao2 n cap2], .int .i64 0, .int .i64 12]) (by simp [results, Try.results24, go_sem, ↓IntWalk.iteOmega]) rfl ⟨ao2, cap2, by rw [HF.out, HL.out], ?_, ?_⟩
        · rw [HF.out]
          show World.ownsRow _ _ _ _ (.slice ao2 xs.length cap2) xs.length (flatE Fd.enc xs)
          rw [HL.out]
          exact own_lower (own_past (W' := (plus (((w.alloc (.cells #[.int .i64 id, .slice ao n cap] 24)).alloc (.cells #[.int .i64 dev, .int .i64 ch, .int .i64 fid, .string p, .string nm] 28)).alloc (.cells #[.int .i64 id, .slice ao2 n cap2] 24)) x)) HO.out (Nat.le_refl _) (by simp [size_plus])) (by simp [size_plus]; omega)
        · repeat (first | (with_reducible exact Below.refl _ _) | (with_reducible assumption) | (with_reducible refine below_to_plus ?_ ?_ _) | (with_reducible refine below_holds ?_ ?_ _ _) | (with_reducible refine Below.alloc ?_ ?_ _) | (with_reducible refine Below.drew ?_) | (with_reducible refine below_drewN ?_ _) | (with_reducible refine Below.setCell ?_ ?_ _))
          all_goals first | omega | (simp; done) | (simp [go_sem]; done) | (simp [go_sem]; omega)


    have hm1 : ¬ mode < 0 := fun h => hm (.inl h)
    have hm2 : ¬ 127 < mode := fun h => hm (.inr h)
    by_cases hL : 64 ≤ n
    · have HF : Aside (r = (xs, 0, 22)) := by show _ = _; rw [HR.out]; unfold addF; rw [if_neg (by simp [hv]), if_neg hm, if_pos (by have := HL.out; omega)]
      clear hv HR H HM hm
      go_enter Try.func24, Try.ntmps24
      go_wp2_with fail
      refine c0.mono ?_
      rintro e w2 ⟨rfl, hb⟩
      obtain ⟨x, rfl⟩ := plus_of_below hb
      clear hb c0
      go_wp2_with fail
      refine (c1 _).mono ?_
      rintro e w1 ⟨ao2, cap2, rfl, hown, hb⟩
      rw [HL.out] at hown ⊢
      have HO : Aside (w1.ownsRow _ 30 9 (.slice ao2 n cap2) n (flatE Fd.enc xs)) := hown
      obtain ⟨y, rfl⟩ := plus_of_below hb
      clear hb c1 hown
      go_wp2
      refine bodyPost_ret (v := .tuple #[.agg #[.int .i64 id, .slice ao2 n cap2], .int .i64 0, .int .i64 22]) (by simp [results, Try.results24, go_sem, ↓IntWalk.iteOmega]) rfl ⟨ao2, cap2, by rw [HF.out, HL.out], ?_, ?_⟩
      · rw [HF.out]
        show World.ownsRow _ _ _ _ (.slice ao2 xs.length cap2) xs.length (flatE Fd.enc xs)
        rw [HL.out]
        exact own_lower (own_past (W' := (plus (((w.alloc (.cells #[.int .i64 id, .slice ao n cap] 24)).alloc (.cells #[.int .i64 dev, .int .i64 ch, .int .i64 fid, .string p, .string nm] 28)).alloc (.cells #[.int .i64 id, .slice ao2 n cap2] 24)) x)) HO.out (Nat.le_refl _) (by simp [size_plus])) (by simp [size_plus]; omega)
      · repeat (first | (with_reducible exact Below.refl _ _) | (with_reducible assumption) | (with_reducible refine below_to_plus ?_ ?_ _) | (with_reducible refine below_holds ?_ ?_ _ _) | (with_reducible refine Below.alloc ?_ ?_ _) | (with_reducible refine Below.drew ?_) | (with_reducible refine below_drewN ?_ _) | (with_reducible refine Below.setCell ?_ ?_ _))
        all_goals first | omega | (simp; done) | (simp [go_sem]; done) | (simp [go_sem]; omega)


    have HF : Aside (r = (withL ⟨(lowF Fd.num xs : Nat), dev, ch, fid, p, nm, mode, 0, (lowF Fd.copy xs : Nat)⟩ xs, ((lowF Fd.num xs : Nat) : Int), 0)) := by
      show _ = _; rw [HR.out]; unfold addF; rw [if_neg (by simp [hv]), if_neg hm, if_neg (by have := HL.out; omega)]
    have c2 : ∀ x, _ := fun x => lowest_calls Fd.num 37 (enters_of Try.func37 (by kernel_rfl) rfl) number_calls' id ao n cap xs (plus (((w.alloc (.cells #[.int .i64 id, .slice ao n cap] 24)).alloc (.cells #[.int .i64 dev, .int .i64 ch, .int .i64 fid, .string p, .string nm] 28)).alloc (.cells #[.int .i64 0, .slice none 0 0] 24)) x) ((H.out.stays HB0.out).stays (below_plus _ _)) (by omega)
    have c3 : ∀ x, _ := fun x => lowest_calls Fd.copy 44 (enters_of Try.func44 (by kernel_rfl) rfl) share_calls' id ao n cap xs (plus (((w.alloc (.cells #[.int .i64 id, .slice ao n cap] 24)).alloc (.cells #[.int .i64 dev, .int .i64 ch, .int .i64 fid, .string p, .string nm] 28)).alloc (.cells #[.int .i64 0, .slice none 0 0] 24)) x) ((H.out.stays HB0.out).stays (below_plus _ _)) (by omega)
    have c4 : ∀ x, _ := fun x => with_calls id ao n cap xs (lowF Fd.num xs : Nat) dev ch fid p nm mode 0 (lowF Fd.copy xs : Nat) (plus (((w.alloc (.cells #[.int .i64 id, .slice ao n cap] 24)).alloc (.cells #[.int .i64 dev, .int .i64 ch, .int .i64 fid, .string p, .string nm] 28)).alloc (.cells #[.int .i64 0, .slice none 0 0] 24)) x) ((H.out.stays HB0.out).stays (below_plus _ _)) hn HM.out
    have HYL : Aside ((withL ⟨(lowF Fd.num xs : Nat), dev, ch, fid, p, nm, mode, 0, (lowF Fd.copy xs : Nat)⟩ xs).length = n + 1) := by show _ = _; unfold withL; simp; have := HL.out; have := posE_le (fun y : Fd => cmpI y.num (lowF Fd.num xs : Nat)) xs; omega
    generalize withL ⟨(lowF Fd.num xs : Nat), dev, ch, fid, p, nm, mode, 0, (lowF Fd.copy xs : Nat)⟩ xs = ys at HF c4 HYL
    generalize (lowF Fd.num xs : Nat) = k1 at HF c2 c4
    generalize (lowF Fd.copy xs : Nat) = k2 at c3 c4
    clear hv HR H HM hm c1
    go_enter Try.func24, Try.ntmps24
    go_wp2_with fail
    refine c0.mono ?_
    rintro e w2 ⟨rfl, hb⟩
    obtain ⟨x, rfl⟩ := plus_of_below hb
    clear hb c0
    go_wp2_with fail
    refine (c2 _).mono ?_
    rintro e w2 ⟨rfl, hb⟩
    obtain ⟨x2, rfl⟩ := plus_next hb
    clear hb c2
    go_wp2
    go_region_held3 (fun w' => w'.cell? ⟨w.heap.size, 0, none⟩ = some (.int .i64 id) ∧ w'.cell? ⟨w.heap.size, 1, none⟩ = some (.slice ao n cap) ∧ w'.cell? ⟨w.heap.size + 1, 0, none⟩ = some (.int .i64 dev) ∧ w'.cell? ⟨w.heap.size + 1, 1, none⟩ = some (.int .i64 ch) ∧ w'.cell? ⟨w.heap.size + 1, 2, none⟩ = some (.int .i64 fid) ∧ w'.cell? ⟨w.heap.size + 1, 3, none⟩ = some (.string p) ∧ w'.cell? ⟨w.heap.size + 1, 4, none⟩ = some (.string nm)) (first | (simp [go_sem, ↓IntWalk.iteOmega]; done))
      ((first | (go_at_call 36; refine (c3 _).mono ?_; rintro e w2 ⟨rfl, hb⟩; obtain ⟨x3, hx⟩ := plus_next hb; subst hx; clear hb) | (go_at_call 38; refine (c4 _).mono ?_; rintro e w2 ⟨ao2, cap2, rfl, hsl0, hb⟩; have hsl : Aside _ := hsl0; clear hsl0; obtain ⟨x4, hx⟩ := plus_next hb; subst hx; clear hb)))
    all_goals go_wp2
    rw [HYL.out] at hsl ⊢
    refine bodyPost_ret (v := .tuple #[.agg #[.int .i64 id, .slice ao2 (n + 1) cap2], .int .i64 k1, .int .i64 0]) (by simp [results, Try.results24, go_sem, ↓IntWalk.iteOmega]) rfl ⟨ao2, cap2, by rw [HF.out, HYL.out], ?_, ?_⟩
    · rw [HF.out]
      show World.ownsRow _ _ _ _ (.slice ao2 ys.length cap2) ys.length (flatE Fd.enc ys)
      rw [HYL.out]
      exact own_lower (own_past (W' := ((((w.alloc (.cells #[.int .i64 id, .slice ao n cap] 24)).alloc (.cells #[.int .i64 dev, .int .i64 ch, .int .i64 fid, .string p, .string nm] 28)).alloc (.cells #[.int .i64 id, .slice ao2 (n + 1) cap2] 24)))) hsl.out (by simp [size_plus]) (by simp)) (by simp [size_plus]; omega)
    · repeat (first | (with_reducible exact Below.refl _ _) | (with_reducible assumption) | (with_reducible refine below_to_plus ?_ ?_ _) | (with_reducible refine below_holds ?_ ?_ _ _) | (with_reducible refine Below.alloc ?_ ?_ _) | (with_reducible refine Below.drew ?_) | (with_reducible refine below_drewN ?_ _) | (with_reducible refine Below.setCell ?_ ?_ _))
      all_goals first | omega | (simp; done) | (simp [go_sem]; done) | (simp [go_sem]; omega)

end Go.Proofs.Ytbifanenoejjgaa
