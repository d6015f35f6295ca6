/- This text proves the walks of did and want of the statements on descriptors. Conditions: those that each theorem names. -/
import Derived.Test.YtbifanenoejjgaaFdsW
namespace Go.Proofs.Ytbifanenoejjgaa
open Go.ChangeShapes Go.WideShapes Go.ChangeAt Go.RowKit
set_option linter.unusedVariables false
set_option linter.unusedSimpArgs false

/-- What a call returns besides the group. -/
structure Ot where
  n : Int
  fd : Fd
  last : Bool
  err : Int
def Ot.val (o : Ot) : Value := .agg #[.int .i64 o.n, .int .i64 o.fd.num, .int .i64 o.fd.dev, .int .i64 o.fd.id, .int .i64 o.fd.fid, .string o.fd.path, .string o.fd.name, .int .i64 o.fd.mode, .int .i64 o.fd.offset, .int .i64 o.fd.copy, .bool o.last, .int .i64 o.err]
/-- The results of a call of the program, and of the reference. -/
def didF (xs : List Fd) (kind dev ch fid : Int) (p nm : ByteArray) (mode num to off wh lg : Int) : List Fd × Ot :=
  if kind = 1 then ((addF xs dev ch fid p nm mode).1, { n := (addF xs dev ch fid p nm mode).2.1, fd := default, last := false, err := (addF xs dev ch fid p nm mode).2.2 })
  else if kind = 2 then ((dupF xs num to).1, { n := (dupF xs num to).2.1, fd := default, last := false, err := (dupF xs num to).2.2 })
  else if kind = 3 then ((closeF num xs).1, { n := 0, fd := (closeF num xs).2.1, last := (closeF num xs).2.2.1, err := (closeF num xs).2.2.2 })
  else if kind = 4 then ((seekF xs num off wh lg).1, { n := (seekF xs num off wh lg).2.1, fd := default, last := false, err := (seekF xs num off wh lg).2.2 })
  else if kind = 5 then ((movedF xs num off).1, { n := 0, fd := default, last := false, err := (movedF xs num off).2 })
  else (xs, { n := 0, fd := default, last := false, err := 0 })
def wantF (xs : List Fd) (kind dev ch fid : Int) (p nm : ByteArray) (mode num to off wh lg : Int) : List Fd × Ot :=
  if kind = 1 then ((raddF xs dev ch fid p nm mode).1, { n := (raddF xs dev ch fid p nm mode).2.1, fd := default, last := false, err := (raddF xs dev ch fid p nm mode).2.2 })
  else if kind = 2 then ((rdupF xs num to).1, { n := (rdupF xs num to).2.1, fd := default, last := false, err := (rdupF xs num to).2.2 })
  else if kind = 3 then ((rcloseF num xs).1, { n := 0, fd := (rcloseF num xs).2.1, last := (rcloseF num xs).2.2.1, err := (rcloseF num xs).2.2.2 })
  else if kind = 4 then ((rseekF xs num off wh lg).1, { n := (rseekF xs num off wh lg).2.1, fd := default, last := false, err := (rseekF xs num off wh lg).2.2 })
  else if kind = 5 then ((rmovedF xs num off).1, { n := 0, fd := default, last := false, err := (rmovedF xs num off).2 })
  else (xs, { n := 0, fd := default, last := false, err := 0 })
theorem own_drew {W x : World} {B : Nat} {E : TypeId} {k : Nat} {v : Value} {n : Nat} {l : List Value} (h : (plus W x).ownsRow B E k v n l) : (plus W x.drew).ownsRow B E k v n l := h.drew
def DidPost (w : World) (id : Int) (ao : Option Addr) (cap : Nat) (xs : List Fd) (r : List Fd × Ot) (e : Ending) (w' : World) : Prop :=
  ∃ ao2 cap2, e = .returned (.tuple #[.agg #[.int .i64 id, .slice ao2 r.1.length cap2], r.2.val]) ∧ RRow w ao cap xs ao2 cap2 r.1 w' ∧ Below w.heap.size w w'

set_option maxHeartbeats 16000000 in
set_option maxRecDepth 100000 in
theorem did_calls (id kind dev ch fid : Int) (p nm : ByteArray) (mode num to off wh lg : Int) (ao : Option Addr) (n cap : Nat) (xs : List Fd) (w : World) (h : Sl w 9 ao n cap (xs.map Fd.enc)) (hr : rightB id xs = true) (hp : p.size ≤ maxLen) (hnm : nm.size ≤ maxLen) (ho : -9223372036854775808 ≤ off ∧ off ≤ 9223372036854775807) (hlg : lg ≤ 9223372036854775807) :
    Calls Try.prog 18 #[.agg #[.int .i64 id, .slice ao n cap], .agg #[.int .i64 kind, .int .i64 dev, .int .i64 ch, .int .i64 fid, .string p, .string nm, .int .i64 mode, .int .i64 num, .int .i64 to, .int .i64 off, .int .i64 wh, .int .i64 lg]] w fun e w' => DidPost w id ao cap xs (didF xs kind dev ch fid p nm mode num to off wh lg) e w' := by
  have HL : Aside (xs.length = n) := Sl.lenE h
  have H : Aside (Sl w 9 ao n cap (xs.map Fd.enc)) := h
  have HR : Aside (RightP id xs) := (rightB_iff id xs).1 hr
  have hn : n ≤ 1000 := by
    have h1 := asc_len HR.out
    rw [HL.out] at h1
    omega
  have hof : ∀ y ∈ xs, 0 ≤ y.offset ∧ y.offset ≤ 9223372036854775807 := fun y hy => by
    have := (okB_iff y).1 (HR.out.ok y hy)
    omega
  have hb0 : Below w.heap.size w (((((w.alloc (.cells #[.int .i64 id, .slice ao n cap] 24)).alloc (.cells #[.int .i64 kind, .int .i64 dev, .int .i64 ch, .int .i64 fid, .string p, .string nm, .int .i64 mode, .int .i64 num, .int .i64 to, .int .i64 off, .int .i64 wh, .int .i64 lg] 38)).alloc (.cells #[.int .i64 0, .slice none 0 0] 24)).alloc (.cells #[.int .i64 0, .int .i64 0, .int .i64 0, .int .i64 0, .int .i64 0, .string ⟨#[]⟩, .string ⟨#[]⟩, .int .i64 0, .int .i64 0, .int .i64 0, .bool false, .int .i64 0] 41)).alloc (.cells #[.int .i64 0, .int .i64 0, .int .i64 0, .int .i64 0, .int .i64 0, .string ⟨#[]⟩, .string ⟨#[]⟩, .int .i64 0, .int .i64 0, .int .i64 0, .bool false, .int .i64 0] 41)) := by
    repeat (first | (with_reducible exact Below.refl _ _) | (with_reducible assumption) | (with_reducible refine below_to_plus ?_ ?_ _) | (with_reducible refine below_holds ?_ ?_ _ _) | (with_reducible refine Below.alloc ?_ ?_ _) | (with_reducible refine Below.drew ?_) | (with_reducible refine below_drewN ?_ _) | (with_reducible refine Below.setCell ?_ ?_ _))
    all_goals first | omega | (simp; done) | (simp [go_sem]; done) | (simp [go_sem]; omega)
  have hs0 := h.stays hb0
  clear h hr
  by_cases k1 : kind = 1
  · subst k1
    have cc := add_calls id dev ch fid p nm mode ao n cap xs (((((w.alloc (.cells #[.int .i64 id, .slice ao n cap] 24)).alloc (.cells #[.int .i64 1, .int .i64 dev, .int .i64 ch, .int .i64 fid, .string p, .string nm, .int .i64 mode, .int .i64 num, .int .i64 to, .int .i64 off, .int .i64 wh, .int .i64 lg] 38)).alloc (.cells #[.int .i64 0, .slice none 0 0] 24)).alloc (.cells #[.int .i64 0, .int .i64 0, .int .i64 0, .int .i64 0, .int .i64 0, .string ⟨#[]⟩, .string ⟨#[]⟩, .int .i64 0, .int .i64 0, .int .i64 0, .bool false, .int .i64 0] 41)).alloc (.cells #[.int .i64 0, .int .i64 0, .int .i64 0, .int .i64 0, .int .i64 0, .string ⟨#[]⟩, .string ⟨#[]⟩, .int .i64 0, .int .i64 0, .int .i64 0, .bool false, .int .i64 0] 41)) hs0 hn hp hnm (asc_mono HR.out.asc _)
    have ER : Aside (didF xs 1 dev ch fid p nm mode num to off wh lg = ((addF xs dev ch fid p nm mode).1, { n := (addF xs dev ch fid p nm mode).2.1, fd := default, last := false, err := (addF xs dev ch fid p nm mode).2.2 })) := by show _ = _; unfold didF; rw [if_pos rfl]
    generalize addF xs dev ch fid p nm mode = r at cc ER
    obtain ⟨zs, rv, re⟩ := r
    clear hs0 hof ho hlg hp hnm
    go_enter Try.func18, Try.ntmps18
    go_wp2_with fail
    refine cc.mono ?_
    rintro e w2 ⟨ao2, cap2, rfl, ho2, hb⟩
    have HO : Aside (_) := ho2
    obtain ⟨x, rfl⟩ := plus_of_below hb
    clear hb ho2 cc hb0
    go_wp2
    go_region
    all_goals go_wp2
    refine bodyPost_ret (v := .tuple #[.agg #[.int .i64 id, .slice ao2 zs.length cap2], .agg #[.int .i64 rv, .int .i64 0, .int .i64 0, .int .i64 0, .int .i64 0, .string ⟨#[]⟩, .string ⟨#[]⟩, .int .i64 0, .int .i64 0, .int .i64 0, .bool false, .int .i64 re]]) (by simp [results, Try.results18, go_sem, ↓IntWalk.iteOmega]) rfl ⟨ao2, cap2, ?_, ?_, ?_⟩
    · rw [ER.out]; rfl
    · rw [ER.out]
      exact .inr (own_lower (own_past (W := (((((w.alloc (.cells #[.int .i64 id, .slice ao n cap] 24)).alloc (.cells #[.int .i64 1, .int .i64 dev, .int .i64 ch, .int .i64 fid, .string p, .string nm, .int .i64 mode, .int .i64 num, .int .i64 to, .int .i64 off, .int .i64 wh, .int .i64 lg] 38)).alloc (.cells #[.int .i64 0, .slice none 0 0] 24)).alloc (.cells #[.int .i64 0, .int .i64 0, .int .i64 0, .int .i64 0, .int .i64 0, .string ⟨#[]⟩, .string ⟨#[]⟩, .int .i64 0, .int .i64 0, .int .i64 0, .bool false, .int .i64 0] 41)).alloc (.cells #[.int .i64 0, .int .i64 0, .int .i64 0, .int .i64 0, .int .i64 0, .string ⟨#[]⟩, .string ⟨#[]⟩, .int .i64 0, .int .i64 0, .int .i64 0, .bool false, .int .i64 0] 41))) (x := x.drew) (W' := (((((w.alloc (.cells #[.int .i64 id, .slice ao2 zs.length cap2] 24)).alloc (.cells #[.int .i64 1, .int .i64 dev, .int .i64 ch, .int .i64 fid, .string p, .string nm, .int .i64 mode, .int .i64 num, .int .i64 to, .int .i64 off, .int .i64 wh, .int .i64 lg] 38)).alloc (.cells #[.int .i64 id, .slice ao2 zs.length cap2] 24)).alloc (.cells #[.int .i64 rv, .int .i64 0, .int .i64 0, .int .i64 0, .int .i64 0, .string ⟨#[]⟩, .string ⟨#[]⟩, .int .i64 0, .int .i64 0, .int .i64 0, .bool false, .int .i64 re] 41)).alloc (.cells #[.int .i64 rv, .int .i64 0, .int .i64 0, .int .i64 0, .int .i64 0, .string ⟨#[]⟩, .string ⟨#[]⟩, .int .i64 0, .int .i64 0, .int .i64 0, .bool false, .int .i64 re] 41))) (own_drew (W := (((((w.alloc (.cells #[.int .i64 id, .slice ao n cap] 24)).alloc (.cells #[.int .i64 1, .int .i64 dev, .int .i64 ch, .int .i64 fid, .string p, .string nm, .int .i64 mode, .int .i64 num, .int .i64 to, .int .i64 off, .int .i64 wh, .int .i64 lg] 38)).alloc (.cells #[.int .i64 0, .slice none 0 0] 24)).alloc (.cells #[.int .i64 0, .int .i64 0, .int .i64 0, .int .i64 0, .int .i64 0, .string ⟨#[]⟩, .string ⟨#[]⟩, .int .i64 0, .int .i64 0, .int .i64 0, .bool false, .int .i64 0] 41)).alloc (.cells #[.int .i64 0, .int .i64 0, .int .i64 0, .int .i64 0, .int .i64 0, .string ⟨#[]⟩, .string ⟨#[]⟩, .int .i64 0, .int .i64 0, .int .i64 0, .bool false, .int .i64 0] 41))) HO.out) (Nat.le_refl _) (by simp)) (by simp; omega))
    · repeat (first | (with_reducible exact Below.refl _ _) | (with_reducible assumption) | (with_reducible refine below_to_plus ?_ ?_ _) | (with_reducible refine below_holds ?_ ?_ _ _) | (with_reducible refine Below.alloc ?_ ?_ _) | (with_reducible refine Below.drew ?_) | (with_reducible refine below_drewN ?_ _) | (with_reducible refine Below.setCell ?_ ?_ _))
      all_goals first | omega | (simp; done) | (simp [go_sem]; done) | (simp [go_sem]; omega)
  have f1 : (kind == 1) = false := by simp [k1]
  by_cases k2 : kind = 2
  · subst k2
    have cc := dup_calls id num to ao n cap xs (((((w.alloc (.cells #[.int .i64 id, .slice ao n cap] 24)).alloc (.cells #[.int .i64 2, .int .i64 dev, .int .i64 ch, .int .i64 fid, .string p, .string nm, .int .i64 mode, .int .i64 num, .int .i64 to, .int .i64 off, .int .i64 wh, .int .i64 lg] 38)).alloc (.cells #[.int .i64 0, .slice none 0 0] 24)).alloc (.cells #[.int .i64 0, .int .i64 0, .int .i64 0, .int .i64 0, .int .i64 0, .string ⟨#[]⟩, .string ⟨#[]⟩, .int .i64 0, .int .i64 0, .int .i64 0, .bool false, .int .i64 0] 41)).alloc (.cells #[.int .i64 0, .int .i64 0, .int .i64 0, .int .i64 0, .int .i64 0, .string ⟨#[]⟩, .string ⟨#[]⟩, .int .i64 0, .int .i64 0, .int .i64 0, .bool false, .int .i64 0] 41)) hs0 hn (asc_mono HR.out.asc _) (asc_mono HR.out.asc _)
    have ER : Aside (didF xs 2 dev ch fid p nm mode num to off wh lg = ((dupF xs num to).1, { n := (dupF xs num to).2.1, fd := default, last := false, err := (dupF xs num to).2.2 })) := by show _ = _; unfold didF; rw [if_neg (by omega), if_pos rfl]
    generalize dupF xs num to = r at cc ER
    obtain ⟨zs, rv, re⟩ := r
    clear hs0 hof ho hlg hp hnm
    go_enter Try.func18, Try.ntmps18
    go_wp2_with fail
    refine cc.mono ?_
    rintro e w2 ⟨ao2, cap2, rfl, ho2, hb⟩
    have HO : Aside (_) := ho2
    obtain ⟨x, rfl⟩ := plus_of_below hb
    clear hb ho2 cc hb0
    go_wp2
    go_region
    all_goals go_wp2
    refine bodyPost_ret (v := .tuple #[.agg #[.int .i64 id, .slice ao2 zs.length cap2], .agg #[.int .i64 rv, .int .i64 0, .int .i64 0, .int .i64 0, .int .i64 0, .string ⟨#[]⟩, .string ⟨#[]⟩, .int .i64 0, .int .i64 0, .int .i64 0, .bool false, .int .i64 re]]) (by simp [results, Try.results18, go_sem, ↓IntWalk.iteOmega]) rfl ⟨ao2, cap2, ?_, ?_, ?_⟩
    · rw [ER.out]; rfl
    · rw [ER.out]
      exact .inr (own_lower (own_past (W := (((((w.alloc (.cells #[.int .i64 id, .slice ao n cap] 24)).alloc (.cells #[.int .i64 2, .int .i64 dev, .int .i64 ch, .int .i64 fid, .string p, .string nm, .int .i64 mode, .int .i64 num, .int .i64 to, .int .i64 off, .int .i64 wh, .int .i64 lg] 38)).alloc (.cells #[.int .i64 0, .slice none 0 0] 24)).alloc (.cells #[.int .i64 0, .int .i64 0, .int .i64 0, .int .i64 0, .int .i64 0, .string ⟨#[]⟩, .string ⟨#[]⟩, .int .i64 0, .int .i64 0, .int .i64 0, .bool false, .int .i64 0] 41)).alloc (.cells #[.int .i64 0, .int .i64 0, .int .i64 0, .int .i64 0, .int .i64 0, .string ⟨#[]⟩, .string ⟨#[]⟩, .int .i64 0, .int .i64 0, .int .i64 0, .bool false, .int .i64 0] 41))) (x := x.drew) (W' := (((((w.alloc (.cells #[.int .i64 id, .slice ao2 zs.length cap2] 24)).alloc (.cells #[.int .i64 2, .int .i64 dev, .int .i64 ch, .int .i64 fid, .string p, .string nm, .int .i64 mode, .int .i64 num, .int .i64 to, .int .i64 off, .int .i64 wh, .int .i64 lg] 38)).alloc (.cells #[.int .i64 id, .slice ao2 zs.length cap2] 24)).alloc (.cells #[.int .i64 rv, .int .i64 0, .int .i64 0, .int .i64 0, .int .i64 0, .string ⟨#[]⟩, .string ⟨#[]⟩, .int .i64 0, .int .i64 0, .int .i64 0, .bool false, .int .i64 re] 41)).alloc (.cells #[.int .i64 rv, .int .i64 0, .int .i64 0, .int .i64 0, .int .i64 0, .string ⟨#[]⟩, .string ⟨#[]⟩, .int .i64 0, .int .i64 0, .int .i64 0, .bool false, .int .i64 re] 41))) (own_drew (W := (((((w.alloc (.cells #[.int .i64 id, .slice ao n cap] 24)).alloc (.cells #[.int .i64 2, .int .i64 dev, .int .i64 ch, .int .i64 fid, .string p, .string nm, .int .i64 mode, .int .i64 num, .int .i64 to, .int .i64 off, .int .i64 wh, .int .i64 lg] 38)).alloc (.cells #[.int .i64 0, .slice none 0 0] 24)).alloc (.cells #[.int .i64 0, .int .i64 0, .int .i64 0, .int .i64 0, .int .i64 0, .string ⟨#[]⟩, .string ⟨#[]⟩, .int .i64 0, .int .i64 0, .int .i64 0, .bool false, .int .i64 0] 41)).alloc (.cells #[.int .i64 0, .int .i64 0, .int .i64 0, .int .i64 0, .int .i64 0, .string ⟨#[]⟩, .string ⟨#[]⟩, .int .i64 0, .int .i64 0, .int .i64 0, .bool false, .int .i64 0] 41))) HO.out) (Nat.le_refl _) (by simp)) (by simp; omega))
    · repeat (first | (with_reducible exact Below.refl _ _) | (with_reducible assumption) | (with_reducible refine below_to_plus ?_ ?_ _) | (with_reducible refine below_holds ?_ ?_ _ _) | (with_reducible refine Below.alloc ?_ ?_ _) | (with_reducible refine Below.drew ?_) | (with_reducible refine below_drewN ?_ _) | (with_reducible refine Below.setCell ?_ ?_ _))
      all_goals first | omega | (simp; done) | (simp [go_sem]; done) | (simp [go_sem]; omega)
  have f2 : (kind == 2) = false := by simp [k2]
  by_cases k3 : kind = 3
  · subst k3
    have cc := close_calls id num ao n cap xs (((((w.alloc (.cells #[.int .i64 id, .slice ao n cap] 24)).alloc (.cells #[.int .i64 3, .int .i64 dev, .int .i64 ch, .int .i64 fid, .string p, .string nm, .int .i64 mode, .int .i64 num, .int .i64 to, .int .i64 off, .int .i64 wh, .int .i64 lg] 38)).alloc (.cells #[.int .i64 0, .slice none 0 0] 24)).alloc (.cells #[.int .i64 0, .int .i64 0, .int .i64 0, .int .i64 0, .int .i64 0, .string ⟨#[]⟩, .string ⟨#[]⟩, .int .i64 0, .int .i64 0, .int .i64 0, .bool false, .int .i64 0] 41)).alloc (.cells #[.int .i64 0, .int .i64 0, .int .i64 0, .int .i64 0, .int .i64 0, .string ⟨#[]⟩, .string ⟨#[]⟩, .int .i64 0, .int .i64 0, .int .i64 0, .bool false, .int .i64 0] 41)) hs0 hn
    have ER : Aside (didF xs 3 dev ch fid p nm mode num to off wh lg = ((closeF num xs).1, { n := 0, fd := (closeF num xs).2.1, last := (closeF num xs).2.2.1, err := (closeF num xs).2.2.2 })) := by show _ = _; unfold didF; rw [if_neg (by omega), if_neg (by omega), if_pos rfl]
    generalize closeF num xs = r at cc ER
    obtain ⟨zs, fd, la, re⟩ := r
    obtain ⟨d1, d2, d3, d4, d5, d6, d7, d8, d9⟩ := fd
    unfold ClosePost Fd.val at cc
    dsimp only at cc
    clear hs0 hof ho hlg hp hnm
    go_enter Try.func18, Try.ntmps18
    go_wp2_with fail
    refine cc.mono ?_
    rintro e w2 ⟨ao2, cap2, rfl, ho2, hb⟩
    have HO : Aside (_) := ho2
    obtain ⟨x, rfl⟩ := plus_of_below hb
    clear hb ho2 cc hb0
    go_wp2
    go_region
    all_goals go_wp2
    refine bodyPost_ret (v := .tuple #[.agg #[.int .i64 id, .slice ao2 zs.length cap2], .agg #[.int .i64 0, .int .i64 d1, .int .i64 d2, .int .i64 d3, .int .i64 d4, .string d5, .string d6, .int .i64 d7, .int .i64 d8, .int .i64 d9, .bool la, .int .i64 re]]) (by simp [results, Try.results18, go_sem, ↓IntWalk.iteOmega]) rfl ⟨ao2, cap2, ?_, ?_, ?_⟩
    · rw [ER.out]; rfl
    · rw [ER.out]
      exact .inr (own_lower (own_past (W := (((((w.alloc (.cells #[.int .i64 id, .slice ao n cap] 24)).alloc (.cells #[.int .i64 3, .int .i64 dev, .int .i64 ch, .int .i64 fid, .string p, .string nm, .int .i64 mode, .int .i64 num, .int .i64 to, .int .i64 off, .int .i64 wh, .int .i64 lg] 38)).alloc (.cells #[.int .i64 0, .slice none 0 0] 24)).alloc (.cells #[.int .i64 0, .int .i64 0, .int .i64 0, .int .i64 0, .int .i64 0, .string ⟨#[]⟩, .string ⟨#[]⟩, .int .i64 0, .int .i64 0, .int .i64 0, .bool false, .int .i64 0] 41)).alloc (.cells #[.int .i64 0, .int .i64 0, .int .i64 0, .int .i64 0, .int .i64 0, .string ⟨#[]⟩, .string ⟨#[]⟩, .int .i64 0, .int .i64 0, .int .i64 0, .bool false, .int .i64 0] 41))) (x := x.drew) (W' := (((((w.alloc (.cells #[.int .i64 id, .slice ao2 zs.length cap2] 24)).alloc (.cells #[.int .i64 3, .int .i64 dev, .int .i64 ch, .int .i64 fid, .string p, .string nm, .int .i64 mode, .int .i64 num, .int .i64 to, .int .i64 off, .int .i64 wh, .int .i64 lg] 38)).alloc (.cells #[.int .i64 id, .slice ao2 zs.length cap2] 24)).alloc (.cells #[.int .i64 0, .int .i64 d1, .int .i64 d2, .int .i64 d3, .int .i64 d4, .string d5, .string d6, .int .i64 d7, .int .i64 d8, .int .i64 d9, .bool la, .int .i64 re] 41)).alloc (.cells #[.int .i64 0, .int .i64 d1, .int .i64 d2, .int .i64 d3, .int .i64 d4, .string d5, .string d6, .int .i64 d7, .int .i64 d8, .int .i64 d9, .bool la, .int .i64 re] 41))) (own_drew (W := (((((w.alloc (.cells #[.int .i64 id, .slice ao n cap] 24)).alloc (.cells #[.int .i64 3, .int .i64 dev, .int .i64 ch, .int .i64 fid, .string p, .string nm, .int .i64 mode, .int .i64 num, .int .i64 to, .int .i64 off, .int .i64 wh, .int .i64 lg] 38)).alloc (.cells #[.int .i64 0, .slice none 0 0] 24)).alloc (.cells #[.int .i64 0, .int .i64 0, .int .i64 0, .int .i64 0, .int .i64 0, .string ⟨#[]⟩, .string ⟨#[]⟩, .int .i64 0, .int .i64 0, .int .i64 0, .bool false, .int .i64 0] 41)).alloc (.cells #[.int .i64 0, .int .i64 0, .int .i64 0, .int .i64 0, .int .i64 0, .string ⟨#[]⟩, .string ⟨#[]⟩, .int .i64 0, .int .i64 0, .int .i64 0, .bool false, .int .i64 0] 41))) HO.out) (Nat.le_refl _) (by simp)) (by simp; omega))
    · repeat (first | (with_reducible exact Below.refl _ _) | (with_reducible assumption) | (with_reducible refine below_to_plus ?_ ?_ _) | (with_reducible refine below_holds ?_ ?_ _ _) | (with_reducible refine Below.alloc ?_ ?_ _) | (with_reducible refine Below.drew ?_) | (with_reducible refine below_drewN ?_ _) | (with_reducible refine Below.setCell ?_ ?_ _))
      all_goals first | omega | (simp; done) | (simp [go_sem]; done) | (simp [go_sem]; omega)
  have f3 : (kind == 3) = false := by simp [k3]
  by_cases k4 : kind = 4
  · subst k4
    have cc := seek_calls id num off wh lg ao n cap xs (((((w.alloc (.cells #[.int .i64 id, .slice ao n cap] 24)).alloc (.cells #[.int .i64 4, .int .i64 dev, .int .i64 ch, .int .i64 fid, .string p, .string nm, .int .i64 mode, .int .i64 num, .int .i64 to, .int .i64 off, .int .i64 wh, .int .i64 lg] 38)).alloc (.cells #[.int .i64 0, .slice none 0 0] 24)).alloc (.cells #[.int .i64 0, .int .i64 0, .int .i64 0, .int .i64 0, .int .i64 0, .string ⟨#[]⟩, .string ⟨#[]⟩, .int .i64 0, .int .i64 0, .int .i64 0, .bool false, .int .i64 0] 41)).alloc (.cells #[.int .i64 0, .int .i64 0, .int .i64 0, .int .i64 0, .int .i64 0, .string ⟨#[]⟩, .string ⟨#[]⟩, .int .i64 0, .int .i64 0, .int .i64 0, .bool false, .int .i64 0] 41)) hs0 hn hof ho hlg
    have ER : Aside (didF xs 4 dev ch fid p nm mode num to off wh lg = ((seekF xs num off wh lg).1, { n := (seekF xs num off wh lg).2.1, fd := default, last := false, err := (seekF xs num off wh lg).2.2 })) := by show _ = _; unfold didF; rw [if_neg (by omega), if_neg (by omega), if_neg (by omega), if_pos rfl]
    generalize seekF xs num off wh lg = r at cc ER
    obtain ⟨zs, rv, re⟩ := r
    clear hs0 hof ho hlg hp hnm
    go_enter Try.func18, Try.ntmps18
    go_wp2_with fail
    refine cc.mono ?_
    rintro e w2 ⟨ao2, cap2, rfl, ho2, hb⟩
    have HO : Aside (_) := ho2
    obtain ⟨x, rfl⟩ := plus_of_below hb
    clear hb ho2 cc hb0
    go_wp2
    go_region
    all_goals go_wp2
    refine bodyPost_ret (v := .tuple #[.agg #[.int .i64 id, .slice ao2 zs.length cap2], .agg #[.int .i64 rv, .int .i64 0, .int .i64 0, .int .i64 0, .int .i64 0, .string ⟨#[]⟩, .string ⟨#[]⟩, .int .i64 0, .int .i64 0, .int .i64 0, .bool false, .int .i64 re]]) (by simp [results, Try.results18, go_sem, ↓IntWalk.iteOmega]) rfl ⟨ao2, cap2, ?_, ?_, ?_⟩
    · rw [ER.out]; rfl
    · rw [ER.out]
      exact .inr (own_lower (own_past (W := (((((w.alloc (.cells #[.int .i64 id, .slice ao n cap] 24)).alloc (.cells #[.int .i64 4, .int .i64 dev, .int .i64 ch, .int .i64 fid, .string p, .string nm, .int .i64 mode, .int .i64 num, .int .i64 to, .int .i64 off, .int .i64 wh, .int .i64 lg] 38)).alloc (.cells #[.int .i64 0, .slice none 0 0] 24)).alloc (.cells #[.int .i64 0, .int .i64 0, .int .i64 0, .int .i64 0, .int .i64 0, .string ⟨#[]⟩, .string ⟨#[]⟩, .int .i64 0, .int .i64 0, .int .i64 0, .bool false, .int .i64 0] 41)).alloc (.cells #[.int .i64 0, .int .i64 0, .int .i64 0, .int .i64 0, .int .i64 0, .string ⟨#[]⟩, .string ⟨#[]⟩, .int .i64 0, .int .i64 0, .int .i64 0, .bool false, .int .i64 0] 41))) (x := x.drew) (W' := (((((w.alloc (.cells #[.int .i64 id, .slice ao2 zs.length cap2] 24)).alloc (.cells #[.int .i64 4, .int .i64 dev, .int .i64 ch, .int .i64 fid, .string p, .string nm, .int .i64 mode, .int .i64 num, .int .i64 to, .int .i64 off, .int .i64 wh, .int .i64 lg] 38)).alloc (.cells #[.int .i64 id, .slice ao2 zs.length cap2] 24)).alloc (.cells #[.int .i64 rv, .int .i64 0, .int .i64 0, .int .i64 0, .int .i64 0, .string ⟨#[]⟩, .string ⟨#[]⟩, .int .i64 0, .int .i64 0, .int .i64 0, .bool false, .int .i64 re] 41)).alloc (.cells #[.int .i64 rv, .int .i64 0, .int .i64 0, .int .i64 0, .int .i64 0, .string ⟨#[]⟩, .string ⟨#[]⟩, .int .i64 0, .int .i64 0, .int .i64 0, .bool false, .int .i64 re] 41))) (own_drew (W := (((((w.alloc (.cells #[.int .i64 id, .slice ao n cap] 24)).alloc (.cells #[.int .i64 4, .int .i64 dev, .int .i64 ch, .int .i64 fid, .string p, .string nm, .int .i64 mode, .int .i64 num, .int .i64 to, .int .i64 off, .int .i64 wh, .int .i64 lg] 38)).alloc (.cells #[.int .i64 0, .slice none 0 0] 24)).alloc (.cells #[.int .i64 0, .int .i64 0, .int .i64 0, .int .i64 0, .int .i64 0, .string ⟨#[]⟩, .string ⟨#[]⟩, .int .i64 0, .int .i64 0, .int .i64 0, .bool false, .int .i64 0] 41)).alloc (.cells #[.int .i64 0, .int .i64 0, .int .i64 0, .int .i64 0, .int .i64 0, .string ⟨#[]⟩, .string ⟨#[]⟩, .int .i64 0, .int .i64 0, .int .i64 0, .bool false, .int .i64 0] 41))) HO.out) (Nat.le_refl _) (by simp)) (by simp; omega))
    · repeat (first | (with_reducible exact Below.refl _ _) | (with_reducible assumption) | (with_reducible refine below_to_plus ?_ ?_ _) | (with_reducible refine below_holds ?_ ?_ _ _) | (with_reducible refine Below.alloc ?_ ?_ _) | (with_reducible refine Below.drew ?_) | (with_reducible refine below_drewN ?_ _) | (with_reducible refine Below.setCell ?_ ?_ _))
      all_goals first | omega | (simp; done) | (simp [go_sem]; done) | (simp [go_sem]; omega)
  have f4 : (kind == 4) = false := by simp [k4]
  by_cases k5 : kind = 5
  · subst k5
    have cc := moved_calls id num off ao n cap xs (((((w.alloc (.cells #[.int .i64 id, .slice ao n cap] 24)).alloc (.cells #[.int .i64 5, .int .i64 dev, .int .i64 ch, .int .i64 fid, .string p, .string nm, .int .i64 mode, .int .i64 num, .int .i64 to, .int .i64 off, .int .i64 wh, .int .i64 lg] 38)).alloc (.cells #[.int .i64 0, .slice none 0 0] 24)).alloc (.cells #[.int .i64 0, .int .i64 0, .int .i64 0, .int .i64 0, .int .i64 0, .string ⟨#[]⟩, .string ⟨#[]⟩, .int .i64 0, .int .i64 0, .int .i64 0, .bool false, .int .i64 0] 41)).alloc (.cells #[.int .i64 0, .int .i64 0, .int .i64 0, .int .i64 0, .int .i64 0, .string ⟨#[]⟩, .string ⟨#[]⟩, .int .i64 0, .int .i64 0, .int .i64 0, .bool false, .int .i64 0] 41)) hs0 hn hof ho
    have ER : Aside (didF xs 5 dev ch fid p nm mode num to off wh lg = ((movedF xs num off).1, { n := 0, fd := default, last := false, err := (movedF xs num off).2 })) := by show _ = _; unfold didF; rw [if_neg (by omega), if_neg (by omega), if_neg (by omega), if_neg (by omega), if_pos rfl]
    generalize movedF xs num off = r at cc ER
    obtain ⟨zs, re⟩ := r
    clear hs0 hof ho hlg hp hnm
    go_enter Try.func18, Try.ntmps18
    go_wp2_with fail
    refine cc.mono ?_
    rintro e w2 ⟨ao2, cap2, rfl, ho2, hb⟩
    have HO : Aside (_) := ho2
    obtain ⟨x, rfl⟩ := plus_of_below hb
    clear hb ho2 cc hb0
    go_wp2
    go_region
    all_goals go_wp2
    refine bodyPost_ret (v := .tuple #[.agg #[.int .i64 id, .slice ao2 zs.length cap2], .agg #[.int .i64 0, .int .i64 0, .int .i64 0, .int .i64 0, .int .i64 0, .string ⟨#[]⟩, .string ⟨#[]⟩, .int .i64 0, .int .i64 0, .int .i64 0, .bool false, .int .i64 re]]) (by simp [results, Try.results18, go_sem, ↓IntWalk.iteOmega]) rfl ⟨ao2, cap2, ?_, ?_, ?_⟩
    · rw [ER.out]; rfl
    · rw [ER.out]
      exact .inr (own_lower (own_past (W := (((((w.alloc (.cells #[.int .i64 id, .slice ao n cap] 24)).alloc (.cells #[.int .i64 5, .int .i64 dev, .int .i64 ch, .int .i64 fid, .string p, .string nm, .int .i64 mode, .int .i64 num, .int .i64 to, .int .i64 off, .int .i64 wh, .int .i64 lg] 38)).alloc (.cells #[.int .i64 0, .slice none 0 0] 24)).alloc (.cells #[.int .i64 0, .int .i64 0, .int .i64 0, .int .i64 0, .int .i64 0, .string ⟨#[]⟩, .string ⟨#[]⟩, .int .i64 0, .int .i64 0, .int .i64 0, .bool false, .int .i64 0] 41)).alloc (.cells #[.int .i64 0, .int .i64 0, .int .i64 0, .int .i64 0, .int .i64 0, .string ⟨#[]⟩, .string ⟨#[]⟩, .int .i64 0, .int .i64 0, .int .i64 0, .bool false, .int .i64 0] 41))) (x := x.drew) (W' := (((((w.alloc (.cells #[.int .i64 id, .slice ao2 zs.length cap2] 24)).alloc (.cells #[.int .i64 5, .int .i64 dev, .int .i64 ch, .int .i64 fid, .string p, .string nm, .int .i64 mode, .int .i64 num, .int .i64 to, .int .i64 off, .int .i64 wh, .int .i64 lg] 38)).alloc (.cells #[.int .i64 id, .slice ao2 zs.length cap2] 24)).alloc (.cells #[.int .i64 0, .int .i64 0, .int .i64 0, .int .i64 0, .int .i64 0, .string ⟨#[]⟩, .string ⟨#[]⟩, .int .i64 0, .int .i64 0, .int .i64 0, .bool false, .int .i64 re] 41)).alloc (.cells #[.int .i64 0, .int .i64 0, .int .i64 0, .int .i64 0, .int .i64 0, .string ⟨#[]⟩, .string ⟨#[]⟩, .int .i64 0, .int .i64 0, .int .i64 0, .bool false, .int .i64 re] 41))) (own_drew (W := (((((w.alloc (.cells #[.int .i64 id, .slice ao n cap] 24)).alloc (.cells #[.int .i64 5, .int .i64 dev, .int .i64 ch, .int .i64 fid, .string p, .string nm, .int .i64 mode, .int .i64 num, .int .i64 to, .int .i64 off, .int .i64 wh, .int .i64 lg] 38)).alloc (.cells #[.int .i64 0, .slice none 0 0] 24)).alloc (.cells #[.int .i64 0, .int .i64 0, .int .i64 0, .int .i64 0, .int .i64 0, .string ⟨#[]⟩, .string ⟨#[]⟩, .int .i64 0, .int .i64 0, .int .i64 0, .bool false, .int .i64 0] 41)).alloc (.cells #[.int .i64 0, .int .i64 0, .int .i64 0, .int .i64 0, .int .i64 0, .string ⟨#[]⟩, .string ⟨#[]⟩, .int .i64 0, .int .i64 0, .int .i64 0, .bool false, .int .i64 0] 41))) HO.out) (Nat.le_refl _) (by simp)) (by simp; omega))
    · repeat (first | (with_reducible exact Below.refl _ _) | (with_reducible assumption) | (with_reducible refine below_to_plus ?_ ?_ _) | (with_reducible refine below_holds ?_ ?_ _ _) | (with_reducible refine Below.alloc ?_ ?_ _) | (with_reducible refine Below.drew ?_) | (with_reducible refine below_drewN ?_ _) | (with_reducible refine Below.setCell ?_ ?_ _))
      all_goals first | omega | (simp; done) | (simp [go_sem]; done) | (simp [go_sem]; omega)
  have f5 : (kind == 5) = false := by simp [k5]
  have ER : Aside (didF xs kind dev ch fid p nm mode num to off wh lg = (xs, { n := 0, fd := default, last := false, err := 0 })) := by show _ = _; unfold didF; rw [if_neg k1, if_neg k2, if_neg k3, if_neg k4, if_neg k5]
  clear hs0 hof ho hlg hp hnm k1 k2 k3 k4 k5 hb0
  go_enter Try.func18, Try.ntmps18
  go_wp2
  go_region
  all_goals go_wp2
  refine bodyPost_ret (v := .tuple #[.agg #[.int .i64 id, .slice ao n cap], .agg #[.int .i64 0, .int .i64 0, .int .i64 0, .int .i64 0, .int .i64 0, .string ⟨#[]⟩, .string ⟨#[]⟩, .int .i64 0, .int .i64 0, .int .i64 0, .bool false, .int .i64 0]]) (by simp [results, Try.results18, go_sem, ↓IntWalk.iteOmega]) rfl ⟨ao, cap, ?_, ?_, ?_⟩
  · rw [ER.out, HL.out]; rfl
  · rw [ER.out]; exact .inl ⟨rfl, rfl, rfl⟩
  · repeat (first | (with_reducible exact Below.refl _ _) | (with_reducible assumption) | (with_reducible refine below_to_plus ?_ ?_ _) | (with_reducible refine below_holds ?_ ?_ _ _) | (with_reducible refine Below.alloc ?_ ?_ _) | (with_reducible refine Below.drew ?_) | (with_reducible refine below_drewN ?_ _) | (with_reducible refine Below.setCell ?_ ?_ _))
    all_goals first | omega | (simp; done) | (simp [go_sem]; done) | (simp [go_sem]; omega)

set_option maxHeartbeats 16000000 in
set_option maxRecDepth 100000 in
theorem want_calls (id kind dev ch fid : Int) (p nm : ByteArray) (mode num to off wh lg : Int) (ao : Option Addr) (n cap : Nat) (xs : List Fd) (w : World) (h : Sl w 9 ao n cap (xs.map Fd.enc)) (hr : rightB id xs = true) (hp : p.size ≤ maxLen) (hnm : nm.size ≤ maxLen) (ho : -9223372036854775808 ≤ off ∧ off ≤ 9223372036854775807) (hlg : lg ≤ 9223372036854775807) :
    Calls Try.prog 19 #[.agg #[.int .i64 id, .slice ao n cap], .agg #[.int .i64 kind, .int .i64 dev, .int .i64 ch, .int .i64 fid, .string p, .string nm, .int .i64 mode, .int .i64 num, .int .i64 to, .int .i64 off, .int .i64 wh, .int .i64 lg]] w fun e w' => DidPost w id ao cap xs (wantF xs kind dev ch fid p nm mode num to off wh lg) e w' := by
  have HL : Aside (xs.length = n) := Sl.lenE h
  have H : Aside (Sl w 9 ao n cap (xs.map Fd.enc)) := h
  have HR : Aside (RightP id xs) := (rightB_iff id xs).1 hr
  have hn : n ≤ 1000 := by
    have h1 := asc_len HR.out
    rw [HL.out] at h1
    omega
  have hof : ∀ y ∈ xs, 0 ≤ y.offset ∧ y.offset ≤ 9223372036854775807 := fun y hy => by
    have := (okB_iff y).1 (HR.out.ok y hy)
    omega
  have hb0 : Below w.heap.size w (((((w.alloc (.cells #[.int .i64 id, .slice ao n cap] 24)).alloc (.cells #[.int .i64 kind, .int .i64 dev, .int .i64 ch, .int .i64 fid, .string p, .string nm, .int .i64 mode, .int .i64 num, .int .i64 to, .int .i64 off, .int .i64 wh, .int .i64 lg] 38)).alloc (.cells #[.int .i64 0, .slice none 0 0] 24)).alloc (.cells #[.int .i64 0, .int .i64 0, .int .i64 0, .int .i64 0, .int .i64 0, .string ⟨#[]⟩, .string ⟨#[]⟩, .int .i64 0, .int .i64 0, .int .i64 0, .bool false, .int .i64 0] 41)).alloc (.cells #[.int .i64 0, .int .i64 0, .int .i64 0, .int .i64 0, .int .i64 0, .string ⟨#[]⟩, .string ⟨#[]⟩, .int .i64 0, .int .i64 0, .int .i64 0, .bool false, .int .i64 0] 41)) := by
    repeat (first | (with_reducible exact Below.refl _ _) | (with_reducible assumption) | (with_reducible refine below_to_plus ?_ ?_ _) | (with_reducible refine below_holds ?_ ?_ _ _) | (with_reducible refine Below.alloc ?_ ?_ _) | (with_reducible refine Below.drew ?_) | (with_reducible refine below_drewN ?_ _) | (with_reducible refine Below.setCell ?_ ?_ _))
    all_goals first | omega | (simp; done) | (simp [go_sem]; done) | (simp [go_sem]; omega)
  have hs0 := h.stays hb0
  clear h hr
  by_cases k1 : kind = 1
  · subst k1
    have cc := radd_calls id dev ch fid p nm mode ao n cap xs (((((w.alloc (.cells #[.int .i64 id, .slice ao n cap] 24)).alloc (.cells #[.int .i64 1, .int .i64 dev, .int .i64 ch, .int .i64 fid, .string p, .string nm, .int .i64 mode, .int .i64 num, .int .i64 to, .int .i64 off, .int .i64 wh, .int .i64 lg] 38)).alloc (.cells #[.int .i64 0, .slice none 0 0] 24)).alloc (.cells #[.int .i64 0, .int .i64 0, .int .i64 0, .int .i64 0, .int .i64 0, .string ⟨#[]⟩, .string ⟨#[]⟩, .int .i64 0, .int .i64 0, .int .i64 0, .bool false, .int .i64 0] 41)).alloc (.cells #[.int .i64 0, .int .i64 0, .int .i64 0, .int .i64 0, .int .i64 0, .string ⟨#[]⟩, .string ⟨#[]⟩, .int .i64 0, .int .i64 0, .int .i64 0, .bool false, .int .i64 0] 41)) hs0 hn hp hnm
    have ER : Aside (wantF xs 1 dev ch fid p nm mode num to off wh lg = ((raddF xs dev ch fid p nm mode).1, { n := (raddF xs dev ch fid p nm mode).2.1, fd := default, last := false, err := (raddF xs dev ch fid p nm mode).2.2 })) := by show _ = _; unfold wantF; rw [if_pos rfl]
    generalize raddF xs dev ch fid p nm mode = r at cc ER
    obtain ⟨zs, rv, re⟩ := r
    clear hs0 hof ho hlg hp hnm
    go_enter Try.func19, Try.ntmps19
    go_wp2_with fail
    refine cc.mono ?_
    rintro e w2 ⟨ao2, cap2, rfl, ho2, hb⟩
    have HO : Aside (_) := ho2
    obtain ⟨x, rfl⟩ := plus_of_below hb
    clear hb ho2 cc hb0
    go_wp2
    go_region
    all_goals go_wp2
    refine bodyPost_ret (v := .tuple #[.agg #[.int .i64 id, .slice ao2 zs.length cap2], .agg #[.int .i64 rv, .int .i64 0, .int .i64 0, .int .i64 0, .int .i64 0, .string ⟨#[]⟩, .string ⟨#[]⟩, .int .i64 0, .int .i64 0, .int .i64 0, .bool false, .int .i64 re]]) (by simp [results, Try.results19, go_sem, ↓IntWalk.iteOmega]) rfl ⟨ao2, cap2, ?_, ?_, ?_⟩
    · rw [ER.out]; rfl
    · rw [ER.out]
      rcases HO.out with hh | hh
      · exact .inl hh
      · exact .inr (own_lower (own_past (W := (((((w.alloc (.cells #[.int .i64 id, .slice ao n cap] 24)).alloc (.cells #[.int .i64 1, .int .i64 dev, .int .i64 ch, .int .i64 fid, .string p, .string nm, .int .i64 mode, .int .i64 num, .int .i64 to, .int .i64 off, .int .i64 wh, .int .i64 lg] 38)).alloc (.cells #[.int .i64 0, .slice none 0 0] 24)).alloc (.cells #[.int .i64 0, .int .i64 0, .int .i64 0, .int .i64 0, .int .i64 0, .string ⟨#[]⟩, .string ⟨#[]⟩, .int .i64 0, .int .i64 0, .int .i64 0, .bool false, .int .i64 0] 41)).alloc (.cells #[.int .i64 0, .int .i64 0, .int .i64 0, .int .i64 0, .int .i64 0, .string ⟨#[]⟩, .string ⟨#[]⟩, .int .i64 0, .int .i64 0, .int .i64 0, .bool false, .int .i64 0] 41))) (x := x.drew) (W' := (((((w.alloc (.cells #[.int .i64 id, .slice ao2 zs.length cap2] 24)).alloc (.cells #[.int .i64 1, .int .i64 dev, .int .i64 ch, .int .i64 fid, .string p, .string nm, .int .i64 mode, .int .i64 num, .int .i64 to, .int .i64 off, .int .i64 wh, .int .i64 lg] 38)).alloc (.cells #[.int .i64 id, .slice ao2 zs.length cap2] 24)).alloc (.cells #[.int .i64 rv, .int .i64 0, .int .i64 0, .int .i64 0, .int .i64 0, .string ⟨#[]⟩, .string ⟨#[]⟩, .int .i64 0, .int .i64 0, .int .i64 0, .bool false, .int .i64 re] 41)).alloc (.cells #[.int .i64 rv, .int .i64 0, .int .i64 0, .int .i64 0, .int .i64 0, .string ⟨#[]⟩, .string ⟨#[]⟩, .int .i64 0, .int .i64 0, .int .i64 0, .bool false, .int .i64 re] 41))) (own_drew (W := (((((w.alloc (.cells #[.int .i64 id, .slice ao n cap] 24)).alloc (.cells #[.int .i64 1, .int .i64 dev, .int .i64 ch, .int .i64 fid, .string p, .string nm, .int .i64 mode, .int .i64 num, .int .i64 to, .int .i64 off, .int .i64 wh, .int .i64 lg] 38)).alloc (.cells #[.int .i64 0, .slice none 0 0] 24)).alloc (.cells #[.int .i64 0, .int .i64 0, .int .i64 0, .int .i64 0, .int .i64 0, .string ⟨#[]⟩, .string ⟨#[]⟩, .int .i64 0, .int .i64 0, .int .i64 0, .bool false, .int .i64 0] 41)).alloc (.cells #[.int .i64 0, .int .i64 0, .int .i64 0, .int .i64 0, .int .i64 0, .string ⟨#[]⟩, .string ⟨#[]⟩, .int .i64 0, .int .i64 0, .int .i64 0, .bool false, .int .i64 0] 41))) hh) (Nat.le_refl _) (by simp)) (by simp; omega))
    · repeat (first | (with_reducible exact Below.refl _ _) | (with_reducible assumption) | (with_reducible refine below_to_plus ?_ ?_ _) | (with_reducible refine below_holds ?_ ?_ _ _) | (with_reducible refine Below.alloc ?_ ?_ _) | (with_reducible refine Below.drew ?_) | (with_reducible refine below_drewN ?_ _) | (with_reducible refine Below.setCell ?_ ?_ _))
      all_goals first | omega | (simp; done) | (simp [go_sem]; done) | (simp [go_sem]; omega)
  have f1 : (kind == 1) = false := by simp [k1]
  by_cases k2 : kind = 2
  · subst k2
    have cc := rdup_calls id num to ao n cap xs (((((w.alloc (.cells #[.int .i64 id, .slice ao n cap] 24)).alloc (.cells #[.int .i64 2, .int .i64 dev, .int .i64 ch, .int .i64 fid, .string p, .string nm, .int .i64 mode, .int .i64 num, .int .i64 to, .int .i64 off, .int .i64 wh, .int .i64 lg] 38)).alloc (.cells #[.int .i64 0, .slice none 0 0] 24)).alloc (.cells #[.int .i64 0, .int .i64 0, .int .i64 0, .int .i64 0, .int .i64 0, .string ⟨#[]⟩, .string ⟨#[]⟩, .int .i64 0, .int .i64 0, .int .i64 0, .bool false, .int .i64 0] 41)).alloc (.cells #[.int .i64 0, .int .i64 0, .int .i64 0, .int .i64 0, .int .i64 0, .string ⟨#[]⟩, .string ⟨#[]⟩, .int .i64 0, .int .i64 0, .int .i64 0, .bool false, .int .i64 0] 41)) hs0 hn
    have ER : Aside (wantF xs 2 dev ch fid p nm mode num to off wh lg = ((rdupF xs num to).1, { n := (rdupF xs num to).2.1, fd := default, last := false, err := (rdupF xs num to).2.2 })) := by show _ = _; unfold wantF; rw [if_neg (by omega), if_pos rfl]
    generalize rdupF xs num to = r at cc ER
    obtain ⟨zs, rv, re⟩ := r
    clear hs0 hof ho hlg hp hnm
    go_enter Try.func19, Try.ntmps19
    go_wp2_with fail
    refine cc.mono ?_
    rintro e w2 ⟨ao2, cap2, rfl, ho2, hb⟩
    have HO : Aside (_) := ho2
    obtain ⟨x, rfl⟩ := plus_of_below hb
    clear hb ho2 cc hb0
    go_wp2
    go_region
    all_goals go_wp2
    refine bodyPost_ret (v := .tuple #[.agg #[.int .i64 id, .slice ao2 zs.length cap2], .agg #[.int .i64 rv, .int .i64 0, .int .i64 0, .int .i64 0, .int .i64 0, .string ⟨#[]⟩, .string ⟨#[]⟩, .int .i64 0, .int .i64 0, .int .i64 0, .bool false, .int .i64 re]]) (by simp [results, Try.results19, go_sem, ↓IntWalk.iteOmega]) rfl ⟨ao2, cap2, ?_, ?_, ?_⟩
    · rw [ER.out]; rfl
    · rw [ER.out]
      rcases HO.out with hh | hh
      · exact .inl hh
      · exact .inr (own_lower (own_past (W := (((((w.alloc (.cells #[.int .i64 id, .slice ao n cap] 24)).alloc (.cells #[.int .i64 2, .int .i64 dev, .int .i64 ch, .int .i64 fid, .string p, .string nm, .int .i64 mode, .int .i64 num, .int .i64 to, .int .i64 off, .int .i64 wh, .int .i64 lg] 38)).alloc (.cells #[.int .i64 0, .slice none 0 0] 24)).alloc (.cells #[.int .i64 0, .int .i64 0, .int .i64 0, .int .i64 0, .int .i64 0, .string ⟨#[]⟩, .string ⟨#[]⟩, .int .i64 0, .int .i64 0, .int .i64 0, .bool false, .int .i64 0] 41)).alloc (.cells #[.int .i64 0, .int .i64 0, .int .i64 0, .int .i64 0, .int .i64 0, .string ⟨#[]⟩, .string ⟨#[]⟩, .int .i64 0, .int .i64 0, .int .i64 0, .bool false, .int .i64 0] 41))) (x := x.drew) (W' := (((((w.alloc (.cells #[.int .i64 id, .slice ao2 zs.length cap2] 24)).alloc (.cells #[.int .i64 2, .int .i64 dev, .int .i64 ch, .int .i64 fid, .string p, .string nm, .int .i64 mode, .int .i64 num, .int .i64 to, .int .i64 off, .int .i64 wh, .int .i64 lg] 38)).alloc (.cells #[.int .i64 id, .slice ao2 zs.length cap2] 24)).alloc (.cells #[.int .i64 rv, .int .i64 0, .int .i64 0, .int .i64 0, .int .i64 0, .string ⟨#[]⟩, .string ⟨#[]⟩, .int .i64 0, .int .i64 0, .int .i64 0, .bool false, .int .i64 re] 41)).alloc (.cells #[.int .i64 rv, .int .i64 0, .int .i64 0, .int .i64 0, .int .i64 0, .string ⟨#[]⟩, .string ⟨#[]⟩, .int .i64 0, .int .i64 0, .int .i64 0, .bool false, .int .i64 re] 41))) (own_drew (W := (((((w.alloc (.cells #[.int .i64 id, .slice ao n cap] 24)).alloc (.cells #[.int .i64 2, .int .i64 dev, .int .i64 ch, .int .i64 fid, .string p, .string nm, .int .i64 mode, .int .i64 num, .int .i64 to, .int .i64 off, .int .i64 wh, .int .i64 lg] 38)).alloc (.cells #[.int .i64 0, .slice none 0 0] 24)).alloc (.cells #[.int .i64 0, .int .i64 0, .int .i64 0, .int .i64 0, .int .i64 0, .string ⟨#[]⟩, .string ⟨#[]⟩, .int .i64 0, .int .i64 0, .int .i64 0, .bool false, .int .i64 0] 41)).alloc (.cells #[.int .i64 0, .int .i64 0, .int .i64 0, .int .i64 0, .int .i64 0, .string ⟨#[]⟩, .string ⟨#[]⟩, .int .i64 0, .int .i64 0, .int .i64 0, .bool false, .int .i64 0] 41))) hh) (Nat.le_refl _) (by simp)) (by simp; omega))
    · repeat (first | (with_reducible exact Below.refl _ _) | (with_reducible assumption) | (with_reducible refine below_to_plus ?_ ?_ _) | (with_reducible refine below_holds ?_ ?_ _ _) | (with_reducible refine Below.alloc ?_ ?_ _) | (with_reducible refine Below.drew ?_) | (with_reducible refine below_drewN ?_ _) | (with_reducible refine Below.setCell ?_ ?_ _))
      all_goals first | omega | (simp; done) | (simp [go_sem]; done) | (simp [go_sem]; omega)
  have f2 : (kind == 2) = false := by simp [k2]
  by_cases k3 : kind = 3
  · subst k3
    have cc := rclose_calls id num ao n cap xs (((((w.alloc (.cells #[.int .i64 id, .slice ao n cap] 24)).alloc (.cells #[.int .i64 3, .int .i64 dev, .int .i64 ch, .int .i64 fid, .string p, .string nm, .int .i64 mode, .int .i64 num, .int .i64 to, .int .i64 off, .int .i64 wh, .int .i64 lg] 38)).alloc (.cells #[.int .i64 0, .slice none 0 0] 24)).alloc (.cells #[.int .i64 0, .int .i64 0, .int .i64 0, .int .i64 0, .int .i64 0, .string ⟨#[]⟩, .string ⟨#[]⟩, .int .i64 0, .int .i64 0, .int .i64 0, .bool false, .int .i64 0] 41)).alloc (.cells #[.int .i64 0, .int .i64 0, .int .i64 0, .int .i64 0, .int .i64 0, .string ⟨#[]⟩, .string ⟨#[]⟩, .int .i64 0, .int .i64 0, .int .i64 0, .bool false, .int .i64 0] 41)) hs0 hn
    have ER : Aside (wantF xs 3 dev ch fid p nm mode num to off wh lg = ((rcloseF num xs).1, { n := 0, fd := (rcloseF num xs).2.1, last := (rcloseF num xs).2.2.1, err := (rcloseF num xs).2.2.2 })) := by show _ = _; unfold wantF; rw [if_neg (by omega), if_neg (by omega), if_pos rfl]
    generalize rcloseF num xs = r at cc ER
    obtain ⟨zs, fd, la, re⟩ := r
    obtain ⟨d1, d2, d3, d4, d5, d6, d7, d8, d9⟩ := fd
    unfold RClosePost Fd.val at cc
    dsimp only at cc
    clear hs0 hof ho hlg hp hnm
    go_enter Try.func19, Try.ntmps19
    go_wp2_with fail
    refine cc.mono ?_
    rintro e w2 ⟨ao2, cap2, rfl, ho2, hb⟩
    have HO : Aside (_) := ho2
    obtain ⟨x, rfl⟩ := plus_of_below hb
    clear hb ho2 cc hb0
    go_wp2
    go_region
    all_goals go_wp2
    refine bodyPost_ret (v := .tuple #[.agg #[.int .i64 id, .slice ao2 zs.length cap2], .agg #[.int .i64 0, .int .i64 d1, .int .i64 d2, .int .i64 d3, .int .i64 d4, .string d5, .string d6, .int .i64 d7, .int .i64 d8, .int .i64 d9, .bool la, .int .i64 re]]) (by simp [results, Try.results19, go_sem, ↓IntWalk.iteOmega]) rfl ⟨ao2, cap2, ?_, ?_, ?_⟩
    · rw [ER.out]; rfl
    · rw [ER.out]
      rcases HO.out with hh | hh
      · exact .inl hh
      · exact .inr (own_lower (own_past (W := (((((w.alloc (.cells #[.int .i64 id, .slice ao n cap] 24)).alloc (.cells #[.int .i64 3, .int .i64 dev, .int .i64 ch, .int .i64 fid, .string p, .string nm, .int .i64 mode, .int .i64 num, .int .i64 to, .int .i64 off, .int .i64 wh, .int .i64 lg] 38)).alloc (.cells #[.int .i64 0, .slice none 0 0] 24)).alloc (.cells #[.int .i64 0, .int .i64 0, .int .i64 0, .int .i64 0, .int .i64 0, .string ⟨#[]⟩, .string ⟨#[]⟩, .int .i64 0, .int .i64 0, .int .i64 0, .bool false, .int .i64 0] 41)).alloc (.cells #[.int .i64 0, .int .i64 0, .int .i64 0, .int .i64 0, .int .i64 0, .string ⟨#[]⟩, .string ⟨#[]⟩, .int .i64 0, .int .i64 0, .int .i64 0, .bool false, .int .i64 0] 41))) (x := x.drew) (W' := (((((w.alloc (.cells #[.int .i64 id, .slice ao2 zs.length cap2] 24)).alloc (.cells #[.int .i64 3, .int .i64 dev, .int .i64 ch, .int .i64 fid, .string p, .string nm, .int .i64 mode, .int .i64 num, .int .i64 to, .int .i64 off, .int .i64 wh, .int .i64 lg] 38)).alloc (.cells #[.int .i64 id, .slice ao2 zs.length cap2] 24)).alloc (.cells #[.int .i64 0, .int .i64 d1, .int .i64 d2, .int .i64 d3, .int .i64 d4, .string d5, .string d6, .int .i64 d7, .int .i64 d8, .int .i64 d9, .bool la, .int .i64 re] 41)).alloc (.cells #[.int .i64 0, .int .i64 d1, .int .i64 d2, .int .i64 d3, .int .i64 d4, .string d5, .string d6, .int .i64 d7, .int .i64 d8, .int .i64 d9, .bool la, .int .i64 re] 41))) (own_drew (W := (((((w.alloc (.cells #[.int .i64 id, .slice ao n cap] 24)).alloc (.cells #[.int .i64 3, .int .i64 dev, .int .i64 ch, .int .i64 fid, .string p, .string nm, .int .i64 mode, .int .i64 num, .int .i64 to, .int .i64 off, .int .i64 wh, .int .i64 lg] 38)).alloc (.cells #[.int .i64 0, .slice none 0 0] 24)).alloc (.cells #[.int .i64 0, .int .i64 0, .int .i64 0, .int .i64 0, .int .i64 0, .string ⟨#[]⟩, .string ⟨#[]⟩, .int .i64 0, .int .i64 0, .int .i64 0, .bool false, .int .i64 0] 41)).alloc (.cells #[.int .i64 0, .int .i64 0, .int .i64 0, .int .i64 0, .int .i64 0, .string ⟨#[]⟩, .string ⟨#[]⟩, .int .i64 0, .int .i64 0, .int .i64 0, .bool false, .int .i64 0] 41))) hh) (Nat.le_refl _) (by simp)) (by simp; omega))
    · repeat (first | (with_reducible exact Below.refl _ _) | (with_reducible assumption) | (with_reducible refine below_to_plus ?_ ?_ _) | (with_reducible refine below_holds ?_ ?_ _ _) | (with_reducible refine Below.alloc ?_ ?_ _) | (with_reducible refine Below.drew ?_) | (with_reducible refine below_drewN ?_ _) | (with_reducible refine Below.setCell ?_ ?_ _))
      all_goals first | omega | (simp; done) | (simp [go_sem]; done) | (simp [go_sem]; omega)
  have f3 : (kind == 3) = false := by simp [k3]
  by_cases k4 : kind = 4
  · subst k4
    have cc := rseek_calls id num off wh lg ao n cap xs (((((w.alloc (.cells #[.int .i64 id, .slice ao n cap] 24)).alloc (.cells #[.int .i64 4, .int .i64 dev, .int .i64 ch, .int .i64 fid, .string p, .string nm, .int .i64 mode, .int .i64 num, .int .i64 to, .int .i64 off, .int .i64 wh, .int .i64 lg] 38)).alloc (.cells #[.int .i64 0, .slice none 0 0] 24)).alloc (.cells #[.int .i64 0, .int .i64 0, .int .i64 0, .int .i64 0, .int .i64 0, .string ⟨#[]⟩, .string ⟨#[]⟩, .int .i64 0, .int .i64 0, .int .i64 0, .bool false, .int .i64 0] 41)).alloc (.cells #[.int .i64 0, .int .i64 0, .int .i64 0, .int .i64 0, .int .i64 0, .string ⟨#[]⟩, .string ⟨#[]⟩, .int .i64 0, .int .i64 0, .int .i64 0, .bool false, .int .i64 0] 41)) hs0 hn hof ho hlg
    have ER : Aside (wantF xs 4 dev ch fid p nm mode num to off wh lg = ((rseekF xs num off wh lg).1, { n := (rseekF xs num off wh lg).2.1, fd := default, last := false, err := (rseekF xs num off wh lg).2.2 })) := by show _ = _; unfold wantF; rw [if_neg (by omega), if_neg (by omega), if_neg (by omega), if_pos rfl]
    generalize rseekF xs num off wh lg = r at cc ER
    obtain ⟨zs, rv, re⟩ := r
    clear hs0 hof ho hlg hp hnm
    go_enter Try.func19, Try.ntmps19
    go_wp2_with fail
    refine cc.mono ?_
    rintro e w2 ⟨ao2, cap2, rfl, ho2, hb⟩
    have HO : Aside (_) := ho2
    obtain ⟨x, rfl⟩ := plus_of_below hb
    clear hb ho2 cc hb0
    go_wp2
    go_region
    all_goals go_wp2
    refine bodyPost_ret (v := .tuple #[.agg #[.int .i64 id, .slice ao2 zs.length cap2], .agg #[.int .i64 rv, .int .i64 0, .int .i64 0, .int .i64 0, .int .i64 0, .string ⟨#[]⟩, .string ⟨#[]⟩, .int .i64 0, .int .i64 0, .int .i64 0, .bool false, .int .i64 re]]) (by simp [results, Try.results19, go_sem, ↓IntWalk.iteOmega]) rfl ⟨ao2, cap2, ?_, ?_, ?_⟩
    · rw [ER.out]; rfl
    · rw [ER.out]
      rcases HO.out with hh | hh
      · exact .inl hh
      · exact .inr (own_lower (own_past (W := (((((w.alloc (.cells #[.int .i64 id, .slice ao n cap] 24)).alloc (.cells #[.int .i64 4, .int .i64 dev, .int .i64 ch, .int .i64 fid, .string p, .string nm, .int .i64 mode, .int .i64 num, .int .i64 to, .int .i64 off, .int .i64 wh, .int .i64 lg] 38)).alloc (.cells #[.int .i64 0, .slice none 0 0] 24)).alloc (.cells #[.int .i64 0, .int .i64 0, .int .i64 0, .int .i64 0, .int .i64 0, .string ⟨#[]⟩, .string ⟨#[]⟩, .int .i64 0, .int .i64 0, .int .i64 0, .bool false, .int .i64 0] 41)).alloc (.cells #[.int .i64 0, .int .i64 0, .int .i64 0, .int .i64 0, .int .i64 0, .string ⟨#[]⟩, .string ⟨#[]⟩, .int .i64 0, .int .i64 0, .int .i64 0, .bool false, .int .i64 0] 41))) (x := x.drew) (W' := (((((w.alloc (.cells #[.int .i64 id, .slice ao2 zs.length cap2] 24)).alloc (.cells #[.int .i64 4, .int .i64 dev, .int .i64 ch, .int .i64 fid, .string p, .string nm, .int .i64 mode, .int .i64 num, .int .i64 to, .int .i64 off, .int .i64 wh, .int .i64 lg] 38)).alloc (.cells #[.int .i64 id, .slice ao2 zs.length cap2] 24)).alloc (.cells #[.int .i64 rv, .int .i64 0, .int .i64 0, .int .i64 0, .int .i64 0, .string ⟨#[]⟩, .string ⟨#[]⟩, .int .i64 0, .int .i64 0, .int .i64 0, .bool false, .int .i64 re] 41)).alloc (.cells #[.int .i64 rv, .int .i64 0, .int .i64 0, .int .i64 0, .int .i64 0, .string ⟨#[]⟩, .string ⟨#[]⟩, .int .i64 0, .int .i64 0, .int .i64 0, .bool false, .int .i64 re] 41))) (own_drew (W := (((((w.alloc (.cells #[.int .i64 id, .slice ao n cap] 24)).alloc (.cells #[.int .i64 4, .int .i64 dev, .int .i64 ch, .int .i64 fid, .string p, .string nm, .int .i64 mode, .int .i64 num, .int .i64 to, .int .i64 off, .int .i64 wh, .int .i64 lg] 38)).alloc (.cells #[.int .i64 0, .slice none 0 0] 24)).alloc (.cells #[.int .i64 0, .int .i64 0, .int .i64 0, .int .i64 0, .int .i64 0, .string ⟨#[]⟩, .string ⟨#[]⟩, .int .i64 0, .int .i64 0, .int .i64 0, .bool false, .int .i64 0] 41)).alloc (.cells #[.int .i64 0, .int .i64 0, .int .i64 0, .int .i64 0, .int .i64 0, .string ⟨#[]⟩, .string ⟨#[]⟩, .int .i64 0, .int .i64 0, .int .i64 0, .bool false, .int .i64 0] 41))) hh) (Nat.le_refl _) (by simp)) (by simp; omega))
    · repeat (first | (with_reducible exact Below.refl _ _) | (with_reducible assumption) | (with_reducible refine below_to_plus ?_ ?_ _) | (with_reducible refine below_holds ?_ ?_ _ _) | (with_reducible refine Below.alloc ?_ ?_ _) | (with_reducible refine Below.drew ?_) | (with_reducible refine below_drewN ?_ _) | (with_reducible refine Below.setCell ?_ ?_ _))
      all_goals first | omega | (simp; done) | (simp [go_sem]; done) | (simp [go_sem]; omega)
  have f4 : (kind == 4) = false := by simp [k4]
  by_cases k5 : kind = 5
  · subst k5
    have cc := rmoved_calls id num off ao n cap xs (((((w.alloc (.cells #[.int .i64 id, .slice ao n cap] 24)).alloc (.cells #[.int .i64 5, .int .i64 dev, .int .i64 ch, .int .i64 fid, .string p, .string nm, .int .i64 mode, .int .i64 num, .int .i64 to, .int .i64 off, .int .i64 wh, .int .i64 lg] 38)).alloc (.cells #[.int .i64 0, .slice none 0 0] 24)).alloc (.cells #[.int .i64 0, .int .i64 0, .int .i64 0, .int .i64 0, .int .i64 0, .string ⟨#[]⟩, .string ⟨#[]⟩, .int .i64 0, .int .i64 0, .int .i64 0, .bool false, .int .i64 0] 41)).alloc (.cells #[.int .i64 0, .int .i64 0, .int .i64 0, .int .i64 0, .int .i64 0, .string ⟨#[]⟩, .string ⟨#[]⟩, .int .i64 0, .int .i64 0, .int .i64 0, .bool false, .int .i64 0] 41)) hs0 hn hof ho
    have ER : Aside (wantF xs 5 dev ch fid p nm mode num to off wh lg = ((rmovedF xs num off).1, { n := 0, fd := default, last := false, err := (rmovedF xs num off).2 })) := by show _ = _; unfold wantF; rw [if_neg (by omega), if_neg (by omega), if_neg (by omega), if_neg (by omega), if_pos rfl]
    generalize rmovedF xs num off = r at cc ER
    obtain ⟨zs, re⟩ := r
    clear hs0 hof ho hlg hp hnm
    go_enter Try.func19, Try.ntmps19
    go_wp2_with fail
    refine cc.mono ?_
    rintro e w2 ⟨ao2, cap2, rfl, ho2, hb⟩
    have HO : Aside (_) := ho2
    obtain ⟨x, rfl⟩ := plus_of_below hb
    clear hb ho2 cc hb0
    go_wp2
    go_region
    all_goals go_wp2
    refine bodyPost_ret (v := .tuple #[.agg #[.int .i64 id, .slice ao2 zs.length cap2], .agg #[.int .i64 0, .int .i64 0, .int .i64 0, .int .i64 0, .int .i64 0, .string ⟨#[]⟩, .string ⟨#[]⟩, .int .i64 0, .int .i64 0, .int .i64 0, .bool false, .int .i64 re]]) (by simp [results, Try.results19, go_sem, ↓IntWalk.iteOmega]) rfl ⟨ao2, cap2, ?_, ?_, ?_⟩
    · rw [ER.out]; rfl
    · rw [ER.out]
      rcases HO.out with hh | hh
      · exact .inl hh
      · exact .inr (own_lower (own_past (W := (((((w.alloc (.cells #[.int .i64 id, .slice ao n cap] 24)).alloc (.cells #[.int .i64 5, .int .i64 dev, .int .i64 ch, .int .i64 fid, .string p, .string nm, .int .i64 mode, .int .i64 num, .int .i64 to, .int .i64 off, .int .i64 wh, .int .i64 lg] 38)).alloc (.cells #[.int .i64 0, .slice none 0 0] 24)).alloc (.cells #[.int .i64 0, .int .i64 0, .int .i64 0, .int .i64 0, .int .i64 0, .string ⟨#[]⟩, .string ⟨#[]⟩, .int .i64 0, .int .i64 0, .int .i64 0, .bool false, .int .i64 0] 41)).alloc (.cells #[.int .i64 0, .int .i64 0, .int .i64 0, .int .i64 0, .int .i64 0, .string ⟨#[]⟩, .string ⟨#[]⟩, .int .i64 0, .int .i64 0, .int .i64 0, .bool false, .int .i64 0] 41))) (x := x.drew) (W' := (((((w.alloc (.cells #[.int .i64 id, .slice ao2 zs.length cap2] 24)).alloc (.cells #[.int .i64 5, .int .i64 dev, .int .i64 ch, .int .i64 fid, .string p, .string nm, .int .i64 mode, .int .i64 num, .int .i64 to, .int .i64 off, .int .i64 wh, .int .i64 lg] 38)).alloc (.cells #[.int .i64 id, .slice ao2 zs.length cap2] 24)).alloc (.cells #[.int .i64 0, .int .i64 0, .int .i64 0, .int .i64 0, .int .i64 0, .string ⟨#[]⟩, .string ⟨#[]⟩, .int .i64 0, .int .i64 0, .int .i64 0, .bool false, .int .i64 re] 41)).alloc (.cells #[.int .i64 0, .int .i64 0, .int .i64 0, .int .i64 0, .int .i64 0, .string ⟨#[]⟩, .string ⟨#[]⟩, .int .i64 0, .int .i64 0, .int .i64 0, .bool false, .int .i64 re] 41))) (own_drew (W := (((((w.alloc (.cells #[.int .i64 id, .slice ao n cap] 24)).alloc (.cells #[.int .i64 5, .int .i64 dev, .int .i64 ch, .int .i64 fid, .string p, .string nm, .int .i64 mode, .int .i64 num, .int .i64 to, .int .i64 off, .int .i64 wh, .int .i64 lg] 38)).alloc (.cells #[.int .i64 0, .slice none 0 0] 24)).alloc (.cells #[.int .i64 0, .int .i64 0, .int .i64 0, .int .i64 0, .int .i64 0, .string ⟨#[]⟩, .string ⟨#[]⟩, .int .i64 0, .int .i64 0, .int .i64 0, .bool false, .int .i64 0] 41)).alloc (.cells #[.int .i64 0, .int .i64 0, .int .i64 0, .int .i64 0, .int .i64 0, .string ⟨#[]⟩, .string ⟨#[]⟩, .int .i64 0, .int .i64 0, .int .i64 0, .bool false, .int .i64 0] 41))) hh) (Nat.le_refl _) (by simp)) (by simp; omega))
    · repeat (first | (with_reducible exact Below.refl _ _) | (with_reducible assumption) | (with_reducible refine below_to_plus ?_ ?_ _) | (with_reducible refine below_holds ?_ ?_ _ _) | (with_reducible refine Below.alloc ?_ ?_ _) | (with_reducible refine Below.drew ?_) | (with_reducible refine below_drewN ?_ _) | (with_reducible refine Below.setCell ?_ ?_ _))
      all_goals first | omega | (simp; done) | (simp [go_sem]; done) | (simp [go_sem]; omega)
  have f5 : (kind == 5) = false := by simp [k5]
  have ER : Aside (wantF xs kind dev ch fid p nm mode num to off wh lg = (xs, { n := 0, fd := default, last := false, err := 0 })) := by show _ = _; unfold wantF; rw [if_neg k1, if_neg k2, if_neg k3, if_neg k4, if_neg k5]
  clear hs0 hof ho hlg hp hnm k1 k2 k3 k4 k5 hb0
  go_enter Try.func19, Try.ntmps19
  go_wp2
  go_region
  all_goals go_wp2
  refine bodyPost_ret (v := .tuple #[.agg #[.int .i64 id, .slice ao n cap], .agg #[.int .i64 0, .int .i64 0, .int .i64 0, .int .i64 0, .int .i64 0, .string ⟨#[]⟩, .string ⟨#[]⟩, .int .i64 0, .int .i64 0, .int .i64 0, .bool false, .int .i64 0]]) (by simp [results, Try.results19, go_sem, ↓IntWalk.iteOmega]) rfl ⟨ao, cap, ?_, ?_, ?_⟩
  · rw [ER.out, HL.out]; rfl
  · rw [ER.out]; exact .inl ⟨rfl, rfl, rfl⟩
  · repeat (first | (with_reducible exact Below.refl _ _) | (with_reducible assumption) | (with_reducible refine below_to_plus ?_ ?_ _) | (with_reducible refine below_holds ?_ ?_ _ _) | (with_reducible refine Below.alloc ?_ ?_ _) | (with_reducible refine Below.drew ?_) | (with_reducible refine below_drewN ?_ _) | (with_reducible refine Below.setCell ?_ ?_ _))
    all_goals first | omega | (simp; done) | (simp [go_sem]; done) | (simp [go_sem]; omega)

end Go.Proofs.Ytbifanenoejjgaa
