/- This text proves the walks of New, Clear, copied, hold, end and Held of package cache, and of hold and Held of the reference. Conditions: those that each theorem names. -/
import Derived.Test.YtcgajlobbjoefaaCacheC
namespace Go.Proofs.Ytcgajlobbjoefaa
open Go.ChangeShapes Go.WideShapes Go.ChangeAt Go.RowKit
set_option linter.unusedVariables false
set_option linter.unusedSimpArgs false

def capF (most : Int) : Int := if most < 0 then 0 else if 256 < most then 256 else most
theorem own_from {w w' : World} {B : Nat} {E : TypeId} {k : Nat} {v : Value} {n : Nat} {l : List Value} (h : w.ownsRow B E k v n l) (hb : Below w.heap.size w w') : w'.ownsRow B E k v n l := by
  obtain ⟨x, rfl⟩ := plus_of_below hb
  exact own_plus h
theorem own_past {W W' x : World} {B : Nat} {E : TypeId} {k : Nat} {v : Value} {n : Nat} {l : List Value} (h : (plus W x).ownsRow B E k v n l) (hB : W.heap.size ≤ B) (hs : W'.heap.size = W.heap.size) : (plus W' x).ownsRow B E k v n l := by
  obtain ⟨h1, h2 | ⟨g, cap, cur, h3, h4, h5, h6⟩⟩ := h
  · exact ⟨h1, .inl h2⟩
  · refine ⟨h1, .inr ⟨g, cap, cur, h3, h4, ?_, h6⟩⟩
    simp only [plus, Array.getElem?_append] at h5 ⊢
    rw [if_neg (by omega)] at h5
    rw [if_neg (by omega), hs]
    exact h5
/-- A row of the caller's own, wherever it lies. -/
def ownV (B : Nat) (E : TypeId) (k n : Nat) (l : List Value) : SpecV := fun v _ _ w => w.ownsRow B E k v n l
theorem ownV_mono (B : Nat) (E : TypeId) (k n : Nat) (l : List Value) : (ownV B E k n l).Mono := fun v lo hi w w' h hb => own_from h hb
theorem specEnd_own {P : Program} {ops : Array Oper} {Q' : Exit → Act → World → Prop} {tail : List Oper} {B : Nat} {E : TypeId} {k m : Nat} {l : List Value} {d : Option Tmp} {rest : List (Option Tmp × SpecV)} {ivs : List (Nat × Nat)} {a : Act} {w : World}
    (h : ∀ v ivs', w.ownsRow B E k v m l → SpecEnd P ops Q' tail rest ivs' (a.put d v) w) :
    SpecEnd P ops Q' tail ((d, ownV B E k m l) :: rest) ivs a w := by
  rintro v lo hi h1 _ _ _
  exact h v _ h1

set_option maxHeartbeats 4000000 in
theorem new_calls (most : Int) (w : World) : Calls Try.prog 15 #[.int .i64 most] w fun e w' => e = .returned (.agg #[.int .i64 (capF most), .slice none 0 0, .slice none 0 0]) ∧ Below w.heap.size w w' := by
  have HR : Aside (capF most = if most < 0 then 0 else if 256 < most then 256 else most) := rfl
  generalize capF most = r at HR ⊢
  by_cases m1 : most < 0
  · have er : r = 0 := by rw [HR.out, if_pos m1]
    subst er
    clear HR
    go_enter Try.func15, Try.ntmps15
    go_wp2
    all_goals (refine bodyPost_ret (v := .agg #[.int .i64 0, .slice none 0 0, .slice none 0 0]) (by simp [results, Try.results15, go_sem, ↓IntWalk.iteOmega, *] <;> omega) rfl ⟨rfl, ?_⟩)
    all_goals (
      repeat (first | (with_reducible exact Below.refl _ _) | (with_reducible assumption) | (with_reducible refine below_to_plus ?_ ?_ _) | (with_reducible refine below_holds ?_ ?_ _ _) | (with_reducible refine Below.alloc ?_ ?_ _) | (with_reducible refine Below.drew ?_) | (with_reducible refine below_drewN ?_ _) | (with_reducible refine Below.setCell ?_ ?_ _))
      all_goals first | omega | (simp; done) | (simp [go_sem]; done) | (simp [go_sem]; omega))
  · by_cases m2 : 256 < most
    · have er : r = 256 := by rw [HR.out, if_neg m1, if_pos m2]
      subst er
      clear HR
      go_enter Try.func15, Try.ntmps15
      go_wp2
      all_goals (refine bodyPost_ret (v := .agg #[.int .i64 256, .slice none 0 0, .slice none 0 0]) (by simp [results, Try.results15, go_sem, ↓IntWalk.iteOmega, *] <;> omega) rfl ⟨rfl, ?_⟩)
      all_goals (
        repeat (first | (with_reducible exact Below.refl _ _) | (with_reducible assumption) | (with_reducible refine below_to_plus ?_ ?_ _) | (with_reducible refine below_holds ?_ ?_ _ _) | (with_reducible refine Below.alloc ?_ ?_ _) | (with_reducible refine Below.drew ?_) | (with_reducible refine below_drewN ?_ _) | (with_reducible refine Below.setCell ?_ ?_ _))
        all_goals first | omega | (simp; done) | (simp [go_sem]; done) | (simp [go_sem]; omega))
    · have er : r = most := by rw [HR.out, if_neg m1, if_neg m2]
      subst er
      clear HR
      go_enter Try.func15, Try.ntmps15
      go_wp2
      all_goals (refine bodyPost_ret (v := .agg #[.int .i64 r, .slice none 0 0, .slice none 0 0]) (by simp [results, Try.results15, go_sem, ↓IntWalk.iteOmega, *] <;> omega) rfl ⟨rfl, ?_⟩)
      all_goals (
        repeat (first | (with_reducible exact Below.refl _ _) | (with_reducible assumption) | (with_reducible refine below_to_plus ?_ ?_ _) | (with_reducible refine below_holds ?_ ?_ _ _) | (with_reducible refine Below.alloc ?_ ?_ _) | (with_reducible refine Below.drew ?_) | (with_reducible refine below_drewN ?_ _) | (with_reducible refine Below.setCell ?_ ?_ _))
        all_goals first | omega | (simp; done) | (simp [go_sem]; done) | (simp [go_sem]; omega))

set_option maxHeartbeats 4000000 in
theorem rnew_calls (most : Int) (w : World) : Calls Try.prog 16 #[.int .i64 most] w fun e w' => e = .returned (.agg #[.int .i64 (capF most), .slice none 0 0, .slice none 0 0]) ∧ Below w.heap.size w w' := by
  have HR : Aside (capF most = if most < 0 then 0 else if 256 < most then 256 else most) := rfl
  generalize capF most = r at HR ⊢
  by_cases m1 : most < 0
  · have er : r = 0 := by rw [HR.out, if_pos m1]
    subst er
    clear HR
    go_enter Try.func16, Try.ntmps16
    go_wp2
    all_goals (refine bodyPost_ret (v := .agg #[.int .i64 0, .slice none 0 0, .slice none 0 0]) (by simp [results, Try.results16, go_sem, ↓IntWalk.iteOmega, *] <;> omega) rfl ⟨rfl, ?_⟩)
    all_goals (
      repeat (first | (with_reducible exact Below.refl _ _) | (with_reducible assumption) | (with_reducible refine below_to_plus ?_ ?_ _) | (with_reducible refine below_holds ?_ ?_ _ _) | (with_reducible refine Below.alloc ?_ ?_ _) | (with_reducible refine Below.drew ?_) | (with_reducible refine below_drewN ?_ _) | (with_reducible refine Below.setCell ?_ ?_ _))
      all_goals first | omega | (simp; done) | (simp [go_sem]; done) | (simp [go_sem]; omega))
  · by_cases m2 : 256 < most
    · have er : r = 256 := by rw [HR.out, if_neg m1, if_pos m2]
      subst er
      clear HR
      go_enter Try.func16, Try.ntmps16
      go_wp2
      all_goals (refine bodyPost_ret (v := .agg #[.int .i64 256, .slice none 0 0, .slice none 0 0]) (by simp [results, Try.results16, go_sem, ↓IntWalk.iteOmega, *] <;> omega) rfl ⟨rfl, ?_⟩)
      all_goals (
        repeat (first | (with_reducible exact Below.refl _ _) | (with_reducible assumption) | (with_reducible refine below_to_plus ?_ ?_ _) | (with_reducible refine below_holds ?_ ?_ _ _) | (with_reducible refine Below.alloc ?_ ?_ _) | (with_reducible refine Below.drew ?_) | (with_reducible refine below_drewN ?_ _) | (with_reducible refine Below.setCell ?_ ?_ _))
        all_goals first | omega | (simp; done) | (simp [go_sem]; done) | (simp [go_sem]; omega))
    · have er : r = most := by rw [HR.out, if_neg m1, if_neg m2]
      subst er
      clear HR
      go_enter Try.func16, Try.ntmps16
      go_wp2
      all_goals (refine bodyPost_ret (v := .agg #[.int .i64 r, .slice none 0 0, .slice none 0 0]) (by simp [results, Try.results16, go_sem, ↓IntWalk.iteOmega, *] <;> omega) rfl ⟨rfl, ?_⟩)
      all_goals (
        repeat (first | (with_reducible exact Below.refl _ _) | (with_reducible assumption) | (with_reducible refine below_to_plus ?_ ?_ _) | (with_reducible refine below_holds ?_ ?_ _ _) | (with_reducible refine Below.alloc ?_ ?_ _) | (with_reducible refine Below.drew ?_) | (with_reducible refine below_drewN ?_ _) | (with_reducible refine Below.setCell ?_ ?_ _))
        all_goals first | omega | (simp; done) | (simp [go_sem]; done) | (simp [go_sem]; omega))

set_option maxHeartbeats 4000000 in
theorem clear_calls (cp : Int) (v1 v2 : Value) (w : World) (hv1 : v1.oneCell' = true) (hv2 : v2.oneCell' = true) (ao : Option Addr) (n c1 : Nat) (ao2 : Option Addr) (n2 c2 : Nat) (e1 : v1 = .slice ao n c1) (e2 : v2 = .slice ao2 n2 c2) : Calls Try.prog 40 #[.agg #[.int .i64 cp, v1, v2]] w fun e w' => e = .returned (.agg #[.int .i64 cp, .slice none 0 0, .slice none 0 0]) ∧ Below w.heap.size w w' := by
  subst e1
  subst e2
  go_enter Try.func40, Try.ntmps40
  go_wp2
  refine bodyPost_ret (v := .agg #[.int .i64 cp, .slice none 0 0, .slice none 0 0]) (by simp [results, Try.results40, go_sem, ↓IntWalk.iteOmega]) rfl ⟨rfl, ?_⟩
  repeat (first | (with_reducible exact Below.refl _ _) | (with_reducible assumption) | (with_reducible refine below_to_plus ?_ ?_ _) | (with_reducible refine below_holds ?_ ?_ _ _) | (with_reducible refine Below.alloc ?_ ?_ _) | (with_reducible refine Below.drew ?_) | (with_reducible refine below_drewN ?_ _) | (with_reducible refine Below.setCell ?_ ?_ _))
  all_goals first | omega | (simp; done) | (simp [go_sem]; done) | (simp [go_sem]; omega)

set_option maxHeartbeats 4000000 in
theorem rclear_calls (cp : Int) (v1 v2 : Value) (w : World) (hv1 : v1.oneCell' = true) (hv2 : v2.oneCell' = true) (ao : Option Addr) (n c1 : Nat) (ao2 : Option Addr) (n2 c2 : Nat) (e1 : v1 = .slice ao n c1) (e2 : v2 = .slice ao2 n2 c2) : Calls Try.prog 46 #[.agg #[.int .i64 cp, v1, v2]] w fun e w' => e = .returned (.agg #[.int .i64 cp, .slice none 0 0, .slice none 0 0]) ∧ Below w.heap.size w w' := by
  subst e1
  subst e2
  go_enter Try.func46, Try.ntmps46
  go_wp2
  refine bodyPost_ret (v := .agg #[.int .i64 cp, .slice none 0 0, .slice none 0 0]) (by simp [results, Try.results46, go_sem, ↓IntWalk.iteOmega]) rfl ⟨rfl, ?_⟩
  repeat (first | (with_reducible exact Below.refl _ _) | (with_reducible assumption) | (with_reducible refine below_to_plus ?_ ?_ _) | (with_reducible refine below_holds ?_ ?_ _ _) | (with_reducible refine Below.alloc ?_ ?_ _) | (with_reducible refine Below.drew ?_) | (with_reducible refine below_drewN ?_ _) | (with_reducible refine Below.setCell ?_ ?_ _))
  all_goals first | omega | (simp; done) | (simp [go_sem]; done) | (simp [go_sem]; omega)

/-- What copied returns. -/
def CopPost (w : World) (cp : Int) (bl : List Pc) (hs : List Hd) (e : Ending) (w' : World) : Prop :=
  ∃ a1 k1 a2 k2, e = .returned (.agg #[.int .i64 cp, .slice a1 bl.length k1, .slice a2 hs.length k2]) ∧ w'.ownsRow w.heap.size 47 4 (.slice a1 bl.length k1) bl.length (flatE Pc.enc bl) ∧ w'.ownsRow w.heap.size 36 3 (.slice a2 hs.length k2) hs.length (flatE Hd.enc hs) ∧ Below w.heap.size w w'

set_option maxHeartbeats 4000000 in
theorem copied_calls (cp : Int) (ao : Option Addr) (n c1 : Nat) (ao2 : Option Addr) (n2 c2 : Nat) (bl : List Pc) (hs : List Hd) (w : World) (h1 : Sl w 4 ao n c1 (bl.map Pc.enc)) (h2 : Sl w 3 ao2 n2 c2 (hs.map Hd.enc)) (hn : n ≤ 1000000) (hn2 : n2 ≤ 1000000) :
    Calls Try.prog 32 #[.agg #[.int .i64 cp, .slice ao n c1, .slice ao2 n2 c2]] w fun e w' => CopPost w cp bl hs e w' := by
  have hb0 : Below w.heap.size w ((w.alloc (.cells #[.int .i64 cp, .slice ao n c1, .slice ao2 n2 c2] 25)).alloc (.cells #[.int .i64 0, .slice none 0 0, .slice none 0 0] 25)) := ((Below.refl _ w).alloc (Nat.le_refl _) _).alloc (by simp) _
  have HL : Aside (bl.length = n) := Sl.lenE h1
  have HL2 : Aside (hs.length = n2) := Sl.lenE h2
  have k1 := fun x => (pcClone_calls ao n c1 bl (plus ((w.alloc (.cells #[.int .i64 cp, .slice ao n c1, .slice ao2 n2 c2] 25)).alloc (.cells #[.int .i64 0, .slice none 0 0, .slice none 0 0] 25)) x) ((h1.stays hb0).stays (below_plus _ _)) hn)
  have k2 := fun x => (hdClone_calls ao2 n2 c2 hs (plus ((w.alloc (.cells #[.int .i64 cp, .slice ao n c1, .slice ao2 n2 c2] 25)).alloc (.cells #[.int .i64 0, .slice none 0 0, .slice none 0 0] 25)) x) ((h2.stays hb0).stays (below_plus _ _)) hn2)
  clear h1 h2
  go_enter Try.func32, Try.ntmps32
  go_wp2
  refine wp_region_mix_plus 8 [4, 7] (by kernel_rfl) (by kernel_rfl) ?_
  simp only [List.take, List.drop]
  refine mix_quiet rfl rfl (fun K hK => ?_)
  simp [go_sem, ↓IntWalk.iteOmega, *]
  refine hK _ ?_
  clear hK
  clear K
  refine mix_quiet rfl rfl (fun K hK => ?_)
  simp [go_sem, ↓IntWalk.iteOmega, *]
  refine hK _ ?_
  clear hK
  clear K
  refine mix_quiet rfl rfl (fun K hK => ?_)
  simp [go_sem, ↓IntWalk.iteOmega, *]
  refine hK _ ?_
  clear hK
  clear K
  refine mix_quiet rfl rfl (fun K hK => ?_)
  simp [go_sem, ↓IntWalk.iteOmega, *]
  refine hK _ ?_
  clear hK
  clear K
  refine mix_call (ownV ((w.alloc (.cells #[.int .i64 cp, .slice ao n c1, .slice ao2 n2 c2] 25)).alloc (.cells #[.int .i64 0, .slice none 0 0, .slice none 0 0] 25)).heap.size 47 4 n (flatE Pc.enc bl)) (ownV_mono _ _ _ _ _) 54 #[.slice ao n c1] rfl rfl (fun x => by simp [go_sem]) (fun x => (k1 x).mono (by rintro e w2 ⟨v, rfl, ho, hb⟩; exact ⟨v, rfl, hb, own_lower ho (below_plus _ _).size⟩)) ?_
  refine mix_quiet rfl rfl (fun K hK => ?_)
  simp [go_sem, ↓IntWalk.iteOmega, *]
  refine hK _ ?_
  clear hK
  clear K
  refine mix_quiet rfl rfl (fun K hK => ?_)
  simp [go_sem, ↓IntWalk.iteOmega, *]
  refine hK _ ?_
  clear hK
  clear K
  refine mix_call (ownV ((w.alloc (.cells #[.int .i64 cp, .slice ao n c1, .slice ao2 n2 c2] 25)).alloc (.cells #[.int .i64 0, .slice none 0 0, .slice none 0 0] 25)).heap.size 36 3 n2 (flatE Hd.enc hs)) (ownV_mono _ _ _ _ _) 55 #[.slice ao2 n2 c2] rfl rfl (fun x => by simp [go_sem]) (fun x => (k2 x).mono (by rintro e w2 ⟨v, rfl, ho, hb⟩; exact ⟨v, rfl, hb, own_lower ho (below_plus _ _).size⟩)) ?_
  refine mix_nil ?_
  rintro _ ⟨x, rfl⟩
  refine specEnd_own (fun v1 _ o1 => ?_)
  refine specEnd_own (fun v2 _ o2 => ?_)
  refine specEnd_nil ?_
  simp only [Act.put, Array.setIfInBounds, List.size_toArray, List.length_cons, List.length_nil, Nat.reduceAdd, Nat.reduceLT, dite_true, List.set_toArray, List.set_cons_succ, List.set_cons_zero]
  obtain ⟨a1, b1, rfl, _⟩ := ownE_sl pc_len (by omega) o1
  obtain ⟨a2, b2, rfl, _⟩ := ownE_sl hd_len (by omega) o2
  have O1 : Aside ((plus ((w.alloc (.cells #[.int .i64 cp, .slice ao n c1, .slice ao2 n2 c2] 25)).alloc (.cells #[.int .i64 0, .slice none 0 0, .slice none 0 0] 25)) x).ownsRow ((w.alloc (.cells #[.int .i64 cp, .slice ao n c1, .slice ao2 n2 c2] 25)).alloc (.cells #[.int .i64 0, .slice none 0 0, .slice none 0 0] 25)).heap.size 47 4 (.slice a1 n b1) n (flatE Pc.enc bl)) := o1
  have O2 : Aside ((plus ((w.alloc (.cells #[.int .i64 cp, .slice ao n c1, .slice ao2 n2 c2] 25)).alloc (.cells #[.int .i64 0, .slice none 0 0, .slice none 0 0] 25)) x).ownsRow ((w.alloc (.cells #[.int .i64 cp, .slice ao n c1, .slice ao2 n2 c2] 25)).alloc (.cells #[.int .i64 0, .slice none 0 0, .slice none 0 0] 25)).heap.size 36 3 (.slice a2 n2 b2) n2 (flatE Hd.enc hs)) := o2
  clear o1 o2 k1 k2
  go_wp2
  refine bodyPost_ret (v := .agg #[.int .i64 cp, .slice a1 n b1, .slice a2 n2 b2]) (by simp [results, Try.results32, go_sem]) rfl ⟨a1, b1, a2, b2, by rw [HL.out, HL2.out], ?_, ?_, ?_⟩
  · rw [HL.out]
    exact own_lower (own_past O1.out (Nat.le_refl _) (by simp)) (by simp; omega)
  · rw [HL2.out]
    exact own_lower (own_past O2.out (Nat.le_refl _) (by simp)) (by simp; omega)
  · repeat (first | (with_reducible exact Below.refl _ _) | (with_reducible assumption) | (with_reducible refine below_to_plus ?_ ?_ _) | (with_reducible refine below_holds ?_ ?_ _ _) | (with_reducible refine Below.alloc ?_ ?_ _) | (with_reducible refine Below.drew ?_) | (with_reducible refine below_drewN ?_ _) | (with_reducible refine Below.setCell ?_ ?_ _))
    all_goals first | omega | (simp; done) | (simp [go_sem]; done) | (simp [go_sem]; omega)

end Go.Proofs.Ytcgajlobbjoefaa
