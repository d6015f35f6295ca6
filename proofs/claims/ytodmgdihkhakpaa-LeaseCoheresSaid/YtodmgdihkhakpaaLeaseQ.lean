/- This text proves the walk of Grant of the reference. Conditions: those that each theorem names. -/
import Derived.Test.YtodmgdihkhakpaaLeaseP
namespace Go.Proofs.Ytodmgdihkhakpaa
open Go.ChangeShapes Go.WideShapes Go.ChangeAt Go.RowKit
set_option linter.unusedVariables false

def rstep (x : Le) (st : List Le × Bool) (y : Le) : List Le × Bool :=
  if y.id = x.id ∧ y.conn = x.conn then st
  else if st.2 = false ∧ beforeB x y = true then (st.1 ++ [x] ++ [y], true) else (st.1 ++ [y], st.2)
theorem rstep_skip (x : Le) (st : List Le × Bool) (y : Le) (h : y.id = x.id ∧ y.conn = x.conn) : rstep x st y = st := by unfold rstep; rw [if_pos h]
theorem rstep_done (x : Le) (o : List Le) (y : Le) (h : ¬ (y.id = x.id ∧ y.conn = x.conn)) : rstep x (o, true) y = (o ++ [y], true) := by unfold rstep; rw [if_neg h, if_neg (by simp)]
theorem rstep_put (x : Le) (o : List Le) (y : Le) (h : ¬ (y.id = x.id ∧ y.conn = x.conn)) (hb : beforeB x y = true) : rstep x (o, false) y = (o ++ [x] ++ [y], true) := by unfold rstep; rw [if_neg h, if_pos ⟨rfl, hb⟩]
theorem rstep_not (x : Le) (o : List Le) (y : Le) (h : ¬ (y.id = x.id ∧ y.conn = x.conn)) (hb : beforeB x y = false) : rstep x (o, false) y = (o ++ [y], false) := by unfold rstep; rw [if_neg h, if_neg (by simp [hb])]
def rput (x : Le) (ys : List Le) : List Le := if (ys.foldl (rstep x) ([], false)).2 then (ys.foldl (rstep x) ([], false)).1 else (ys.foldl (rstep x) ([], false)).1 ++ [x]
def rgrantF (xs : List Le) (cn fid kd tm now : Int) : List Le × Int × Int :=
  if reqB cn fid kd tm now then
    if (liveL xs now).any (fun y => conflictB ⟨cn, fid, kd, now + tm⟩ y) then (xs, 0, 32)
    else if 64 < (rput ⟨cn, fid, kd, now + tm⟩ (liveL xs now)).length then (xs, 0, 22)
    else (rput ⟨cn, fid, kd, now + tm⟩ (liveL xs now), now + tm, 0)
  else (xs, 0, 1)

def RGrantPost (w : World) (r : List Le × Int × Int) (e : Ending) (w' : World) : Prop :=
  Below w.heap.size w w' ∧ ∃ ao' cap', e = .returned (.tuple #[.slice ao' r.1.length cap', .int .i64 r.2.1, .int .i64 r.2.2]) ∧ Sl w' 4 ao' r.1.length cap' (r.1.map Le.enc)
theorem rg_err {w w' : World} {ao : Option Addr} {n cap : Nat} {xs : List Le} {k : Int} (h : Sl w 4 ao n cap (xs.map Le.enc)) (hln : xs.length = n) (hb : Below w.heap.size w w') : RGrantPost w (xs, 0, k) (.returned (.tuple #[.slice ao n cap, .int .i64 0, .int .i64 k])) w' :=
  ⟨hb, ao, cap, by rw [hln], by rw [hln]; exact h.stays hb⟩
theorem cell_four_new' (wr : World) (a b c d : Value) (t : TypeId) (n : Nat) (hn : n = wr.heap.size) : ∀ j u, ([a, b, c, d] : List Value)[j]? = some u → (wr.alloc (.cells #[a, b, c, d] t)).cell? ((⟨n, 0, none⟩ : Addr).add j) = some u := by
  subst hn
  exact cell_four_new wr a b c d t

/-- The state of the reference's Grant: what has been collected. -/
def RgSt (x : Le) (ys : List Le) (U1 : World) (idx : Nat) (ao' : Option Addr) (cap' m : Nat) (out : List Le) (done : Bool) (wr : World) : Prop :=
  (ys.take idx).foldl (rstep x) ([], false) = (out, done) ∧ out.length = m ∧ Below U1.heap.size U1 wr ∧ wr.ownsRow U1.heap.size 36 4 (.slice ao' m cap') m (flat out) ∧ ∀ j, j < idx → conflictB x ys[j]! = false

/-- What an append of one lease to a row of its own leaves. -/
theorem app_state {U1 W0 w' : World} {v v' : Value} {m : Nat} {o : List Le} {y : Le} (hB : Below U1.heap.size U1 W0) (ho : W0.ownsRow U1.heap.size 36 4 v m (flat o)) (ho' : w'.ownsRow U1.heap.size 36 4 v' (m + 1) (flat o ++ y.enc)) (hg : W0.grownBy w' v.ownBlock) :
    ∃ ao2 cap2, v' = .slice ao2 (m + 1) cap2 ∧ Below U1.heap.size U1 w' ∧ w'.ownsRow U1.heap.size 36 4 (.slice ao2 (m + 1) cap2) (m + 1) (flat (o ++ [y])) := by
  have e : flat o ++ y.enc = flat (o ++ [y]) := by rw [flat_append]; rfl
  rw [e] at ho'
  obtain ⟨l1, l2⟩ := ho'
  have hl : (o ++ [y]).length = m + 1 := by rw [flat_length] at l1; omega
  obtain ⟨ao2, cap2, hv, _⟩ := own_sl (xs := o ++ [y]) (n := m + 1) ⟨l1, l2⟩
  subst hv
  exact ⟨ao2, cap2, rfl, hB.grown hg hB.size (fun k hk => (ho.lt k hk).1), l1, l2⟩

set_option maxHeartbeats 4000000 in
theorem rgrant_no (ao : Option Addr) (n cap : Nat) (xs : List Le) (cn fid kd tm now : Int) (w : World) (h : Sl w 4 ao n cap (xs.map Le.enc)) (hn : n ≤ 1000000) (hr : reqB cn fid kd tm now = false) :
    Calls Try.prog 13 #[.slice ao n cap, .int .i64 cn, .int .i64 fid, .int .i64 kd, .int .i64 tm, .int .i64 now] w fun e w' => RGrantPost w (xs, 0, 1) e w' := by
  have hln := Sl.len h
  have HB : Aside (Below w.heap.size w w) := Below.refl _ _
  have w1 := fun w => in_calls cn 1 1099511627776 w
  have w2 := fun w => in_calls fid 1 1099511627776 w
  have w3 := fun w => kindly_calls kd w
  have w4 := fun w => in_calls tm 1 1048576 w
  have w5 := fun w => in_calls now 0 1099511627776 w
  unfold reqB at hr
  generalize inB cn 1 1099511627776 = b1 at w1 hr
  generalize inB fid 1 1099511627776 = b2 at w2 hr
  generalize kindB kd = b3 at w3 hr
  generalize inB tm 1 1048576 = b4 at w4 hr
  generalize inB now 0 1099511627776 = b5 at w5 hr
  cases b1 with
  | false =>
    clear hr
    go_enter Try.func13, Try.ntmps13
    go_wp2_with (first | (go_at_call 30; (with_reducible refine (w1 _).mono ?_); (rintro e W ⟨rfl, hb⟩; (have HB' : Aside (Below w.heap.size w _) := HB.out.trans (hb.mono HB.out.size)); clear hb HB; have HB := HB'; clear HB')) | (go_at_call 30; (with_reducible refine (w2 _).mono ?_); (rintro e W ⟨rfl, hb⟩; (have HB' : Aside (Below w.heap.size w _) := HB.out.trans (hb.mono HB.out.size)); clear hb HB; have HB := HB'; clear HB')) | (go_at_call 31; (with_reducible refine (w3 _).mono ?_); (rintro e W ⟨rfl, hb⟩; (have HB' : Aside (Below w.heap.size w _) := HB.out.trans (hb.mono HB.out.size)); clear hb HB; have HB := HB'; clear HB')) | (go_at_call 30; (with_reducible refine (w4 _).mono ?_); (rintro e W ⟨rfl, hb⟩; (have HB' : Aside (Below w.heap.size w _) := HB.out.trans (hb.mono HB.out.size)); clear hb HB; have HB := HB'; clear HB')) | (go_at_call 30; (with_reducible refine (w5 _).mono ?_); (rintro e W ⟨rfl, hb⟩; (have HB' : Aside (Below w.heap.size w _) := HB.out.trans (hb.mono HB.out.size)); clear hb HB; have HB := HB'; clear HB')))
    refine bodyPost_ret (v := .tuple #[.slice ao n cap, .int .i64 0, .int .i64 1]) (by simp [results, Try.results13, go_sem]) rfl ?_
    exact rg_err h hln HB.out
  | true =>
  cases b2 with
  | false =>
    clear hr
    go_enter Try.func13, Try.ntmps13
    go_wp2_with (first | (go_at_call 30; (with_reducible refine (w1 _).mono ?_); (rintro e W ⟨rfl, hb⟩; (have HB' : Aside (Below w.heap.size w _) := HB.out.trans (hb.mono HB.out.size)); clear hb HB; have HB := HB'; clear HB')) | (go_at_call 30; (with_reducible refine (w2 _).mono ?_); (rintro e W ⟨rfl, hb⟩; (have HB' : Aside (Below w.heap.size w _) := HB.out.trans (hb.mono HB.out.size)); clear hb HB; have HB := HB'; clear HB')) | (go_at_call 31; (with_reducible refine (w3 _).mono ?_); (rintro e W ⟨rfl, hb⟩; (have HB' : Aside (Below w.heap.size w _) := HB.out.trans (hb.mono HB.out.size)); clear hb HB; have HB := HB'; clear HB')) | (go_at_call 30; (with_reducible refine (w4 _).mono ?_); (rintro e W ⟨rfl, hb⟩; (have HB' : Aside (Below w.heap.size w _) := HB.out.trans (hb.mono HB.out.size)); clear hb HB; have HB := HB'; clear HB')) | (go_at_call 30; (with_reducible refine (w5 _).mono ?_); (rintro e W ⟨rfl, hb⟩; (have HB' : Aside (Below w.heap.size w _) := HB.out.trans (hb.mono HB.out.size)); clear hb HB; have HB := HB'; clear HB')))
    refine bodyPost_ret (v := .tuple #[.slice ao n cap, .int .i64 0, .int .i64 1]) (by simp [results, Try.results13, go_sem]) rfl ?_
    exact rg_err h hln HB.out
  | true =>
  cases b3 with
  | false =>
    clear hr
    go_enter Try.func13, Try.ntmps13
    go_wp2_with (first | (go_at_call 30; (with_reducible refine (w1 _).mono ?_); (rintro e W ⟨rfl, hb⟩; (have HB' : Aside (Below w.heap.size w _) := HB.out.trans (hb.mono HB.out.size)); clear hb HB; have HB := HB'; clear HB')) | (go_at_call 30; (with_reducible refine (w2 _).mono ?_); (rintro e W ⟨rfl, hb⟩; (have HB' : Aside (Below w.heap.size w _) := HB.out.trans (hb.mono HB.out.size)); clear hb HB; have HB := HB'; clear HB')) | (go_at_call 31; (with_reducible refine (w3 _).mono ?_); (rintro e W ⟨rfl, hb⟩; (have HB' : Aside (Below w.heap.size w _) := HB.out.trans (hb.mono HB.out.size)); clear hb HB; have HB := HB'; clear HB')) | (go_at_call 30; (with_reducible refine (w4 _).mono ?_); (rintro e W ⟨rfl, hb⟩; (have HB' : Aside (Below w.heap.size w _) := HB.out.trans (hb.mono HB.out.size)); clear hb HB; have HB := HB'; clear HB')) | (go_at_call 30; (with_reducible refine (w5 _).mono ?_); (rintro e W ⟨rfl, hb⟩; (have HB' : Aside (Below w.heap.size w _) := HB.out.trans (hb.mono HB.out.size)); clear hb HB; have HB := HB'; clear HB')))
    refine bodyPost_ret (v := .tuple #[.slice ao n cap, .int .i64 0, .int .i64 1]) (by simp [results, Try.results13, go_sem]) rfl ?_
    exact rg_err h hln HB.out
  | true =>
  cases b4 with
  | false =>
    clear hr
    go_enter Try.func13, Try.ntmps13
    go_wp2_with (first | (go_at_call 30; (with_reducible refine (w1 _).mono ?_); (rintro e W ⟨rfl, hb⟩; (have HB' : Aside (Below w.heap.size w _) := HB.out.trans (hb.mono HB.out.size)); clear hb HB; have HB := HB'; clear HB')) | (go_at_call 30; (with_reducible refine (w2 _).mono ?_); (rintro e W ⟨rfl, hb⟩; (have HB' : Aside (Below w.heap.size w _) := HB.out.trans (hb.mono HB.out.size)); clear hb HB; have HB := HB'; clear HB')) | (go_at_call 31; (with_reducible refine (w3 _).mono ?_); (rintro e W ⟨rfl, hb⟩; (have HB' : Aside (Below w.heap.size w _) := HB.out.trans (hb.mono HB.out.size)); clear hb HB; have HB := HB'; clear HB')) | (go_at_call 30; (with_reducible refine (w4 _).mono ?_); (rintro e W ⟨rfl, hb⟩; (have HB' : Aside (Below w.heap.size w _) := HB.out.trans (hb.mono HB.out.size)); clear hb HB; have HB := HB'; clear HB')) | (go_at_call 30; (with_reducible refine (w5 _).mono ?_); (rintro e W ⟨rfl, hb⟩; (have HB' : Aside (Below w.heap.size w _) := HB.out.trans (hb.mono HB.out.size)); clear hb HB; have HB := HB'; clear HB')))
    refine bodyPost_ret (v := .tuple #[.slice ao n cap, .int .i64 0, .int .i64 1]) (by simp [results, Try.results13, go_sem]) rfl ?_
    exact rg_err h hln HB.out
  | true =>
  cases b5 with
  | false =>
    clear hr
    go_enter Try.func13, Try.ntmps13
    go_wp2_with (first | (go_at_call 30; (with_reducible refine (w1 _).mono ?_); (rintro e W ⟨rfl, hb⟩; (have HB' : Aside (Below w.heap.size w _) := HB.out.trans (hb.mono HB.out.size)); clear hb HB; have HB := HB'; clear HB')) | (go_at_call 30; (with_reducible refine (w2 _).mono ?_); (rintro e W ⟨rfl, hb⟩; (have HB' : Aside (Below w.heap.size w _) := HB.out.trans (hb.mono HB.out.size)); clear hb HB; have HB := HB'; clear HB')) | (go_at_call 31; (with_reducible refine (w3 _).mono ?_); (rintro e W ⟨rfl, hb⟩; (have HB' : Aside (Below w.heap.size w _) := HB.out.trans (hb.mono HB.out.size)); clear hb HB; have HB := HB'; clear HB')) | (go_at_call 30; (with_reducible refine (w4 _).mono ?_); (rintro e W ⟨rfl, hb⟩; (have HB' : Aside (Below w.heap.size w _) := HB.out.trans (hb.mono HB.out.size)); clear hb HB; have HB := HB'; clear HB')) | (go_at_call 30; (with_reducible refine (w5 _).mono ?_); (rintro e W ⟨rfl, hb⟩; (have HB' : Aside (Below w.heap.size w _) := HB.out.trans (hb.mono HB.out.size)); clear hb HB; have HB := HB'; clear HB')))
    refine bodyPost_ret (v := .tuple #[.slice ao n cap, .int .i64 0, .int .i64 1]) (by simp [results, Try.results13, go_sem]) rfl ?_
    exact rg_err h hln HB.out
  | true =>
  cases hr

set_option maxHeartbeats 8000000 in
set_option maxRecDepth 20000 in
theorem rgrant_yes (ao : Option Addr) (n cap : Nat) (xs : List Le) (cn fid kd tm now : Int) (w : World) (h : Sl w 4 ao n cap (xs.map Le.enc)) (hn : n ≤ 1000000) (hr : reqB cn fid kd tm now = true) :
    Calls Try.prog 13 #[.slice ao n cap, .int .i64 cn, .int .i64 fid, .int .i64 kd, .int .i64 tm, .int .i64 now] w fun e w' => RGrantPost w (rgrantF xs cn fid kd tm now) e w' := by
  have hln := Sl.len h
  obtain ⟨i0, hi0, hz0, hs0, hb0⟩ := leaseInfo
  have cClean : ∀ W, Below w.heap.size w W → Calls Try.prog 25 #[.slice ao n cap, .int .i64 now] W fun e U => ∃ ao2 cap2, e = .returned (.slice ao2 (liveL xs now).length cap2) ∧ Below w.heap.size w U ∧ CellsL U ao2 (liveL xs now) := fun W hb =>
    (rlive_sl ao n cap xs now W (h.stays hb) hn).mono fun e U ⟨a2, c2, he, hb2, hc⟩ => ⟨a2, c2, he, hb.trans (hb2.mono hb.size), hc⟩
  have hlen : (liveL xs now).length ≤ 1000000 := by have := live_length xs now; omega
  have hF := rgrantF.eq_1 xs cn fid kd tm now
  rw [if_pos hr] at hF
  have HF : Aside (_ = _) := hF
  clear hF
  generalize hRES : rgrantF xs cn fid kd tm now = RES at HF ⊢
  clear hRES
  generalize liveL xs now = ys at cClean hlen HF
  have hr' := hr
  unfold reqB at hr'
  simp only [Bool.and_eq_true] at hr'
  obtain ⟨⟨⟨⟨h1, h2⟩, h3⟩, h4⟩, h5⟩ := hr'
  have hb4 : 1 ≤ tm ∧ tm ≤ 1048576 := by unfold inB at h4; exact of_decide_eq_true h4
  have hb5 : 0 ≤ now ∧ now ≤ 1099511627776 := by unfold inB at h5; exact of_decide_eq_true h5
  obtain ⟨hb41, hb42⟩ := hb4
  obtain ⟨hb51, hb52⟩ := hb5
  have HB : Aside (Below w.heap.size w w) := Below.refl _ _
  have w1 := fun w => in_calls cn 1 1099511627776 w
  have w2 := fun w => in_calls fid 1 1099511627776 w
  have w3 := fun w => kindly_calls kd w
  have w4 := fun w => in_calls tm 1 1048576 w
  have w5 := fun w => in_calls now 0 1099511627776 w
  rw [h1] at w1
  rw [h2] at w2
  rw [h3] at w3
  rw [h4] at w4
  rw [h5] at w5
  have HS : Aside (Sl w 4 ao n cap (xs.map Le.enc)) := h
  have HLN : Aside (xs.length = n) := hln
  have hylen : ys.length ≤ 9223372036854775807 := by omega
  clear hr h1 h2 h3 h4 h5 h hln
  go_enter Try.func13, Try.ntmps13
  go_wp2_with (first | (go_at_call 30; (with_reducible refine (w1 _).mono ?_); (rintro e W ⟨rfl, hb⟩; (have HB' : Aside (Below w.heap.size w _) := HB.out.trans (hb.mono HB.out.size)); clear hb HB; have HB := HB'; clear HB')) | (go_at_call 30; (with_reducible refine (w2 _).mono ?_); (rintro e W ⟨rfl, hb⟩; (have HB' : Aside (Below w.heap.size w _) := HB.out.trans (hb.mono HB.out.size)); clear hb HB; have HB := HB'; clear HB')) | (go_at_call 31; (with_reducible refine (w3 _).mono ?_); (rintro e W ⟨rfl, hb⟩; (have HB' : Aside (Below w.heap.size w _) := HB.out.trans (hb.mono HB.out.size)); clear hb HB; have HB := HB'; clear HB')) | (go_at_call 30; (with_reducible refine (w4 _).mono ?_); (rintro e W ⟨rfl, hb⟩; (have HB' : Aside (Below w.heap.size w _) := HB.out.trans (hb.mono HB.out.size)); clear hb HB; have HB := HB'; clear HB')) | (go_at_call 30; (with_reducible refine (w5 _).mono ?_); (rintro e W ⟨rfl, hb⟩; (have HB' : Aside (Below w.heap.size w _) := HB.out.trans (hb.mono HB.out.size)); clear hb HB; have HB := HB'; clear HB')))
  refine (cClean _ HB.out).mono ?_
  rintro e U ⟨ao2, cap2, rfl, hbU, hcU⟩
  have HB1 : Aside (Below w.heap.size w (U.alloc (.cells #[.int .i64 cn, .int .i64 fid, .int .i64 kd, .int .i64 (now + tm)] 36))) := hbU.alloc hbU.size _
  have HC1 : Aside (CellsL (U.alloc (.cells #[.int .i64 cn, .int .i64 fid, .int .i64 kd, .int .i64 (now + tm)] 36)) ao2 ys) := hcU.later ((Below.refl _ U).alloc (Nat.le_refl _) _)
  have XC : Aside ((U.alloc (.cells #[.int .i64 cn, .int .i64 fid, .int .i64 kd, .int .i64 (now + tm)] 36)).cell? ⟨U.heap.size, 0, none⟩ = some (.int .i64 cn) ∧ (U.alloc (.cells #[.int .i64 cn, .int .i64 fid, .int .i64 kd, .int .i64 (now + tm)] 36)).cell? ⟨U.heap.size, 1, none⟩ = some (.int .i64 fid) ∧ (U.alloc (.cells #[.int .i64 cn, .int .i64 fid, .int .i64 kd, .int .i64 (now + tm)] 36)).cell? ⟨U.heap.size, 2, none⟩ = some (.int .i64 kd) ∧ (U.alloc (.cells #[.int .i64 cn, .int .i64 fid, .int .i64 kd, .int .i64 (now + tm)] 36)).cell? ⟨U.heap.size, 3, none⟩ = some (.int .i64 (now + tm))) := ⟨by simp [go_sem], by simp [go_sem], by simp [go_sem], by simp [go_sem]⟩
  have hxl : U.heap.size < (U.alloc (.cells #[.int .i64 cn, .int .i64 fid, .int .i64 kd, .int .i64 (now + tm)] 36)).heap.size := by simp
  clear cClean w1 w2 w3 w4 w5 HB hbU hcU
  go_wp2_with fail
  generalize U.alloc (.cells #[.int .i64 cn, .int .i64 fid, .int .i64 kd, .int .i64 (now + tm)] 36) = U1 at HB1 HC1 XC hxl ⊢
  generalize U.heap.size = xb at XC hxl ⊢
  have HB := HB1
  have HC := HC1
  clear HB1 HC1
  go_loopg [17, 18, 19] ys.length (fun k s17 s18 s19 wr => ∃ (idx : Nat) (ao' : Option Addr) (cap' m : Nat) (out : List Le) (done : Bool), s17 = .slice ao' m cap' ∧ s18 = .bool done ∧ s19 = .int .i64 (idx : Int) ∧ k + idx = ys.length ∧ m ≤ 2 * idx ∧
    RgSt ⟨cn, fid, kd, now + tm⟩ ys U1 idx ao' cap' m out done wr)
  case atStart => exact ⟨0, none, 0, 0, [], false, rfl, rfl, rfl, by omega, by omega, rfl, rfl, Below.refl _ _, World.ownsRow_nil _ _ _ _, fun j hj => absurd hj (Nat.not_lt_zero _)⟩
  case round =>
    obtain ⟨idx, ao', cap', m, out, done, rfl, rfl, rfl, hk, hm, ST⟩ := hrel
    by_cases hi : idx < ys.length
    · obtain ⟨b, off, rfl, hbw, q0, q1, q2, q3⟩ := HC.out idx hi
      have l0 := (ST.2.2.1.cell (p := ⟨b, off + idx * 4, none⟩) hbw).trans q0
      have l1 := (ST.2.2.1.cell (p := ⟨b, off + idx * 4 + 1, none⟩) hbw).trans q1
      have l2 := (ST.2.2.1.cell (p := ⟨b, off + idx * 4 + 2, none⟩) hbw).trans q2
      have l3 := (ST.2.2.1.cell (p := ⟨b, off + idx * 4 + 3, none⟩) hbw).trans q3
      have p0 := (ST.2.2.1.cell (p := ⟨xb, 0, none⟩) hxl).trans XC.out.1
      have p1 := (ST.2.2.1.cell (p := ⟨xb, 1, none⟩) hxl).trans XC.out.2.1
      have p2 := (ST.2.2.1.cell (p := ⟨xb, 2, none⟩) hxl).trans XC.out.2.2.1
      have p3 := (ST.2.2.1.cell (p := ⟨xb, 3, none⟩) hxl).trans XC.out.2.2.2
      clear q0 q1 q2 q3
      have HXB : Aside (xb < wr.heap.size) := Nat.lt_of_lt_of_le hxl ST.2.2.1.size
      have hxw := HXB.out
      have SF : Aside ((ys.take (idx + 1)).foldl (rstep ⟨cn, fid, kd, now + tm⟩) ([], false) = rstep ⟨cn, fid, kd, now + tm⟩ (out, done) ys[idx]!) := by show _ = _; rw [take_fold _ _ _ _ hi, ST.1]
      have NC : Aside (conflictB ⟨cn, fid, kd, now + tm⟩ ys[idx]! = false → ∀ j, j < idx + 1 → conflictB ⟨cn, fid, kd, now + tm⟩ ys[j]! = false) := fun h j hj => by
        rcases (by omega : j < idx ∨ j = idx) with h' | h'
        · exact ST.2.2.2.2 j h'
        · rw [h']; exact h
      have CF : Aside (conflictB ⟨cn, fid, kd, now + tm⟩ ys[idx]! = true → RES = (xs, 0, 32)) := fun h => by
        rw [HF.out, if_pos (any_hit _ ys idx hi h)]
      have FA := HF
      clear HF
      generalize ys[idx]! = y at l0 l1 l2 l3 SF NC CF
      obtain ⟨y1, y2, y3, y4⟩ := y
      simp only [] at l0 l1 l2 l3
      by_cases g1 : y2 = fid
      · by_cases g2 : y1 = cn
        · have CFV : Aside (conflictB ⟨cn, fid, kd, now + tm⟩ ⟨y1, y2, y3, y4⟩ = false) := by show _ = _; simp [conflictB, g1, g2]
          have G1 : Aside (y2 = fid) := g1
          have G2 : Aside (y1 = cn) := g2
          have e1 : (y2 == fid) = true := by simp [g1]
          have e2 : (y1 == cn) = true := by simp [g2]
          clear g1 g2
          have ST2 : RgSt ⟨cn, fid, kd, now + tm⟩ ys U1 (idx + 1) ao' cap' m out done (wr.alloc (.cells #[.int .i64 y1, .int .i64 y2, .int .i64 y3, .int .i64 y4] 36)) := ⟨by rw [SF.out, rstep_skip _ _ _ ⟨G1.out, G2.out⟩], ST.2.1, ST.2.2.1.alloc ST.2.2.1.size (.cells #[.int .i64 y1, .int .i64 y2, .int .i64 y3, .int .i64 y4] 36), ST.2.2.2.1.alloc _, NC.out CFV.out⟩
          clear SF NC FA HC CF ST HXB
          go_wp2
          go_roundg (gk - 1)
          case measure => omega
          case rel => exact ⟨idx + 1, ao', cap', m, out, done, rfl, rfl, by simp, by omega, by omega, ST2⟩
        · have e1 : (y2 == fid) = true := by simp [g1]
          have e2 : (y1 == cn) = false := by simp [g2]
          by_cases g3 : y3 = 2
          · have CFV : Aside (conflictB ⟨cn, fid, kd, now + tm⟩ ⟨y1, y2, y3, y4⟩ = true) := by show _ = _; simp [conflictB, g1, Ne.symm g2, g3]
            have e3 : (y3 == 2) = true := by simp [g3]
            have h := HS.out
            have hln := HLN.out
            clear HS HLN g1 g2 g3
            have RS : Aside (RES = (xs, 0, 32)) := CF.out CFV.out
            have HBF : Aside (Below w.heap.size w wr) := HB.out.trans (ST.2.2.1.mono HB.out.size)
            clear SF NC FA HC CF ST HXB
            go_wp2
            refine bodyPost_ret (v := .tuple #[.slice ao n cap, .int .i64 0, .int .i64 32]) (by simp [results, Try.results13, go_sem]) rfl ?_
            rw [RS.out]
            exact rg_err h hln (HBF.out.alloc HBF.out.size _)
          · have e3 : (y3 == 2) = false := by simp [g3]
            by_cases g4 : kd = 2
            · have CFV : Aside (conflictB ⟨cn, fid, kd, now + tm⟩ ⟨y1, y2, y3, y4⟩ = true) := by show _ = _; simp [conflictB, g1, Ne.symm g2, g4]
              have e4 : (kd == 2) = true := by simp [g4]
              have h := HS.out
              have hln := HLN.out
              clear HS HLN g1 g2 g3 g4
              have RS : Aside (RES = (xs, 0, 32)) := CF.out CFV.out
              have HBF : Aside (Below w.heap.size w wr) := HB.out.trans (ST.2.2.1.mono HB.out.size)
              clear SF NC FA HC CF ST HXB
              go_wp2
              refine bodyPost_ret (v := .tuple #[.slice ao n cap, .int .i64 0, .int .i64 32]) (by simp [results, Try.results13, go_sem]) rfl ?_
              rw [RS.out]
              exact rg_err h hln (HBF.out.alloc HBF.out.size _)
            · have CFV : Aside (conflictB ⟨cn, fid, kd, now + tm⟩ ⟨y1, y2, y3, y4⟩ = false) := by show _ = _; simp [conflictB, g3, g4]
              have NS : Aside (¬ (y2 = fid ∧ y1 = cn)) := fun e => g2 e.2
              have e4 : (kd == 2) = false := by simp [g4]
              clear g1 g2 g3 g4
              have NC2 : Aside (∀ j, j < idx + 1 → conflictB ⟨cn, fid, kd, now + tm⟩ ys[j]! = false) := NC.out CFV.out
              cases done with
              | true =>
                have HO : Aside ((ys.take (idx + 1)).foldl (rstep ⟨cn, fid, kd, now + tm⟩) ([], false) = (out ++ [⟨y1, y2, y3, y4⟩], true)) := by show _ = _; rw [SF.out, rstep_done _ _ _ NS.out]
                have hown := ST.2.2.2.1
                have HBW : Aside (Below U1.heap.size U1 (wr.alloc (.cells #[.int .i64 y1, .int .i64 y2, .int .i64 y3, .int .i64 y4] 36))) := ST.2.2.1.alloc ST.2.2.1.size _
                have hml := ST.2.1
                have hszw := ST.2.2.1.size
                clear SF NC FA HC CF HXB hml
                go_wp2_with (at_builtin; refine wpList_append_own _ rfl _ _ 22 rfl U1.heap.size 36 i0 _ 4 32 Try.underlying22 hi0 hz0 hs0 hb0 rfl (by omega) _ _ _ rfl ((hown.alloc _).alloc _) ⟨wr.heap.size + 1, 0, none⟩ 1 1 [.int .i64 y1, .int .i64 y2, .int .i64 y3, .int .i64 y4] rfl rfl (cell_four_new' _ _ _ _ _ _ _ (by first | rfl | simp)) one_four (by unfold maxLen; omega) (by omega) (by simp; omega) ?_)
                intro v' w1 hown' hgrow _
                obtain ⟨ao3, cap3, rfl, hbel, hown2⟩ := app_state (y := ⟨y1, y2, y3, y4⟩) (HBW.out.alloc HBW.out.size _) ((hown.alloc _).alloc _) hown' hgrow
                have ST2 : RgSt ⟨cn, fid, kd, now + tm⟩ ys U1 (idx + 1) ao3 cap3 (m + 1) (out ++ [⟨y1, y2, y3, y4⟩]) true w1 := ⟨HO.out, by rw [List.length_append, ST.2.1]; rfl, hbel, hown2, NC2.out⟩
                clear hown hown' hgrow hbel hown2 ST HBW HO NC2
                go_wp2
                go_roundg (gk - 1)
                case measure => omega
                case rel => exact ⟨idx + 1, ao3, cap3, m + 1, _, true, rfl, rfl, by simp, by omega, by omega, ST2⟩
              | false =>
                have cb := fun w => before_calls cn fid kd (now + tm) y1 y2 y3 y4 w
                have HT : Aside (beforeB ⟨cn, fid, kd, now + tm⟩ ⟨y1, y2, y3, y4⟩ = true → (ys.take (idx + 1)).foldl (rstep ⟨cn, fid, kd, now + tm⟩) ([], false) = (out ++ [⟨cn, fid, kd, now + tm⟩] ++ [⟨y1, y2, y3, y4⟩], true)) := fun hb => by rw [SF.out, rstep_put _ _ _ NS.out hb]
                have HN : Aside (beforeB ⟨cn, fid, kd, now + tm⟩ ⟨y1, y2, y3, y4⟩ = false → (ys.take (idx + 1)).foldl (rstep ⟨cn, fid, kd, now + tm⟩) ([], false) = (out ++ [⟨y1, y2, y3, y4⟩], false)) := fun hb => by rw [SF.out, rstep_not _ _ _ NS.out hb]
                have hown := ST.2.2.2.1
                have HBW : Aside (Below U1.heap.size U1 (wr.alloc (.cells #[.int .i64 y1, .int .i64 y2, .int .i64 y3, .int .i64 y4] 36))) := ST.2.2.1.alloc ST.2.2.1.size _
                have hszw := ST.2.2.1.size
                clear SF NC FA HC CF HXB
                generalize beforeB ⟨cn, fid, kd, now + tm⟩ ⟨y1, y2, y3, y4⟩ = bb at cb HT HN
                have HOW : Aside (wr.ownsRow U1.heap.size 36 4 (.slice ao' m cap') m (flat out)) := hown
                clear hown
                cases bb with
                | false =>
                  have HO : Aside (_ = _) := HN.out rfl
                  clear HN HT
                  go_wp2_with fail
                  refine (cb _).mono ?_
                  rintro e W2 ⟨rfl, hb2⟩
                  have HBW2 : Aside (Below U1.heap.size U1 W2) := HBW.out.trans (hb2.mono HBW.out.size)
                  have hown2 := (HOW.out.alloc (.cells #[.int .i64 y1, .int .i64 y2, .int .i64 y3, .int .i64 y4] 36)).kept (grownBy_of_below hb2 none) (by cases hv : (Value.slice ao' m cap').ownBlock <;> simp)
                  have hsz2 := hb2.size
                  simp at hsz2
                  have e0 : W2.cell? ⟨wr.heap.size, 0, none⟩ = some (.int .i64 y1) := by rw [hb2.cell (p := ⟨wr.heap.size, 0, none⟩) (by simp)]; simp [go_sem]
                  have e1 : W2.cell? ⟨wr.heap.size, 1, none⟩ = some (.int .i64 y2) := by rw [hb2.cell (p := ⟨wr.heap.size, 1, none⟩) (by simp)]; simp [go_sem]
                  have e2 : W2.cell? ⟨wr.heap.size, 2, none⟩ = some (.int .i64 y3) := by rw [hb2.cell (p := ⟨wr.heap.size, 2, none⟩) (by simp)]; simp [go_sem]
                  have e3 : W2.cell? ⟨wr.heap.size, 3, none⟩ = some (.int .i64 y4) := by rw [hb2.cell (p := ⟨wr.heap.size, 3, none⟩) (by simp)]; simp [go_sem]
                  clear hb2
                  go_wp2_with (at_builtin; refine wpList_append_own _ rfl _ _ 22 rfl U1.heap.size 36 i0 _ 4 32 Try.underlying22 hi0 hz0 hs0 hb0 rfl (by omega) _ _ _ rfl (hown2.alloc _) ⟨W2.heap.size, 0, none⟩ 1 1 [.int .i64 y1, .int .i64 y2, .int .i64 y3, .int .i64 y4] rfl rfl (cell_four_new' _ _ _ _ _ _ _ (by first | rfl | simp)) one_four (by unfold maxLen; omega) (by omega) (by simp; omega) ?_)
                  intro v' w1 hown' hgrow _
                  obtain ⟨ao3, cap3, rfl, hbel, hown3⟩ := app_state (y := ⟨y1, y2, y3, y4⟩) (HBW2.out.alloc HBW2.out.size _) (hown2.alloc _) hown' hgrow
                  have ST2 : RgSt ⟨cn, fid, kd, now + tm⟩ ys U1 (idx + 1) ao3 cap3 (m + 1) (out ++ [⟨y1, y2, y3, y4⟩]) false w1 := ⟨HO.out, by rw [List.length_append, ST.2.1]; rfl, hbel, hown3, NC2.out⟩
                  clear hown2 hown' hgrow hbel hown3 ST HBW HO NC2 HBW2 HOW
                  go_wp2
                  go_roundg (gk - 1)
                  case measure => omega
                  case rel => exact ⟨idx + 1, ao3, cap3, m + 1, _, false, rfl, rfl, by simp, by omega, by omega, ST2⟩
                | true =>
                  have HO : Aside (_ = _) := HT.out rfl
                  clear HN HT
                  go_wp2_with fail
                  refine (cb _).mono ?_
                  rintro e W2 ⟨rfl, hb2⟩
                  have HBW2 : Aside (Below U1.heap.size U1 W2) := HBW.out.trans (hb2.mono HBW.out.size)
                  have hown2 := (HOW.out.alloc (.cells #[.int .i64 y1, .int .i64 y2, .int .i64 y3, .int .i64 y4] 36)).kept (grownBy_of_below hb2 none) (by cases hv : (Value.slice ao' m cap').ownBlock <;> simp)
                  have hsz2 := hb2.size
                  simp at hsz2
                  have e0 : W2.cell? ⟨wr.heap.size, 0, none⟩ = some (.int .i64 y1) := by rw [hb2.cell (p := ⟨wr.heap.size, 0, none⟩) (by simp)]; simp [go_sem]
                  have e1 : W2.cell? ⟨wr.heap.size, 1, none⟩ = some (.int .i64 y2) := by rw [hb2.cell (p := ⟨wr.heap.size, 1, none⟩) (by simp)]; simp [go_sem]
                  have e2 : W2.cell? ⟨wr.heap.size, 2, none⟩ = some (.int .i64 y3) := by rw [hb2.cell (p := ⟨wr.heap.size, 2, none⟩) (by simp)]; simp [go_sem]
                  have e3 : W2.cell? ⟨wr.heap.size, 3, none⟩ = some (.int .i64 y4) := by rw [hb2.cell (p := ⟨wr.heap.size, 3, none⟩) (by simp)]; simp [go_sem]
                  have p0 := (HBW2.out.cell (p := ⟨xb, 0, none⟩) hxl).trans XC.out.1
                  have p1 := (HBW2.out.cell (p := ⟨xb, 1, none⟩) hxl).trans XC.out.2.1
                  have p2 := (HBW2.out.cell (p := ⟨xb, 2, none⟩) hxl).trans XC.out.2.2.1
                  have p3 := (HBW2.out.cell (p := ⟨xb, 3, none⟩) hxl).trans XC.out.2.2.2
                  clear hb2
                  have hlt : ∀ k, (Value.slice ao' m cap').ownBlock = some k → k < wr.heap.size := fun k hk => (HOW.out.lt k hk).2
                  have HLT : Aside (∀ k, _ → _) := hlt
                  clear hlt
                  go_wp2_with (at_builtin; refine wpList_append_own _ rfl _ _ 22 rfl U1.heap.size 36 i0 _ 4 32 Try.underlying22 hi0 hz0 hs0 hb0 rfl (by omega) _ _ _ rfl (hown2.alloc _) ⟨W2.heap.size, 0, none⟩ 1 1 [.int .i64 cn, .int .i64 fid, .int .i64 kd, .int .i64 (now + tm)] rfl rfl (cell_four_new' _ _ _ _ _ _ _ (by first | rfl | simp)) one_four (by unfold maxLen; omega) (by omega) (by simp; omega) ?_)
                  intro v' w1 hown' hgrow _
                  obtain ⟨ao3, cap3, rfl, hbel, hown3⟩ := app_state (y := ⟨cn, fid, kd, now + tm⟩) (HBW2.out.alloc HBW2.out.size _) (hown2.alloc _) hown' hgrow
                  have hne : some wr.heap.size ≠ (Value.slice ao' m cap').ownBlock := fun e => by have := HLT.out _ e.symm; omega
                  have f0 : w1.cell? ⟨wr.heap.size, 0, none⟩ = some (.int .i64 y1) := hgrow.cell (a := ⟨wr.heap.size, 0, none⟩) (by rw [World.cell?_alloc_past _ _ _ (by omega)]; exact e0) hne
                  have f1 : w1.cell? ⟨wr.heap.size, 1, none⟩ = some (.int .i64 y2) := hgrow.cell (a := ⟨wr.heap.size, 1, none⟩) (by rw [World.cell?_alloc_past _ _ _ (by omega)]; exact e1) hne
                  have f2 : w1.cell? ⟨wr.heap.size, 2, none⟩ = some (.int .i64 y3) := hgrow.cell (a := ⟨wr.heap.size, 2, none⟩) (by rw [World.cell?_alloc_past _ _ _ (by omega)]; exact e2) hne
                  have f3 : w1.cell? ⟨wr.heap.size, 3, none⟩ = some (.int .i64 y4) := hgrow.cell (a := ⟨wr.heap.size, 3, none⟩) (by rw [World.cell?_alloc_past _ _ _ (by omega)]; exact e3) hne
                  have HBW3 : Aside (Below U1.heap.size U1 w1) := hbel
                  have hsz3 := hbel.size
                  clear hown2 hown' hgrow hbel e0 e1 e2 e3 p0 p1 p2 p3 hne
                  go_wp2_with (at_builtin; refine wpList_append_own _ rfl _ _ 22 rfl U1.heap.size 36 i0 _ 4 32 Try.underlying22 hi0 hz0 hs0 hb0 rfl (by omega) _ _ _ rfl (hown3.alloc _) ⟨w1.heap.size, 0, none⟩ 1 1 [.int .i64 y1, .int .i64 y2, .int .i64 y3, .int .i64 y4] rfl rfl (cell_four_new' _ _ _ _ _ _ _ (by first | rfl | simp)) one_four (by unfold maxLen; omega) (by omega) (by simp; omega) ?_)
                  intro v' w3 hown' hgrow _
                  obtain ⟨ao4, cap4, rfl, hbel, hown4⟩ := app_state (y := ⟨y1, y2, y3, y4⟩) (HBW3.out.alloc HBW3.out.size _) (hown3.alloc _) hown' hgrow
                  have ST2 : RgSt ⟨cn, fid, kd, now + tm⟩ ys U1 (idx + 1) ao4 cap4 (m + 1 + 1) (out ++ [⟨cn, fid, kd, now + tm⟩] ++ [⟨y1, y2, y3, y4⟩]) true w3 := ⟨HO.out, by rw [List.length_append, List.length_append, ST.2.1]; rfl, hbel, hown4, NC2.out⟩
                  clear hown3 hown' hgrow hbel hown4 ST HBW HO NC2 HBW2 HBW3 HOW HLT f0 f1 f2 f3
                  go_wp2
                  go_roundg (gk - 1)
                  case measure => omega
                  case rel => exact ⟨idx + 1, ao4, cap4, m + 1 + 1, _, true, rfl, rfl, by simp, by omega, by omega, ST2⟩
      · have CFV : Aside (conflictB ⟨cn, fid, kd, now + tm⟩ ⟨y1, y2, y3, y4⟩ = false) := by show _ = _; simp [conflictB, Ne.symm g1]
        have NS : Aside (¬ (y2 = fid ∧ y1 = cn)) := fun e => g1 e.1
        have e1 : (y2 == fid) = false := by simp [g1]
        clear g1
        have NC2 : Aside (∀ j, j < idx + 1 → conflictB ⟨cn, fid, kd, now + tm⟩ ys[j]! = false) := NC.out CFV.out
        cases done with
        | true =>
          have HO : Aside ((ys.take (idx + 1)).foldl (rstep ⟨cn, fid, kd, now + tm⟩) ([], false) = (out ++ [⟨y1, y2, y3, y4⟩], true)) := by show _ = _; rw [SF.out, rstep_done _ _ _ NS.out]
          have hown := ST.2.2.2.1
          have HBW : Aside (Below U1.heap.size U1 (wr.alloc (.cells #[.int .i64 y1, .int .i64 y2, .int .i64 y3, .int .i64 y4] 36))) := ST.2.2.1.alloc ST.2.2.1.size _
          have hml := ST.2.1
          have hszw := ST.2.2.1.size
          clear SF NC FA HC CF HXB hml
          go_wp2_with (at_builtin; refine wpList_append_own _ rfl _ _ 22 rfl U1.heap.size 36 i0 _ 4 32 Try.underlying22 hi0 hz0 hs0 hb0 rfl (by omega) _ _ _ rfl ((hown.alloc _).alloc _) ⟨wr.heap.size + 1, 0, none⟩ 1 1 [.int .i64 y1, .int .i64 y2, .int .i64 y3, .int .i64 y4] rfl rfl (cell_four_new' _ _ _ _ _ _ _ (by first | rfl | simp)) one_four (by unfold maxLen; omega) (by omega) (by simp; omega) ?_)
          intro v' w1 hown' hgrow _
          obtain ⟨ao3, cap3, rfl, hbel, hown2⟩ := app_state (y := ⟨y1, y2, y3, y4⟩) (HBW.out.alloc HBW.out.size _) ((hown.alloc _).alloc _) hown' hgrow
          have ST2 : RgSt ⟨cn, fid, kd, now + tm⟩ ys U1 (idx + 1) ao3 cap3 (m + 1) (out ++ [⟨y1, y2, y3, y4⟩]) true w1 := ⟨HO.out, by rw [List.length_append, ST.2.1]; rfl, hbel, hown2, NC2.out⟩
          clear hown hown' hgrow hbel hown2 ST HBW HO NC2
          go_wp2
          go_roundg (gk - 1)
          case measure => omega
          case rel => exact ⟨idx + 1, ao3, cap3, m + 1, _, true, rfl, rfl, by simp, by omega, by omega, ST2⟩
        | false =>
          have cb := fun w => before_calls cn fid kd (now + tm) y1 y2 y3 y4 w
          have HT : Aside (beforeB ⟨cn, fid, kd, now + tm⟩ ⟨y1, y2, y3, y4⟩ = true → (ys.take (idx + 1)).foldl (rstep ⟨cn, fid, kd, now + tm⟩) ([], false) = (out ++ [⟨cn, fid, kd, now + tm⟩] ++ [⟨y1, y2, y3, y4⟩], true)) := fun hb => by rw [SF.out, rstep_put _ _ _ NS.out hb]
          have HN : Aside (beforeB ⟨cn, fid, kd, now + tm⟩ ⟨y1, y2, y3, y4⟩ = false → (ys.take (idx + 1)).foldl (rstep ⟨cn, fid, kd, now + tm⟩) ([], false) = (out ++ [⟨y1, y2, y3, y4⟩], false)) := fun hb => by rw [SF.out, rstep_not _ _ _ NS.out hb]
          have hown := ST.2.2.2.1
          have HBW : Aside (Below U1.heap.size U1 (wr.alloc (.cells #[.int .i64 y1, .int .i64 y2, .int .i64 y3, .int .i64 y4] 36))) := ST.2.2.1.alloc ST.2.2.1.size _
          have hszw := ST.2.2.1.size
          clear SF NC FA HC CF HXB
          generalize beforeB ⟨cn, fid, kd, now + tm⟩ ⟨y1, y2, y3, y4⟩ = bb at cb HT HN
          have HOW : Aside (wr.ownsRow U1.heap.size 36 4 (.slice ao' m cap') m (flat out)) := hown
          clear hown
          cases bb with
          | false =>
            have HO : Aside (_ = _) := HN.out rfl
            clear HN HT
            go_wp2_with fail
            refine (cb _).mono ?_
            rintro e W2 ⟨rfl, hb2⟩
            have HBW2 : Aside (Below U1.heap.size U1 W2) := HBW.out.trans (hb2.mono HBW.out.size)
            have hown2 := (HOW.out.alloc (.cells #[.int .i64 y1, .int .i64 y2, .int .i64 y3, .int .i64 y4] 36)).kept (grownBy_of_below hb2 none) (by cases hv : (Value.slice ao' m cap').ownBlock <;> simp)
            have hsz2 := hb2.size
            simp at hsz2
            have e0 : W2.cell? ⟨wr.heap.size, 0, none⟩ = some (.int .i64 y1) := by rw [hb2.cell (p := ⟨wr.heap.size, 0, none⟩) (by simp)]; simp [go_sem]
            have e1 : W2.cell? ⟨wr.heap.size, 1, none⟩ = some (.int .i64 y2) := by rw [hb2.cell (p := ⟨wr.heap.size, 1, none⟩) (by simp)]; simp [go_sem]
            have e2 : W2.cell? ⟨wr.heap.size, 2, none⟩ = some (.int .i64 y3) := by rw [hb2.cell (p := ⟨wr.heap.size, 2, none⟩) (by simp)]; simp [go_sem]
            have e3 : W2.cell? ⟨wr.heap.size, 3, none⟩ = some (.int .i64 y4) := by rw [hb2.cell (p := ⟨wr.heap.size, 3, none⟩) (by simp)]; simp [go_sem]
            clear hb2
            go_wp2_with (at_builtin; refine wpList_append_own _ rfl _ _ 22 rfl U1.heap.size 36 i0 _ 4 32 Try.underlying22 hi0 hz0 hs0 hb0 rfl (by omega) _ _ _ rfl (hown2.alloc _) ⟨W2.heap.size, 0, none⟩ 1 1 [.int .i64 y1, .int .i64 y2, .int .i64 y3, .int .i64 y4] rfl rfl (cell_four_new' _ _ _ _ _ _ _ (by first | rfl | simp)) one_four (by unfold maxLen; omega) (by omega) (by simp; omega) ?_)
            intro v' w1 hown' hgrow _
            obtain ⟨ao3, cap3, rfl, hbel, hown3⟩ := app_state (y := ⟨y1, y2, y3, y4⟩) (HBW2.out.alloc HBW2.out.size _) (hown2.alloc _) hown' hgrow
            have ST2 : RgSt ⟨cn, fid, kd, now + tm⟩ ys U1 (idx + 1) ao3 cap3 (m + 1) (out ++ [⟨y1, y2, y3, y4⟩]) false w1 := ⟨HO.out, by rw [List.length_append, ST.2.1]; rfl, hbel, hown3, NC2.out⟩
            clear hown2 hown' hgrow hbel hown3 ST HBW HO NC2 HBW2 HOW
            go_wp2
            go_roundg (gk - 1)
            case measure => omega
            case rel => exact ⟨idx + 1, ao3, cap3, m + 1, _, false, rfl, rfl, by simp, by omega, by omega, ST2⟩
          | true =>
            have HO : Aside (_ = _) := HT.out rfl
            clear HN HT
            go_wp2_with fail
            refine (cb _).mono ?_
            rintro e W2 ⟨rfl, hb2⟩
            have HBW2 : Aside (Below U1.heap.size U1 W2) := HBW.out.trans (hb2.mono HBW.out.size)
            have hown2 := (HOW.out.alloc (.cells #[.int .i64 y1, .int .i64 y2, .int .i64 y3, .int .i64 y4] 36)).kept (grownBy_of_below hb2 none) (by cases hv : (Value.slice ao' m cap').ownBlock <;> simp)
            have hsz2 := hb2.size
            simp at hsz2
            have e0 : W2.cell? ⟨wr.heap.size, 0, none⟩ = some (.int .i64 y1) := by rw [hb2.cell (p := ⟨wr.heap.size, 0, none⟩) (by simp)]; simp [go_sem]
            have e1 : W2.cell? ⟨wr.heap.size, 1, none⟩ = some (.int .i64 y2) := by rw [hb2.cell (p := ⟨wr.heap.size, 1, none⟩) (by simp)]; simp [go_sem]
            have e2 : W2.cell? ⟨wr.heap.size, 2, none⟩ = some (.int .i64 y3) := by rw [hb2.cell (p := ⟨wr.heap.size, 2, none⟩) (by simp)]; simp [go_sem]
            have e3 : W2.cell? ⟨wr.heap.size, 3, none⟩ = some (.int .i64 y4) := by rw [hb2.cell (p := ⟨wr.heap.size, 3, none⟩) (by simp)]; simp [go_sem]
            have p0 := (HBW2.out.cell (p := ⟨xb, 0, none⟩) hxl).trans XC.out.1
            have p1 := (HBW2.out.cell (p := ⟨xb, 1, none⟩) hxl).trans XC.out.2.1
            have p2 := (HBW2.out.cell (p := ⟨xb, 2, none⟩) hxl).trans XC.out.2.2.1
            have p3 := (HBW2.out.cell (p := ⟨xb, 3, none⟩) hxl).trans XC.out.2.2.2
            clear hb2
            have hlt : ∀ k, (Value.slice ao' m cap').ownBlock = some k → k < wr.heap.size := fun k hk => (HOW.out.lt k hk).2
            have HLT : Aside (∀ k, _ → _) := hlt
            clear hlt
            go_wp2_with (at_builtin; refine wpList_append_own _ rfl _ _ 22 rfl U1.heap.size 36 i0 _ 4 32 Try.underlying22 hi0 hz0 hs0 hb0 rfl (by omega) _ _ _ rfl (hown2.alloc _) ⟨W2.heap.size, 0, none⟩ 1 1 [.int .i64 cn, .int .i64 fid, .int .i64 kd, .int .i64 (now + tm)] rfl rfl (cell_four_new' _ _ _ _ _ _ _ (by first | rfl | simp)) one_four (by unfold maxLen; omega) (by omega) (by simp; omega) ?_)
            intro v' w1 hown' hgrow _
            obtain ⟨ao3, cap3, rfl, hbel, hown3⟩ := app_state (y := ⟨cn, fid, kd, now + tm⟩) (HBW2.out.alloc HBW2.out.size _) (hown2.alloc _) hown' hgrow
            have hne : some wr.heap.size ≠ (Value.slice ao' m cap').ownBlock := fun e => by have := HLT.out _ e.symm; omega
            have f0 : w1.cell? ⟨wr.heap.size, 0, none⟩ = some (.int .i64 y1) := hgrow.cell (a := ⟨wr.heap.size, 0, none⟩) (by rw [World.cell?_alloc_past _ _ _ (by omega)]; exact e0) hne
            have f1 : w1.cell? ⟨wr.heap.size, 1, none⟩ = some (.int .i64 y2) := hgrow.cell (a := ⟨wr.heap.size, 1, none⟩) (by rw [World.cell?_alloc_past _ _ _ (by omega)]; exact e1) hne
            have f2 : w1.cell? ⟨wr.heap.size, 2, none⟩ = some (.int .i64 y3) := hgrow.cell (a := ⟨wr.heap.size, 2, none⟩) (by rw [World.cell?_alloc_past _ _ _ (by omega)]; exact e2) hne
            have f3 : w1.cell? ⟨wr.heap.size, 3, none⟩ = some (.int .i64 y4) := hgrow.cell (a := ⟨wr.heap.size, 3, none⟩) (by rw [World.cell?_alloc_past _ _ _ (by omega)]; exact e3) hne
            have HBW3 : Aside (Below U1.heap.size U1 w1) := hbel
            have hsz3 := hbel.size
            clear hown2 hown' hgrow hbel e0 e1 e2 e3 p0 p1 p2 p3 hne
            go_wp2_with (at_builtin; refine wpList_append_own _ rfl _ _ 22 rfl U1.heap.size 36 i0 _ 4 32 Try.underlying22 hi0 hz0 hs0 hb0 rfl (by omega) _ _ _ rfl (hown3.alloc _) ⟨w1.heap.size, 0, none⟩ 1 1 [.int .i64 y1, .int .i64 y2, .int .i64 y3, .int .i64 y4] rfl rfl (cell_four_new' _ _ _ _ _ _ _ (by first | rfl | simp)) one_four (by unfold maxLen; omega) (by omega) (by simp; omega) ?_)
            intro v' w3 hown' hgrow _
            obtain ⟨ao4, cap4, rfl, hbel, hown4⟩ := app_state (y := ⟨y1, y2, y3, y4⟩) (HBW3.out.alloc HBW3.out.size _) (hown3.alloc _) hown' hgrow
            have ST2 : RgSt ⟨cn, fid, kd, now + tm⟩ ys U1 (idx + 1) ao4 cap4 (m + 1 + 1) (out ++ [⟨cn, fid, kd, now + tm⟩] ++ [⟨y1, y2, y3, y4⟩]) true w3 := ⟨HO.out, by rw [List.length_append, List.length_append, ST.2.1]; rfl, hbel, hown4, NC2.out⟩
            clear hown3 hown' hgrow hbel hown4 ST HBW HO NC2 HBW2 HBW3 HOW HLT f0 f1 f2 f3
            go_wp2
            go_roundg (gk - 1)
            case measure => omega
            case rel => exact ⟨idx + 1, ao4, cap4, m + 1 + 1, _, true, rfl, rfl, by simp, by omega, by omega, ST2⟩
    · have hin : idx = ys.length := by omega
      have SA : Aside (ys.foldl (rstep ⟨cn, fid, kd, now + tm⟩) ([], false) = (out, done)) := by have := ST.1; rw [List.take_of_length_le (by omega)] at this; exact this
      have AN : Aside ((ys.any fun y => conflictB ⟨cn, fid, kd, now + tm⟩ y) = false) := any_take _ ys (fun j hj => ST.2.2.2.2 j (by omega))
      have hxw : xb < wr.heap.size := Nat.lt_of_lt_of_le hxl ST.2.2.1.size
      have p0 := (ST.2.2.1.cell (p := ⟨xb, 0, none⟩) hxl).trans XC.out.1
      have p1 := (ST.2.2.1.cell (p := ⟨xb, 1, none⟩) hxl).trans XC.out.2.1
      have p2 := (ST.2.2.1.cell (p := ⟨xb, 2, none⟩) hxl).trans XC.out.2.2.1
      have p3 := (ST.2.2.1.cell (p := ⟨xb, 3, none⟩) hxl).trans XC.out.2.2.2
      have hub := HB.out.size
      have HZ : Aside (∀ W' ao2 cap2 m2 (o : List Le), rput ⟨cn, fid, kd, now + tm⟩ ys = o → o.length = m2 → Below U1.heap.size U1 W' → W'.ownsRow U1.heap.size 36 4 (.slice ao2 m2 cap2) m2 (flat o) →
          (64 < m2 → RGrantPost w RES (.returned (.tuple #[.slice ao n cap, .int .i64 0, .int .i64 22])) W') ∧ (¬ 64 < m2 → ∀ W2, Below W'.heap.size W' W2 → RGrantPost w RES (.returned (.tuple #[.slice ao2 m2 cap2, .int .i64 (now + tm), .int .i64 0])) W2)) := by
        intro W' a2 c2 m2 o hp ho hb hown
        have e := HF.out
        rw [AN.out, if_neg Bool.false_ne_true, hp, ho] at e
        have hbw := HB.out.trans (hb.mono HB.out.size)
        refine ⟨fun h64 => ?_, fun h64 W2 hb2 => ?_⟩
        · rw [if_pos h64] at e
          rw [e]
          exact rg_err HS.out HLN.out hbw
        · rw [if_neg h64] at e
          rw [e]
          have hbw2 := hbw.trans (hb2.mono hbw.size)
          obtain ⟨a3, c3, hv, hsl⟩ := own_sl hown
          cases hv
          exact ⟨hbw2, a2, c2, by rw [ho], by rw [ho]; exact hsl.stays hb2⟩
      clear HF HC HB HS HLN AN
      cases done with
      | true =>
        have HP : Aside (rput ⟨cn, fid, kd, now + tm⟩ ys = out) := by show _ = _; unfold rput; rw [SA.out]; rfl
        have HQ := HZ.out wr ao' cap' m out HP.out ST.2.1 ST.2.2.1 ST.2.2.2.1
        have HQ2 : Aside (_ ∧ _) := HQ
        have hml : m ≤ 9223372036854775807 := by omega
        clear HZ HQ HP SA
        by_cases h64 : 64 < m
        · have HE := HQ2.out.1 h64
          go_wp2
          exact bodyPost_ret (v := .tuple #[.slice ao n cap, .int .i64 0, .int .i64 22]) (by simp [results, Try.results13, go_sem]) rfl HE
        · have HE : Aside (_) := HQ2.out.2 h64
          clear HQ2
          go_wp2
          refine wp_region_plus (by kernel_rfl) (by kernel_rfl) ?_
          repeat (go_big_quiet_step (fail))
          refine wpQuiet_nil ?_
          rintro _ ⟨x, rfl⟩
          go_wp2
          exact bodyPost_ret (v := .tuple #[.slice ao' m cap', .int .i64 (now + tm), .int .i64 0]) (by simp [results, Try.results13, go_sem]) rfl (HE.out _ (below_plus _ _))
      | false =>
        have HP : Aside (rput ⟨cn, fid, kd, now + tm⟩ ys = out ++ [⟨cn, fid, kd, now + tm⟩]) := by show _ = _; unfold rput; rw [SA.out]; rfl
        have hown := ST.2.2.2.1
        have HBW : Aside (Below U1.heap.size U1 wr) := ST.2.2.1
        have hszw := ST.2.2.1.size
        have hml := ST.2.1
        have HML : Aside (out.length = m) := hml
        clear SA hml
        have HLT : Aside (∀ k, (Value.slice ao' m cap').ownBlock = some k → U1.heap.size ≤ k) := fun k hk => (hown.lt k hk).1
        go_wp2_with (at_builtin; refine wpList_append_own _ rfl _ _ 22 rfl U1.heap.size 36 i0 _ 4 32 Try.underlying22 hi0 hz0 hs0 hb0 rfl (by omega) _ _ _ rfl (hown.alloc _) ⟨wr.heap.size, 0, none⟩ 1 1 [.int .i64 cn, .int .i64 fid, .int .i64 kd, .int .i64 (now + tm)] rfl rfl (cell_four_new' _ _ _ _ _ _ _ (by first | rfl | simp)) one_four (by unfold maxLen; omega) (by omega) (by simp; omega) ?_)
        intro v' w1 hown' hgrow _
        obtain ⟨ao3, cap3, rfl, hbel, hown2⟩ := app_state (y := ⟨cn, fid, kd, now + tm⟩) (HBW.out.alloc HBW.out.size _) (hown.alloc _) hown' hgrow
        have hne : some xb ≠ (Value.slice ao' m cap').ownBlock := fun e => by have := HLT.out _ e.symm; omega
        have f3 : w1.cell? ⟨xb, 3, none⟩ = some (.int .i64 (now + tm)) := hgrow.cell (a := ⟨xb, 3, none⟩) (by rw [World.cell?_alloc_past _ _ _ (by omega)]; exact p3) hne
        have hxw1 : xb < w1.heap.size := Nat.lt_of_lt_of_le hxl hbel.size
        have HQ := HZ.out w1 ao3 cap3 (m + 1) _ HP.out (by rw [List.length_append, HML.out]; rfl) hbel hown2
        have HQ2 : Aside (_ ∧ _) := HQ
        have hml : m + 1 ≤ 9223372036854775807 := by omega
        clear HZ HQ HP hown hown' hgrow hbel hown2 hne p0 p1 p2 p3 ST HBW
        by_cases h64 : 64 < m + 1
        · have HE := HQ2.out.1 h64
          go_wp2
          exact bodyPost_ret (v := .tuple #[.slice ao n cap, .int .i64 0, .int .i64 22]) (by simp [results, Try.results13, go_sem]) rfl HE
        · have HE : Aside (_) := HQ2.out.2 h64
          clear HQ2
          go_wp2
          refine wp_region_plus (by kernel_rfl) (by kernel_rfl) ?_
          repeat (go_big_quiet_step (fail))
          refine wpQuiet_nil ?_
          rintro _ ⟨x, rfl⟩
          go_wp2
          exact bodyPost_ret (v := .tuple #[.slice ao3 (m + 1) cap3, .int .i64 (now + tm), .int .i64 0]) (by simp [results, Try.results13, go_sem]) rfl (HE.out _ (below_plus _ _))


theorem rgrant_calls (ao : Option Addr) (n cap : Nat) (xs : List Le) (cn fid kd tm now : Int) (w : World) (h : Sl w 4 ao n cap (xs.map Le.enc)) (hn : n ≤ 1000000) :
    Calls Try.prog 13 #[.slice ao n cap, .int .i64 cn, .int .i64 fid, .int .i64 kd, .int .i64 tm, .int .i64 now] w fun e w' => RGrantPost w (rgrantF xs cn fid kd tm now) e w' := by
  cases hr : reqB cn fid kd tm now with
  | true => exact rgrant_yes ao n cap xs cn fid kd tm now w h hn hr
  | false =>
    have e : rgrantF xs cn fid kd tm now = (xs, 0, 1) := by unfold rgrantF; rw [hr]; rfl
    rw [e]
    exact rgrant_no ao n cap xs cn fid kd tm now w h hn hr

end Go.Proofs.Ytodmgdihkhakpaa
