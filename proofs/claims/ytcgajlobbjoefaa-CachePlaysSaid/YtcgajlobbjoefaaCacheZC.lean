/- This text proves the walks of small and of the statement CacheRight. Conditions: those that each theorem names. -/
import Derived.Test.YtcgajlobbjoefaaCacheZB
import Derived.Test.YtcgajlobbjoefaaCacheU
namespace Go.Proofs.Ytcgajlobbjoefaa
open Go.ChangeShapes Go.WideShapes Go.ChangeAt Go.RowKit
set_option linter.unusedVariables false
set_option linter.unusedSimpArgs false

def SmP (w : World) (bl : List Pc) (hs : List Hd) (e : Ending) (w' : World) : Prop := ∃ b, e = .returned (.bool b) ∧ (b = true → bl.length ≤ 60 ∧ hs.length ≤ 70) ∧ Below w.heap.size w w'
set_option maxHeartbeats 8000000 in
theorem small_calls (cp : Int) (ao : Option Addr) (n c1 : Nat) (ao2 : Option Addr) (n2 c2 : Nat) (bl : List Pc) (hs : List Hd) (w : World) (h1 : Sl w 4 ao n c1 (bl.map Pc.enc)) (h2 : Sl w 3 ao2 n2 c2 (hs.map Hd.enc)) :
    Calls Try.prog 8 #[.agg #[.int .i64 cp, .slice ao n c1, .slice ao2 n2 c2]] w fun e w' => SmP w bl hs e w' := by
  have hbig : n ≤ 9223372036854775807 := Nat.le_trans h1.hcap h1.hmax
  have HL : Aside (bl.length = n) := Sl.lenE h1
  have HL2 : Aside (hs.length = n2) := Sl.lenE h2
  have HC : Aside (CellsPc w ao bl) := cellsPc h1
  have hb0 : Below w.heap.size w (w.alloc (.cells #[.int .i64 cp, .slice ao n c1, .slice ao2 n2 c2] 25)) := by
    repeat (first | (with_reducible exact Below.refl _ _) | (with_reducible assumption) | (with_reducible refine below_to_plus ?_ ?_ _) | (with_reducible refine below_holds ?_ ?_ _ _) | (with_reducible refine Below.alloc ?_ ?_ _) | (with_reducible refine Below.drew ?_) | (with_reducible refine below_drewN ?_ _) | (with_reducible refine Below.setCell ?_ ?_ _))
    all_goals first | omega | (simp; done) | (simp [go_sem]; done) | (simp [go_sem]; omega)
  have HB : Aside (Below w.heap.size w (w.alloc (.cells #[.int .i64 cp, .slice ao n c1, .slice ao2 n2 c2] 25))) := hb0
  clear h1 h2
  by_cases g1 : 60 < n
  · have g1z : (60 : Int) < (n : Int) := by omega
    have g1d : decide ((60 : Int) < (n : Int)) = true := decide_eq_true g1z
    go_enter Try.func8, Try.ntmps8
    go_wp2
    go_ret
    exact ⟨false, rfl, fun h => Bool.noConfusion h, HB.out⟩
  have g1d : decide ((60 : Int) < (n : Int)) = false := decide_eq_false (by omega)
  by_cases g2 : 70 < n2
  · have g2d : decide ((70 : Int) < (n2 : Int)) = true := decide_eq_true (by omega)
    go_enter Try.func8, Try.ntmps8
    go_wp2
    go_ret
    exact ⟨false, rfl, fun h => Bool.noConfusion h, HB.out⟩
  have g2d : decide ((70 : Int) < (n2 : Int)) = false := decide_eq_false (by omega)
  go_enter Try.func8, Try.ntmps8
  go_wp2
  go_loopg [17] n (fun k s17 wr => ∃ idx : Nat, s17 = .int .i64 (idx : Int) ∧ wr = (w.alloc (.cells #[.int .i64 cp, .slice ao n c1, .slice ao2 n2 c2] 25)) ∧ k + idx = n)
  case atStart => exact ⟨0, rfl, rfl, by omega⟩
  case round =>
    obtain ⟨idx, rfl, rfl, hk⟩ := hrel
    by_cases hi : idx < n
    · have hiz : (idx : Int) < (n : Int) := by omega
      obtain ⟨b, off, rfl, hbw, q0, q1, q2, q3⟩ := HC.out idx (by have := HL.out; omega)
      clear q0 q1 q2 HC
      generalize bl[idx]!.data = d at q3
      by_cases hd : 3000 < d.size
      · have hdz : (3000 : Int) < (d.size : Int) := by omega
        go_wp2
        go_ret
        exact ⟨false, rfl, fun h => Bool.noConfusion h, HB.out⟩
      · have hdz : ¬ (3000 : Int) < (d.size : Int) := by omega
        go_wp2
        go_roundg (gk - 1)
        case measure => omega
        case rel => exact ⟨idx + 1, by simp, rfl, by omega⟩
    · have hiz : ¬ (idx : Int) < (n : Int) := by omega
      clear HC
      have hlb : bl.length ≤ 60 := by have := HL.out; omega
      have hlh : hs.length ≤ 70 := by have := HL2.out; omega
      clear HL HL2
      go_wp2
      refine bodyPost_ret (v := .bool true) (by simp [results, Try.results8, go_sem, ↓IntWalk.iteOmega, *]) rfl ⟨true, rfl, fun _ => ⟨hlb, hlh⟩, HB.out⟩

set_option maxRecDepth 20000 in
set_option maxHeartbeats 16000000 in
theorem lawRight_calls (cp : Int) (ao : Option Addr) (n c1 : Nat) (ao2 : Option Addr) (n2 c2 : Nat) (bl : List Pc) (hs : List Hd) (id now most : Int) (w : World) (h1 : Sl w 4 ao n c1 (bl.map Pc.enc)) (h2 : Sl w 3 ao2 n2 c2 (hs.map Hd.enc)) :
    Calls Try.prog 3 #[.agg #[.int .i64 cp, .slice ao n c1, .slice ao2 n2 c2], .int .i64 id, .int .i64 now, .int .i64 most] w fun e w' => e = .returned (.bool true) ∧ Below w.heap.size w w' := by
  have S1 : Aside (Sl w 4 ao n c1 (bl.map Pc.enc)) := h1
  have S2 : Aside (Sl w 3 ao2 n2 c2 (hs.map Hd.enc)) := h2
  have HL2 : Aside (hs.length = n2) := Sl.lenE h2
  have cs := fun U (h : Below w.heap.size w U) => small_calls cp ao n c1 ao2 n2 c2 bl hs U (S1.out.stays h) (S2.out.stays h)
  have cR := fun U (h : Below w.heap.size w U) => right_calls cp ao n c1 ao2 n2 c2 bl hs U (S1.out.stays h) (S2.out.stays h)
  have cQ := fun U (h : Below w.heap.size w U) => rright_calls cp ao n c1 ao2 n2 c2 bl hs U (S1.out.stays h) (S2.out.stays h)
  have cK := fun U (h : Below w.heap.size w U) => rheld_calls cp ao n c1 ao2 n2 c2 hs id now U (S2.out.stays h)
  have cN := fun U => new_calls most U
  have cM := fun U => rnew_calls most U
  have cS := fun U => rsame_calls (capF most) none 0 0 none 0 0 none 0 none 0 [] [] U sl_none sl_none sl_none sl_none
  have cA := fun U => awake_calls U
  have hb0 : Below w.heap.size w (w.alloc (.cells #[.int .i64 cp, .slice ao n c1, .slice ao2 n2 c2] 25)) := by
    repeat (first | (with_reducible exact Below.refl _ _) | (with_reducible assumption) | (with_reducible refine below_to_plus ?_ ?_ _) | (with_reducible refine below_holds ?_ ?_ _ _) | (with_reducible refine Below.alloc ?_ ?_ _) | (with_reducible refine Below.drew ?_) | (with_reducible refine below_drewN ?_ _) | (with_reducible refine Below.setCell ?_ ?_ _))
    all_goals first | omega | (simp; done) | (simp [go_sem]; done) | (simp [go_sem]; omega)
  go_enter Try.func3, Try.ntmps3
  go_wp2_with fail
  refine (cs _ hb0).mono ?_
  rintro e w1 ⟨sb, rfl, hsb, hb⟩
  obtain ⟨x, hx⟩ := plus_of_below hb
  subst hx
  clear hb
  clear cs
  have HBW : Aside (Below w.heap.size w (plus (w.alloc (.cells #[.int .i64 cp, .slice ao n c1, .slice ao2 n2 c2] 25)) x)) := hb0.trans ((below_plus _ _).mono hb0.size)
  cases sb with
  | false =>
    clear cR cQ cK cN cM cS hsb hb0
    go_wp2_with fail
    refine (cA _).mono ?_
    rintro e w2 ⟨rfl, hb⟩
    clear cA
    go_wp2
    go_ret
    exact ⟨rfl, HBW.out.trans (hb.mono HBW.out.size)⟩
  | true =>
    obtain ⟨l1, l2⟩ := hsb rfl
    have hn2 : n2 ≤ 1000000 := by have := HL2.out; omega
    cases hr : rightB cp bl hs with
    | false =>
      rw [hr] at cR cQ
      clear hr cK hb0 l1 l2 hn2 hsb
      go_wp2
      refine wp_region_plus (by kernel_rfl) (by kernel_rfl) ?_
      repeat (go_big_quiet_step (first | (go_at_call 10; exact calls_plus (cR _ (HBW.out.trans ((below_plus _ _).mono HBW.out.size)))) | (go_at_call 11; exact calls_plus (cQ _ (HBW.out.trans ((below_plus _ _).mono HBW.out.size)))) | (go_at_call 15; exact calls_plus (cN _)) | (go_at_call 16; exact calls_plus (cM _)) | (go_at_call 14; exact calls_plus (cS _)) | (go_at_call 9; exact calls_plus (cA _))))
      refine wpQuiet_nil ?_
      rintro _ ⟨x1, rfl⟩
      go_wp2
      go_ret
      exact ⟨rfl, HBW.out.trans ((below_plus _ _).mono HBW.out.size)⟩
    | true =>
      have cH := fun U (h : Below w.heap.size w U) => held_calls cp ao n c1 ao2 n2 c2 hs id now U (S2.out.stays h) hn2 (RightP.of hr).asc
      rw [hr] at cR cQ
      clear hr hb0 l1 l2 hn2 hsb
      generalize heldB id now hs = hl at cH cK
      go_wp2
      refine wp_region_plus (by kernel_rfl) (by kernel_rfl) ?_
      repeat (go_big_quiet_step (first | (go_at_call 10; exact calls_plus (cR _ (HBW.out.trans ((below_plus _ _).mono HBW.out.size)))) | (go_at_call 11; exact calls_plus (cQ _ (HBW.out.trans ((below_plus _ _).mono HBW.out.size)))) | (go_at_call 12; exact calls_plus (cH _ (HBW.out.trans ((below_plus _ _).mono HBW.out.size)))) | (go_at_call 13; exact calls_plus (cK _ (HBW.out.trans ((below_plus _ _).mono HBW.out.size)))) | (go_at_call 15; exact calls_plus (cN _)) | (go_at_call 16; exact calls_plus (cM _)) | (go_at_call 14; exact calls_plus (cS _)) | (go_at_call 9; exact calls_plus (cA _))))
      refine wpQuiet_nil ?_
      rintro _ ⟨x1, rfl⟩
      go_wp2
      go_ret
      exact ⟨rfl, HBW.out.trans ((below_plus _ _).mono HBW.out.size)⟩

end Go.Proofs.Ytcgajlobbjoefaa
