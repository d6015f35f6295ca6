/- This text proves the walks of Drop and Uses of package fids. Conditions: those that each theorem names. -/
import Derived.Test.YtjnfllcbkkcfiaaFidsC
namespace Go.Proofs.Ytjnfllcbkkcfiaa
open Go.ChangeShapes Go.WideShapes Go.ChangeAt Go.RowKit
set_option linter.unusedVariables false
set_option linter.unusedSimpArgs false

/-- What a call that returns a table and an error returns: the table is a row of its own. -/
def OwnPost (w : World) (r : List Fi × Int) (e : Ending) (w' : World) : Prop :=
  ∃ ao2 cap2, e = .returned (.tuple #[.slice ao2 r.1.length cap2, .int .i64 r.2]) ∧ w'.ownsRow w.heap.size 24 7 (.slice ao2 r.1.length cap2) r.1.length (flatE Fi.enc r.1) ∧ Below w.heap.size w w'
def dropF (num : Int) (xs : List Fi) : List Fi × Int := if ixF num xs < 0 then (xs, 13) else (xs.take (plF num xs) ++ xs.drop (plF num xs + 1), 0)

set_option maxRecDepth 100000 in
set_option maxHeartbeats 4000000 in
theorem drop_calls (num : Int) (ao : Option Addr) (n cap : Nat) (xs : List Fi) (w : World) (h : Sl w 7 ao n cap (xs.map Fi.enc)) (hn : n ≤ 1000) :
    Calls Try.prog 15 #[.slice ao n cap, .int .i64 num] w fun e w' => OwnPost w (dropF num xs) e w' := by
  have HL : Aside (xs.length = n) := Sl.lenE h
  have H : Aside (Sl w 7 ao n cap (xs.map Fi.enc)) := h
  have c0 := fiClone_calls ao n cap xs w h (by omega)
  have c1 : ∀ U, Below w.heap.size w U → Calls Try.prog 28 #[.slice ao n cap, .int .i64 num] U fun e w' => e = .returned (.int .i64 (ixF num xs)) ∧ Below U.heap.size U w' := fun U hU => index_calls num ao n cap xs U (h.stays hU)
  have hsp := ixF_spec num xs
  have HD : Aside (dropF num xs = if ixF num xs < 0 then (xs, 13) else (xs.take (plF num xs) ++ xs.drop (plF num xs + 1), 0)) := rfl
  generalize dropF num xs = r at HD ⊢
  generalize ixF num xs = i at c1 hsp HD
  clear h
  go_enter Try.func15, Try.ntmps15
  go_wp2_with fail
  refine c0.mono ?_
  rintro e w1 ⟨v', rfl, hown, hb⟩
  have HO : Aside (w1.ownsRow w.heap.size 24 7 v' n (flatE Fi.enc xs)) := hown
  have HB : Aside (Below w.heap.size w w1) := hb
  clear hown hb c0
  go_wp2_with fail
  refine (c1 _ HB.out).mono ?_
  rintro e w2 ⟨rfl, hb⟩
  obtain ⟨y, rfl⟩ := plus_of_below hb
  have HO2 : Aside ((plus w1 y).ownsRow w.heap.size 24 7 v' n (flatE Fi.enc xs)) := own_plus HO.out
  have HB2 : Aside (Below w.heap.size w (plus w1 y)) := HB.out.trans (hb.mono HB.out.size)
  clear hb c1 HO HB
  rcases hsp with e1 | ⟨h1, h2, e1⟩
  · subst e1
    have er : r = (xs, 13) := by rw [HD.out]; rfl
    subst er
    obtain ⟨a9, c9, hv9, _⟩ := ownE_sl fi_len (by omega) HO2.out
    subst hv9
    clear HD
    go_wp2
    go_ret2
    refine ⟨a9, c9, ?_, ?_, HB2.out⟩
    · show _ = Ending.returned (.tuple #[.slice a9 xs.length c9, .int .i64 13])
      rw [HL.out]
      rfl
    · show World.ownsRow _ _ _ _ (.slice a9 xs.length c9) xs.length (flatE Fi.enc xs)
      rw [HL.out]; exact HO2.out
  · subst e1
    have er : r = (xs.take (plF num xs) ++ xs.drop (plF num xs + 1), 0) := by rw [HD.out, if_neg (by omega)]
    subst er
    have hpn : plF num xs < n := by have := HL.out; omega
    have c2 := fiDelete_calls v' n (plF num xs) w.heap.size xs (plus w1 y) HO2.out hpn (by omega)
    have HLN : Aside ((xs.take (plF num xs) ++ xs.drop (plF num xs + 1)).length = n - 1) := by show _ = _; simp; have := HL.out; omega
    generalize hys : xs.take (plF num xs) ++ xs.drop (plF num xs + 1) = ys at c2 HLN
    have HY : Aside (xs.take (plF num xs) ++ xs.drop (plF num xs + 1) = ys) := hys
    clear hys
    generalize plF num xs = p at c2 hpn ⊢
    clear HD h1 h2
    go_wp2_with fail
    refine c2.mono ?_
    rintro e w3 ⟨v3, rfl, ho3, hg3, _⟩
    have HO3 : Aside (w3.ownsRow w.heap.size 24 7 v3 (n - 1) (flatE Fi.enc ys)) := ho3
    have HB3 : Aside (Below w.heap.size w w3) := HB2.out.grown hg3 HB2.out.size (fun k hk => (HO2.out.lt k hk).1)
    obtain ⟨a9, c9, hv9, _⟩ := ownE_sl fi_len (by omega) HO3.out
    subst hv9
    clear ho3 hg3 c2
    go_wp2
    go_ret2
    refine ⟨a9, c9, ?_, ?_, HB3.out⟩
    · show _ = Ending.returned (.tuple #[.slice a9 (xs.take (plF num xs) ++ xs.drop (plF num xs + 1)).length c9, .int .i64 0])
      rw [HY.out, HLN.out]
      rfl
    · show World.ownsRow _ _ _ _ (.slice a9 (xs.take (plF num xs) ++ xs.drop (plF num xs + 1)).length c9) (xs.take (plF num xs) ++ xs.drop (plF num xs + 1)).length (flatE Fi.enc (xs.take (plF num xs) ++ xs.drop (plF num xs + 1)))
      rw [HY.out, HLN.out]; exact HO3.out

end Go.Proofs.Ytjnfllcbkkcfiaa
