/- This text proves the walk of Compile. Conditions: those that each theorem names. -/
import Derived.Test.YtfhccmegobbnaaaRegexK
namespace Go.Proofs.Ytfhccmegobbnaaa
open Go.ChangeShapes Go.WideShapes Go.ChangeAt Go.RowKit
set_option linter.unusedVariables false
set_option linter.unusedSimpArgs false

/-- What Compile makes of a text: the code and the number of groups, or the place and the number of an error. -/
def compF (s : ByteArray) : Except (Nat × Nat) (List In × Nat) :=
  if 256 < s.size then .error (0, 4) else
  match topE 0 s (regexF (4 * s.size + 4) s 0 0) with
  | .error k => .error (k, 49)
  | .ok (a, _, h) => .ok ([iSave 0] ++ a.gen 1 0 ++ [iSave 1] ++ [iOp 9], h + 1)
def CompPost (w : World) (r : Except (Nat × Nat) (List In × Nat)) (e : Ending) (w' : World) : Prop :=
  match r with
  | .error (k, c) => e = .returned (.tuple #[.agg #[.slice none 0 0, .int .i64 0], .int .i64 (k : Int), .int .i64 (c : Int)]) ∧ Below w.heap.size w w'
  | .ok (code, n) => ∃ v, e = .returned (.tuple #[.agg #[v, .int .i64 (n : Int)], .int .i64 0, .int .i64 0]) ∧ w'.ownsRow w.heap.size 34 6 v code.length (flatE In.enc code) ∧ Below w.heap.size w w'

set_option maxRecDepth 20000 in
set_option maxHeartbeats 32000000 in
theorem compile_calls (s : ByteArray) (hs0 : s.size ≤ 9223372036854775807) (w : World) : Calls Try.prog 9 #[.string s] w fun e w' => CompPost w (compF s) e w' := by
  by_cases hl : 256 < s.size
  · have hz : (256 : Int) < (s.size : Int) := by omega
    have ER : compF s = .error (0, 4) := if_pos hl
    rw [ER]
    clear ER hl
    go_enter Try.func9, Try.ntmps9
    go_wp2
    refine bodyPost_ret (v := .tuple #[.agg #[.slice none 0 0, .int .i64 0], .int .i64 0, .int .i64 4]) (by simp [results, Try.results9, go_sem, ↓IntWalk.iteOmega, *]) rfl ⟨rfl, ?_⟩
    first | exact (Below.alloc (Below.refl _ _) (Nat.le_refl _) _) | (repeat (first | exact Below.refl _ _ | refine below_holds ?_ (Nat.le_refl _) _ _ | refine Below.alloc ?_ (by simp) _))
  have hz : ¬ (256 : Int) < (s.size : Int) := by omega
  have hs : s.size ≤ 1000000 := by omega
  have EQ : compF s = match topE 0 s (regexF (4 * s.size + 4) s 0 0) with
      | .error k => .error (k, 49)
      | .ok (a, _, h) => .ok ([iSave 0] ++ a.gen 1 0 ++ [iSave 1] ++ [iOp 9], h + 1) := if_neg hl
  obtain ⟨V0, hV0⟩ : ∃ V, w.alloc (.cells #[.slice none 0 0, .int .i64 0] 24) = V := ⟨_, rfl⟩
  obtain ⟨V1, hV1⟩ : ∃ V, V0.alloc (.cells #[.string s, .int .i64 0, .int .i64 0, .slice none 0 0, .int .i64 0] 46) = V := ⟨_, rfl⟩
  obtain ⟨rb, hrb⟩ : ∃ n, w.heap.size = n := ⟨_, rfl⟩
  obtain ⟨pb, hpb⟩ : ∃ n, w.heap.size + 1 = n := ⟨_, rfl⟩
  have hsz : V0.heap.size = pb := by rw [← hV0, ← hpb]; simp
  have R0 : Aside (V0.heap[rb]? = some (.cells #[.slice none 0 0, .int .i64 0] 24 (0, 0))) := by show _ = _; rw [← hV0]; exact hp_new hrb.symm
  have B0 : Aside (Below w.heap.size w V0) := by show Below _ _ _; rw [← hV0]; exact Below.alloc (Below.refl _ _) (Nat.le_refl _) _
  have P1 : Aside (Par s pb pb 0 0 [] 0 V1) := ⟨Nat.le_refl _, .slice none 0 0, by rw [← hV1]; exact hp_new hsz.symm, rfl, .inl ⟨rfl, rfl⟩⟩
  have B1 : Aside (Below pb V0 V1) := by show Below _ _ _; rw [← hV1]; exact Below.alloc (Below.refl _ _) (by omega) _
  have HV : Aside ((w.alloc (.cells #[.slice none 0 0, .int .i64 0] 24)).alloc (.cells #[.string s, .int .i64 0, .int .i64 0, .slice none 0 0, .int .i64 0] 46) = V1) := by show _ = _; rw [hV0, hV1]
  have ce := fun W (h : Par s pb pb 0 0 [] 0 W) => emit_calls s pb pb 0 0 [] 0 8 0 ⟨#[]⟩ false 0 0 W h (by simp)
  have hcd : Cond s 0 0 0 ([] ++ [(⟨8, 0, ⟨#[]⟩, false, 0, 0⟩ : In)]) := ⟨by omega, by omega, by simp, by simp, Sml.one (by simp only []; omega), by omega, by omega⟩
  have crg := fun W (h0 : Below pb V0 W) (h1 : Par s pb pb 0 0 ([] ++ [(⟨8, 0, ⟨#[]⟩, false, 0, 0⟩ : In)]) 0 W) => (all_ok (4 * s.size + 4)).1 s pb pb 0 0 0 _ 0 V0 W h0 h1 hcd (by omega)
  have hgood := (good_all (4 * s.size + 4)).1 s 0 0 (by omega)
  have hRB : Aside (rb < pb ∧ w.heap.size = rb ∧ w.heap.size + 1 = pb) := ⟨by omega, hrb, hpb⟩
  have npr : ¬ pb = rb := by omega
  have nrp : ¬ rb = pb := by omega
  clear hcd hV0 hV1 hl
  have go0 : rb + 1 = pb := by omega
  clear hpb
  cases hT : topE 0 s (regexF (4 * s.size + 4) s 0 0) with
  | error k =>
    rw [hT] at crg EQ
    have ER : compF s = .error (k, 49) := EQ
    rw [ER]
    clear hT ER EQ hgood
    go_enter Try.func9, Try.ntmps9
    go_wp2_with fail
    rw [HV.out]
    try rw [go0]
    have HP : Aside (Par s pb pb 0 0 [] 0 V1) := P1
    have HB : Aside (Below pb V0 V1) := B1
    clear P1 B1 HV
    refine (ce _ HP.out).mono ?_
    rintro e q70 ⟨rfl, hp, hb⟩
    have HP' : Aside (Par s pb pb 0 0 ([] ++ [(⟨8, 0, ⟨#[]⟩, false, 0, 0⟩ : In)]) 0 q70) := hp
    have HB' : Aside (Below pb V0 q70) := HB.out.trans hb
    clear hp hb HP HB ce
    have HP : Aside (Par s pb pb 0 0 ([] ++ [(⟨8, 0, ⟨#[]⟩, false, 0, 0⟩ : In)]) 0 q70) := HP'.out
    have HB : Aside (Below pb V0 q70) := HB'.out
    clear HP' HB'
    go_wp2_with fail
    refine (crg _ HB.out HP.out).mono ?_
    rintro e w9 ⟨rfl, ⟨i2, g2, code2, hp⟩, hb⟩
    clear HP HB crg
    have HP : Aside (Par s pb pb i2 g2 code2 (k : Int) w9) := hp
    have HB : Aside (Below pb V0 w9) := hb
    clear hp hb
    have hr0 : w9.heap[rb]? = some (.cells #[.slice none 0 0, .int .i64 0] 24 (0, 0)) := (HB.out.block rb hRB.out.1).trans R0.out
    have ltr : rb < w9.heap.size := (Array.getElem?_eq_some_iff.1 hr0).1
    obtain ⟨v, hv⟩ := HP.out.v
    have hnn : ∃ ao n9 cap, v = .slice ao n9 cap := by
      obtain ⟨_, ⟨hv9, h09⟩ | ⟨gg, cap, cur, hv9, _⟩⟩ := hv.hr
      · exact ⟨_, _, _, hv9⟩
      · exact ⟨_, _, cap, hv9⟩
    obtain ⟨ao9, n9, cap9, rfl⟩ := hnn
    have OW := hv.hr
    have b0 := cell_heap hv.hp 0 _ rfl
    have b2 := cell_heap hv.hp 2 _ rfl
    have b3 := cell_heap hv.hp 3 _ rfl
    have b4 := cell_heap hv.hp 4 _ rfl
    have ltp : pb < w9.heap.size := (Array.getElem?_eq_some_iff.1 hv.hp).1
    have BW : Aside (Below w.heap.size w w9) := B0.out.trans (HB.out.mono (by have := hRB.out; omega))
    have HR0 : Aside (w9.heap[rb]? = some (.cells #[.slice none 0 0, .int .i64 0] 24 (0, 0))) := hr0
    have OWN : Aside (w9.ownsRow pb 34 6 (.slice ao9 n9 cap9) _ _) := OW
    rw [holds_self hr0]
    clear hr0 OW hv HP HB B0 R0 hrb hsz
    go_wp2
    go_region
    all_goals go_wp2
    all_goals refine bodyPost_ret (v := .tuple #[.agg #[.slice none 0 0, .int .i64 0], .int .i64 (k : Int), .int .i64 49]) (by simp [results, Try.results9, go_sem, ↓IntWalk.iteOmega, *]) rfl ⟨rfl, ?_⟩
    all_goals exact Below.drew (below_holds BW.out (by have := hRB.out; omega) _ _)
  | ok r =>
    obtain ⟨a, l, h⟩ := r
    rw [hT] at crg EQ
    rw [(topE_ok hT).1] at hgood
    obtain ⟨a1, a2, a3, a4, a5, a6⟩ := hgood
    have ER : compF s = .ok ([iSave 0] ++ a.gen 1 0 ++ [iSave 1] ++ [iOp 9], h + 1) := EQ
    rw [ER]
    have crg : ∀ W, Below pb V0 W → Par s pb pb 0 0 ([] ++ [(⟨8, 0, ⟨#[]⟩, false, 0, 0⟩ : In)]) 0 W → Calls Try.prog 24 #[.pointer (some ⟨pb, 0, none⟩), .int .i64 0] W fun e w' => e = .returned (.bool true) ∧ Par s pb pb l h ([iSave 0] ++ a.gen 1 0) 0 w' ∧ Below pb V0 w' := crg
    have GL : ([iSave 0] ++ a.gen 1 0).length = a.clen + 1 := by rw [List.length_append, Re.gen_len]; simp; omega
    have c1 := fun W (h9 : Par s pb pb l h ([iSave 0] ++ a.gen 1 0) 0 W) => emit_calls s pb pb l h _ 0 8 0 ⟨#[]⟩ false 1 0 W h9 (by rw [GL]; omega)
    have c2 := fun W (h9 : Par s pb pb l h ([iSave 0] ++ a.gen 1 0 ++ [(⟨8, 0, ⟨#[]⟩, false, 1, 0⟩ : In)]) 0 W) => emit_calls s pb pb l h _ 0 9 0 ⟨#[]⟩ false 0 0 W h9 (by rw [List.length_append, GL]; simp; omega)
    have hwh : IntKind.i64.wrap ((h : Int) + 1) = (h : Int) + 1 := by rw [IntKind.wrap_i64]; omega
    have hch : ((h + 1 : Nat) : Int) = (h : Int) + 1 := by omega
    clear hT ER EQ GL
    go_enter Try.func9, Try.ntmps9
    go_wp2_with fail
    rw [HV.out]
    try rw [go0]
    have HP : Aside (Par s pb pb 0 0 [] 0 V1) := P1
    have HB : Aside (Below pb V0 V1) := B1
    clear P1 B1 HV
    refine (ce _ HP.out).mono ?_
    rintro e q71 ⟨rfl, hp, hb⟩
    have HP' : Aside (Par s pb pb 0 0 ([] ++ [(⟨8, 0, ⟨#[]⟩, false, 0, 0⟩ : In)]) 0 q71) := hp
    have HB' : Aside (Below pb V0 q71) := HB.out.trans hb
    clear hp hb HP HB ce
    have HP : Aside (Par s pb pb 0 0 ([] ++ [(⟨8, 0, ⟨#[]⟩, false, 0, 0⟩ : In)]) 0 q71) := HP'.out
    have HB : Aside (Below pb V0 q71) := HB'.out
    clear HP' HB'
    go_wp2_with fail
    refine (crg _ HB.out HP.out).mono ?_
    rintro e w9 ⟨rfl, hp, hb⟩
    clear HP HB crg
    have HP : Aside (Par s pb pb l h ([iSave 0] ++ a.gen 1 0) 0 w9) := hp
    have HB : Aside (Below pb V0 w9) := hb
    clear hp hb
    go_wp2_with fail
    refine (c1 _ HP.out).mono ?_
    rintro e q72 ⟨rfl, hp, hb⟩
    have HP' : Aside (Par s pb pb l h (([iSave 0] ++ a.gen 1 0) ++ [(⟨8, 0, ⟨#[]⟩, false, 1, 0⟩ : In)]) 0 q72) := hp
    have HB' : Aside (Below pb V0 q72) := HB.out.trans hb
    clear hp hb HP HB c1
    have HP : Aside (Par s pb pb l h (([iSave 0] ++ a.gen 1 0) ++ [(⟨8, 0, ⟨#[]⟩, false, 1, 0⟩ : In)]) 0 q72) := HP'.out
    have HB : Aside (Below pb V0 q72) := HB'.out
    clear HP' HB'
    go_wp2_with fail
    refine (c2 _ HP.out).mono ?_
    rintro e q73 ⟨rfl, hp, hb⟩
    have HP' : Aside (Par s pb pb l h ((([iSave 0] ++ a.gen 1 0) ++ [(⟨8, 0, ⟨#[]⟩, false, 1, 0⟩ : In)]) ++ [(⟨9, 0, ⟨#[]⟩, false, 0, 0⟩ : In)]) 0 q73) := hp
    have HB' : Aside (Below pb V0 q73) := HB.out.trans hb
    clear hp hb HP HB c2
    have HP : Aside (Par s pb pb l h ((([iSave 0] ++ a.gen 1 0) ++ [(⟨8, 0, ⟨#[]⟩, false, 1, 0⟩ : In)]) ++ [(⟨9, 0, ⟨#[]⟩, false, 0, 0⟩ : In)]) 0 q73) := HP'.out
    have HB : Aside (Below pb V0 q73) := HB'.out
    clear HP' HB'
    have hr0 : q73.heap[rb]? = some (.cells #[.slice none 0 0, .int .i64 0] 24 (0, 0)) := (HB.out.block rb hRB.out.1).trans R0.out
    have ltr : rb < q73.heap.size := (Array.getElem?_eq_some_iff.1 hr0).1
    obtain ⟨v, hv⟩ := HP.out.v
    have hnn : ∃ ao n9 cap, v = .slice ao n9 cap := by
      obtain ⟨_, ⟨hv9, h09⟩ | ⟨gg, cap, cur, hv9, _⟩⟩ := hv.hr
      · exact ⟨_, _, _, hv9⟩
      · exact ⟨_, _, cap, hv9⟩
    obtain ⟨ao9, n9, cap9, rfl⟩ := hnn
    have OW := hv.hr
    have b0 := cell_heap hv.hp 0 _ rfl
    have b2 := cell_heap hv.hp 2 _ rfl
    have b3 := cell_heap hv.hp 3 _ rfl
    have b4 := cell_heap hv.hp 4 _ rfl
    have ltp : pb < q73.heap.size := (Array.getElem?_eq_some_iff.1 hv.hp).1
    have BW : Aside (Below w.heap.size w q73) := B0.out.trans (HB.out.mono (by have := hRB.out; omega))
    have HR0 : Aside (q73.heap[rb]? = some (.cells #[.slice none 0 0, .int .i64 0] 24 (0, 0))) := hr0
    have OWN : Aside (q73.ownsRow pb 34 6 (.slice ao9 n9 cap9) _ _) := OW
    rw [holds_self hr0]
    clear hr0 OW hv HP HB B0 R0 hrb hsz
    go_wp2
    go_region
    all_goals go_wp2
    all_goals refine bodyPost_ret (v := .tuple #[.agg #[.slice ao9 n9 cap9, .int .i64 ((h : Int) + 1)], .int .i64 0, .int .i64 0]) (by simp [results, Try.results9, go_sem, ↓IntWalk.iteOmega, *]) rfl ⟨_, by rw [hch], ?_, ?_⟩
    all_goals first | exact Below.drew (below_holds BW.out (by have := hRB.out; omega) _ _) | exact own_drew (own_holds (own_lower OWN.out (by have := hRB.out; omega)) (own_ne OWN.out HR0.out (by decide)))

end Go.Proofs.Ytfhccmegobbnaaa
