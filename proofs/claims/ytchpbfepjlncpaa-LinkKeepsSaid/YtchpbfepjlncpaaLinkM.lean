/- This text joins the walks of LinkKeeps. It has no conditions beyond the types' ranges. -/
import Derived.Test.YtchpbfepjlncpaaLinkL
namespace Go.Proofs.Ytchpbfepjlncpaa
open Go.ChangeShapes Go.WideShapes Go.ChangeAt Go.RowKit
set_option linter.unusedVariables false

set_option maxRecDepth 20000 in
set_option maxHeartbeats 4000000 in
theorem keeps_many (most : Int) (ao : Option Addr) (n cap : Nat) (w : World) (hn : 60 < n) (hcap : n ≤ cap) (hmax : cap ≤ 9223372036854775807) :
    Calls Try.prog 7 #[.int .i64 most, .slice ao n cap] w fun e w' => e = .returned (.bool true) ∧ Below w.heap.size w w' := by
  go_enter Try.func7, Try.ntmps7
  go_wp2_with (first | (go_at_call 9; (with_reducible refine (alive_calls _).mono ?_); (rintro e w1 ⟨rfl, hb⟩; obtain ⟨x, hx⟩ := plus_of_below hb; subst hx); clear hb))
  go_ret
  refine ⟨rfl, ?_⟩
  repeat (first | (with_reducible exact Below.refl _ _) | (with_reducible assumption) | (with_reducible refine below_to_plus ?_ ?_ _) | (with_reducible refine Below.alloc ?_ ?_ _) | (with_reducible refine Below.drew ?_) | (with_reducible refine below_drewN ?_ _) | (with_reducible refine Below.setCell ?_ ?_ _))
  all_goals first | omega | (simp; done) | (simp [go_sem]; done) | (simp [go_sem]; omega)

set_option maxRecDepth 20000 in
set_option maxHeartbeats 4000000 in
theorem keeps_none (most : Int) (ao : Option Addr) (cap : Nat) (w : World) (hm1 : -9223372036854775808 ≤ most) (hm2 : most ≤ 9223372036854775807) :
    Calls Try.prog 7 #[.int .i64 most, .slice ao 0 cap] w fun e w' => e = .returned (.bool true) ∧ Below w.heap.size w w' := by
  obtain ⟨c0, hc0, hc1, hc2⟩ : ∃ c0, min (max most 1) 65536 = c0 ∧ 1 ≤ c0 ∧ c0 ≤ 65536 := ⟨_, rfl, by omega, by omega⟩
  have c10 := fun w => new_calls most w hm1 hm2
  rw [hc0] at c10
  clear hc0
  go_enter Try.func7, Try.ntmps7
  go_wp2_with (first | (go_at_call 10; (with_reducible refine (c10 _).mono ?_); (rintro e w1 ⟨rfl, hb⟩; obtain ⟨x, hx⟩ := plus_of_below hb; subst hx); clear hb))
  go_loopg [6, 7, 8, 9, 25] 0 (fun k u d s t i wr => Keep w x 0 k u d s t i wr)
  · exact ⟨true, c0, ⟨#[]⟩, ⟨#[]⟩, 0, 0, 0, 0, { w with heap := #[], drawn := _ }, rfl, rfl, rfl, rfl, rfl, (by simp [plus]; rfl), by omega, (right_iff _ _ _ _ _).2 (by simp [ByteArray.size]; omega), by simp [ByteArray.size], by omega, by omega⟩
  · obtain ⟨up, cp, ts, tc, lost, sent, taken, idx, y, rfl, rfl, rfl, rfl, rfl, rfl, hk, hr, hsum, ht0, hs100⟩ := hrel
    have C' : idx = 0 := by omega
    subst C'
    go_wp2_with (first | (go_at_call 9; (with_reducible refine (alive_calls _).mono ?_); (rintro e w1 ⟨rfl, hb⟩; obtain ⟨x, hx⟩ := plus_of_below hb; subst hx); clear hb))
    go_ret
    refine ⟨rfl, ?_⟩
    repeat (first | (with_reducible exact Below.refl _ _) | (with_reducible assumption) | (with_reducible refine below_to_plus ?_ ?_ _) | (with_reducible refine Below.alloc ?_ ?_ _) | (with_reducible refine Below.drew ?_) | (with_reducible refine below_drewN ?_ _) | (with_reducible refine Below.setCell ?_ ?_ _))
    all_goals first | omega | (simp; done) | (simp [go_sem]; done) | (simp [go_sem]; omega)

theorem op_cells (l : List Value) (h1 : leavesOk [some (some .i64), none, some none, some (some .i64)] l) :
    ∃ k sv s m, (Lit.int .i64 k).wf = true ∧ (Lit.int .i64 m).wf = true ∧ s.size ≤ maxLen ∧ l = [.int .i64 k, .bool sv, .string s, .int .i64 m] := by
  obtain ⟨a, r1, e1, ⟨u, rfl, w1⟩, h2⟩ := leavesOk_cons h1
  obtain ⟨b, r2, e2, ⟨n, rfl⟩, h3⟩ := leavesOk_cons h2
  obtain ⟨c, r3, e3, ⟨s, rfl, w3⟩, h4⟩ := leavesOk_cons h3
  obtain ⟨d, r4, e4, ⟨t, rfl, w4⟩, h5⟩ := leavesOk_cons h4
  have e5 := leavesOk_nil h5
  exact ⟨u, n, s, t, w1, w4, w3, by rw [e1, e2, e3, e4, e5]⟩

theorem keeps_calls (most : Int) (ao : Option Addr) (n cap : Nat) (xs : List (List Value)) (w : World) (hm : -9223372036854775808 ≤ most ∧ most ≤ 9223372036854775807) (h : Sl w 4 ao n cap xs)
    (hl : ∀ x ∈ xs, leavesOk [some (some .i64), none, some none, some (some .i64)] x) :
    Calls Try.prog 7 #[.int .i64 most, .slice ao n cap] w fun e w' => e = .returned (.bool true) ∧ Below w.heap.size w w' := by
  by_cases h60 : 60 < n
  · exact keeps_many most ao n cap w h60 h.hcap h.hmax
  by_cases h0 : n = 0
  · subst h0
    exact keeps_none most ao cap w hm.1 hm.2
  obtain ⟨b, off, rfl, hb, hc⟩ := h.here (by omega)
  refine keeps_walk most b off n cap xs w hm.1 hm.2 (by omega) (by omega) h.hcap h.hmax hb (fun j hj => ?_)
  have hj' : j < xs.length := by rw [h.hlen]; exact hj
  obtain ⟨k, sv, s, m, w1, w2, w3, hx⟩ := op_cells _ (hl _ (List.getElem_mem hj'))
  have hx' : xs[j]? = some [.int .i64 k, .bool sv, .string s, .int .i64 m] := by rw [List.getElem?_eq_getElem hj', hx]
  exact ⟨k, sv, s, m, w1, w2, w3, hc j _ hx' 0 _ rfl, hc j _ hx' 1 _ rfl, hc j _ hx' 2 _ rfl, hc j _ hx' 3 _ rfl⟩

end Go.Proofs.Ytchpbfepjlncpaa
