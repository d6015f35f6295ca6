/- This text proves the walks of LinkTakes. It has no conditions beyond the types' ranges. -/
import Derived.Test.YtchpbfepjlncpaaLinkF
import Derived.RegionTactic
namespace Go.Proofs.Ytchpbfepjlncpaa
open Go.ChangeShapes Go.WideShapes Go.ChangeAt Go.RowKit
set_option linter.unusedVariables false

theorem clamp_low (x : Int) (len : Nat) (hl : len ≤ 65536) : takeN (if 100000 < (if x < 0 then 0 else x) then 100000 else (if x < 0 then 0 else x)) len = takeN x len := by
  rcases (by omega : x < 0 ∨ (0 ≤ x ∧ x ≤ 100000) ∨ 100000 < x) with h | ⟨h, h'⟩ | h
  · rw [if_pos h, if_neg (by omega), takeN_lo x len h, takeN_mid 0 len (by omega) (by omega)]; rfl
  · rw [if_neg (by omega : ¬ x < 0), if_neg (by omega)]
  · rw [if_neg (by omega : ¬ x < 0), if_pos h, takeN_hi _ _ (by omega) (by omega), takeN_hi _ _ (by omega) (by omega)]
theorem clamp_range (x : Int) : 0 ≤ (if 100000 < (if x < 0 then 0 else x) then (100000 : Int) else (if x < 0 then 0 else x)) ∧ (if 100000 < (if x < 0 then 0 else x) then (100000 : Int) else (if x < 0 then 0 else x)) ≤ 100000 := by
  rcases (by omega : x < 0 ∨ (0 ≤ x ∧ x ≤ 100000) ∨ 100000 < x) with h | ⟨h, h'⟩ | h
  · rw [if_pos h, if_neg (by omega)]; omega
  · rw [if_neg (by omega : ¬ x < 0), if_neg (by omega)]; omega
  · rw [if_neg (by omega : ¬ x < 0), if_pos h]; omega

theorem bytes_ext {a b : ByteArray} (h : a.data.toList = b.data.toList) : a = b := ByteArray.ext (Array.ext' h)
theorem list_extract (b : ByteArray) (i j : Nat) : (b.extract i j).data.toList = (b.data.toList.take j).drop i := by
  rw [ByteArray.data_extract, Array.toList_extract, List.extract_eq_take_drop, List.drop_take]
theorem size_list (b : ByteArray) : b.data.toList.length = b.size := Array.length_toList
theorem extract_extract_end (b : ByteArray) (i j : Nat) : (b.extract i b.size).extract j (b.extract i b.size).size = b.extract (i + j) b.size := by
  apply bytes_ext
  rw [list_extract, ← size_list, List.take_length, list_extract, list_extract, ← size_list, List.take_length, List.drop_drop]
theorem extract_join (b : ByteArray) (i j : Nat) : b.extract 0 i ++ (b.extract i b.size).extract 0 j = b.extract 0 (i + j) := by
  apply bytes_ext
  rw [ByteArray.data_append, Array.toList_append, list_extract, list_extract, list_extract, list_extract, ← size_list b, List.take_length]
  simp only [List.drop_zero]
  rw [List.take_add]

theorem takeN_le (n : Int) (len : Nat) : takeN n len ≤ len := by
  rcases (by omega : n < 0 ∨ (0 ≤ n ∧ n ≤ len) ∨ (0 ≤ n ∧ (len : Int) < n)) with h | ⟨h, h'⟩ | ⟨h, h'⟩
  · rw [takeN_lo _ _ h]; omega
  · rw [takeN_mid _ _ h h']; omega
  · rw [takeN_hi _ _ h h']; omega
theorem takeN_add (n m : Int) (len : Nat) (h0 : 0 ≤ n) (hm : 0 ≤ m) : takeN (n + m) len = takeN n len + takeN m (len - takeN n len) := by
  rcases (by omega : n ≤ len ∨ (len : Int) < n) with h | h
  · rw [takeN_mid n len h0 h]
    rcases (by omega : n + m ≤ len ∨ (len : Int) < n + m) with h' | h'
    · rw [takeN_mid _ _ (by omega) h', takeN_mid _ _ hm (by omega)]; omega
    · rw [takeN_hi _ _ (by omega) h', takeN_hi _ _ hm (by omega)]; omega
  · rw [takeN_hi n len h0 h, takeN_hi _ _ (by omega) (by omega)]
    have := takeN_le m (len - len)
    omega
theorem size_extract_end (b : ByteArray) (i : Nat) : (b.extract i b.size).size = b.size - i := by
  rw [← size_list, list_extract, ← size_list, List.take_length, List.length_drop]

theorem size_extract_head (b : ByteArray) (i : Nat) : (b.extract 0 i).size = min i b.size := by
  rw [← size_list, list_extract, List.drop_zero, List.length_take, size_list]

theorem take_two (up : Bool) (cap : Int) (ts tc : ByteArray) (lost : Int) (server : Bool) (x n m : Int) (ht : takeN n ts.size = takeN x ts.size) (hc : takeN n tc.size = takeN x tc.size) (h0 : 0 ≤ n) (hm : 0 ≤ m) :
    takeL ⟨up, cap, ts, tc, lost⟩ server (n + m) = ((takeL (takeL ⟨up, cap, ts, tc, lost⟩ server x).1 server m).1, (takeL ⟨up, cap, ts, tc, lost⟩ server x).2 ++ (takeL (takeL ⟨up, cap, ts, tc, lost⟩ server x).1 server m).2) := by
  cases server
  · simp only [takeL, Bool.false_eq_true, if_false]
    rw [extract_extract_end, size_extract_end, extract_join, takeN_add n m _ h0 hm, hc]
  · simp only [takeL, if_true]
    rw [extract_extract_end, size_extract_end, extract_join, takeN_add n m _ h0 hm, ht]

theorem take_size (up : Bool) (cap : Int) (ts tc : ByteArray) (lost : Int) (server : Bool) (x : Int) :
    (takeL ⟨up, cap, ts, tc, lost⟩ server x).1.ts.size ≤ ts.size ∧ (takeL ⟨up, cap, ts, tc, lost⟩ server x).1.tc.size ≤ tc.size ∧ ((takeL ⟨up, cap, ts, tc, lost⟩ server x).2.size ≤ ts.size ∨ (takeL ⟨up, cap, ts, tc, lost⟩ server x).2.size ≤ tc.size) := by
  cases server
  · simp only [takeL, Bool.false_eq_true, if_false]
    rw [size_extract_end, size_extract_head]
    have := takeN_le x tc.size
    omega
  · simp only [takeL, if_true]
    rw [size_extract_end, size_extract_head]
    have := takeN_le x ts.size
    omega


set_option maxHeartbeats 1000000 in
theorem takes_long (up : Bool) (cap : Int) (ts tc : ByteArray) (lost : Int) (server : Bool) (x0 x1 : Int) (w : World) (h : ¬ (ts.size ≤ 70000 ∧ tc.size ≤ 70000)) :
    Calls Try.prog 5 #[.agg #[.bool up, .int .i64 cap, .string ts, .string tc, .int .i64 lost], .bool server, .agg #[.int .i64 x0, .int .i64 x1]] w fun e w' => e = .returned (.bool true) ∧ Below w.heap.size w w' := by
  have hs := fun w => short_no up cap ts tc lost w h
  clear h
  go_enter Try.func5, Try.ntmps5
  go_wp2_with (first | (go_at_call 8; (with_reducible refine (hs _).mono ?_); (rintro e w1 ⟨rfl, hb⟩; obtain ⟨x, hx⟩ := plus_of_below hb; subst hx); clear hb) | (go_at_call 9; (with_reducible refine (alive_calls _).mono ?_); (rintro e w1 ⟨rfl, hb⟩; obtain ⟨x, hx⟩ := plus_of_below hb; subst hx); clear hb))
  go_ret
  refine ⟨rfl, ?_⟩
  repeat (first | (with_reducible exact Below.refl _ _) | (with_reducible assumption) | (with_reducible refine below_to_plus ?_ ?_ _) | (with_reducible refine Below.alloc ?_ ?_ _) | (with_reducible refine Below.drew ?_) | (with_reducible refine below_drewN ?_ _) | (with_reducible refine Below.setCell ?_ ?_ _))
  all_goals first | (simp; done) | (simp [go_sem]; done) | (simp [go_sem]; omega)

set_option maxHeartbeats 1000000 in
theorem takes_wrong (up : Bool) (cap : Int) (ts tc : ByteArray) (lost : Int) (server : Bool) (x0 x1 : Int) (w : World) (h1 : ts.size ≤ 70000) (h2 : tc.size ≤ 70000) (h : rightB ⟨up, cap, ts, tc, lost⟩ = false) :
    Calls Try.prog 5 #[.agg #[.bool up, .int .i64 cap, .string ts, .string tc, .int .i64 lost], .bool server, .agg #[.int .i64 x0, .int .i64 x1]] w fun e w' => e = .returned (.bool true) ∧ Below w.heap.size w w' := by
  have hs := fun w => short_yes up cap ts tc lost w h1 h2
  have hr := fun w => refRight_calls up cap ts tc lost w h1 h2
  rw [h] at hr
  clear h
  go_enter Try.func5, Try.ntmps5
  go_wp2_with (first | (go_at_call 8; (with_reducible refine (hs _).mono ?_); (rintro e w1 ⟨rfl, hb⟩; obtain ⟨x, hx⟩ := plus_of_below hb; subst hx); clear hb) | (go_at_call 13; (with_reducible refine (hr _).mono ?_); (rintro e w1 ⟨rfl, hb⟩; obtain ⟨x, hx⟩ := plus_of_below hb; subst hx); clear hb) | (go_at_call 9; (with_reducible refine (alive_calls _).mono ?_); (rintro e w1 ⟨rfl, hb⟩; obtain ⟨x, hx⟩ := plus_of_below hb; subst hx); clear hb))
  go_ret
  refine ⟨rfl, ?_⟩
  repeat (first | (with_reducible exact Below.refl _ _) | (with_reducible assumption) | (with_reducible refine below_to_plus ?_ ?_ _) | (with_reducible refine Below.alloc ?_ ?_ _) | (with_reducible refine Below.drew ?_) | (with_reducible refine below_drewN ?_ _) | (with_reducible refine Below.setCell ?_ ?_ _))
  all_goals first | (simp; done) | (simp [go_sem]; done) | (simp [go_sem]; omega)


set_option maxHeartbeats 2000000 in
theorem takes_good (up : Bool) (cap : Int) (ts tc : ByteArray) (lost : Int) (server : Bool) (x0 x1 : Int) (w : World) (h1 : ts.size ≤ 70000) (h2 : tc.size ≤ 70000) (h : rightB ⟨up, cap, ts, tc, lost⟩ = true) :
    Calls Try.prog 5 #[.agg #[.bool up, .int .i64 cap, .string ts, .string tc, .int .i64 lost], .bool server, .agg #[.int .i64 x0, .int .i64 x1]] w fun e w' => e = .returned (.bool true) ∧ Below w.heap.size w w' := by
  have hs := fun w => short_yes up cap ts tc lost w h1 h2
  have hr := fun w => refRight_calls up cap ts tc lost w h1 h2
  have hv := (right_iff up cap ts tc lost).1 h
  obtain ⟨v1, v2, v3, v4, v5, v6, v7⟩ := hv
  rw [h] at hr
  have k1 : ts.size ≤ 65536 := by omega
  have k2 : tc.size ≤ 65536 := by omega
  have ks := take_size up cap ts tc lost server x0
  have c18 := fun w => take_calls up cap ts tc lost server x0 w k1 k2
  have c19 := fun w => refTake_calls up cap ts tc lost server x0 w k1 k2
  have r0 := clamp_range x0
  have r1 := clamp_range x1
  have q1 := clamp_low x0 ts.size k1
  have q2 := clamp_low x0 tc.size k2
  obtain ⟨a0, e0⟩ : ∃ a0 : Int, (if x0 < 0 then (0 : Int) else x0) = a0 := ⟨_, rfl⟩
  obtain ⟨a1, e1⟩ : ∃ a1 : Int, (if x1 < 0 then (0 : Int) else x1) = a1 := ⟨_, rfl⟩
  rw [e0] at r0 q1 q2
  rw [e1] at r1
  obtain ⟨n0, f0⟩ : ∃ n0 : Int, (if 100000 < a0 then (100000 : Int) else a0) = n0 := ⟨_, rfl⟩
  obtain ⟨m0, f1⟩ : ∃ m0 : Int, (if 100000 < a1 then (100000 : Int) else a1) = m0 := ⟨_, rfl⟩
  rw [f0] at r0 q1 q2
  rw [f1] at r1
  obtain ⟨r0a, r0b⟩ := r0
  obtain ⟨r1a, r1b⟩ := r1
  have c18c := fun w => take_calls up cap ts tc lost server (n0 + m0) w k1 k2
  have hjoin := take_two up cap ts tc lost server x0 n0 m0 q1 q2 r0a r1a
  simp only [hjoin] at c18c
  obtain ⟨g1, g2, g3⟩ := ks
  clear hjoin q1 q2 h v7
  generalize takeL ⟨up, cap, ts, tc, lost⟩ server x0 = y at c18 c19 c18c g1 g2 g3
  obtain ⟨⟨u1, c1, t1, d1, l1⟩, s1⟩ := y
  simp only [] at c18 c19 c18c g1 g2 g3
  have c18b := fun w => take_calls u1 c1 t1 d1 l1 server m0 w (by omega) (by omega)
  obtain ⟨_, _, g4⟩ := take_size u1 c1 t1 d1 l1 server m0
  generalize takeL ⟨u1, c1, t1, d1, l1⟩ server m0 = z at c18b c18c g4
  obtain ⟨⟨u2, c2, t2, d2, l2⟩, s2⟩ := z
  simp only [] at c18b c18c g4
  have g5 : s1.size ≤ 65536 := by omega
  have g6 : s2.size ≤ 65536 := by omega
  clear g3 g4
  go_enter Try.func5, Try.ntmps5
  go_wp2_with (first | (go_at_call 8; (with_reducible refine (hs _).mono ?_); (rintro e w1 ⟨rfl, hb⟩; obtain ⟨x, hx⟩ := plus_of_below hb; subst hx); clear hb) | (go_at_call 13; (with_reducible refine (hr _).mono ?_); (rintro e w1 ⟨rfl, hb⟩; obtain ⟨x, hx⟩ := plus_of_below hb; subst hx); clear hb) | (go_at_call 18; (with_reducible refine (c18 _).mono ?_); (rintro e w1 ⟨rfl, hb⟩; obtain ⟨x, hx⟩ := plus_of_below hb; subst hx); clear hb) | (go_at_call 19; (with_reducible refine (c19 _).mono ?_); (rintro e w1 ⟨rfl, hb⟩; obtain ⟨x, hx⟩ := plus_of_below hb; subst hx); clear hb))
  go_quiet (fail)
  go_wp2_with (first | (go_at_call 18; (with_reducible refine (c18b _).mono ?_); (rintro e w1 ⟨rfl, hb⟩; obtain ⟨x, hx⟩ := plus_of_below hb; subst hx); clear hb) | (go_at_call 18; (with_reducible refine (c18c _).mono ?_); (rintro e w1 ⟨rfl, hb⟩; obtain ⟨x, hx⟩ := plus_of_below hb; subst hx); clear hb) | (go_at_call 9; (with_reducible refine (alive_calls _).mono ?_); (rintro e w1 ⟨rfl, hb⟩; obtain ⟨x, hx⟩ := plus_of_below hb; subst hx); clear hb))
  go_ret
  refine ⟨rfl, ?_⟩
  repeat (first | (with_reducible exact Below.refl _ _) | (with_reducible assumption) | (with_reducible refine below_to_plus ?_ ?_ _) | (with_reducible refine Below.alloc ?_ ?_ _) | (with_reducible refine Below.drew ?_) | (with_reducible refine below_drewN ?_ _) | (with_reducible refine Below.setCell ?_ ?_ _))
  all_goals first | (simp; done) | (simp [go_sem]; done) | (simp [go_sem]; omega)

theorem takes_calls (up : Bool) (cap : Int) (ts tc : ByteArray) (lost : Int) (server : Bool) (x0 x1 : Int) (w : World) :
    Calls Try.prog 5 #[.agg #[.bool up, .int .i64 cap, .string ts, .string tc, .int .i64 lost], .bool server, .agg #[.int .i64 x0, .int .i64 x1]] w fun e w' => e = .returned (.bool true) ∧ Below w.heap.size w w' := by
  by_cases h : ts.size ≤ 70000 ∧ tc.size ≤ 70000
  · cases hr : rightB ⟨up, cap, ts, tc, lost⟩ with
    | true => exact takes_good up cap ts tc lost server x0 x1 w h.1 h.2 hr
    | false => exact takes_wrong up cap ts tc lost server x0 x1 w h.1 h.2 hr
  · exact takes_long up cap ts tc lost server x0 x1 w h

end Go.Proofs.Ytchpbfepjlncpaa
