/- This text proves the walk of LinkKeeps: a loop of at most 60 rounds. It has no conditions beyond the types' ranges. -/
import Derived.Test.YtchpbfepjlncpaaLinkI
import Derived.Test.YtchpbfepjlncpaaMix
import Derived.Deep.LoopGhost
namespace Go.Proofs.Ytchpbfepjlncpaa
open Go.ChangeShapes Go.WideShapes Go.ChangeAt Go.RowKit
set_option linter.unusedVariables false
def Keep (w x0 : World) (n : Nat) (k : Nat) (u d s t i : Value) (wr : World) : Prop :=
  ∃ (up : Bool) (cap : Int) (ts tc : ByteArray) (lost sent taken : Int) (idx : Nat) (x : World), u = .string ts ∧ d = .string tc ∧ s = .int .i64 sent ∧ t = .int .i64 taken ∧ i = .int .i64 (idx : Int) ∧
    wr = plus ((plus w x0).alloc (.cells #[.bool up, .int .i64 cap, .string ts, .string tc, .int .i64 lost] 23)) x ∧ k + idx = n ∧ rightB ⟨up, cap, ts, tc, lost⟩ = true ∧ sent = taken + ts.size + tc.size + lost ∧
    0 ≤ taken ∧ sent ≤ 100 * idx

theorem keep_mk {w x0 : World} {n k : Nat} {u d s t i : Value} {wr : World} (up : Bool) (cap : Int) (ts tc : ByteArray) (lost sent taken : Int) (idx : Nat) (hu : u = .string ts) (hd : d = .string tc) (hs : s = .int .i64 sent)
    (ht : t = .int .i64 taken) (hi : i = .int .i64 (idx : Int))
    (hb : Below ((plus w x0).alloc (.cells #[.bool up, .int .i64 cap, .string ts, .string tc, .int .i64 lost] 23)).heap.size ((plus w x0).alloc (.cells #[.bool up, .int .i64 cap, .string ts, .string tc, .int .i64 lost] 23)) wr)
    (hk : k + idx = n) (hr : rightB ⟨up, cap, ts, tc, lost⟩ = true) (hsum : sent = taken + ts.size + tc.size + lost) (h0 : 0 ≤ taken) (h1 : sent ≤ 100 * idx) : Keep w x0 n k u d s t i wr :=
  let ⟨x, hx⟩ := plus_of_below hb
  ⟨up, cap, ts, tc, lost, sent, taken, idx, x, hu, hd, hs, ht, hi, hx, hk, hr, hsum, h0, h1⟩

theorem take_facts (ts : ByteArray) (m : Int) (h : ts.size ≤ 65536) : ∃ (s1 r1 : ByteArray) (q : Nat), q ≤ ts.size ∧ s1.size = q ∧ r1.size = ts.size - q ∧ ts.extract 0 q = s1 ∧ ts.extract q ts.size = r1 ∧ takeN m ts.size = q ∧
    (m < 0 → q = 0 ∧ s1 = ⟨#[]⟩ ∧ r1 = ts) ∧ (0 ≤ m → (q : Int) ≤ m) := by
  have hq := takeN_le m ts.size
  refine ⟨_, _, takeN m ts.size, hq, ?_, ?_, rfl, rfl, rfl, fun hm => ?_, fun hm => ?_⟩
  · simp [ByteArray.size_extract]; omega
  · simp [ByteArray.size_extract]
  · rw [takeN_lo _ _ hm]
    refine ⟨rfl, empty_eq _ (by simp), ?_⟩
    exact ByteArray.extract_zero_size
  · rcases (by omega : m ≤ ts.size ∨ (ts.size : Int) < m) with h' | h'
    · rw [takeN_mid _ _ hm h']; omega
    · rw [takeN_hi _ _ hm h']; omega

theorem empty_size : (⟨#[]⟩ : ByteArray).size = 0 := rfl

theorem send_ways (up sv : Bool) (cp : Int) (ts tc : ByteArray) (lost : Int) (s : ByteArray) : (sendL ⟨up, cp, ts, tc, lost⟩ sv s = (⟨up, cp, ts, tc, lost⟩, 30) ∨ sendL ⟨up, cp, ts, tc, lost⟩ sv s = (⟨up, cp, ts, tc, lost⟩, 22)) ∨
    (sv = true ∧ (ts.size + s.size : Int) ≤ cp ∧ up = true ∧ sendL ⟨up, cp, ts, tc, lost⟩ sv s = (⟨up, cp, ts ++ s, tc, lost⟩, 0)) ∨ (sv = false ∧ (tc.size + s.size : Int) ≤ cp ∧ up = true ∧ sendL ⟨up, cp, ts, tc, lost⟩ sv s = (⟨up, cp, ts, tc ++ s, lost⟩, 0)) := by
  cases up
  · exact .inl (.inl (sendL_down ..))
  · cases sv
    · by_cases h : (tc.size + s.size : Int) ≤ cp
      · exact .inr (.inr ⟨rfl, h, rfl, sendL_fit' _ _ _ _ _ h⟩)
      · exact .inl (.inr (sendL_full' _ _ _ _ _ (by omega)))
    · by_cases h : (ts.size + s.size : Int) ≤ cp
      · exact .inr (.inl ⟨rfl, h, rfl, sendL_fit _ _ _ _ _ h⟩)
      · exact .inl (.inr (sendL_full _ _ _ _ _ (by omega)))

set_option maxRecDepth 20000 in
set_option maxHeartbeats 40000000 in
theorem keeps_walk (most : Int) (b off n cap : Nat) (xs : List (List Value)) (w : World) (hm1 : -9223372036854775808 ≤ most) (hm2 : most ≤ 9223372036854775807)
   (hn0 : 0 < n) (hn : n ≤ 60) (hcap : n ≤ cap) (hmax : cap ≤ 9223372036854775807) (hb : b < w.heap.size)
   (hc : ∀ j, j < n → ∃ k sv s m, (Lit.int .i64 k).wf = true ∧ (Lit.int .i64 m).wf = true ∧ s.size ≤ maxLen ∧ w.cell? ⟨b, off + j * 4, none⟩ = some (.int .i64 k) ∧ w.cell? ⟨b, off + j * 4 + 1, none⟩ = some (.bool sv) ∧
      w.cell? ⟨b, off + j * 4 + 2, none⟩ = some (.string s) ∧ w.cell? ⟨b, off + j * 4 + 3, none⟩ = some (.int .i64 m)) :
    Calls Try.prog 7 #[.int .i64 most, .slice (some ⟨b, off, none⟩) n cap] w fun e w' => e = .returned (.bool true) ∧ Below w.heap.size w w' := by
  obtain ⟨c0, hc0, hc1, hc2⟩ : ∃ c0, min (max most 1) 65536 = c0 ∧ 1 ≤ c0 ∧ c0 ≤ 65536 := ⟨_, rfl, by omega, by omega⟩
  have c10 := fun w => new_calls most w hm1 hm2
  rw [hc0] at c10
  clear hc0
  have C : Aside (∀ j, j < n → ∃ k sv s m, (Lit.int .i64 k).wf = true ∧ (Lit.int .i64 m).wf = true ∧ s.size ≤ maxLen ∧ w.cell? ⟨b, off + j * 4, none⟩ = some (.int .i64 k) ∧ w.cell? ⟨b, off + j * 4 + 1, none⟩ = some (.bool sv) ∧ w.cell? ⟨b, off + j * 4 + 2, none⟩ = some (.string s) ∧ w.cell? ⟨b, off + j * 4 + 3, none⟩ = some (.int .i64 m)) := hc
  clear hc
  go_enter Try.func7, Try.ntmps7
  go_wp2_with (first | (go_at_call 10; (with_reducible refine (c10 _).mono ?_); (rintro e w1 ⟨rfl, hb⟩; obtain ⟨x, hx⟩ := plus_of_below hb; subst hx); clear hb))
  go_loopg [6, 7, 8, 9, 25] n (fun k u d s t i wr => Keep w x n k u d s t i wr)
  · exact ⟨true, c0, ⟨#[]⟩, ⟨#[]⟩, 0, 0, 0, 0, { w with heap := #[], drawn := _ }, rfl, rfl, rfl, rfl, rfl, (by simp [plus]; rfl), by omega, (right_iff _ _ _ _ _).2 (by simp [ByteArray.size]; omega), by simp [ByteArray.size], by omega, by omega⟩
  · obtain ⟨up, cp, ts, tc, lost, sent, taken, idx, y, rfl, rfl, rfl, rfl, rfl, rfl, hk, hr, hsum, ht0, hs100⟩ := hrel
    by_cases hi : idx < n
    · obtain ⟨k, sv, s, m, wk, wm, ws, e0, e1, e2, e3⟩ := C.out idx hi
      obtain ⟨v1, v2, v3, v4, v5, v6, v7⟩ := (right_iff up cp ts tc lost).1 hr
      have k1 : ts.size ≤ 65536 := by omega
      have k2 : tc.size ≤ 65536 := by omega
      have V7 : Aside (up = true ∨ (ts.size = 0 ∧ tc.size = 0)) := v7
      clear v7 C
      by_cases h100 : 100 < s.size
      · as_aux_lemma =>
          go_wp2_with (first | (go_at_call 9; (with_reducible refine (alive_calls _).mono ?_); (rintro e w1 ⟨rfl, hb⟩; obtain ⟨x, hx⟩ := plus_of_below hb; subst hx); clear hb))
          all_goals (try (exfalso; omega))
          go_ret
          refine ⟨rfl, ?_⟩
          repeat (first | (with_reducible exact Below.refl _ _) | (with_reducible assumption) | (with_reducible refine below_to_plus ?_ ?_ _) | (with_reducible refine Below.alloc ?_ ?_ _) | (with_reducible refine Below.drew ?_) | (with_reducible refine below_drewN ?_ _) | (with_reducible refine Below.setCell ?_ ?_ _))
          all_goals first | omega | (simp; done) | (simp [go_sem]; done) | (simp [go_sem]; omega)
      have hs100' : s.size ≤ 100 := by omega
      by_cases k0 : k = 0
      · subst k0
        have c16 := fun w => send_calls up cp ts tc lost sv s w v1 v2 v5 v6 (by omega)
        rcases send_ways up sv cp ts tc lost s with (hx | hx) | ⟨rfl, hfit, rfl, hx⟩ | ⟨rfl, hfit, rfl, hx⟩
        all_goals
          rw [hx] at c16
          clear hx
          simp only [] at c16
        · as_aux_lemma =>
            have hr' := hr
            have c12 := fun w => right_calls up cp ts tc lost w (by omega) (by omega)
            rw [hr] at c12
            clear hr
            go_wp2_with (first | (go_at_call 9; (with_reducible refine (alive_calls _).mono ?_); (rintro e w1 ⟨rfl, hb⟩; obtain ⟨x, hx⟩ := plus_of_below hb; subst hx); clear hb) | (go_at_call 16; (with_reducible refine (c16 _).mono ?_); (rintro e w1 ⟨rfl, hb⟩; obtain ⟨x, hx⟩ := plus_of_below hb; subst hx); clear hb) | (go_at_call 12; (with_reducible refine (c12 _).mono ?_); (rintro e w1 ⟨rfl, hb⟩; obtain ⟨x, hx⟩ := plus_of_below hb; subst hx); clear hb))
            all_goals (try (exfalso; omega))
            go_roundg (gk - 1)
            case measure => omega
            case rel =>
              refine keep_mk up cp ts tc lost _ _ (idx + 1) rfl rfl rfl rfl (by simp) ?_ (by omega) hr' (by first | omega | (simp only [ByteArray.size_append]; omega) | (simp only [empty_size]; omega)) (by omega) (by omega)
              repeat (first | (with_reducible exact Below.refl _ _) | (with_reducible assumption) | (with_reducible refine below_to_plus ?_ ?_ _) | (with_reducible refine Below.alloc ?_ ?_ _) | (with_reducible refine Below.drew ?_) | (with_reducible refine below_drewN ?_ _) | (with_reducible refine Below.setCell ?_ ?_ _))
              all_goals first | omega | (simp; done) | (simp [go_sem]; done) | (simp [go_sem]; omega)
        · as_aux_lemma =>
            have hr' := hr
            have c12 := fun w => right_calls up cp ts tc lost w (by omega) (by omega)
            rw [hr] at c12
            clear hr
            go_wp2_with (first | (go_at_call 9; (with_reducible refine (alive_calls _).mono ?_); (rintro e w1 ⟨rfl, hb⟩; obtain ⟨x, hx⟩ := plus_of_below hb; subst hx); clear hb) | (go_at_call 16; (with_reducible refine (c16 _).mono ?_); (rintro e w1 ⟨rfl, hb⟩; obtain ⟨x, hx⟩ := plus_of_below hb; subst hx); clear hb) | (go_at_call 12; (with_reducible refine (c12 _).mono ?_); (rintro e w1 ⟨rfl, hb⟩; obtain ⟨x, hx⟩ := plus_of_below hb; subst hx); clear hb))
            all_goals (try (exfalso; omega))
            go_roundg (gk - 1)
            case measure => omega
            case rel =>
              refine keep_mk up cp ts tc lost _ _ (idx + 1) rfl rfl rfl rfl (by simp) ?_ (by omega) hr' (by first | omega | (simp only [ByteArray.size_append]; omega) | (simp only [empty_size]; omega)) (by omega) (by omega)
              repeat (first | (with_reducible exact Below.refl _ _) | (with_reducible assumption) | (with_reducible refine below_to_plus ?_ ?_ _) | (with_reducible refine Below.alloc ?_ ?_ _) | (with_reducible refine Below.drew ?_) | (with_reducible refine below_drewN ?_ _) | (with_reducible refine Below.setCell ?_ ?_ _))
              all_goals first | omega | (simp; done) | (simp [go_sem]; done) | (simp [go_sem]; omega)
        · as_aux_lemma =>
            have hz := ByteArray.size_append (a := ts) (b := s)
            have hr' : rightB ⟨true, cp, ts ++ s, tc, lost⟩ = true := (right_iff _ _ _ _ _).2 ⟨v1, v2, v3, v4, by rw [hz]; omega, v6, .inl rfl⟩
            have c12 := fun w => right_calls true cp (ts ++ s) tc lost w (by omega) (by omega)
            rw [hr'] at c12
            clear hr
            go_wp2_with (first | (go_at_call 9; (with_reducible refine (alive_calls _).mono ?_); (rintro e w1 ⟨rfl, hb⟩; obtain ⟨x, hx⟩ := plus_of_below hb; subst hx); clear hb) | (go_at_call 16; (with_reducible refine (c16 _).mono ?_); (rintro e w1 ⟨rfl, hb⟩; obtain ⟨x, hx⟩ := plus_of_below hb; subst hx); clear hb) | (go_at_call 12; (with_reducible refine (c12 _).mono ?_); (rintro e w1 ⟨rfl, hb⟩; obtain ⟨x, hx⟩ := plus_of_below hb; subst hx); clear hb))
            all_goals (try (exfalso; omega))
            go_roundg (gk - 1)
            case measure => omega
            case rel =>
              refine keep_mk true cp (ts ++ s) tc lost _ _ (idx + 1) rfl rfl rfl rfl (by simp) ?_ (by omega) hr' (by first | omega | (simp only [ByteArray.size_append]; omega) | (simp only [empty_size]; omega)) (by omega) (by omega)
              repeat (first | (with_reducible exact Below.refl _ _) | (with_reducible assumption) | (with_reducible refine below_to_plus ?_ ?_ _) | (with_reducible refine Below.alloc ?_ ?_ _) | (with_reducible refine Below.drew ?_) | (with_reducible refine below_drewN ?_ _) | (with_reducible refine Below.setCell ?_ ?_ _))
              all_goals first | omega | (simp; done) | (simp [go_sem]; done) | (simp [go_sem]; omega)
        · as_aux_lemma =>
            have hz := ByteArray.size_append (a := tc) (b := s)
            have hr' : rightB ⟨true, cp, ts, tc ++ s, lost⟩ = true := (right_iff _ _ _ _ _).2 ⟨v1, v2, v3, v4, v5, by rw [hz]; omega, .inl rfl⟩
            have c12 := fun w => right_calls true cp ts (tc ++ s) lost w (by omega) (by omega)
            rw [hr'] at c12
            clear hr
            go_wp2_with (first | (go_at_call 9; (with_reducible refine (alive_calls _).mono ?_); (rintro e w1 ⟨rfl, hb⟩; obtain ⟨x, hx⟩ := plus_of_below hb; subst hx); clear hb) | (go_at_call 16; (with_reducible refine (c16 _).mono ?_); (rintro e w1 ⟨rfl, hb⟩; obtain ⟨x, hx⟩ := plus_of_below hb; subst hx); clear hb) | (go_at_call 12; (with_reducible refine (c12 _).mono ?_); (rintro e w1 ⟨rfl, hb⟩; obtain ⟨x, hx⟩ := plus_of_below hb; subst hx); clear hb))
            all_goals (try (exfalso; omega))
            go_roundg (gk - 1)
            case measure => omega
            case rel =>
              refine keep_mk true cp ts (tc ++ s) lost _ _ (idx + 1) rfl rfl rfl rfl (by simp) ?_ (by omega) hr' (by first | omega | (simp only [ByteArray.size_append]; omega) | (simp only [empty_size]; omega)) (by omega) (by omega)
              repeat (first | (with_reducible exact Below.refl _ _) | (with_reducible assumption) | (with_reducible refine below_to_plus ?_ ?_ _) | (with_reducible refine Below.alloc ?_ ?_ _) | (with_reducible refine Below.drew ?_) | (with_reducible refine below_drewN ?_ _) | (with_reducible refine Below.setCell ?_ ?_ _))
              all_goals first | omega | (simp; done) | (simp [go_sem]; done) | (simp [go_sem]; omega)
      by_cases k1' : k = 1
      · subst k1'
        have c18 := fun w => take_calls up cp ts tc lost sv m w k1 k2
        cases sv
        · as_aux_lemma =>
            obtain ⟨s1, r1, q, hq, hz, hz', h01, h02, htk, hm1', hm2'⟩ := take_facts tc m k2
            have hx : takeL ⟨up, cp, ts, tc, lost⟩ false m = (⟨up, cp, ts, r1, lost⟩, s1) := by simp [takeL, htk, h01, h02]
            rw [hx] at c18
            clear hx
            simp only [] at c18
            have hr' : rightB ⟨up, cp, ts, r1, lost⟩ = true := (right_iff _ _ _ _ _).2 ⟨v1, v2, v3, v4, by omega, by omega, V7.out.imp id (fun h => by omega)⟩
            have c12 := fun w => right_calls up  cp  ts  r1  lost w (by omega) (by omega)
            rw [hr'] at c12
            clear hr htk
            by_cases hm0 : m < 0
            · obtain ⟨rfl, rfl, rfl⟩ := hm1' hm0
              clear hm1' hm2' h01 h02 hz hz'
              go_wp2_with (first | (go_at_call 9; (with_reducible refine (alive_calls _).mono ?_); (rintro e w1 ⟨rfl, hb⟩; obtain ⟨x, hx⟩ := plus_of_below hb; subst hx); clear hb) | (go_at_call 18; (with_reducible refine (c18 _).mono ?_); (rintro e w1 ⟨rfl, hb⟩; obtain ⟨x, hx⟩ := plus_of_below hb; subst hx); clear hb) | (go_at_call 12; (with_reducible refine (c12 _).mono ?_); (rintro e w1 ⟨rfl, hb⟩; obtain ⟨x, hx⟩ := plus_of_below hb; subst hx); clear hb))
              all_goals (try (exfalso; omega))
              
              go_roundg (gk - 1)
              case measure => omega
              case rel =>
                refine keep_mk up cp ts r1 lost _ _ (idx + 1) rfl rfl rfl rfl (by simp) ?_ (by omega) hr' (by first | omega | (simp only [ByteArray.size_append]; omega) | (simp only [empty_size]; omega)) (by omega) (by omega)
                repeat (first | (with_reducible exact Below.refl _ _) | (with_reducible assumption) | (with_reducible refine below_to_plus ?_ ?_ _) | (with_reducible refine Below.alloc ?_ ?_ _) | (with_reducible refine Below.drew ?_) | (with_reducible refine below_drewN ?_ _) | (with_reducible refine Below.setCell ?_ ?_ _))
                all_goals first | omega | (simp; done) | (simp [go_sem]; done) | (simp [go_sem]; omega)
            
            · have hm3 := hm2' (by omega)
              clear hm1' hm2'
              go_wp2_with (first | (go_at_call 9; (with_reducible refine (alive_calls _).mono ?_); (rintro e w1 ⟨rfl, hb⟩; obtain ⟨x, hx⟩ := plus_of_below hb; subst hx); clear hb) | (go_at_call 18; (with_reducible refine (c18 _).mono ?_); (rintro e w1 ⟨rfl, hb⟩; obtain ⟨x, hx⟩ := plus_of_below hb; subst hx); clear hb) | (go_at_call 12; (with_reducible refine (c12 _).mono ?_); (rintro e w1 ⟨rfl, hb⟩; obtain ⟨x, hx⟩ := plus_of_below hb; subst hx); clear hb))
              all_goals (try (exfalso; omega))
              
              go_roundg (gk - 1)
              case measure => omega
              case rel =>
                refine keep_mk up cp ts r1 lost _ _ (idx + 1) rfl rfl rfl rfl (by simp) ?_ (by omega) hr' (by first | omega | (simp only [ByteArray.size_append]; omega) | (simp only [empty_size]; omega)) (by omega) (by omega)
                repeat (first | (with_reducible exact Below.refl _ _) | (with_reducible assumption) | (with_reducible refine below_to_plus ?_ ?_ _) | (with_reducible refine Below.alloc ?_ ?_ _) | (with_reducible refine Below.drew ?_) | (with_reducible refine below_drewN ?_ _) | (with_reducible refine Below.setCell ?_ ?_ _))
                all_goals first | omega | (simp; done) | (simp [go_sem]; done) | (simp [go_sem]; omega)
        · as_aux_lemma =>
            obtain ⟨s1, r1, q, hq, hz, hz', h01, h02, htk, hm1', hm2'⟩ := take_facts ts m k1
            have hx : takeL ⟨up, cp, ts, tc, lost⟩ true m = (⟨up, cp, r1, tc, lost⟩, s1) := by simp [takeL, htk, h01, h02]
            rw [hx] at c18
            clear hx
            simp only [] at c18
            have hr' : rightB ⟨up, cp, r1, tc, lost⟩ = true := (right_iff _ _ _ _ _).2 ⟨v1, v2, v3, v4, by omega, by omega, V7.out.imp id (fun h => by omega)⟩
            have c12 := fun w => right_calls up  cp  r1  tc  lost w (by omega) (by omega)
            rw [hr'] at c12
            clear hr htk
            by_cases hm0 : m < 0
            · obtain ⟨rfl, rfl, rfl⟩ := hm1' hm0
              clear hm1' hm2' h01 h02 hz hz'
              go_wp2_with (first | (go_at_call 9; (with_reducible refine (alive_calls _).mono ?_); (rintro e w1 ⟨rfl, hb⟩; obtain ⟨x, hx⟩ := plus_of_below hb; subst hx); clear hb) | (go_at_call 18; (with_reducible refine (c18 _).mono ?_); (rintro e w1 ⟨rfl, hb⟩; obtain ⟨x, hx⟩ := plus_of_below hb; subst hx); clear hb) | (go_at_call 12; (with_reducible refine (c12 _).mono ?_); (rintro e w1 ⟨rfl, hb⟩; obtain ⟨x, hx⟩ := plus_of_below hb; subst hx); clear hb))
              all_goals (try (exfalso; omega))
              
              go_roundg (gk - 1)
              case measure => omega
              case rel =>
                refine keep_mk up cp r1 tc lost _ _ (idx + 1) rfl rfl rfl rfl (by simp) ?_ (by omega) hr' (by first | omega | (simp only [ByteArray.size_append]; omega) | (simp only [empty_size]; omega)) (by omega) (by omega)
                repeat (first | (with_reducible exact Below.refl _ _) | (with_reducible assumption) | (with_reducible refine below_to_plus ?_ ?_ _) | (with_reducible refine Below.alloc ?_ ?_ _) | (with_reducible refine Below.drew ?_) | (with_reducible refine below_drewN ?_ _) | (with_reducible refine Below.setCell ?_ ?_ _))
                all_goals first | omega | (simp; done) | (simp [go_sem]; done) | (simp [go_sem]; omega)
            
            · have hm3 := hm2' (by omega)
              clear hm1' hm2'
              go_wp2_with (first | (go_at_call 9; (with_reducible refine (alive_calls _).mono ?_); (rintro e w1 ⟨rfl, hb⟩; obtain ⟨x, hx⟩ := plus_of_below hb; subst hx); clear hb) | (go_at_call 18; (with_reducible refine (c18 _).mono ?_); (rintro e w1 ⟨rfl, hb⟩; obtain ⟨x, hx⟩ := plus_of_below hb; subst hx); clear hb) | (go_at_call 12; (with_reducible refine (c12 _).mono ?_); (rintro e w1 ⟨rfl, hb⟩; obtain ⟨x, hx⟩ := plus_of_below hb; subst hx); clear hb))
              all_goals (try (exfalso; omega))
              
              go_roundg (gk - 1)
              case measure => omega
              case rel =>
                refine keep_mk up cp r1 tc lost _ _ (idx + 1) rfl rfl rfl rfl (by simp) ?_ (by omega) hr' (by first | omega | (simp only [ByteArray.size_append]; omega) | (simp only [empty_size]; omega)) (by omega) (by omega)
                repeat (first | (with_reducible exact Below.refl _ _) | (with_reducible assumption) | (with_reducible refine below_to_plus ?_ ?_ _) | (with_reducible refine Below.alloc ?_ ?_ _) | (with_reducible refine Below.drew ?_) | (with_reducible refine below_drewN ?_ _) | (with_reducible refine Below.setCell ?_ ?_ _))
                all_goals first | omega | (simp; done) | (simp [go_sem]; done) | (simp [go_sem]; omega)
      by_cases k2' : k = 2
      · subst k2'
        cases up
        · as_aux_lemma =>
            have c20 := fun w => drop_down cp ts tc lost w
            have hz : ts.size = 0 ∧ tc.size = 0 := by simpa using V7.out
            obtain ⟨hz1, hz2⟩ := hz
            obtain rfl := empty_eq ts hz1
            obtain rfl := empty_eq tc hz2
            have hr' := hr
            have c12 := fun w => right_calls false cp ⟨#[]⟩ ⟨#[]⟩ lost w (by omega) (by omega)
            rw [hr] at c12
            have c14 := fun w => idle_calls false cp ⟨#[]⟩ ⟨#[]⟩ lost w
            rw [show idleB ⟨false, cp, ⟨#[]⟩, ⟨#[]⟩, lost⟩ = true by simp [idleB, ByteArray.size]] at c14
            clear hr
            go_wp2_with (first | (go_at_call 9; (with_reducible refine (alive_calls _).mono ?_); (rintro e w1 ⟨rfl, hb⟩; obtain ⟨x, hx⟩ := plus_of_below hb; subst hx); clear hb) | (go_at_call 20; (with_reducible refine (c20 _).mono ?_); (rintro e w1 ⟨rfl, hb⟩; obtain ⟨x, hx⟩ := plus_of_below hb; subst hx); clear hb) | (go_at_call 12; (with_reducible refine (c12 _).mono ?_); (rintro e w1 ⟨rfl, hb⟩; obtain ⟨x, hx⟩ := plus_of_below hb; subst hx); clear hb) | (go_at_call 14; (with_reducible refine (c14 _).mono ?_); (rintro e w1 ⟨rfl, hb⟩; obtain ⟨x, hx⟩ := plus_of_below hb; subst hx); clear hb))
            all_goals (try (exfalso; omega))
            
            go_roundg (gk - 1)
            case measure => omega
            case rel =>
              refine keep_mk false cp ⟨#[]⟩ ⟨#[]⟩ lost _ _ (idx + 1) rfl rfl rfl rfl (by simp) ?_ (by omega) hr' (by first | omega | (simp only [ByteArray.size_append]; omega) | (simp only [empty_size]; omega)) (by omega) (by omega)
              repeat (first | (with_reducible exact Below.refl _ _) | (with_reducible assumption) | (with_reducible refine below_to_plus ?_ ?_ _) | (with_reducible refine Below.alloc ?_ ?_ _) | (with_reducible refine Below.drew ?_) | (with_reducible refine below_drewN ?_ _) | (with_reducible refine Below.setCell ?_ ?_ _))
              all_goals first | omega | (simp; done) | (simp [go_sem]; done) | (simp [go_sem]; omega)
        · as_aux_lemma =>
            have c20 := fun w => drop_lo cp ts tc lost w k1 k2 v3 v4 (by omega)
            have hr' : rightB ⟨false, cp, ⟨#[]⟩, ⟨#[]⟩, lost + ts.size + tc.size⟩ = true := (right_iff _ _ _ _ _).2 ⟨v1, v2, by omega, by omega, by rw [empty_size]; omega, by rw [empty_size]; omega, .inr ⟨rfl, rfl⟩⟩
            have c12 := fun w => right_calls false cp ⟨#[]⟩ ⟨#[]⟩ (lost + ts.size + tc.size) w (by simp [ByteArray.size]) (by simp [ByteArray.size])
            rw [hr'] at c12
            have c14 := fun w => idle_calls false cp ⟨#[]⟩ ⟨#[]⟩ (lost + ts.size + tc.size) w
            rw [show idleB ⟨false, cp, ⟨#[]⟩, ⟨#[]⟩, lost + ts.size + tc.size⟩ = true by simp [idleB, ByteArray.size]] at c14
            clear hr
            go_wp2_with (first | (go_at_call 9; (with_reducible refine (alive_calls _).mono ?_); (rintro e w1 ⟨rfl, hb⟩; obtain ⟨x, hx⟩ := plus_of_below hb; subst hx); clear hb) | (go_at_call 20; (with_reducible refine (c20 _).mono ?_); (rintro e w1 ⟨rfl, hb⟩; obtain ⟨x, hx⟩ := plus_of_below hb; subst hx); clear hb) | (go_at_call 12; (with_reducible refine (c12 _).mono ?_); (rintro e w1 ⟨rfl, hb⟩; obtain ⟨x, hx⟩ := plus_of_below hb; subst hx); clear hb) | (go_at_call 14; (with_reducible refine (c14 _).mono ?_); (rintro e w1 ⟨rfl, hb⟩; obtain ⟨x, hx⟩ := plus_of_below hb; subst hx); clear hb))
            all_goals (try (exfalso; omega))
            
            go_roundg (gk - 1)
            case measure => omega
            case rel =>
              refine keep_mk false cp ⟨#[]⟩ ⟨#[]⟩ (lost + ts.size + tc.size) _ _ (idx + 1) rfl rfl rfl rfl (by simp) ?_ (by omega) hr' (by first | omega | (simp only [ByteArray.size_append]; omega) | (simp only [empty_size]; omega)) (by omega) (by omega)
              repeat (first | (with_reducible exact Below.refl _ _) | (with_reducible assumption) | (with_reducible refine below_to_plus ?_ ?_ _) | (with_reducible refine Below.alloc ?_ ?_ _) | (with_reducible refine Below.drew ?_) | (with_reducible refine below_drewN ?_ _) | (with_reducible refine Below.setCell ?_ ?_ _))
              all_goals first | omega | (simp; done) | (simp [go_sem]; done) | (simp [go_sem]; omega)
      · as_aux_lemma =>
          have c21 := fun w => restore_calls up cp ts tc lost w
          have hr' : rightB ⟨true, cp, ts, tc, lost⟩ = true := (right_iff _ _ _ _ _).2 ⟨v1, v2, v3, v4, v5, v6, .inl rfl⟩
          have c12 := fun w => right_calls true cp ts tc lost w (by omega) (by omega)
          rw [hr'] at c12
          clear hr
          go_wp2_with (first | (go_at_call 9; (with_reducible refine (alive_calls _).mono ?_); (rintro e w1 ⟨rfl, hb⟩; obtain ⟨x, hx⟩ := plus_of_below hb; subst hx); clear hb) | (go_at_call 21; (with_reducible refine (c21 _).mono ?_); (rintro e w1 ⟨rfl, hb⟩; obtain ⟨x, hx⟩ := plus_of_below hb; subst hx); clear hb) | (go_at_call 12; (with_reducible refine (c12 _).mono ?_); (rintro e w1 ⟨rfl, hb⟩; obtain ⟨x, hx⟩ := plus_of_below hb; subst hx); clear hb))
          all_goals (try (exfalso; omega))
          
          go_roundg (gk - 1)
          case measure => omega
          case rel =>
            refine keep_mk true cp ts tc lost _ _ (idx + 1) rfl rfl rfl rfl (by simp) ?_ (by omega) hr' (by first | omega | (simp only [ByteArray.size_append]; omega) | (simp only [empty_size]; omega)) (by omega) (by omega)
            repeat (first | (with_reducible exact Below.refl _ _) | (with_reducible assumption) | (with_reducible refine below_to_plus ?_ ?_ _) | (with_reducible refine Below.alloc ?_ ?_ _) | (with_reducible refine Below.drew ?_) | (with_reducible refine below_drewN ?_ _) | (with_reducible refine Below.setCell ?_ ?_ _))
            all_goals first | omega | (simp; done) | (simp [go_sem]; done) | (simp [go_sem]; omega)
    · have C' : idx = n := by omega
      subst C'
      go_wp2_with (first | (go_at_call 9; (with_reducible refine (alive_calls _).mono ?_); (rintro e w1 ⟨rfl, hb⟩; obtain ⟨x, hx⟩ := plus_of_below hb; subst hx); clear hb))
      go_ret
      refine ⟨rfl, ?_⟩
      repeat (first | (with_reducible exact Below.refl _ _) | (with_reducible assumption) | (with_reducible refine below_to_plus ?_ ?_ _) | (with_reducible refine Below.alloc ?_ ?_ _) | (with_reducible refine Below.drew ?_) | (with_reducible refine below_drewN ?_ _) | (with_reducible refine Below.setCell ?_ ?_ _))
      all_goals first | omega | (simp; done) | (simp [go_sem]; done) | (simp [go_sem]; omega)

end Go.Proofs.Ytchpbfepjlncpaa
