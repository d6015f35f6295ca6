/- This text proves the walk of Same of the reference of package cache, at caches that are the same. Conditions: those that each theorem names. -/
import Derived.Test.YtcgajlobbjoefaaCacheT
namespace Go.Proofs.Ytcgajlobbjoefaa
open Go.ChangeShapes Go.WideShapes Go.ChangeAt Go.RowKit
set_option linter.unusedVariables false
set_option linter.unusedSimpArgs false

theorem neq_pc (y1 : Int) (y2 : Int) (y3 : Int) (y4 : ByteArray) (w : World) : (binOp .neq 47 (.agg #[.int .i64 y1, .int .i64 y2, .int .i64 y3, .string y4]) (.agg #[.int .i64 y1, .int .i64 y2, .int .i64 y3, .string y4])).run Try.prog w = .ok (.bool false) w := by
  rw [run_neq_struct]
  simp [go_sem]
theorem neq_hd (y1 : Int) (y2 : Int) (y3 : Int) (w : World) : (binOp .neq 36 (.agg #[.int .i64 y1, .int .i64 y2, .int .i64 y3]) (.agg #[.int .i64 y1, .int .i64 y2, .int .i64 y3])).run Try.prog w = .ok (.bool false) w := by
  rw [run_neq_struct]
  simp [go_sem]

set_option maxRecDepth 20000 in
set_option maxHeartbeats 8000000 in
theorem rsame_calls (cp : Int) (ao : Option Addr) (n c1 : Nat) (ao2 : Option Addr) (n2 c2 : Nat) (bo : Option Addr) (d1 : Nat) (bo2 : Option Addr) (d2 : Nat) (bl : List Pc) (hs : List Hd) (w : World) (h1 : Sl w 4 ao n c1 (bl.map Pc.enc)) (h2 : Sl w 3 ao2 n2 c2 (hs.map Hd.enc)) (g1 : Sl w 4 bo n d1 (bl.map Pc.enc)) (g2 : Sl w 3 bo2 n2 d2 (hs.map Hd.enc)) :
    Calls Try.prog 14 #[.agg #[.int .i64 cp, .slice ao n c1, .slice ao2 n2 c2], .agg #[.int .i64 cp, .slice bo n d1, .slice bo2 n2 d2]] w fun e w' => e = .returned (.bool true) ∧ Below w.heap.size w w' := by
  have hbig : n ≤ 9223372036854775807 := Nat.le_trans h1.hcap h1.hmax
  have hbig2 : n2 ≤ 9223372036854775807 := Nat.le_trans h2.hcap h2.hmax
  have hln : bl.length = n := Sl.lenE h1
  have hln2 : hs.length = n2 := Sl.lenE h2
  have HP1 : Aside (CellsPc w ao bl) := cellsPc h1
  have HP2 : Aside (CellsPc w bo bl) := cellsPc g1
  have HH1 : Aside (CellsHd w ao2 hs) := cellsHd h2
  have HH2 : Aside (CellsHd w bo2 hs) := cellsHd g2
  clear h1 h2 g1 g2
  go_enter Try.func14, Try.ntmps14
  go_wp2
  go_loopg [33] n (fun k s33 wr => ∃ (idx : Nat) (x : World), s33 = .int .i64 (idx : Int) ∧ wr = plus ((w.alloc (.cells #[.int .i64 cp, .slice ao n c1, .slice ao2 n2 c2] 25)).alloc (.cells #[.int .i64 cp, .slice bo n d1, .slice bo2 n2 d2] 25)) x ∧ k + idx = n)
  case atStart => exact ⟨0, _, rfl, plus_self _, by omega⟩
  case round =>
    obtain ⟨idx, x, rfl, rfl, hk⟩ := hrel
    by_cases hi : idx < n
    · have hiz : (idx : Int) < (n : Int) := by omega
      obtain ⟨b, off, rfl, hbw, l0, l1, l2, l3⟩ := HP1.out idx (by omega)
      obtain ⟨b2, off2, rfl, hbw2, m0, m1, m2, m3⟩ := HP2.out idx (by omega)
      generalize bl[idx]! = y at l0 m0 l1 m1 l2 m2 l3 m3
      obtain ⟨y1, y2, y3, y4⟩ := y
      simp only [] at l0 m0 l1 m1 l2 m2 l3 m3
      have nq := fun w => neq_pc y1 y2 y3 y4 w
      clear HP1 HP2 HH1 HH2
      go_wp2
      refine wp_region_plus (by kernel_rfl) (by kernel_rfl) ?_
      repeat (go_big_quiet_step (fail))
      refine wpQuiet_nil ?_
      rintro _ ⟨x1, rfl⟩
      go_wp2
      go_roundg (gk - 1)
      case measure => omega
      case rel =>
        obtain ⟨z, hz⟩ := plus_plus ((w.alloc (.cells #[.int .i64 cp, .slice (some ⟨b, off, none⟩) n c1, .slice ao2 n2 c2] 25)).alloc (.cells #[.int .i64 cp, .slice (some ⟨b2, off2, none⟩) n d1, .slice bo2 n2 d2] 25)) _ x1
        exact ⟨idx + 1, z, by simp, hz, by omega⟩
    · have hiz : ¬ (idx : Int) < (n : Int) := by omega
      go_wp2
      go_loopg [51] n2 (fun k s51 wr => ∃ (idx : Nat) (x : World), s51 = .int .i64 (idx : Int) ∧ wr = plus ((w.alloc (.cells #[.int .i64 cp, .slice ao n c1, .slice ao2 n2 c2] 25)).alloc (.cells #[.int .i64 cp, .slice bo n d1, .slice bo2 n2 d2] 25)) x ∧ k + idx = n2)
      case atStart => exact ⟨0, _, rfl, rfl, by omega⟩
      case round =>
        obtain ⟨idx, x, rfl, rfl, hk⟩ := hrel
        by_cases hi : idx < n2
        · have hiz : (idx : Int) < (n2 : Int) := by omega
          obtain ⟨b, off, rfl, hbw, l0, l1, l2⟩ := HH1.out idx (by omega)
          obtain ⟨b2, off2, rfl, hbw2, m0, m1, m2⟩ := HH2.out idx (by omega)
          generalize hs[idx]! = y at l0 m0 l1 m1 l2 m2
          obtain ⟨y1, y2, y3⟩ := y
          simp only [] at l0 m0 l1 m1 l2 m2
          have nq := fun w => neq_hd y1 y2 y3 w
          clear HP1 HP2 HH1 HH2
          go_wp2
          refine wp_region_plus (by kernel_rfl) (by kernel_rfl) ?_
          repeat (go_big_quiet_step (fail))
          refine wpQuiet_nil ?_
          rintro _ ⟨x1, rfl⟩
          go_wp2
          go_roundg (gk - 1)
          case measure => omega
          case rel =>
            obtain ⟨z, hz⟩ := plus_plus ((w.alloc (.cells #[.int .i64 cp, .slice ao n c1, .slice (some ⟨b, off, none⟩) n2 c2] 25)).alloc (.cells #[.int .i64 cp, .slice bo n d1, .slice (some ⟨b2, off2, none⟩) n2 d2] 25)) _ x1
            exact ⟨idx + 1, z, by simp, hz, by omega⟩
        · have hiz : ¬ (idx : Int) < (n2 : Int) := by omega
          go_wp2
          go_ret
          refine ⟨rfl, ?_⟩
          repeat (first | (with_reducible exact Below.refl _ _) | (with_reducible assumption) | (with_reducible refine below_to_plus ?_ ?_ _) | (with_reducible refine below_holds ?_ ?_ _ _) | (with_reducible refine Below.alloc ?_ ?_ _) | (with_reducible refine Below.drew ?_) | (with_reducible refine below_drewN ?_ _) | (with_reducible refine Below.setCell ?_ ?_ _))
          all_goals first | omega | (simp; done) | (simp [go_sem]; done) | (simp [go_sem]; omega)

end Go.Proofs.Ytcgajlobbjoefaa
