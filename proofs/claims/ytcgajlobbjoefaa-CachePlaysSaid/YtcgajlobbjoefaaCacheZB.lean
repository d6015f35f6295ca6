/- This text proves that the fixed examples of the chapter on caches hold of the program. It has no conditions. -/
import Derived.Test.YtcgajlobbjoefaaCacheZA
namespace Go.Proofs.Ytcgajlobbjoefaa
open Go.ChangeShapes Go.WideShapes Go.ChangeAt Go.RowKit
set_option linter.unusedVariables false
set_option linter.unusedSimpArgs false

theorem sl_none {w : World} {k : Nat} : Sl w k none 0 0 [] := ⟨rfl, Nat.le_refl _, by omega, by simp, fun h => absurd h (Nat.lt_irrefl _), fun _ => rfl⟩
/-- What a call returns: a cache with rows of n and n2 elements. -/
def RN (w : World) (cp : Int) (bl : List Pc) (n : Nat) (hs : List Hd) (n2 : Nat) (e : Ending) (w' : World) : Prop :=
  ∃ a1 k1 a2 k2, e = .returned (.agg #[.int .i64 cp, .slice a1 n k1, .slice a2 n2 k2]) ∧ Sl w' 4 a1 n k1 (bl.map Pc.enc) ∧ Sl w' 3 a2 n2 k2 (hs.map Hd.enc) ∧ Below w.heap.size w w'
theorem rn_of {w : World} {cp : Int} {bl bl' : List Pc} {n : Nat} {hs hs' : List Hd} {n2 : Nat} {e : Ending} {w' : World} (h : RPost w cp bl hs e w') (eb : bl = bl') (eh : hs = hs') (e1 : bl'.length = n) (e2 : hs'.length = n2) : RN w cp bl' n hs' n2 e w' := by
  subst eb eh e1 e2
  exact h
def GN (w : World) (cp : Int) (bl : List Pc) (n : Nat) (hs : List Hd) (n2 : Nat) (s : ByteArray) (b : Bool) (e : Ending) (w' : World) : Prop :=
  ∃ a1 k1 a2 k2, e = .returned (.tuple #[.agg #[.int .i64 cp, .slice a1 n k1, .slice a2 n2 k2], .string s, .bool b]) ∧ Sl w' 4 a1 n k1 (bl.map Pc.enc) ∧ Sl w' 3 a2 n2 k2 (hs.map Hd.enc) ∧ Below w.heap.size w w'
theorem gn_of {w : World} {cp : Int} {r : List Pc × ByteArray × Bool} {bl : List Pc} {n : Nat} {hs : List Hd} {n2 : Nat} {s : ByteArray} {b : Bool} {e : Ending} {w' : World} (h : GetPost w cp hs r e w') (er : r = (bl, s, b)) (e1 : bl.length = n) (e2 : hs.length = n2) : GN w cp bl n hs n2 s b e w' := by
  subst er e1 e2
  exact h

def awP : Pc := ⟨5, 2, 0, ⟨#[97, 98, 99]⟩⟩
def awM : Pc := ⟨5, 2, 3, ⟨#[]⟩⟩
def awH : Hd := ⟨5, 2, 10⟩
def awG : Hd := ⟨5, 3, 10⟩
theorem aw_r0 : rightB 4 [] [] = true := by kernel_rfl
theorem aw_r1 : rightB 4 [] [awH] = true := by kernel_rfl
theorem aw_r2 : rightB 4 [awP] [awH] = true := by kernel_rfl
theorem aw_r3 : rightB 4 [awP, awM] [awH] = true := by kernel_rfl
theorem aw_r4 : rightB 4 [] [awG] = true := by kernel_rfl
theorem aw_h1 : holdF ⟨5, 2, 10⟩ [] [] = ([], [awH]) := by kernel_rfl
theorem aw_h2 : holdF ⟨5, 3, 10⟩ [awP, awM] [awH] = ([], [awG]) := by kernel_rfl
theorem aw_p1 : putF 4 ⟨5, 2, 0, ⟨#[97, 98, 99]⟩⟩ [] [awH] = [awP] := by kernel_rfl
theorem aw_p2 : putF 4 ⟨5, 2, 3, ⟨#[]⟩⟩ [awP] [awH] = [awP, awM] := by kernel_rfl
theorem aw_bc : restF 1 awP = ⟨#[98, 99]⟩ := by kernel_rfl
theorem aw_bc2 : (⟨#[98, 99]⟩ : ByteArray).extract 0 2 = ⟨#[98, 99]⟩ := by kernel_rfl
theorem aw_g1 : getF 5 1 2 9 [awP] [awH] = ([awP], ⟨#[98, 99]⟩, true) := by kernel_rfl
theorem aw_g2 : getF 5 1 5 9 [awP] [awH] = ([awP], ⟨#[]⟩, false) := by kernel_rfl
theorem aw_g3 : getF 5 1 2 10 [awP] [awH] = ([awP], ⟨#[]⟩, false) := by kernel_rfl
theorem aw_g4 : getF 5 1 5 9 [awP, awM] [awH] = ([awP, awM], ⟨#[98, 99]⟩, true) := by kernel_rfl
theorem aw_g5 : getF 5 0 1 9 [] [awG] = ([], ⟨#[]⟩, false) := by kernel_rfl
theorem aw_d : notI 5 [awP, awM] = [] := by kernel_rfl
theorem aw_n : notH 5 [awH] = [] := by kernel_rfl
theorem aw_9 : heldB 5 9 [awH] = true := by kernel_rfl
theorem aw_10 : heldB 5 10 [awH] = false := by kernel_rfl
theorem cache_field1 (a b c : Value) (w : World) : (Instr.field 25 (.agg #[a, b, c]) 1).run Try.prog w = .ok b w := by kernel_rfl
theorem cache_field2 (a b c : Value) (w : World) : (Instr.field 25 (.agg #[a, b, c]) 2).run Try.prog w = .ok c w := by kernel_rfl
theorem RightP.of {cp : Int} {bl : List Pc} {hs : List Hd} (h : rightB cp bl hs = true) : RightP cp bl hs := (right_iff cp bl hs).1 h

set_option maxRecDepth 20000 in
set_option maxHeartbeats 16000000 in
theorem awake_calls (w : World) : Calls Try.prog 9 #[] w fun e w' => e = .returned (.bool true) ∧ Below w.heap.size w w' := by
  have HB : Aside (Below w.heap.size w w) := Below.refl _ _
  have f1 := cache_field1
  have f2 := cache_field2
  go_enter Try.func9, Try.ntmps9
  go_wp2_with fail
  refine (new_calls 4 w).mono ?_
  rintro e w1 ⟨rfl, hb⟩
  have HB' : Aside (Below w.heap.size w w1) := HB.out.trans (hb.mono HB.out.size)
  clear hb HB 
  have HB : Aside (Below w.heap.size w w1) := HB'.out
  clear HB'
  go_wp2_with fail
  refine (((hold_all 4 none 0 0 none 0 0 [] [] 5 2 10 _ sl_none sl_none (RightP.of aw_r0)).mono fun e w9 h9 => rn_of h9 (congrArg (·.1) aw_h1) (congrArg (·.2) aw_h1) rfl rfl)).mono ?_
  rintro e w2 ⟨a1, k1, b1, l1, rfl, s1, t1, hb⟩
  have S1' : Aside (Sl w2 4 a1 0 k1 (([] : List Pc).map Pc.enc)) := s1
  have T1' : Aside (Sl w2 3 b1 1 l1 ([awH].map Hd.enc)) := t1
  have HB' : Aside (Below w.heap.size w w2) := HB.out.trans (hb.mono HB.out.size)
  clear hb HB s1 t1
  have S1 : Aside (Sl w2 4 a1 0 k1 (([] : List Pc).map Pc.enc)) := S1'.out
  clear S1'
  have T1 : Aside (Sl w2 3 b1 1 l1 ([awH].map Hd.enc)) := T1'.out
  clear T1'
  have HB : Aside (Below w.heap.size w w2) := HB'.out
  clear HB'
  go_wp2_with fail
  refine (((put_all 4 a1 0 k1 b1 1 l1 [] [awH] 5 2 0 ⟨#[97, 98, 99]⟩ _ S1.out T1.out (RightP.of aw_r1)).mono fun e w9 h9 => rn_of h9 aw_p1 rfl rfl rfl)).mono ?_
  rintro e w3 ⟨a2, k2, b2, l2, rfl, s2, t2, hb⟩
  have S2' : Aside (Sl w3 4 a2 1 k2 ([awP].map Pc.enc)) := s2
  have T2' : Aside (Sl w3 3 b2 1 l2 ([awH].map Hd.enc)) := t2
  have HB' : Aside (Below w.heap.size w w3) := HB.out.trans (hb.mono HB.out.size)
  clear hb HB S1 T1 s2 t2
  have S2 : Aside (Sl w3 4 a2 1 k2 ([awP].map Pc.enc)) := S2'.out
  clear S2'
  have T2 : Aside (Sl w3 3 b2 1 l2 ([awH].map Hd.enc)) := T2'.out
  clear T2'
  have HB : Aside (Below w.heap.size w w3) := HB'.out
  clear HB'
  have S2' : Aside (Sl (w3.alloc (.cells #[.int .i64 4, .slice a2 1 k2, .slice b2 1 l2] 25)) 4 a2 1 k2 ([awP].map Pc.enc)) := S2.out.stays ((Below.refl _ _).alloc (Nat.le_refl _) _)
  have T2' : Aside (Sl (w3.alloc (.cells #[.int .i64 4, .slice a2 1 k2, .slice b2 1 l2] 25)) 3 b2 1 l2 ([awH].map Hd.enc)) := T2.out.stays ((Below.refl _ _).alloc (Nat.le_refl _) _)
  have C' : Aside ((w3.alloc (.cells #[.int .i64 4, .slice a2 1 k2, .slice b2 1 l2] 25)).heap[w3.heap.size]? = some (.cells #[.int .i64 4, .slice a2 1 k2, .slice b2 1 l2] 25 (0, 0))) := hp_new rfl
  have HB' : Aside (Below w.heap.size w (w3.alloc (.cells #[.int .i64 4, .slice a2 1 k2, .slice b2 1 l2] 25))) := HB.out.alloc HB.out.size _
  clear HB S2 T2
  go_wp2_with fail
  generalize (w3.alloc (.cells #[.int .i64 4, .slice a2 1 k2, .slice b2 1 l2] 25)) = v3 at S2' T2' C' HB' ⊢
  generalize w3.heap.size = bc at C' ⊢
  have S2 : Aside (Sl v3 4 a2 1 k2 ([awP].map Pc.enc)) := S2'.out
  clear S2'
  have T2 : Aside (Sl v3 3 b2 1 l2 ([awH].map Hd.enc)) := T2'.out
  clear T2'
  have C : Aside (v3.heap[bc]? = some (.cells #[.int .i64 4, .slice a2 1 k2, .slice b2 1 l2] 25 (0, 0))) := C'.out
  clear C'
  have HB : Aside (Below w.heap.size w v3) := HB'.out
  clear HB'
  refine ((aw_r2 ▸ right_calls 4 a2 1 k2 b2 1 l2 [awP] [awH] _ S2.out T2.out)).mono ?_
  rintro e w4 ⟨rfl, hb⟩
  have S2' : Aside (Sl w4 4 a2 1 k2 ([awP].map Pc.enc)) := S2.out.stays hb
  have T2' : Aside (Sl w4 3 b2 1 l2 ([awH].map Hd.enc)) := T2.out.stays hb
  have C' : Aside (w4.heap[bc]? = some (.cells #[.int .i64 4, .slice a2 1 k2, .slice b2 1 l2] 25 (0, 0))) := heap_later C.out hb
  have HB' : Aside (Below w.heap.size w w4) := HB.out.trans (hb.mono HB.out.size)
  clear hb HB S2 T2 C
  have S2 : Aside (Sl w4 4 a2 1 k2 ([awP].map Pc.enc)) := S2'.out
  clear S2'
  have T2 : Aside (Sl w4 3 b2 1 l2 ([awH].map Hd.enc)) := T2'.out
  clear T2'
  have C : Aside (w4.heap[bc]? = some (.cells #[.int .i64 4, .slice a2 1 k2, .slice b2 1 l2] 25 (0, 0))) := C'.out
  clear C'
  have HB : Aside (Below w.heap.size w w4) := HB'.out
  clear HB'
  have cc0 := cell_heap C.out 0 _ rfl
  have cc1 := cell_heap C.out 1 _ rfl
  have cc2 := cell_heap C.out 2 _ rfl
  have cclt : bc < w4.heap.size := (Array.getElem?_eq_some_iff.1 C.out).1
  go_wp2_with fail
  refine ((aw_9 ▸ held_calls 4 a2 1 k2 b2 1 l2 [awH] 5 9 _ T2.out (by omega) (RightP.of aw_r2).asc)).mono ?_
  rintro e w5 ⟨rfl, hb⟩
  have S2' : Aside (Sl w5 4 a2 1 k2 ([awP].map Pc.enc)) := S2.out.stays hb
  have T2' : Aside (Sl w5 3 b2 1 l2 ([awH].map Hd.enc)) := T2.out.stays hb
  have C' : Aside (w5.heap[bc]? = some (.cells #[.int .i64 4, .slice a2 1 k2, .slice b2 1 l2] 25 (0, 0))) := heap_later C.out hb
  have HB' : Aside (Below w.heap.size w w5) := HB.out.trans (hb.mono HB.out.size)
  clear hb HB S2 T2 C cc0 cc1 cc2 cclt
  have S2 : Aside (Sl w5 4 a2 1 k2 ([awP].map Pc.enc)) := S2'.out
  clear S2'
  have T2 : Aside (Sl w5 3 b2 1 l2 ([awH].map Hd.enc)) := T2'.out
  clear T2'
  have C : Aside (w5.heap[bc]? = some (.cells #[.int .i64 4, .slice a2 1 k2, .slice b2 1 l2] 25 (0, 0))) := C'.out
  clear C'
  have HB : Aside (Below w.heap.size w w5) := HB'.out
  clear HB'
  have cc0 := cell_heap C.out 0 _ rfl
  have cc1 := cell_heap C.out 1 _ rfl
  have cc2 := cell_heap C.out 2 _ rfl
  have cclt : bc < w5.heap.size := (Array.getElem?_eq_some_iff.1 C.out).1
  go_wp2_with fail
  refine ((aw_10 ▸ held_calls 4 a2 1 k2 b2 1 l2 [awH] 5 10 _ T2.out (by omega) (RightP.of aw_r2).asc)).mono ?_
  rintro e w6 ⟨rfl, hb⟩
  have S2' : Aside (Sl w6 4 a2 1 k2 ([awP].map Pc.enc)) := S2.out.stays hb
  have T2' : Aside (Sl w6 3 b2 1 l2 ([awH].map Hd.enc)) := T2.out.stays hb
  have C' : Aside (w6.heap[bc]? = some (.cells #[.int .i64 4, .slice a2 1 k2, .slice b2 1 l2] 25 (0, 0))) := heap_later C.out hb
  have HB' : Aside (Below w.heap.size w w6) := HB.out.trans (hb.mono HB.out.size)
  clear hb HB S2 T2 C cc0 cc1 cc2 cclt
  have S2 : Aside (Sl w6 4 a2 1 k2 ([awP].map Pc.enc)) := S2'.out
  clear S2'
  have T2 : Aside (Sl w6 3 b2 1 l2 ([awH].map Hd.enc)) := T2'.out
  clear T2'
  have C : Aside (w6.heap[bc]? = some (.cells #[.int .i64 4, .slice a2 1 k2, .slice b2 1 l2] 25 (0, 0))) := C'.out
  clear C'
  have HB : Aside (Below w.heap.size w w6) := HB'.out
  clear HB'
  have cc0 := cell_heap C.out 0 _ rfl
  have cc1 := cell_heap C.out 1 _ rfl
  have cc2 := cell_heap C.out 2 _ rfl
  have cclt : bc < w6.heap.size := (Array.getElem?_eq_some_iff.1 C.out).1
  go_wp2_with fail
  refine (((get_all 4 a2 1 k2 b2 1 l2 [awP] [awH] 5 1 2 9 _ S2.out T2.out (RightP.of aw_r2)).mono fun e w9 h9 => gn_of h9 aw_g1 rfl rfl)).mono ?_
  rintro e w7 ⟨a3, k3, b3, l3, rfl, s3, t3, hb⟩
  have S2' : Aside (Sl w7 4 a2 1 k2 ([awP].map Pc.enc)) := S2.out.stays hb
  have T2' : Aside (Sl w7 3 b2 1 l2 ([awH].map Hd.enc)) := T2.out.stays hb
  have C' : Aside (w7.heap[bc]? = some (.cells #[.int .i64 4, .slice a2 1 k2, .slice b2 1 l2] 25 (0, 0))) := heap_later C.out hb
  have S3' : Aside (Sl w7 4 a3 1 k3 ([awP].map Pc.enc)) := s3
  have T3' : Aside (Sl w7 3 b3 1 l3 ([awH].map Hd.enc)) := t3
  have HB' : Aside (Below w.heap.size w w7) := HB.out.trans (hb.mono HB.out.size)
  clear hb HB S2 T2 C s3 t3 cc0 cc1 cc2 cclt
  have S2 : Aside (Sl w7 4 a2 1 k2 ([awP].map Pc.enc)) := S2'.out
  clear S2'
  have T2 : Aside (Sl w7 3 b2 1 l2 ([awH].map Hd.enc)) := T2'.out
  clear T2'
  have C : Aside (w7.heap[bc]? = some (.cells #[.int .i64 4, .slice a2 1 k2, .slice b2 1 l2] 25 (0, 0))) := C'.out
  clear C'
  have S3 : Aside (Sl w7 4 a3 1 k3 ([awP].map Pc.enc)) := S3'.out
  clear S3'
  have T3 : Aside (Sl w7 3 b3 1 l3 ([awH].map Hd.enc)) := T3'.out
  clear T3'
  have HB : Aside (Below w.heap.size w w7) := HB'.out
  clear HB'
  have cc0 := cell_heap C.out 0 _ rfl
  have cc1 := cell_heap C.out 1 _ rfl
  have cc2 := cell_heap C.out 2 _ rfl
  have cclt : bc < w7.heap.size := (Array.getElem?_eq_some_iff.1 C.out).1
  have S2' : Aside (Sl (w7.alloc (.cells #[.int .i64 4, .slice a3 1 k3, .slice b3 1 l3] 25)) 4 a2 1 k2 ([awP].map Pc.enc)) := S2.out.stays ((Below.refl _ _).alloc (Nat.le_refl _) _)
  have T2' : Aside (Sl (w7.alloc (.cells #[.int .i64 4, .slice a3 1 k3, .slice b3 1 l3] 25)) 3 b2 1 l2 ([awH].map Hd.enc)) := T2.out.stays ((Below.refl _ _).alloc (Nat.le_refl _) _)
  have C' : Aside ((w7.alloc (.cells #[.int .i64 4, .slice a3 1 k3, .slice b3 1 l3] 25)).heap[bc]? = some (.cells #[.int .i64 4, .slice a2 1 k2, .slice b2 1 l2] 25 (0, 0))) := hp_old C.out
  have S3' : Aside (Sl (w7.alloc (.cells #[.int .i64 4, .slice a3 1 k3, .slice b3 1 l3] 25)) 4 a3 1 k3 ([awP].map Pc.enc)) := S3.out.stays ((Below.refl _ _).alloc (Nat.le_refl _) _)
  have T3' : Aside (Sl (w7.alloc (.cells #[.int .i64 4, .slice a3 1 k3, .slice b3 1 l3] 25)) 3 b3 1 l3 ([awH].map Hd.enc)) := T3.out.stays ((Below.refl _ _).alloc (Nat.le_refl _) _)
  have E' : Aside ((w7.alloc (.cells #[.int .i64 4, .slice a3 1 k3, .slice b3 1 l3] 25)).heap[w7.heap.size]? = some (.cells #[.int .i64 4, .slice a3 1 k3, .slice b3 1 l3] 25 (0, 0))) := hp_new rfl
  have HB' : Aside (Below w.heap.size w (w7.alloc (.cells #[.int .i64 4, .slice a3 1 k3, .slice b3 1 l3] 25))) := HB.out.alloc HB.out.size _
  clear HB S2 T2 C S3 T3
  go_wp2_with fail
  clear cc0 cc1 cc2 cclt
  generalize (w7.alloc (.cells #[.int .i64 4, .slice a3 1 k3, .slice b3 1 l3] 25)) = v7 at S2' T2' C' S3' T3' E' HB' ⊢
  generalize w7.heap.size = eb at E' ⊢
  have S2 : Aside (Sl v7 4 a2 1 k2 ([awP].map Pc.enc)) := S2'.out
  clear S2'
  have T2 : Aside (Sl v7 3 b2 1 l2 ([awH].map Hd.enc)) := T2'.out
  clear T2'
  have C : Aside (v7.heap[bc]? = some (.cells #[.int .i64 4, .slice a2 1 k2, .slice b2 1 l2] 25 (0, 0))) := C'.out
  clear C'
  have S3 : Aside (Sl v7 4 a3 1 k3 ([awP].map Pc.enc)) := S3'.out
  clear S3'
  have T3 : Aside (Sl v7 3 b3 1 l3 ([awH].map Hd.enc)) := T3'.out
  clear T3'
  have E : Aside (v7.heap[eb]? = some (.cells #[.int .i64 4, .slice a3 1 k3, .slice b3 1 l3] 25 (0, 0))) := E'.out
  clear E'
  have HB : Aside (Below w.heap.size w v7) := HB'.out
  clear HB'
  clear E S3 T3
  refine (((get_all 4 a2 1 k2 b2 1 l2 [awP] [awH] 5 1 5 9 _ S2.out T2.out (RightP.of aw_r2)).mono fun e w9 h9 => gn_of h9 aw_g2 rfl rfl)).mono ?_
  rintro e w8 ⟨a4, k4, b4, l4, rfl, s4, t4, hb⟩
  have S2' : Aside (Sl w8 4 a2 1 k2 ([awP].map Pc.enc)) := S2.out.stays hb
  have T2' : Aside (Sl w8 3 b2 1 l2 ([awH].map Hd.enc)) := T2.out.stays hb
  have C' : Aside (w8.heap[bc]? = some (.cells #[.int .i64 4, .slice a2 1 k2, .slice b2 1 l2] 25 (0, 0))) := heap_later C.out hb
  have S4' : Aside (Sl w8 4 a4 1 k4 ([awP].map Pc.enc)) := s4
  have T4' : Aside (Sl w8 3 b4 1 l4 ([awH].map Hd.enc)) := t4
  have HB' : Aside (Below w.heap.size w w8) := HB.out.trans (hb.mono HB.out.size)
  clear hb HB S2 T2 C s4 t4
  have S2 : Aside (Sl w8 4 a2 1 k2 ([awP].map Pc.enc)) := S2'.out
  clear S2'
  have T2 : Aside (Sl w8 3 b2 1 l2 ([awH].map Hd.enc)) := T2'.out
  clear T2'
  have C : Aside (w8.heap[bc]? = some (.cells #[.int .i64 4, .slice a2 1 k2, .slice b2 1 l2] 25 (0, 0))) := C'.out
  clear C'
  have S4 : Aside (Sl w8 4 a4 1 k4 ([awP].map Pc.enc)) := S4'.out
  clear S4'
  have T4 : Aside (Sl w8 3 b4 1 l4 ([awH].map Hd.enc)) := T4'.out
  clear T4'
  have HB : Aside (Below w.heap.size w w8) := HB'.out
  clear HB'
  have cc0 := cell_heap C.out 0 _ rfl
  have cc1 := cell_heap C.out 1 _ rfl
  have cc2 := cell_heap C.out 2 _ rfl
  have cclt : bc < w8.heap.size := (Array.getElem?_eq_some_iff.1 C.out).1
  have S2' : Aside (Sl (w8.alloc (.cells #[.int .i64 4, .slice a4 1 k4, .slice b4 1 l4] 25)) 4 a2 1 k2 ([awP].map Pc.enc)) := S2.out.stays ((Below.refl _ _).alloc (Nat.le_refl _) _)
  have T2' : Aside (Sl (w8.alloc (.cells #[.int .i64 4, .slice a4 1 k4, .slice b4 1 l4] 25)) 3 b2 1 l2 ([awH].map Hd.enc)) := T2.out.stays ((Below.refl _ _).alloc (Nat.le_refl _) _)
  have C' : Aside ((w8.alloc (.cells #[.int .i64 4, .slice a4 1 k4, .slice b4 1 l4] 25)).heap[bc]? = some (.cells #[.int .i64 4, .slice a2 1 k2, .slice b2 1 l2] 25 (0, 0))) := hp_old C.out
  have S4' : Aside (Sl (w8.alloc (.cells #[.int .i64 4, .slice a4 1 k4, .slice b4 1 l4] 25)) 4 a4 1 k4 ([awP].map Pc.enc)) := S4.out.stays ((Below.refl _ _).alloc (Nat.le_refl _) _)
  have T4' : Aside (Sl (w8.alloc (.cells #[.int .i64 4, .slice a4 1 k4, .slice b4 1 l4] 25)) 3 b4 1 l4 ([awH].map Hd.enc)) := T4.out.stays ((Below.refl _ _).alloc (Nat.le_refl _) _)
  have F' : Aside ((w8.alloc (.cells #[.int .i64 4, .slice a4 1 k4, .slice b4 1 l4] 25)).heap[w8.heap.size]? = some (.cells #[.int .i64 4, .slice a4 1 k4, .slice b4 1 l4] 25 (0, 0))) := hp_new rfl
  have HB' : Aside (Below w.heap.size w (w8.alloc (.cells #[.int .i64 4, .slice a4 1 k4, .slice b4 1 l4] 25))) := HB.out.alloc HB.out.size _
  clear HB S2 T2 C S4 T4
  go_wp2_with fail
  clear cc0 cc1 cc2 cclt
  generalize (w8.alloc (.cells #[.int .i64 4, .slice a4 1 k4, .slice b4 1 l4] 25)) = v8 at S2' T2' C' S4' T4' F' HB' ⊢
  generalize w8.heap.size = fb at F' ⊢
  have S2 : Aside (Sl v8 4 a2 1 k2 ([awP].map Pc.enc)) := S2'.out
  clear S2'
  have T2 : Aside (Sl v8 3 b2 1 l2 ([awH].map Hd.enc)) := T2'.out
  clear T2'
  have C : Aside (v8.heap[bc]? = some (.cells #[.int .i64 4, .slice a2 1 k2, .slice b2 1 l2] 25 (0, 0))) := C'.out
  clear C'
  have S4 : Aside (Sl v8 4 a4 1 k4 ([awP].map Pc.enc)) := S4'.out
  clear S4'
  have T4 : Aside (Sl v8 3 b4 1 l4 ([awH].map Hd.enc)) := T4'.out
  clear T4'
  have F : Aside (v8.heap[fb]? = some (.cells #[.int .i64 4, .slice a4 1 k4, .slice b4 1 l4] 25 (0, 0))) := F'.out
  clear F'
  have HB : Aside (Below w.heap.size w v8) := HB'.out
  clear HB'
  clear F S4 T4
  refine (((get_all 4 a2 1 k2 b2 1 l2 [awP] [awH] 5 1 2 10 _ S2.out T2.out (RightP.of aw_r2)).mono fun e w9 h9 => gn_of h9 aw_g3 rfl rfl)).mono ?_
  rintro e w9 ⟨a5, k5, b5, l5, rfl, s5, t5, hb⟩
  have S2' : Aside (Sl w9 4 a2 1 k2 ([awP].map Pc.enc)) := S2.out.stays hb
  have T2' : Aside (Sl w9 3 b2 1 l2 ([awH].map Hd.enc)) := T2.out.stays hb
  have C' : Aside (w9.heap[bc]? = some (.cells #[.int .i64 4, .slice a2 1 k2, .slice b2 1 l2] 25 (0, 0))) := heap_later C.out hb
  have S5' : Aside (Sl w9 4 a5 1 k5 ([awP].map Pc.enc)) := s5
  have T5' : Aside (Sl w9 3 b5 1 l5 ([awH].map Hd.enc)) := t5
  have HB' : Aside (Below w.heap.size w w9) := HB.out.trans (hb.mono HB.out.size)
  clear hb HB S2 T2 C s5 t5
  have S2 : Aside (Sl w9 4 a2 1 k2 ([awP].map Pc.enc)) := S2'.out
  clear S2'
  have T2 : Aside (Sl w9 3 b2 1 l2 ([awH].map Hd.enc)) := T2'.out
  clear T2'
  have C : Aside (w9.heap[bc]? = some (.cells #[.int .i64 4, .slice a2 1 k2, .slice b2 1 l2] 25 (0, 0))) := C'.out
  clear C'
  have S5 : Aside (Sl w9 4 a5 1 k5 ([awP].map Pc.enc)) := S5'.out
  clear S5'
  have T5 : Aside (Sl w9 3 b5 1 l5 ([awH].map Hd.enc)) := T5'.out
  clear T5'
  have HB : Aside (Below w.heap.size w w9) := HB'.out
  clear HB'
  have cc0 := cell_heap C.out 0 _ rfl
  have cc1 := cell_heap C.out 1 _ rfl
  have cc2 := cell_heap C.out 2 _ rfl
  have cclt : bc < w9.heap.size := (Array.getElem?_eq_some_iff.1 C.out).1
  have S2' : Aside (Sl (w9.alloc (.cells #[.int .i64 4, .slice a5 1 k5, .slice b5 1 l5] 25)) 4 a2 1 k2 ([awP].map Pc.enc)) := S2.out.stays ((Below.refl _ _).alloc (Nat.le_refl _) _)
  have T2' : Aside (Sl (w9.alloc (.cells #[.int .i64 4, .slice a5 1 k5, .slice b5 1 l5] 25)) 3 b2 1 l2 ([awH].map Hd.enc)) := T2.out.stays ((Below.refl _ _).alloc (Nat.le_refl _) _)
  have C' : Aside ((w9.alloc (.cells #[.int .i64 4, .slice a5 1 k5, .slice b5 1 l5] 25)).heap[bc]? = some (.cells #[.int .i64 4, .slice a2 1 k2, .slice b2 1 l2] 25 (0, 0))) := hp_old C.out
  have S5' : Aside (Sl (w9.alloc (.cells #[.int .i64 4, .slice a5 1 k5, .slice b5 1 l5] 25)) 4 a5 1 k5 ([awP].map Pc.enc)) := S5.out.stays ((Below.refl _ _).alloc (Nat.le_refl _) _)
  have T5' : Aside (Sl (w9.alloc (.cells #[.int .i64 4, .slice a5 1 k5, .slice b5 1 l5] 25)) 3 b5 1 l5 ([awH].map Hd.enc)) := T5.out.stays ((Below.refl _ _).alloc (Nat.le_refl _) _)
  have G' : Aside ((w9.alloc (.cells #[.int .i64 4, .slice a5 1 k5, .slice b5 1 l5] 25)).heap[w9.heap.size]? = some (.cells #[.int .i64 4, .slice a5 1 k5, .slice b5 1 l5] 25 (0, 0))) := hp_new rfl
  have HB' : Aside (Below w.heap.size w (w9.alloc (.cells #[.int .i64 4, .slice a5 1 k5, .slice b5 1 l5] 25))) := HB.out.alloc HB.out.size _
  clear HB S2 T2 C S5 T5
  go_wp2_with fail
  clear cc0 cc1 cc2 cclt
  generalize (w9.alloc (.cells #[.int .i64 4, .slice a5 1 k5, .slice b5 1 l5] 25)) = v9 at S2' T2' C' S5' T5' G' HB' ⊢
  generalize w9.heap.size = gb at G' ⊢
  have S2 : Aside (Sl v9 4 a2 1 k2 ([awP].map Pc.enc)) := S2'.out
  clear S2'
  have T2 : Aside (Sl v9 3 b2 1 l2 ([awH].map Hd.enc)) := T2'.out
  clear T2'
  have C : Aside (v9.heap[bc]? = some (.cells #[.int .i64 4, .slice a2 1 k2, .slice b2 1 l2] 25 (0, 0))) := C'.out
  clear C'
  have S5 : Aside (Sl v9 4 a5 1 k5 ([awP].map Pc.enc)) := S5'.out
  clear S5'
  have T5 : Aside (Sl v9 3 b5 1 l5 ([awH].map Hd.enc)) := T5'.out
  clear T5'
  have G : Aside (v9.heap[gb]? = some (.cells #[.int .i64 4, .slice a5 1 k5, .slice b5 1 l5] 25 (0, 0))) := G'.out
  clear G'
  have HB : Aside (Below w.heap.size w v9) := HB'.out
  clear HB'
  clear G S5 T5
  refine (((put_all 4 a2 1 k2 b2 1 l2 [awP] [awH] 5 2 3 ⟨#[]⟩ _ S2.out T2.out (RightP.of aw_r2)).mono fun e w9 h9 => rn_of h9 aw_p2 rfl rfl rfl)).mono ?_
  rintro e w10 ⟨a6, k6, b6, l6, rfl, s6, t6, hb⟩
  have S6' : Aside (Sl w10 4 a6 2 k6 ([awP, awM].map Pc.enc)) := s6
  have T6' : Aside (Sl w10 3 b6 1 l6 ([awH].map Hd.enc)) := t6
  have HB' : Aside (Below w.heap.size w w10) := HB.out.trans (hb.mono HB.out.size)
  clear hb HB S2 T2 C s6 t6
  have S6 : Aside (Sl w10 4 a6 2 k6 ([awP, awM].map Pc.enc)) := S6'.out
  clear S6'
  have T6 : Aside (Sl w10 3 b6 1 l6 ([awH].map Hd.enc)) := T6'.out
  clear T6'
  have HB : Aside (Below w.heap.size w w10) := HB'.out
  clear HB'
  have S6' : Aside (Sl (w10.alloc (.cells #[.int .i64 4, .slice a6 2 k6, .slice b6 1 l6] 25)) 4 a6 2 k6 ([awP, awM].map Pc.enc)) := S6.out.stays ((Below.refl _ _).alloc (Nat.le_refl _) _)
  have T6' : Aside (Sl (w10.alloc (.cells #[.int .i64 4, .slice a6 2 k6, .slice b6 1 l6] 25)) 3 b6 1 l6 ([awH].map Hd.enc)) := T6.out.stays ((Below.refl _ _).alloc (Nat.le_refl _) _)
  have D' : Aside ((w10.alloc (.cells #[.int .i64 4, .slice a6 2 k6, .slice b6 1 l6] 25)).heap[w10.heap.size]? = some (.cells #[.int .i64 4, .slice a6 2 k6, .slice b6 1 l6] 25 (0, 0))) := hp_new rfl
  have HB' : Aside (Below w.heap.size w (w10.alloc (.cells #[.int .i64 4, .slice a6 2 k6, .slice b6 1 l6] 25))) := HB.out.alloc HB.out.size _
  clear HB S6 T6
  go_wp2_with fail
  generalize (w10.alloc (.cells #[.int .i64 4, .slice a6 2 k6, .slice b6 1 l6] 25)) = v10 at S6' T6' D' HB' ⊢
  generalize w10.heap.size = db at D' ⊢
  have S6 : Aside (Sl v10 4 a6 2 k6 ([awP, awM].map Pc.enc)) := S6'.out
  clear S6'
  have T6 : Aside (Sl v10 3 b6 1 l6 ([awH].map Hd.enc)) := T6'.out
  clear T6'
  have D : Aside (v10.heap[db]? = some (.cells #[.int .i64 4, .slice a6 2 k6, .slice b6 1 l6] 25 (0, 0))) := D'.out
  clear D'
  have HB : Aside (Below w.heap.size w v10) := HB'.out
  clear HB'
  refine (((get_all 4 a6 2 k6 b6 1 l6 [awP, awM] [awH] 5 1 5 9 _ S6.out T6.out (RightP.of aw_r3)).mono fun e w9 h9 => gn_of h9 aw_g4 rfl rfl)).mono ?_
  rintro e w11 ⟨a7, k7, b7, l7, rfl, s7, t7, hb⟩
  have S6' : Aside (Sl w11 4 a6 2 k6 ([awP, awM].map Pc.enc)) := S6.out.stays hb
  have T6' : Aside (Sl w11 3 b6 1 l6 ([awH].map Hd.enc)) := T6.out.stays hb
  have D' : Aside (w11.heap[db]? = some (.cells #[.int .i64 4, .slice a6 2 k6, .slice b6 1 l6] 25 (0, 0))) := heap_later D.out hb
  have S7' : Aside (Sl w11 4 a7 2 k7 ([awP, awM].map Pc.enc)) := s7
  have T7' : Aside (Sl w11 3 b7 1 l7 ([awH].map Hd.enc)) := t7
  have HB' : Aside (Below w.heap.size w w11) := HB.out.trans (hb.mono HB.out.size)
  clear hb HB S6 T6 D s7 t7
  have S6 : Aside (Sl w11 4 a6 2 k6 ([awP, awM].map Pc.enc)) := S6'.out
  clear S6'
  have T6 : Aside (Sl w11 3 b6 1 l6 ([awH].map Hd.enc)) := T6'.out
  clear T6'
  have D : Aside (w11.heap[db]? = some (.cells #[.int .i64 4, .slice a6 2 k6, .slice b6 1 l6] 25 (0, 0))) := D'.out
  clear D'
  have S7 : Aside (Sl w11 4 a7 2 k7 ([awP, awM].map Pc.enc)) := S7'.out
  clear S7'
  have T7 : Aside (Sl w11 3 b7 1 l7 ([awH].map Hd.enc)) := T7'.out
  clear T7'
  have HB : Aside (Below w.heap.size w w11) := HB'.out
  clear HB'
  have dc0 := cell_heap D.out 0 _ rfl
  have dc1 := cell_heap D.out 1 _ rfl
  have dc2 := cell_heap D.out 2 _ rfl
  have dclt : db < w11.heap.size := (Array.getElem?_eq_some_iff.1 D.out).1
  have S6' : Aside (Sl (w11.alloc (.cells #[.int .i64 4, .slice a7 2 k7, .slice b7 1 l7] 25)) 4 a6 2 k6 ([awP, awM].map Pc.enc)) := S6.out.stays ((Below.refl _ _).alloc (Nat.le_refl _) _)
  have T6' : Aside (Sl (w11.alloc (.cells #[.int .i64 4, .slice a7 2 k7, .slice b7 1 l7] 25)) 3 b6 1 l6 ([awH].map Hd.enc)) := T6.out.stays ((Below.refl _ _).alloc (Nat.le_refl _) _)
  have D' : Aside ((w11.alloc (.cells #[.int .i64 4, .slice a7 2 k7, .slice b7 1 l7] 25)).heap[db]? = some (.cells #[.int .i64 4, .slice a6 2 k6, .slice b6 1 l6] 25 (0, 0))) := hp_old D.out
  have S7' : Aside (Sl (w11.alloc (.cells #[.int .i64 4, .slice a7 2 k7, .slice b7 1 l7] 25)) 4 a7 2 k7 ([awP, awM].map Pc.enc)) := S7.out.stays ((Below.refl _ _).alloc (Nat.le_refl _) _)
  have T7' : Aside (Sl (w11.alloc (.cells #[.int .i64 4, .slice a7 2 k7, .slice b7 1 l7] 25)) 3 b7 1 l7 ([awH].map Hd.enc)) := T7.out.stays ((Below.refl _ _).alloc (Nat.le_refl _) _)
  have K' : Aside ((w11.alloc (.cells #[.int .i64 4, .slice a7 2 k7, .slice b7 1 l7] 25)).heap[w11.heap.size]? = some (.cells #[.int .i64 4, .slice a7 2 k7, .slice b7 1 l7] 25 (0, 0))) := hp_new rfl
  have HB' : Aside (Below w.heap.size w (w11.alloc (.cells #[.int .i64 4, .slice a7 2 k7, .slice b7 1 l7] 25))) := HB.out.alloc HB.out.size _
  clear HB S6 T6 D S7 T7
  go_wp2_with fail
  clear dc0 dc1 dc2 dclt
  generalize (w11.alloc (.cells #[.int .i64 4, .slice a7 2 k7, .slice b7 1 l7] 25)) = v11 at S6' T6' D' S7' T7' K' HB' ⊢
  generalize w11.heap.size = kb at K' ⊢
  have S6 : Aside (Sl v11 4 a6 2 k6 ([awP, awM].map Pc.enc)) := S6'.out
  clear S6'
  have T6 : Aside (Sl v11 3 b6 1 l6 ([awH].map Hd.enc)) := T6'.out
  clear T6'
  have D : Aside (v11.heap[db]? = some (.cells #[.int .i64 4, .slice a6 2 k6, .slice b6 1 l6] 25 (0, 0))) := D'.out
  clear D'
  have S7 : Aside (Sl v11 4 a7 2 k7 ([awP, awM].map Pc.enc)) := S7'.out
  clear S7'
  have T7 : Aside (Sl v11 3 b7 1 l7 ([awH].map Hd.enc)) := T7'.out
  clear T7'
  have K : Aside (v11.heap[kb]? = some (.cells #[.int .i64 4, .slice a7 2 k7, .slice b7 1 l7] 25 (0, 0))) := K'.out
  clear K'
  have HB : Aside (Below w.heap.size w v11) := HB'.out
  clear HB'
  clear K S7 T7
  refine (((hold_all 4 a6 2 k6 b6 1 l6 [awP, awM] [awH] 5 3 10 _ S6.out T6.out (RightP.of aw_r3)).mono fun e w9 h9 => rn_of h9 (congrArg (·.1) aw_h2) (congrArg (·.2) aw_h2) rfl rfl)).mono ?_
  rintro e w12 ⟨a8, k8, b8, l8, rfl, s8, t8, hb⟩
  have S6' : Aside (Sl w12 4 a6 2 k6 ([awP, awM].map Pc.enc)) := S6.out.stays hb
  have T6' : Aside (Sl w12 3 b6 1 l6 ([awH].map Hd.enc)) := T6.out.stays hb
  have D' : Aside (w12.heap[db]? = some (.cells #[.int .i64 4, .slice a6 2 k6, .slice b6 1 l6] 25 (0, 0))) := heap_later D.out hb
  have S8' : Aside (Sl w12 4 a8 0 k8 (([] : List Pc).map Pc.enc)) := s8
  have T8' : Aside (Sl w12 3 b8 1 l8 ([awG].map Hd.enc)) := t8
  have HB' : Aside (Below w.heap.size w w12) := HB.out.trans (hb.mono HB.out.size)
  clear hb HB S6 T6 D s8 t8
  have S6 : Aside (Sl w12 4 a6 2 k6 ([awP, awM].map Pc.enc)) := S6'.out
  clear S6'
  have T6 : Aside (Sl w12 3 b6 1 l6 ([awH].map Hd.enc)) := T6'.out
  clear T6'
  have D : Aside (w12.heap[db]? = some (.cells #[.int .i64 4, .slice a6 2 k6, .slice b6 1 l6] 25 (0, 0))) := D'.out
  clear D'
  have S8 : Aside (Sl w12 4 a8 0 k8 (([] : List Pc).map Pc.enc)) := S8'.out
  clear S8'
  have T8 : Aside (Sl w12 3 b8 1 l8 ([awG].map Hd.enc)) := T8'.out
  clear T8'
  have HB : Aside (Below w.heap.size w w12) := HB'.out
  clear HB'
  go_wp2_with fail
  refine (((get_all 4 a8 0 k8 b8 1 l8 [] [awG] 5 0 1 9 _ S8.out T8.out (RightP.of aw_r4)).mono fun e w9 h9 => gn_of h9 aw_g5 rfl rfl)).mono ?_
  rintro e w13 ⟨a9, k9, b9, l9, rfl, s9, t9, hb⟩
  have S6' : Aside (Sl w13 4 a6 2 k6 ([awP, awM].map Pc.enc)) := S6.out.stays hb
  have T6' : Aside (Sl w13 3 b6 1 l6 ([awH].map Hd.enc)) := T6.out.stays hb
  have D' : Aside (w13.heap[db]? = some (.cells #[.int .i64 4, .slice a6 2 k6, .slice b6 1 l6] 25 (0, 0))) := heap_later D.out hb
  have S9' : Aside (Sl w13 4 a9 0 k9 (([] : List Pc).map Pc.enc)) := s9
  have T9' : Aside (Sl w13 3 b9 1 l9 ([awG].map Hd.enc)) := t9
  have HB' : Aside (Below w.heap.size w w13) := HB.out.trans (hb.mono HB.out.size)
  clear hb HB S6 T6 D S8 T8 s9 t9
  have S6 : Aside (Sl w13 4 a6 2 k6 ([awP, awM].map Pc.enc)) := S6'.out
  clear S6'
  have T6 : Aside (Sl w13 3 b6 1 l6 ([awH].map Hd.enc)) := T6'.out
  clear T6'
  have D : Aside (w13.heap[db]? = some (.cells #[.int .i64 4, .slice a6 2 k6, .slice b6 1 l6] 25 (0, 0))) := D'.out
  clear D'
  have S9 : Aside (Sl w13 4 a9 0 k9 (([] : List Pc).map Pc.enc)) := S9'.out
  clear S9'
  have T9 : Aside (Sl w13 3 b9 1 l9 ([awG].map Hd.enc)) := T9'.out
  clear T9'
  have HB : Aside (Below w.heap.size w w13) := HB'.out
  clear HB'
  have dc0 := cell_heap D.out 0 _ rfl
  have dc1 := cell_heap D.out 1 _ rfl
  have dc2 := cell_heap D.out 2 _ rfl
  have dclt : db < w13.heap.size := (Array.getElem?_eq_some_iff.1 D.out).1
  have S6' : Aside (Sl (w13.alloc (.cells #[.int .i64 4, .slice a9 0 k9, .slice b9 1 l9] 25)) 4 a6 2 k6 ([awP, awM].map Pc.enc)) := S6.out.stays ((Below.refl _ _).alloc (Nat.le_refl _) _)
  have T6' : Aside (Sl (w13.alloc (.cells #[.int .i64 4, .slice a9 0 k9, .slice b9 1 l9] 25)) 3 b6 1 l6 ([awH].map Hd.enc)) := T6.out.stays ((Below.refl _ _).alloc (Nat.le_refl _) _)
  have D' : Aside ((w13.alloc (.cells #[.int .i64 4, .slice a9 0 k9, .slice b9 1 l9] 25)).heap[db]? = some (.cells #[.int .i64 4, .slice a6 2 k6, .slice b6 1 l6] 25 (0, 0))) := hp_old D.out
  have S9' : Aside (Sl (w13.alloc (.cells #[.int .i64 4, .slice a9 0 k9, .slice b9 1 l9] 25)) 4 a9 0 k9 (([] : List Pc).map Pc.enc)) := S9.out.stays ((Below.refl _ _).alloc (Nat.le_refl _) _)
  have T9' : Aside (Sl (w13.alloc (.cells #[.int .i64 4, .slice a9 0 k9, .slice b9 1 l9] 25)) 3 b9 1 l9 ([awG].map Hd.enc)) := T9.out.stays ((Below.refl _ _).alloc (Nat.le_refl _) _)
  have M' : Aside ((w13.alloc (.cells #[.int .i64 4, .slice a9 0 k9, .slice b9 1 l9] 25)).heap[w13.heap.size]? = some (.cells #[.int .i64 4, .slice a9 0 k9, .slice b9 1 l9] 25 (0, 0))) := hp_new rfl
  have HB' : Aside (Below w.heap.size w (w13.alloc (.cells #[.int .i64 4, .slice a9 0 k9, .slice b9 1 l9] 25))) := HB.out.alloc HB.out.size _
  clear HB S6 T6 D S9 T9
  go_wp2_with fail
  clear dc0 dc1 dc2 dclt
  generalize (w13.alloc (.cells #[.int .i64 4, .slice a9 0 k9, .slice b9 1 l9] 25)) = v13 at S6' T6' D' S9' T9' M' HB' ⊢
  generalize w13.heap.size = mb at M' ⊢
  have S6 : Aside (Sl v13 4 a6 2 k6 ([awP, awM].map Pc.enc)) := S6'.out
  clear S6'
  have T6 : Aside (Sl v13 3 b6 1 l6 ([awH].map Hd.enc)) := T6'.out
  clear T6'
  have D : Aside (v13.heap[db]? = some (.cells #[.int .i64 4, .slice a6 2 k6, .slice b6 1 l6] 25 (0, 0))) := D'.out
  clear D'
  have S9 : Aside (Sl v13 4 a9 0 k9 (([] : List Pc).map Pc.enc)) := S9'.out
  clear S9'
  have T9 : Aside (Sl v13 3 b9 1 l9 ([awG].map Hd.enc)) := T9'.out
  clear T9'
  have M : Aside (v13.heap[mb]? = some (.cells #[.int .i64 4, .slice a9 0 k9, .slice b9 1 l9] 25 (0, 0))) := M'.out
  clear M'
  have HB : Aside (Below w.heap.size w v13) := HB'.out
  clear HB'
  clear M S9 T9
  refine (((drop_all 4 a6 2 k6 b6 1 l6 [awP, awM] [awH] 5 _ S6.out T6.out (RightP.of aw_r3)).mono fun e w9 h9 => rn_of h9 aw_d rfl rfl rfl)).mono ?_
  rintro e w14 ⟨a10, k10, b10, l10, rfl, s10, t10, hb⟩
  have S6' : Aside (Sl w14 4 a6 2 k6 ([awP, awM].map Pc.enc)) := S6.out.stays hb
  have T6' : Aside (Sl w14 3 b6 1 l6 ([awH].map Hd.enc)) := T6.out.stays hb
  have D' : Aside (w14.heap[db]? = some (.cells #[.int .i64 4, .slice a6 2 k6, .slice b6 1 l6] 25 (0, 0))) := heap_later D.out hb
  have S10' : Aside (Sl w14 4 a10 0 k10 (([] : List Pc).map Pc.enc)) := s10
  have T10' : Aside (Sl w14 3 b10 1 l10 ([awH].map Hd.enc)) := t10
  have HB' : Aside (Below w.heap.size w w14) := HB.out.trans (hb.mono HB.out.size)
  clear hb HB S6 T6 D s10 t10
  have S6 : Aside (Sl w14 4 a6 2 k6 ([awP, awM].map Pc.enc)) := S6'.out
  clear S6'
  have T6 : Aside (Sl w14 3 b6 1 l6 ([awH].map Hd.enc)) := T6'.out
  clear T6'
  have D : Aside (w14.heap[db]? = some (.cells #[.int .i64 4, .slice a6 2 k6, .slice b6 1 l6] 25 (0, 0))) := D'.out
  clear D'
  have S10 : Aside (Sl w14 4 a10 0 k10 (([] : List Pc).map Pc.enc)) := S10'.out
  clear S10'
  have T10 : Aside (Sl w14 3 b10 1 l10 ([awH].map Hd.enc)) := T10'.out
  clear T10'
  have HB : Aside (Below w.heap.size w w14) := HB'.out
  clear HB'
  have dc0 := cell_heap D.out 0 _ rfl
  have dc1 := cell_heap D.out 1 _ rfl
  have dc2 := cell_heap D.out 2 _ rfl
  have dclt : db < w14.heap.size := (Array.getElem?_eq_some_iff.1 D.out).1
  go_wp2_with fail
  refine (((release_all 4 a6 2 k6 b6 1 l6 [awP, awM] [awH] 5 _ S6.out T6.out (RightP.of aw_r3)).mono fun e w9 h9 => rn_of h9 aw_d aw_n rfl rfl)).mono ?_
  rintro e w15 ⟨a11, k11, b11, l11, rfl, s11, t11, hb⟩
  have S6' : Aside (Sl w15 4 a6 2 k6 ([awP, awM].map Pc.enc)) := S6.out.stays hb
  have T6' : Aside (Sl w15 3 b6 1 l6 ([awH].map Hd.enc)) := T6.out.stays hb
  have D' : Aside (w15.heap[db]? = some (.cells #[.int .i64 4, .slice a6 2 k6, .slice b6 1 l6] 25 (0, 0))) := heap_later D.out hb
  have S11' : Aside (Sl w15 4 a11 0 k11 (([] : List Pc).map Pc.enc)) := s11
  have T11' : Aside (Sl w15 3 b11 0 l11 (([] : List Hd).map Hd.enc)) := t11
  have HB' : Aside (Below w.heap.size w w15) := HB.out.trans (hb.mono HB.out.size)
  clear hb HB S6 T6 D S10 T10 s11 t11 dc0 dc1 dc2 dclt
  have S6 : Aside (Sl w15 4 a6 2 k6 ([awP, awM].map Pc.enc)) := S6'.out
  clear S6'
  have T6 : Aside (Sl w15 3 b6 1 l6 ([awH].map Hd.enc)) := T6'.out
  clear T6'
  have D : Aside (w15.heap[db]? = some (.cells #[.int .i64 4, .slice a6 2 k6, .slice b6 1 l6] 25 (0, 0))) := D'.out
  clear D'
  have S11 : Aside (Sl w15 4 a11 0 k11 (([] : List Pc).map Pc.enc)) := S11'.out
  clear S11'
  have T11 : Aside (Sl w15 3 b11 0 l11 (([] : List Hd).map Hd.enc)) := T11'.out
  clear T11'
  have HB : Aside (Below w.heap.size w w15) := HB'.out
  clear HB'
  clear S6 T6 S11 T11 D
  go_wp2
  go_ret
  exact ⟨rfl, HB.out⟩

end Go.Proofs.Ytcgajlobbjoefaa
