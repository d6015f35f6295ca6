/- This text proves the walk of read and the plain law of the statement CacheTruth: a cache that holds only true pieces and end marks of a text tells what the text says. Conditions: those that each theorem names. -/
import Derived.Test.YtcgajlobbjoefaaCacheZE
namespace Go.Proofs.Ytcgajlobbjoefaa
open Go.ChangeShapes Go.WideShapes Go.ChangeAt Go.RowKit
set_option linter.unusedVariables false
set_option linter.unusedSimpArgs false

/-- What a read of a text returns. -/
def readF (f : ByteArray) (at' cnt : Int) : ByteArray :=
  if (f.size : Int) ≤ at' then ⟨#[]⟩
  else if cnt < ((f.extract at'.toNat f.size).size : Int) then (f.extract at'.toNat f.size).extract 0 cnt.toNat else f.extract at'.toNat f.size
set_option maxHeartbeats 4000000 in
theorem read_calls (f : ByteArray) (at' cnt : Int) (w : World) (h0 : 0 ≤ at') (h1 : 0 ≤ cnt) :
    Calls Try.prog 21 #[.string f, .int .i64 at', .int .i64 cnt] w fun e w' => e = .returned (.string (readF f at' cnt)) ∧ Below w.heap.size w w' := by
  by_cases c0 : (f.size : Int) ≤ at'
  · have e : readF f at' cnt = ⟨#[]⟩ := if_pos c0
    rw [e]
    clear e
    go_enter Try.func21, Try.ntmps21
    go_wp2
    go_ret
    exact ⟨rfl, Below.refl _ _⟩
  have x2 : ∀ U, (Instr.slice 9 (.string f) (some (.int .i64 at')) none none).run Try.prog U = .ok (.string (f.extract at'.toNat f.size)) U := fun U => by
    rw [run_slice_string_from_if (P := Try.prog) U 9 f .i64 at' Try.underlying9, if_pos (by omega)]
  by_cases c1 : cnt < ((f.extract at'.toNat f.size).size : Int)
  · have e : readF f at' cnt = (f.extract at'.toNat f.size).extract 0 cnt.toNat := by unfold readF; rw [if_neg c0, if_pos c1]
    rw [e]
    clear e
    generalize f.extract at'.toNat f.size = g at x2 c1
    have x3 : ∀ U, (Instr.slice 9 (.string g) none (some (.int .i64 cnt)) none).run Try.prog U = .ok (.string (g.extract 0 cnt.toNat)) U := fun U => by
      rw [run_slice_string_to_if (P := Try.prog) U 9 g .i64 cnt Try.underlying9, if_pos (by omega)]
    go_enter Try.func21, Try.ntmps21
    go_wp2
    go_ret
    exact ⟨rfl, Below.refl _ _⟩
  · have e : readF f at' cnt = f.extract at'.toNat f.size := by unfold readF; rw [if_neg c0, if_neg c1]
    rw [e]
    clear e
    generalize f.extract at'.toNat f.size = g at x2 c1
    go_enter Try.func21, Try.ntmps21
    go_wp2
    go_ret
    exact ⟨rfl, Below.refl _ _⟩

/-- A true piece of a text, or its end mark. -/
def TP (f : ByteArray) (p : Pc) : Prop := 0 ≤ p.pos ∧ (p.data.size = 0 → p.pos = (f.size : Int)) ∧ (p.data.size ≠ 0 → p.pos + (p.data.size : Int) ≤ (f.size : Int) ∧ p.data = f.extract p.pos.toNat (p.pos.toNat + p.data.size))
def TPs (f : ByteArray) (bl : List Pc) : Prop := ∀ p ∈ bl, TP f p
theorem TPs.sub {f : ByteArray} {bl bl' : List Pc} (h : TPs f bl) (hs : ∀ p ∈ bl', p ∈ bl) : TPs f bl' := fun p hp => h p (hs p hp)
theorem useL_mem {k : Nat} {bl : List Pc} (hk : k < bl.length) : ∀ p ∈ useL k bl, p ∈ bl := fun p hp => (useL_perm hk).mem_iff.1 hp
theorem TPs.hold {f : ByteArray} {bl : List Pc} {hs : List Hd} (h : TPs f bl) (x : Hd) : TPs f (holdF x bl hs).1 := by
  unfold holdF
  split
  · simp only []
    split
    · exact h.sub fun p hp => (notI_mem.1 hp).1
    · exact h
  · exact h
theorem TPs.get {f : ByteArray} {bl : List Pc} {hs : List Hd} (h : TPs f bl) (id at' cnt now : Int) : TPs f (getF id at' cnt now bl hs).1 :=
  get_walk (P := fun r => TPs f r.1) id at' cnt now bl hs (fun _ => h) (fun _ _ _ k hk _ _ => h.sub (useL_mem hk)) (fun _ _ _ _ _ => h) (fun _ _ _ _ j hj _ _ _ _ => h.sub (useL_mem hj)) (fun _ _ _ _ _ _ _ _ _ _ => h) (fun _ _ _ k j m _ _ _ hj _ _ _ _ _ hm _ => (h.sub (useL_mem hj)).sub (useL_mem (by rw [useL_len hj]; exact hm)))
theorem TPs.put {f : ByteArray} {cp : Int} {bl : List Pc} {hs : List Hd} (h : TPs f bl) (p : Pc) (hp : TP f p) : TPs f (putF cp p bl hs) := by
  have h2 : ∀ q ∈ (bl.filter fun y => !clashB p y) ++ [p], TP f q := fun q hq => by
    rcases List.mem_append.1 hq with hq | hq
    · exact h q (List.mem_filter.1 hq).1
    · rw [List.mem_singleton] at hq; rw [hq]; exact hp
  unfold putF
  split
  · unfold putL
    split
    · exact fun q hq => h2 q (List.mem_of_mem_drop hq)
    · exact h2
  · exact h
theorem TPs.step {f : ByteArray} {cp : Int} {bl : List Pc} {hs : List Hd} (h : TPs f bl) (kd id vers at' cnt tm : Int) (data : ByteArray) (hk : kd ≠ 3) : TPs f (stepF cp kd id vers at' cnt tm data bl hs).1 := by
  unfold stepF
  rw [if_neg hk]
  repeat' split
  · exact h.hold _
  · exact h.sub fun p hp => (notI_mem.1 hp).1
  · exact h.get _ _ _ _
  · exact h.sub fun p hp => (notI_mem.1 hp).1
  · exact fun p hp => by cases hp
  · exact h

theorem ext_ext (f : ByteArray) (i j k l : Nat) (h : i + l ≤ j) : (f.extract i j).extract k l = f.extract (i + k) (i + l) := by
  rw [ByteArray.extract_extract]
  congr 1
  omega
theorem size_ext (f : ByteArray) (i j : Nat) : (f.extract i j).size = min j f.size - i := ByteArray.size_extract
/-- A true piece that covers an offset: its rest is the text's. -/
theorem rest_true {f : ByteArray} {p : Pc} (h : TP f p) {at' : Int} (h1 : p.pos ≤ at') (h2 : at' < endP p) : restF at' p = f.extract at'.toNat (endP p).toNat ∧ endP p ≤ (f.size : Int) ∧ 0 ≤ at' := by
  obtain ⟨g0, _, g2⟩ := h
  have hd : p.data.size ≠ 0 := fun h0 => by unfold endP at h2; rw [h0] at h2; omega
  obtain ⟨g3, g4⟩ := g2 hd
  unfold endP at h2 ⊢
  refine ⟨?_, g3, by omega⟩
  unfold restF
  obtain ⟨P, hP⟩ : ∃ P : Nat, p.pos = (P : Int) := ⟨p.pos.toNat, by omega⟩
  obtain ⟨A, hA⟩ : ∃ A : Nat, at' = (A : Int) := ⟨at'.toNat, by omega⟩
  rw [hP] at g4 h1 h2 ⊢
  rw [hA] at h1 h2 ⊢
  obtain ⟨s, hs⟩ : ∃ s, p.data.size = s := ⟨_, rfl⟩
  rw [hs] at g4 h2 ⊢
  rw [g4]
  rw [show ((A : Int) - (P : Int)).toNat = A - P by omega, show ((P : Int) + (s : Int)).toNat = P + s by omega, show ((P : Int)).toNat = P by omega, show ((A : Int)).toNat = A by omega, ext_ext _ _ _ _ _ (Nat.le_refl _)]
  congr 1
  omega
theorem get_true {f : ByteArray} {bl : List Pc} {hs : List Hd} (h : TPs f bl) (id at' cnt now : Int) : ((getF id at' cnt now bl hs).2.2 = true → 0 ≤ at' ∧ 0 ≤ cnt ∧ (getF id at' cnt now bl hs).2.1 = readF f at' cnt) ∧ ((getF id at' cnt now bl hs).2.2 = false → (getF id at' cnt now bl hs).2.1 = ⟨#[]⟩) := by
  refine get_walk (P := fun r => (r.2.2 = true → 0 ≤ at' ∧ 0 ≤ cnt ∧ r.2.1 = readF f at' cnt) ∧ (r.2.2 = false → r.2.1 = ⟨#[]⟩)) id at' cnt now bl hs ?_ ?_ ?_ ?_ ?_ ?_
  · exact fun _ => ⟨fun h => Bool.noConfusion h, fun _ => rfl⟩
  · intro _ h0 h1 k hk he hp
    refine ⟨fun _ => ⟨h0, h1, ?_⟩, fun h => Bool.noConfusion h⟩
    rcases end_cases id bl with e | ⟨m, hm, e, hme⟩
    · rw [e] at he; omega
    · have : m = k := by rw [e] at he; omega
      subst this
      unfold isE at hme
      rw [Bool.and_eq_true, decide_eq_true_eq, decide_eq_true_eq] at hme
      have := (h _ (mem_get! hk)).2.1 hme.2
      unfold readF
      rw [if_pos (by omega)]
  · exact fun _ _ _ _ _ => ⟨fun h => Bool.noConfusion h, fun _ => rfl⟩
  · intro _ h0 h1 _ j hj _ q1 q2 hl
    refine ⟨fun _ => ⟨h0, h1, ?_⟩, fun h => Bool.noConfusion h⟩
    obtain ⟨r1, r2, r3⟩ := rest_true (h _ (mem_get! hj)) q1 q2
    simp only []
    rw [r1] at hl ⊢
    rw [size_ext] at hl
    unfold readF
    rw [if_neg (by omega), size_ext]
    rw [ext_ext _ _ _ _ _ (by omega)]
    split
    · rw [ext_ext _ _ _ _ _ (by omega)]
    · rename_i hc
      rw [show at'.toNat + 0 = at'.toNat by omega, show at'.toNat + cnt.toNat = f.size by omega]
  · exact fun _ _ _ _ _ _ _ _ _ _ => ⟨fun h => Bool.noConfusion h, fun _ => rfl⟩
  · intro _ h0 h1 k j m hk he _ hj _ q1 q2 hl hx _ _
    refine ⟨fun _ => ⟨h0, h1, ?_⟩, fun h => Bool.noConfusion h⟩
    obtain ⟨r1, r2, r3⟩ := rest_true (h _ (mem_get! hj)) q1 q2
    rcases end_cases id bl with e | ⟨i, hi, e, hie⟩
    · rw [e] at he; omega
    · have : i = k := by rw [e] at he; omega
      subst this
      unfold isE at hie
      rw [Bool.and_eq_true, decide_eq_true_eq, decide_eq_true_eq] at hie
      have hz := (h _ (mem_get! hk)).2.1 hie.2
      have hq : (endP bl[j]!).toNat = f.size := by omega
      simp only []
      rw [r1, hq] at hl ⊢
      unfold readF
      rw [if_neg (by omega), if_neg (by omega)]
/-- A read of a text is a true piece. -/
theorem tp_read {f : ByteArray} {id vers at' cnt : Int} (h0 : 0 ≤ at') (h1 : at' < (f.size : Int)) (h2 : 0 < cnt) : TP f ⟨id, vers, at', readF f at' cnt⟩ := by
  obtain ⟨A, hA⟩ : ∃ A : Nat, at' = (A : Int) := ⟨at'.toNat, by omega⟩
  obtain ⟨C, hC⟩ : ∃ C : Nat, cnt = (C : Int) := ⟨cnt.toNat, by omega⟩
  subst hA hC
  have e : readF f (A : Int) (C : Int) = f.extract A (min (A + C) f.size) := by
    unfold readF
    rw [if_neg (by omega), size_ext]
    rw [show ((A : Int)).toNat = A by omega, show ((C : Int)).toNat = C by omega]
    split
    · rw [ext_ext _ _ _ _ _ (by omega)]
      congr 1
      omega
    · congr 1
      omega
  have es : (readF f (A : Int) (C : Int)).size = min (A + C) f.size - A := by
    rw [e, size_ext]; omega
  refine ⟨h0, fun hz => ?_, fun hz => ⟨?_, ?_⟩⟩
  · simp only [] at hz ⊢
    rw [es] at hz
    omega
  · simp only []
    rw [es]
    omega
  · simp only []
    rw [es]
    rw [e]
    rw [show ((A : Int)).toNat = A by omega]
    congr 1
    omega
theorem tp_end {f : ByteArray} {id vers : Int} : TP f ⟨id, vers, (f.size : Int), ⟨#[]⟩⟩ := ⟨by simp only []; omega, fun _ => rfl, fun h => absurd rfl h⟩

end Go.Proofs.Ytcgajlobbjoefaa
