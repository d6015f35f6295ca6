/- This text proves the walk of the statement CacheLeases. Conditions: those that each theorem names. -/
import Derived.Test.YtcgajlobbjoefaaCacheZE
namespace Go.Proofs.Ytcgajlobbjoefaa
open Go.ChangeShapes Go.WideShapes Go.ChangeAt Go.RowKit
set_option linter.unusedVariables false
set_option linter.unusedSimpArgs false

theorem get_held (id at' cnt now : Int) (bl : List Pc) (hs : List Hd) (h : (getF id at' cnt now bl hs).2.2 = true) : heldB id now hs = true :=
  get_walk (P := fun r => r.2.2 = true → heldB id now hs = true) id at' cnt now bl hs (fun _ h => Bool.noConfusion h) (fun h _ _ _ _ _ _ _ => h) (fun h _ _ _ _ _ => h) (fun h _ _ _ _ _ _ _ _ _ _ => h) (fun h _ _ _ _ _ _ _ _ _ _ => h) (fun h _ _ _ _ _ _ _ _ _ _ _ _ _ _ _ _ _ => h) h
theorem extract_all (s : ByteArray) : s.extract 0 s.size = s := by
  exact ByteArray.extract_zero_size
theorem putL_has {cp : Int} {p : Pc} {bl : List Pc} (hc : 0 < cp) : p ∈ putL cp p bl := by
  unfold putL
  split
  · rename_i h
    cases hf : (bl.filter fun y => !clashB p y) with
    | nil => rw [hf] at h; simp at h; omega
    | cons x xs => simp
  · simp
/-- A piece that is in the cache and covers an offset is the only one. -/
theorem cov_only {cp : Int} {L : List Pc} {hs : List Hd} (h : RightP cp L hs) {p : Pc} (hp : p ∈ L) (hd : 0 < p.data.size) : covI p.pid p.pos L ≠ -1 ∧ ∀ j : Nat, j < L.length → covI p.pid p.pos L = (j : Int) → L[j]! = p := by
  have hc : isC p.pid p.pos p = true := by
    unfold isC endP
    rw [Bool.and_eq_true, Bool.and_eq_true, decide_eq_true_eq, decide_eq_true_eq, decide_eq_true_eq]
    exact ⟨rfl, by omega, by omega⟩
  obtain ⟨i, hi, ei⟩ := get!_of_mem hp
  constructor
  · rcases fstI_spec (isC p.pid p.pos) L with ⟨_, hn⟩ | ⟨k, _, h2, _, _⟩
    · have := hn i hi
      rw [ei, hc] at this
      cases this
    · show fstI _ _ ≠ _
      rw [h2]; omega
  · intro j hj e
    rcases cov_cases p.pid p.pos L with e2 | ⟨k, hk, e2, hkc⟩
    · rw [e2] at e; omega
    · have : k = j := by rw [e2] at e; omega
      subst this
      obtain ⟨q0, q1, q2⟩ := isC_in hkc
      by_cases hik : i = k
      · rw [← hik]; exact ei
      · have hfree : clashB L[i]! L[k]! = false := by
          rcases Nat.lt_or_ge i k with hl | hl
          · have := List.pairwise_iff_getElem.1 h.free i k hi hk hl
            rw [getElem!_pos L i hi, getElem!_pos L k hk]; exact this
          · have := List.pairwise_iff_getElem.1 h.free k i hk hi (by omega)
            rw [getElem!_pos L i hi, getElem!_pos L k hk, clashB_comm]; exact this
        rw [ei] at hfree
        have hk0 : L[k]!.data.size ≠ 0 := fun h0 => by unfold endP at q2; rw [h0] at q2; omega
        unfold clashB ovB at hfree
        rw [if_neg (by omega), if_neg hk0, decide_eq_true q0.symm, decide_eq_true (by omega), decide_eq_true (by unfold endP; omega)] at hfree
        cases hfree
theorem end_far {cp : Int} {L : List Pc} {hs : List Hd} (h : RightP cp L hs) {p : Pc} (hp : p ∈ L) (hd : 0 < p.data.size) {k : Nat} (hk : k < L.length) (e : endI p.pid L = (k : Int)) : p.pos < L[k]!.pos := by
  rcases end_cases p.pid L with e2 | ⟨m, hm, e2, hme⟩
  · rw [e2] at e; omega
  · have : m = k := by rw [e2] at e; omega
    subst this
    unfold isE at hme
    rw [Bool.and_eq_true, decide_eq_true_eq, decide_eq_true_eq] at hme
    obtain ⟨i, hi, ei⟩ := get!_of_mem hp
    have hik : i ≠ m := fun hh => by rw [hh] at ei; rw [ei] at hme; omega
    have hfree : clashB L[m]! L[i]! = false := by
      rcases Nat.lt_or_ge i m with hl | hl
      · have := List.pairwise_iff_getElem.1 h.free i m hi hm hl
        rw [getElem!_pos L i hi, getElem!_pos L m hm, clashB_comm]; exact this
      · have := List.pairwise_iff_getElem.1 h.free m i hm hi (by omega)
        rw [getElem!_pos L i hi, getElem!_pos L m hm]; exact this
    rw [ei] at hfree
    unfold clashB ovB at hfree
    rw [if_pos hme.2, decide_eq_true hme.1, Bool.true_and, Bool.or_eq_false_iff] at hfree
    have := of_decide_eq_false hfree.2
    unfold endP at this
    omega
theorem put_then_get {cp : Int} {bl : List Pc} {hs : List Hd} (h : RightP cp bl hs) {id vers at' now : Int} {data : ByteArray} {i : Nat} (hi : i < hs.length) (e1 : hs[i]!.hid = id) (e2 : hs[i]!.vers = vers) (e3 : now < hs[i]!.til) (a1 : 0 ≤ at') (a2 : at' ≤ 9007199254740991) (hc : 0 < cp) (hd : 0 < data.size) (hs3 : data.size ≤ 65536) :
    (getF id at' (data.size : Int) now (putF cp ⟨id, vers, at', data⟩ bl hs) hs).2 = (data, true) := by
  have hI := hold_index h.asc hi
  rw [e1] at hI
  have hperm : permB hs ⟨id, vers, at', data⟩ = true := (perm_iff h.asc _).2 ⟨⟨hs[i]!, mem_get! hi, e1, e2⟩, a1, a2, hs3⟩
  have hheld : heldB id now hs = true := by rw [held_hit hI]; exact decide_eq_true e3
  have eL : putF cp ⟨id, vers, at', data⟩ bl hs = putL cp ⟨id, vers, at', data⟩ bl := by unfold putF; rw [if_pos ⟨hperm, by omega⟩]
  have hR := h.put ⟨id, vers, at', data⟩ hperm (by omega)
  have hin : (⟨id, vers, at', data⟩ : Pc) ∈ putL cp ⟨id, vers, at', data⟩ bl := putL_has hc
  rw [eL]
  generalize putL cp ⟨id, vers, at', data⟩ bl = L at hR hin
  obtain ⟨c1, c2⟩ := cov_only hR hin hd
  have rest : restF at' ⟨id, vers, at', data⟩ = data := by
    unfold restF
    simp only []
    rw [Int.sub_self]
    exact extract_all data
  have c2' : ∀ j : Nat, j < L.length → covI id at' L = (j : Int) → L[j]! = ⟨id, vers, at', data⟩ := c2
  have ef : ∀ k : Nat, k < L.length → endI id L = (k : Int) → at' < L[k]!.pos := fun k hk e => end_far hR hin hd hk e
  refine get_walk (P := fun r => r.2 = (data, true)) id at' (data.size : Int) now L hs ?_ ?_ ?_ ?_ ?_ ?_
  · rintro (h1 | h1 | h1)
    · rw [hheld] at h1; cases h1
    · omega
    · omega
  · intro _ _ _ k hk he hp
    have := ef k hk he
    omega
  · intro _ _ _ _ hcv
    exact absurd hcv c1
  · intro _ _ _ _ j hj hcv _ _ hl
    rw [c2' j hj hcv, rest]
    rw [Int.toNat_natCast, extract_all]
  · intro _ _ _ j hj _ hcv _ _ hl
    rw [c2' j hj hcv, rest] at hl
    omega
  · intro _ _ _ k j m _ _ _ hj hcv _ _ hl
    rw [c2' j hj hcv, rest] at hl
    omega

set_option maxRecDepth 20000 in
set_option maxHeartbeats 16000000 in
theorem lawLeases_calls (cp : Int) (ao : Option Addr) (n c1 : Nat) (ao2 : Option Addr) (n2 c2 : Nat) (bl : List Pc) (hs : List Hd) (id vers at' now : Int) (data : ByteArray) (w : World) (h1 : Sl w 4 ao n c1 (bl.map Pc.enc)) (h2 : Sl w 3 ao2 n2 c2 (hs.map Hd.enc)) :
    Calls Try.prog 4 #[.agg #[.int .i64 cp, .slice ao n c1, .slice ao2 n2 c2], .int .i64 id, .int .i64 vers, .int .i64 at', .int .i64 now, .string data] w fun e w' => e = .returned (.bool true) ∧ Below w.heap.size w w' := by
  have hb0 : Below w.heap.size w (w.alloc (.cells #[.int .i64 cp, .slice ao n c1, .slice ao2 n2 c2] 25)) := by
    repeat (first | (with_reducible exact Below.refl _ _) | (with_reducible assumption) | (with_reducible refine below_to_plus ?_ ?_ _) | (with_reducible refine below_holds ?_ ?_ _ _) | (with_reducible refine Below.alloc ?_ ?_ _) | (with_reducible refine Below.drew ?_) | (with_reducible refine below_drewN ?_ _) | (with_reducible refine Below.setCell ?_ ?_ _))
    all_goals first | omega | (simp; done) | (simp [go_sem]; done) | (simp [go_sem]; omega)
  have HC : Aside (CellsHd w ao2 hs) := cellsHd h2
  have HL2 : Aside (hs.length = n2) := Sl.lenE h2
  have C : Aside ((w.alloc (.cells #[.int .i64 cp, .slice ao n c1, .slice ao2 n2 c2] 25)).heap[w.heap.size]? = some (.cells #[.int .i64 cp, .slice ao n c1, .slice ao2 n2 c2] 25 (0, 0))) := hp_new rfl
  have S1 : Aside (Sl (w.alloc (.cells #[.int .i64 cp, .slice ao n c1, .slice ao2 n2 c2] 25)) 4 ao n c1 (bl.map Pc.enc)) := h1.stays hb0
  have S2 : Aside (Sl (w.alloc (.cells #[.int .i64 cp, .slice ao n c1, .slice ao2 n2 c2] 25)) 3 ao2 n2 c2 (hs.map Hd.enc)) := h2.stays hb0
  have HB : Aside (Below w.heap.size w (w.alloc (.cells #[.int .i64 cp, .slice ao n c1, .slice ao2 n2 c2] 25))) := hb0
  clear h1 h2 hb0
  go_enter Try.func4, Try.ntmps4
  go_wp2_with fail
  refine (small_calls cp ao n c1 ao2 n2 c2 bl hs _ S1.out S2.out).mono ?_
  rintro e w1 ⟨sb, rfl, hsb, hb⟩
  have C' : Aside (w1.heap[w.heap.size]? = some (.cells #[.int .i64 cp, .slice ao n c1, .slice ao2 n2 c2] 25 (0, 0))) := heap_later C.out hb
  have S1' : Aside (Sl w1 4 ao n c1 (bl.map Pc.enc)) := S1.out.stays hb
  have S2' : Aside (Sl w1 3 ao2 n2 c2 (hs.map Hd.enc)) := S2.out.stays hb
  have HB' : Aside (Below w.heap.size w w1) := HB.out.trans (hb.mono HB.out.size)
  clear hb HB C S1 S2
  have C : Aside (w1.heap[w.heap.size]? = some (.cells #[.int .i64 cp, .slice ao n c1, .slice ao2 n2 c2] 25 (0, 0))) := C'.out
  clear C'
  have S1 : Aside (Sl w1 4 ao n c1 (bl.map Pc.enc)) := S1'.out
  clear S1'
  have S2 : Aside (Sl w1 3 ao2 n2 c2 (hs.map Hd.enc)) := S2'.out
  clear S2'
  have HB : Aside (Below w.heap.size w w1) := HB'.out
  clear HB'
  have cc0 := cell_heap C.out 0 _ rfl
  have cc1 := cell_heap C.out 1 _ rfl
  have cc2 := cell_heap C.out 2 _ rfl
  have cclt : w.heap.size < w1.heap.size := (Array.getElem?_eq_some_iff.1 C.out).1
  cases sb with
  | false =>
    clear hsb
    go_wp2_with fail
    refine (awake_calls _).mono ?_
    rintro e w2 ⟨rfl, hb⟩
    have C' : Aside (w2.heap[w.heap.size]? = some (.cells #[.int .i64 cp, .slice ao n c1, .slice ao2 n2 c2] 25 (0, 0))) := heap_later C.out hb
    have S1' : Aside (Sl w2 4 ao n c1 (bl.map Pc.enc)) := S1.out.stays hb
    have S2' : Aside (Sl w2 3 ao2 n2 c2 (hs.map Hd.enc)) := S2.out.stays hb
    have HB' : Aside (Below w.heap.size w w2) := HB.out.trans (hb.mono HB.out.size)
    clear hb HB C S1 S2 cc0 cc1 cc2 cclt
    have C : Aside (w2.heap[w.heap.size]? = some (.cells #[.int .i64 cp, .slice ao n c1, .slice ao2 n2 c2] 25 (0, 0))) := C'.out
    clear C'
    have S1 : Aside (Sl w2 4 ao n c1 (bl.map Pc.enc)) := S1'.out
    clear S1'
    have S2 : Aside (Sl w2 3 ao2 n2 c2 (hs.map Hd.enc)) := S2'.out
    clear S2'
    have HB : Aside (Below w.heap.size w w2) := HB'.out
    clear HB'
    go_wp2
    go_ret
    exact ⟨rfl, HB.out⟩
  | true =>
    by_cases g : 3000 < data.size
    · have gz : (3000 : Int) < (data.size : Int) := by omega
      have gd : decide ((3000 : Int) < (data.size : Int)) = true := decide_eq_true gz
      clear g hsb
      go_wp2_with fail
      refine (awake_calls _).mono ?_
      rintro e w2 ⟨rfl, hb⟩
      have C' : Aside (w2.heap[w.heap.size]? = some (.cells #[.int .i64 cp, .slice ao n c1, .slice ao2 n2 c2] 25 (0, 0))) := heap_later C.out hb
      have S1' : Aside (Sl w2 4 ao n c1 (bl.map Pc.enc)) := S1.out.stays hb
      have S2' : Aside (Sl w2 3 ao2 n2 c2 (hs.map Hd.enc)) := S2.out.stays hb
      have HB' : Aside (Below w.heap.size w w2) := HB.out.trans (hb.mono HB.out.size)
      clear hb HB C S1 S2 cc0 cc1 cc2 cclt
      have C : Aside (w2.heap[w.heap.size]? = some (.cells #[.int .i64 cp, .slice ao n c1, .slice ao2 n2 c2] 25 (0, 0))) := C'.out
      clear C'
      have S1 : Aside (Sl w2 4 ao n c1 (bl.map Pc.enc)) := S1'.out
      clear S1'
      have S2 : Aside (Sl w2 3 ao2 n2 c2 (hs.map Hd.enc)) := S2'.out
      clear S2'
      have HB : Aside (Below w.heap.size w w2) := HB'.out
      clear HB'
      go_wp2
      go_ret
      exact ⟨rfl, HB.out⟩
    have gd : decide ((3000 : Int) < (data.size : Int)) = false := decide_eq_false (by omega)
    have hn2 : n2 ≤ 70 := by have := (hsb rfl).2; have := HL2.out; omega
    clear hsb
    have cq := fun U (s1 : Sl U 4 ao n c1 (bl.map Pc.enc)) (s2 : Sl U 3 ao2 n2 c2 (hs.map Hd.enc)) => rright_calls cp ao n c1 ao2 n2 c2 bl hs U s1 s2
    cases hr : rightB cp bl hs with
    | false =>
      rw [hr] at cq
      clear hr
      go_wp2_with fail
      refine (cq _ S1.out S2.out).mono ?_
      rintro e w2 ⟨rfl, hb⟩
      have C' : Aside (w2.heap[w.heap.size]? = some (.cells #[.int .i64 cp, .slice ao n c1, .slice ao2 n2 c2] 25 (0, 0))) := heap_later C.out hb
      have S1' : Aside (Sl w2 4 ao n c1 (bl.map Pc.enc)) := S1.out.stays hb
      have S2' : Aside (Sl w2 3 ao2 n2 c2 (hs.map Hd.enc)) := S2.out.stays hb
      have HB' : Aside (Below w.heap.size w w2) := HB.out.trans (hb.mono HB.out.size)
      clear hb HB C S1 S2 cc0 cc1 cc2 cclt
      have C : Aside (w2.heap[w.heap.size]? = some (.cells #[.int .i64 cp, .slice ao n c1, .slice ao2 n2 c2] 25 (0, 0))) := C'.out
      clear C'
      have S1 : Aside (Sl w2 4 ao n c1 (bl.map Pc.enc)) := S1'.out
      clear S1'
      have S2 : Aside (Sl w2 3 ao2 n2 c2 (hs.map Hd.enc)) := S2'.out
      clear S2'
      have HB : Aside (Below w.heap.size w w2) := HB'.out
      clear HB'
      clear cq
      go_wp2_with fail
      refine (awake_calls _).mono ?_
      rintro e w3 ⟨rfl, hb⟩
      have C' : Aside (w3.heap[w.heap.size]? = some (.cells #[.int .i64 cp, .slice ao n c1, .slice ao2 n2 c2] 25 (0, 0))) := heap_later C.out hb
      have S1' : Aside (Sl w3 4 ao n c1 (bl.map Pc.enc)) := S1.out.stays hb
      have S2' : Aside (Sl w3 3 ao2 n2 c2 (hs.map Hd.enc)) := S2.out.stays hb
      have HB' : Aside (Below w.heap.size w w3) := HB.out.trans (hb.mono HB.out.size)
      clear hb HB C S1 S2
      have C : Aside (w3.heap[w.heap.size]? = some (.cells #[.int .i64 cp, .slice ao n c1, .slice ao2 n2 c2] 25 (0, 0))) := C'.out
      clear C'
      have S1 : Aside (Sl w3 4 ao n c1 (bl.map Pc.enc)) := S1'.out
      clear S1'
      have S2 : Aside (Sl w3 3 ao2 n2 c2 (hs.map Hd.enc)) := S2'.out
      clear S2'
      have HB : Aside (Below w.heap.size w w3) := HB'.out
      clear HB'
      go_wp2
      go_ret
      exact ⟨rfl, HB.out⟩
    | true =>
      rw [hr] at cq
      have hR := RightP.of hr
      have cg := fun U (s1 : Sl U 4 ao n c1 (bl.map Pc.enc)) (s2 : Sl U 3 ao2 n2 c2 (hs.map Hd.enc)) => get_all cp ao n c1 ao2 n2 c2 bl hs id at' (data.size : Int) now U s1 s2 hR
      have cp1 := fun U (s1 : Sl U 4 ao n c1 (bl.map Pc.enc)) (s2 : Sl U 3 ao2 n2 c2 (hs.map Hd.enc)) => put_all cp ao n c1 ao2 n2 c2 bl hs id vers at' data U s1 s2 hR
      have chd := fun U (s2 : Sl U 3 ao2 n2 c2 (hs.map Hd.enc)) => held_calls cp ao n c1 ao2 n2 c2 hs id now U s2 (by omega) hR.asc
      have H1 : Aside ((getF id at' (data.size : Int) now bl hs).2.2 = true → heldB id now hs = true) := get_held _ _ _ _ _ _
      have PG : Aside (∀ i : Nat, i < hs.length → hs[i]!.hid = id → hs[i]!.vers = vers → now < hs[i]!.til → 0 ≤ at' → at' ≤ 9007199254740991 → 0 < cp → 0 < data.size → (getF id at' (data.size : Int) now (putF cp ⟨id, vers, at', data⟩ bl hs) hs).2 = (data, true)) := fun i hi e1 e2 e3 a1 a2 hc hd => put_then_get hR hi e1 e2 e3 a1 a2 hc hd (by omega)
      have hR1 := hR.putF ⟨id, vers, at', data⟩
      generalize getF id at' (data.size : Int) now bl hs = r at cg H1
      obtain ⟨bg, sg, ig⟩ := r
      generalize putF cp ⟨id, vers, at', data⟩ bl hs = bp at cp1 hR1 PG
      have cg2 := fun a1 k1 a2 k2 U (s1 : Sl U 4 a1 bp.length k1 (bp.map Pc.enc)) (s2 : Sl U 3 a2 hs.length k2 (hs.map Hd.enc)) => get_all cp a1 bp.length k1 a2 hs.length k2 bp hs id at' (data.size : Int) now U s1 s2 hR1
      have H2 : Aside ((getF id at' (data.size : Int) now bp hs).2.2 = true → heldB id now hs = true) := get_held _ _ _ _ _ _
      have hR2 := hR1.getF id at' (data.size : Int) now
      generalize getF id at' (data.size : Int) now bp hs = r2 at cg2 H2 PG hR2
      obtain ⟨be, se, ie⟩ := r2
      have crr := fun a1 k1 a2 k2 U (s1 : Sl U 4 a1 be.length k1 (be.map Pc.enc)) (s2 : Sl U 3 a2 hs.length k2 (hs.map Hd.enc)) => right_calls cp a1 be.length k1 a2 hs.length k2 be hs U s1 s2
      rw [(right_iff _ _ _).2 hR2] at crr
      have H1 : Aside (ig = true → heldB id now hs = true) := H1
      have H2 : Aside (ie = true → heldB id now hs = true) := H2
      have PG : Aside (∀ i : Nat, i < hs.length → hs[i]!.hid = id → hs[i]!.vers = vers → now < hs[i]!.til → 0 ≤ at' → at' ≤ 9007199254740991 → 0 < cp → 0 < data.size → (se, ie) = (data, true)) := PG
      generalize heldB id now hs = hl at chd H1 H2
      clear hr hR hR1 hR2
      go_wp2_with fail
      refine (cq _ S1.out S2.out).mono ?_
      rintro e w2 ⟨rfl, hb⟩
      have C' : Aside (w2.heap[w.heap.size]? = some (.cells #[.int .i64 cp, .slice ao n c1, .slice ao2 n2 c2] 25 (0, 0))) := heap_later C.out hb
      have S1' : Aside (Sl w2 4 ao n c1 (bl.map Pc.enc)) := S1.out.stays hb
      have S2' : Aside (Sl w2 3 ao2 n2 c2 (hs.map Hd.enc)) := S2.out.stays hb
      have HB' : Aside (Below w.heap.size w w2) := HB.out.trans (hb.mono HB.out.size)
      clear hb HB C S1 S2 cc0 cc1 cc2 cclt
      have C : Aside (w2.heap[w.heap.size]? = some (.cells #[.int .i64 cp, .slice ao n c1, .slice ao2 n2 c2] 25 (0, 0))) := C'.out
      clear C'
      have S1 : Aside (Sl w2 4 ao n c1 (bl.map Pc.enc)) := S1'.out
      clear S1'
      have S2 : Aside (Sl w2 3 ao2 n2 c2 (hs.map Hd.enc)) := S2'.out
      clear S2'
      have HB : Aside (Below w.heap.size w w2) := HB'.out
      clear HB'
      have cc0 := cell_heap C.out 0 _ rfl
      have cc1 := cell_heap C.out 1 _ rfl
      have cc2 := cell_heap C.out 2 _ rfl
      have cclt : w.heap.size < w2.heap.size := (Array.getElem?_eq_some_iff.1 C.out).1
      clear cq
      cases ig with
      | false =>
        clear H1
        go_wp2_with fail
        refine (cg _ S1.out S2.out).mono ?_
        rintro e w3 ⟨a1, k1, a2, k2, rfl, s1, s2, hb⟩
        have C' : Aside (w3.heap[w.heap.size]? = some (.cells #[.int .i64 cp, .slice ao n c1, .slice ao2 n2 c2] 25 (0, 0))) := heap_later C.out hb
        have S1' : Aside (Sl w3 4 ao n c1 (bl.map Pc.enc)) := S1.out.stays hb
        have S2' : Aside (Sl w3 3 ao2 n2 c2 (hs.map Hd.enc)) := S2.out.stays hb
        have S3' : Aside (Sl w3 4 a1 bg.length k1 (bg.map Pc.enc)) := s1
        have S4' : Aside (Sl w3 3 a2 hs.length k2 (hs.map Hd.enc)) := s2
        have HB' : Aside (Below w.heap.size w w3) := HB.out.trans (hb.mono HB.out.size)
        clear hb HB C S1 S2 s1 s2 cc0 cc1 cc2 cclt
        have C : Aside (w3.heap[w.heap.size]? = some (.cells #[.int .i64 cp, .slice ao n c1, .slice ao2 n2 c2] 25 (0, 0))) := C'.out
        clear C'
        have S1 : Aside (Sl w3 4 ao n c1 (bl.map Pc.enc)) := S1'.out
        clear S1'
        have S2 : Aside (Sl w3 3 ao2 n2 c2 (hs.map Hd.enc)) := S2'.out
        clear S2'
        have S3 : Aside (Sl w3 4 a1 bg.length k1 (bg.map Pc.enc)) := S3'.out
        clear S3'
        have S4 : Aside (Sl w3 3 a2 hs.length k2 (hs.map Hd.enc)) := S4'.out
        clear S4'
        have HB : Aside (Below w.heap.size w w3) := HB'.out
        clear HB'
        have cc0 := cell_heap C.out 0 _ rfl
        have cc1 := cell_heap C.out 1 _ rfl
        have cc2 := cell_heap C.out 2 _ rfl
        have cclt : w.heap.size < w3.heap.size := (Array.getElem?_eq_some_iff.1 C.out).1
        have C' : Aside ((w3.alloc (.cells #[.int .i64 cp, .slice a1 bg.length k1, .slice a2 hs.length k2] 25)).heap[w.heap.size]? = some (.cells #[.int .i64 cp, .slice ao n c1, .slice ao2 n2 c2] 25 (0, 0))) := hp_old C.out
        have S1' : Aside (Sl (w3.alloc (.cells #[.int .i64 cp, .slice a1 bg.length k1, .slice a2 hs.length k2] 25)) 4 ao n c1 (bl.map Pc.enc)) := S1.out.stays ((Below.refl _ _).alloc (Nat.le_refl _) _)
        have S2' : Aside (Sl (w3.alloc (.cells #[.int .i64 cp, .slice a1 bg.length k1, .slice a2 hs.length k2] 25)) 3 ao2 n2 c2 (hs.map Hd.enc)) := S2.out.stays ((Below.refl _ _).alloc (Nat.le_refl _) _)
        have S3' : Aside (Sl (w3.alloc (.cells #[.int .i64 cp, .slice a1 bg.length k1, .slice a2 hs.length k2] 25)) 4 a1 bg.length k1 (bg.map Pc.enc)) := S3.out.stays ((Below.refl _ _).alloc (Nat.le_refl _) _)
        have S4' : Aside (Sl (w3.alloc (.cells #[.int .i64 cp, .slice a1 bg.length k1, .slice a2 hs.length k2] 25)) 3 a2 hs.length k2 (hs.map Hd.enc)) := S4.out.stays ((Below.refl _ _).alloc (Nat.le_refl _) _)
        have A' : Aside ((w3.alloc (.cells #[.int .i64 cp, .slice a1 bg.length k1, .slice a2 hs.length k2] 25)).heap[w3.heap.size]? = some (.cells #[.int .i64 cp, .slice a1 bg.length k1, .slice a2 hs.length k2] 25 (0, 0))) := hp_new rfl
        have HB' : Aside (Below w.heap.size w (w3.alloc (.cells #[.int .i64 cp, .slice a1 bg.length k1, .slice a2 hs.length k2] 25))) := HB.out.alloc HB.out.size _
        clear HB C S1 S2 S3 S4
        go_wp2_with fail
        clear cc0 cc1 cc2 cclt
        generalize (w3.alloc (.cells #[.int .i64 cp, .slice a1 bg.length k1, .slice a2 hs.length k2] 25)) = v3 at C' S1' S2' S3' S4' A' HB' ⊢
        generalize w3.heap.size = ab at A' ⊢
        have C : Aside (v3.heap[w.heap.size]? = some (.cells #[.int .i64 cp, .slice ao n c1, .slice ao2 n2 c2] 25 (0, 0))) := C'.out
        clear C'
        have S1 : Aside (Sl v3 4 ao n c1 (bl.map Pc.enc)) := S1'.out
        clear S1'
        have S2 : Aside (Sl v3 3 ao2 n2 c2 (hs.map Hd.enc)) := S2'.out
        clear S2'
        have S3 : Aside (Sl v3 4 a1 bg.length k1 (bg.map Pc.enc)) := S3'.out
        clear S3'
        have S4 : Aside (Sl v3 3 a2 hs.length k2 (hs.map Hd.enc)) := S4'.out
        clear S4'
        have A : Aside (v3.heap[ab]? = some (.cells #[.int .i64 cp, .slice a1 bg.length k1, .slice a2 hs.length k2] 25 (0, 0))) := A'.out
        clear A'
        have HB : Aside (Below w.heap.size w v3) := HB'.out
        clear HB'
        clear cg A S3 S4
        refine (cp1 _ S1.out S2.out).mono ?_
        rintro e w4 ⟨a3, k3, a4, k4, rfl, s1, s2, hb⟩
        have C' : Aside (w4.heap[w.heap.size]? = some (.cells #[.int .i64 cp, .slice ao n c1, .slice ao2 n2 c2] 25 (0, 0))) := heap_later C.out hb
        have S2' : Aside (Sl w4 3 ao2 n2 c2 (hs.map Hd.enc)) := S2.out.stays hb
        have S5' : Aside (Sl w4 4 a3 bp.length k3 (bp.map Pc.enc)) := s1
        have S6' : Aside (Sl w4 3 a4 hs.length k4 (hs.map Hd.enc)) := s2
        have HB' : Aside (Below w.heap.size w w4) := HB.out.trans (hb.mono HB.out.size)
        clear hb HB C S2 S1 s1 s2
        have C : Aside (w4.heap[w.heap.size]? = some (.cells #[.int .i64 cp, .slice ao n c1, .slice ao2 n2 c2] 25 (0, 0))) := C'.out
        clear C'
        have S2 : Aside (Sl w4 3 ao2 n2 c2 (hs.map Hd.enc)) := S2'.out
        clear S2'
        have S5 : Aside (Sl w4 4 a3 bp.length k3 (bp.map Pc.enc)) := S5'.out
        clear S5'
        have S6 : Aside (Sl w4 3 a4 hs.length k4 (hs.map Hd.enc)) := S6'.out
        clear S6'
        have HB : Aside (Below w.heap.size w w4) := HB'.out
        clear HB'
        have C' : Aside ((w4.alloc (.cells #[.int .i64 cp, .slice a3 bp.length k3, .slice a4 hs.length k4] 25)).heap[w.heap.size]? = some (.cells #[.int .i64 cp, .slice ao n c1, .slice ao2 n2 c2] 25 (0, 0))) := hp_old C.out
        have S2' : Aside (Sl (w4.alloc (.cells #[.int .i64 cp, .slice a3 bp.length k3, .slice a4 hs.length k4] 25)) 3 ao2 n2 c2 (hs.map Hd.enc)) := S2.out.stays ((Below.refl _ _).alloc (Nat.le_refl _) _)
        have S5' : Aside (Sl (w4.alloc (.cells #[.int .i64 cp, .slice a3 bp.length k3, .slice a4 hs.length k4] 25)) 4 a3 bp.length k3 (bp.map Pc.enc)) := S5.out.stays ((Below.refl _ _).alloc (Nat.le_refl _) _)
        have S6' : Aside (Sl (w4.alloc (.cells #[.int .i64 cp, .slice a3 bp.length k3, .slice a4 hs.length k4] 25)) 3 a4 hs.length k4 (hs.map Hd.enc)) := S6.out.stays ((Below.refl _ _).alloc (Nat.le_refl _) _)
        have B' : Aside ((w4.alloc (.cells #[.int .i64 cp, .slice a3 bp.length k3, .slice a4 hs.length k4] 25)).heap[w4.heap.size]? = some (.cells #[.int .i64 cp, .slice a3 bp.length k3, .slice a4 hs.length k4] 25 (0, 0))) := hp_new rfl
        have HB' : Aside (Below w.heap.size w (w4.alloc (.cells #[.int .i64 cp, .slice a3 bp.length k3, .slice a4 hs.length k4] 25))) := HB.out.alloc HB.out.size _
        clear HB C S2 S5 S6
        go_wp2_with fail
        generalize (w4.alloc (.cells #[.int .i64 cp, .slice a3 bp.length k3, .slice a4 hs.length k4] 25)) = v4 at C' S2' S5' S6' B' HB' ⊢
        generalize w4.heap.size = bb at B' ⊢
        have C : Aside (v4.heap[w.heap.size]? = some (.cells #[.int .i64 cp, .slice ao n c1, .slice ao2 n2 c2] 25 (0, 0))) := C'.out
        clear C'
        have S2 : Aside (Sl v4 3 ao2 n2 c2 (hs.map Hd.enc)) := S2'.out
        clear S2'
        have S5 : Aside (Sl v4 4 a3 bp.length k3 (bp.map Pc.enc)) := S5'.out
        clear S5'
        have S6 : Aside (Sl v4 3 a4 hs.length k4 (hs.map Hd.enc)) := S6'.out
        clear S6'
        have B : Aside (v4.heap[bb]? = some (.cells #[.int .i64 cp, .slice a3 bp.length k3, .slice a4 hs.length k4] 25 (0, 0))) := B'.out
        clear B'
        have HB : Aside (Below w.heap.size w v4) := HB'.out
        clear HB'
        clear cp1
        cases ie with
        | false =>
          clear H2
          refine (cg2 a3 k3 a4 k4 _ S5.out S6.out).mono ?_
          rintro e w5 ⟨a5, k5, a6, k6, rfl, s1, s2, hb⟩
          have C' : Aside (w5.heap[w.heap.size]? = some (.cells #[.int .i64 cp, .slice ao n c1, .slice ao2 n2 c2] 25 (0, 0))) := heap_later C.out hb
          have S2' : Aside (Sl w5 3 ao2 n2 c2 (hs.map Hd.enc)) := S2.out.stays hb
          have S7' : Aside (Sl w5 4 a5 be.length k5 (be.map Pc.enc)) := s1
          have S8' : Aside (Sl w5 3 a6 hs.length k6 (hs.map Hd.enc)) := s2
          have HB' : Aside (Below w.heap.size w w5) := HB.out.trans (hb.mono HB.out.size)
          clear hb HB C S2 S5 S6 B s1 s2
          have C : Aside (w5.heap[w.heap.size]? = some (.cells #[.int .i64 cp, .slice ao n c1, .slice ao2 n2 c2] 25 (0, 0))) := C'.out
          clear C'
          have S2 : Aside (Sl w5 3 ao2 n2 c2 (hs.map Hd.enc)) := S2'.out
          clear S2'
          have S7 : Aside (Sl w5 4 a5 be.length k5 (be.map Pc.enc)) := S7'.out
          clear S7'
          have S8 : Aside (Sl w5 3 a6 hs.length k6 (hs.map Hd.enc)) := S8'.out
          clear S8'
          have HB : Aside (Below w.heap.size w w5) := HB'.out
          clear HB'
          have C' : Aside ((w5.alloc (.cells #[.int .i64 cp, .slice a5 be.length k5, .slice a6 hs.length k6] 25)).heap[w.heap.size]? = some (.cells #[.int .i64 cp, .slice ao n c1, .slice ao2 n2 c2] 25 (0, 0))) := hp_old C.out
          have S2' : Aside (Sl (w5.alloc (.cells #[.int .i64 cp, .slice a5 be.length k5, .slice a6 hs.length k6] 25)) 3 ao2 n2 c2 (hs.map Hd.enc)) := S2.out.stays ((Below.refl _ _).alloc (Nat.le_refl _) _)
          have S7' : Aside (Sl (w5.alloc (.cells #[.int .i64 cp, .slice a5 be.length k5, .slice a6 hs.length k6] 25)) 4 a5 be.length k5 (be.map Pc.enc)) := S7.out.stays ((Below.refl _ _).alloc (Nat.le_refl _) _)
          have S8' : Aside (Sl (w5.alloc (.cells #[.int .i64 cp, .slice a5 be.length k5, .slice a6 hs.length k6] 25)) 3 a6 hs.length k6 (hs.map Hd.enc)) := S8.out.stays ((Below.refl _ _).alloc (Nat.le_refl _) _)
          have E' : Aside ((w5.alloc (.cells #[.int .i64 cp, .slice a5 be.length k5, .slice a6 hs.length k6] 25)).heap[w5.heap.size]? = some (.cells #[.int .i64 cp, .slice a5 be.length k5, .slice a6 hs.length k6] 25 (0, 0))) := hp_new rfl
          have HB' : Aside (Below w.heap.size w (w5.alloc (.cells #[.int .i64 cp, .slice a5 be.length k5, .slice a6 hs.length k6] 25))) := HB.out.alloc HB.out.size _
          clear HB C S2 S7 S8
          go_wp2_with fail
          generalize (w5.alloc (.cells #[.int .i64 cp, .slice a5 be.length k5, .slice a6 hs.length k6] 25)) = v5 at C' S2' S7' S8' E' HB' ⊢
          generalize w5.heap.size = eb at E' ⊢
          have C : Aside (v5.heap[w.heap.size]? = some (.cells #[.int .i64 cp, .slice ao n c1, .slice ao2 n2 c2] 25 (0, 0))) := C'.out
          clear C'
          have S2 : Aside (Sl v5 3 ao2 n2 c2 (hs.map Hd.enc)) := S2'.out
          clear S2'
          have S7 : Aside (Sl v5 4 a5 be.length k5 (be.map Pc.enc)) := S7'.out
          clear S7'
          have S8 : Aside (Sl v5 3 a6 hs.length k6 (hs.map Hd.enc)) := S8'.out
          clear S8'
          have E : Aside (v5.heap[eb]? = some (.cells #[.int .i64 cp, .slice a5 be.length k5, .slice a6 hs.length k6] 25 (0, 0))) := E'.out
          clear E'
          have HB : Aside (Below w.heap.size w v5) := HB'.out
          clear HB'
          clear cg2
          clear chd
          refine (crr a5 k5 a6 k6 _ S7.out S8.out).mono ?_
          rintro e w6 ⟨rfl, hb⟩
          have C' : Aside (w6.heap[w.heap.size]? = some (.cells #[.int .i64 cp, .slice ao n c1, .slice ao2 n2 c2] 25 (0, 0))) := heap_later C.out hb
          have S2' : Aside (Sl w6 3 ao2 n2 c2 (hs.map Hd.enc)) := S2.out.stays hb
          have HB' : Aside (Below w.heap.size w w6) := HB.out.trans (hb.mono HB.out.size)
          clear hb HB C S2 S7 S8 E
          have C : Aside (w6.heap[w.heap.size]? = some (.cells #[.int .i64 cp, .slice ao n c1, .slice ao2 n2 c2] 25 (0, 0))) := C'.out
          clear C'
          have S2 : Aside (Sl w6 3 ao2 n2 c2 (hs.map Hd.enc)) := S2'.out
          clear S2'
          have HB : Aside (Below w.heap.size w w6) := HB'.out
          clear HB'
          have cc0 := cell_heap C.out 0 _ rfl
          have cc1 := cell_heap C.out 1 _ rfl
          have cc2 := cell_heap C.out 2 _ rfl
          have cclt : w.heap.size < w6.heap.size := (Array.getElem?_eq_some_iff.1 C.out).1
          clear crr
          go_wp2
          clear cc0 cc1 cc2 cclt
          clear S2
          go_loopg [88] n2 (fun k s88 wr => ∃ idx : Nat, s88 = .int .i64 (idx : Int) ∧ k + idx = n2 ∧ Aside (Below w6.heap.size w6 wr))
          case atStart => exact ⟨0, rfl, by omega, Below.refl _ _⟩
          case round =>
            obtain ⟨idx, rfl, hk, BW⟩ := hrel
            have Cr : Aside (wr.heap[w.heap.size]? = some (.cells #[.int .i64 cp, .slice ao n c1, .slice ao2 n2 c2] 25 (0, 0))) := heap_later C.out BW.out
            have HBr : Aside (Below w.heap.size w wr) := HB.out.trans (BW.out.mono HB.out.size)
            have cc0 := cell_heap Cr.out 0 _ rfl
            have cc1 := cell_heap Cr.out 1 _ rfl
            have cc2 := cell_heap Cr.out 2 _ rfl
            have cclt : w.heap.size < wr.heap.size := (Array.getElem?_eq_some_iff.1 Cr.out).1
            by_cases hi : idx < n2
            · have hiz : (idx : Int) < (n2 : Int) := by omega
              have hix : idx < hs.length := by have := HL2.out; omega
              obtain ⟨b, off, rfl, hbw, q0, q1, q2⟩ := HC.out idx hix
              have l0 := (HBr.out.cell (p := ⟨b, off + idx * 3, none⟩) hbw).trans q0
              have l1 := (HBr.out.cell (p := ⟨b, off + idx * 3 + 1, none⟩) hbw).trans q1
              have l2 := (HBr.out.cell (p := ⟨b, off + idx * 3 + 2, none⟩) hbw).trans q2
              have hbr : b < wr.heap.size := Nat.lt_of_lt_of_le hbw HBr.out.size
              have PGi := PG.out idx hix
              clear q0 q1 q2 HC PG C
              generalize hs[idx]! = y at l0 l1 l2 PGi
              obtain ⟨y1, y2, y3⟩ := y
              simp only [] at l0 l1 l2 PGi
              by_cases d0 : y1 = id
              rotate_left
              · have t0 : (y1 == id) = false := by simpa using d0
                clear d0
                clear PGi
                go_wp2
                go_roundg (gk - 1)
                case measure => omega
                case rel => exact ⟨idx + 1, by simp, by omega, BW.out.alloc BW.out.size _⟩
              have t0 : (y1 == id) = true := by simpa using d0
              by_cases d1 : y2 = vers
              rotate_left
              · have t1 : (y2 == vers) = false := by simpa using d1
                clear d1
                clear d0
                clear PGi
                go_wp2
                go_roundg (gk - 1)
                case measure => omega
                case rel => exact ⟨idx + 1, by simp, by omega, BW.out.alloc BW.out.size _⟩
              have t1 : (y2 == vers) = true := by simpa using d1
              by_cases d2 : now < y3
              rotate_left
              · have t2 : decide (now < y3) = false := by exact decide_eq_false d2
                clear d2
                clear d0
                clear d1
                clear PGi
                go_wp2
                go_roundg (gk - 1)
                case measure => omega
                case rel => exact ⟨idx + 1, by simp, by omega, BW.out.alloc BW.out.size _⟩
              have t2 : decide (now < y3) = true := by exact decide_eq_true d2
              by_cases d3 : 0 ≤ at'
              rotate_left
              · have t3 : decide (0 ≤ at') = false := by exact decide_eq_false d3
                clear d3
                clear d0
                clear d1
                clear d2
                clear PGi
                go_wp2
                go_roundg (gk - 1)
                case measure => omega
                case rel => exact ⟨idx + 1, by simp, by omega, BW.out.alloc BW.out.size _⟩
              have t3 : decide (0 ≤ at') = true := by exact decide_eq_true d3
              by_cases d4 : at' ≤ 9007199254740991
              rotate_left
              · have t4 : decide (at' ≤ 9007199254740991) = false := by exact decide_eq_false d4
                clear d4
                clear d0
                clear d1
                clear d2
                clear d3
                clear PGi
                go_wp2
                go_roundg (gk - 1)
                case measure => omega
                case rel => exact ⟨idx + 1, by simp, by omega, BW.out.alloc BW.out.size _⟩
              have t4 : decide (at' ≤ 9007199254740991) = true := by exact decide_eq_true d4
              by_cases d5 : 0 < cp
              rotate_left
              · have t5 : decide (0 < cp) = false := by exact decide_eq_false d5
                clear d5
                clear d0
                clear d1
                clear d2
                clear d3
                clear d4
                clear PGi
                go_wp2
                go_roundg (gk - 1)
                case measure => omega
                case rel => exact ⟨idx + 1, by simp, by omega, BW.out.alloc BW.out.size _⟩
              have t5 : decide (0 < cp) = true := by exact decide_eq_true d5
              by_cases d6 : data.size = 0
              · have d61 : data.toList = [] := (emp_iff data).2 d6
                clear d0 d1 d2 d3 d4 d5 d6
                clear PGi
                go_wp2
                go_roundg (gk - 1)
                case measure => omega
                case rel => exact ⟨idx + 1, by simp, by omega, BW.out.alloc BW.out.size _⟩
              have d61 : ¬ data.toList = [] := fun e => d6 ((emp_iff data).1 e)
              have d62 : (data.toList == []) = false := by simpa using d61
              have d63 : decide (data.toList = []) = false := decide_eq_false d61
              have hfin := PGi d0 d1 d2 d3 d4 d5 (by omega)
              obtain ⟨h9, h8⟩ := Prod.mk.inj hfin
              cases h8
            · have hiz : ¬ (idx : Int) < (n2 : Int) := by omega
              clear HC PG C
              go_wp2_with fail
              refine (awake_calls _).mono ?_
              rintro e w9 ⟨rfl, hb⟩
              have HB9 : Aside (Below w.heap.size w w9) := HBr.out.trans (hb.mono HBr.out.size)
              clear hb
              go_wp2
              go_ret
              exact ⟨rfl, HB9.out⟩
        | true =>
          obtain rfl : hl = true := H2.out rfl
          clear H2
          refine (cg2 a3 k3 a4 k4 _ S5.out S6.out).mono ?_
          rintro e w5 ⟨a5, k5, a6, k6, rfl, s1, s2, hb⟩
          have C' : Aside (w5.heap[w.heap.size]? = some (.cells #[.int .i64 cp, .slice ao n c1, .slice ao2 n2 c2] 25 (0, 0))) := heap_later C.out hb
          have S2' : Aside (Sl w5 3 ao2 n2 c2 (hs.map Hd.enc)) := S2.out.stays hb
          have S7' : Aside (Sl w5 4 a5 be.length k5 (be.map Pc.enc)) := s1
          have S8' : Aside (Sl w5 3 a6 hs.length k6 (hs.map Hd.enc)) := s2
          have HB' : Aside (Below w.heap.size w w5) := HB.out.trans (hb.mono HB.out.size)
          clear hb HB C S2 S5 S6 B s1 s2
          have C : Aside (w5.heap[w.heap.size]? = some (.cells #[.int .i64 cp, .slice ao n c1, .slice ao2 n2 c2] 25 (0, 0))) := C'.out
          clear C'
          have S2 : Aside (Sl w5 3 ao2 n2 c2 (hs.map Hd.enc)) := S2'.out
          clear S2'
          have S7 : Aside (Sl w5 4 a5 be.length k5 (be.map Pc.enc)) := S7'.out
          clear S7'
          have S8 : Aside (Sl w5 3 a6 hs.length k6 (hs.map Hd.enc)) := S8'.out
          clear S8'
          have HB : Aside (Below w.heap.size w w5) := HB'.out
          clear HB'
          have cc0 := cell_heap C.out 0 _ rfl
          have cc1 := cell_heap C.out 1 _ rfl
          have cc2 := cell_heap C.out 2 _ rfl
          have cclt : w.heap.size < w5.heap.size := (Array.getElem?_eq_some_iff.1 C.out).1
          have C' : Aside ((w5.alloc (.cells #[.int .i64 cp, .slice a5 be.length k5, .slice a6 hs.length k6] 25)).heap[w.heap.size]? = some (.cells #[.int .i64 cp, .slice ao n c1, .slice ao2 n2 c2] 25 (0, 0))) := hp_old C.out
          have S2' : Aside (Sl (w5.alloc (.cells #[.int .i64 cp, .slice a5 be.length k5, .slice a6 hs.length k6] 25)) 3 ao2 n2 c2 (hs.map Hd.enc)) := S2.out.stays ((Below.refl _ _).alloc (Nat.le_refl _) _)
          have S7' : Aside (Sl (w5.alloc (.cells #[.int .i64 cp, .slice a5 be.length k5, .slice a6 hs.length k6] 25)) 4 a5 be.length k5 (be.map Pc.enc)) := S7.out.stays ((Below.refl _ _).alloc (Nat.le_refl _) _)
          have S8' : Aside (Sl (w5.alloc (.cells #[.int .i64 cp, .slice a5 be.length k5, .slice a6 hs.length k6] 25)) 3 a6 hs.length k6 (hs.map Hd.enc)) := S8.out.stays ((Below.refl _ _).alloc (Nat.le_refl _) _)
          have E' : Aside ((w5.alloc (.cells #[.int .i64 cp, .slice a5 be.length k5, .slice a6 hs.length k6] 25)).heap[w5.heap.size]? = some (.cells #[.int .i64 cp, .slice a5 be.length k5, .slice a6 hs.length k6] 25 (0, 0))) := hp_new rfl
          have HB' : Aside (Below w.heap.size w (w5.alloc (.cells #[.int .i64 cp, .slice a5 be.length k5, .slice a6 hs.length k6] 25))) := HB.out.alloc HB.out.size _
          clear HB C S2 S7 S8
          go_wp2_with fail
          clear cc0 cc1 cc2 cclt
          generalize (w5.alloc (.cells #[.int .i64 cp, .slice a5 be.length k5, .slice a6 hs.length k6] 25)) = v5 at C' S2' S7' S8' E' HB' ⊢
          generalize w5.heap.size = eb at E' ⊢
          have C : Aside (v5.heap[w.heap.size]? = some (.cells #[.int .i64 cp, .slice ao n c1, .slice ao2 n2 c2] 25 (0, 0))) := C'.out
          clear C'
          have S2 : Aside (Sl v5 3 ao2 n2 c2 (hs.map Hd.enc)) := S2'.out
          clear S2'
          have S7 : Aside (Sl v5 4 a5 be.length k5 (be.map Pc.enc)) := S7'.out
          clear S7'
          have S8 : Aside (Sl v5 3 a6 hs.length k6 (hs.map Hd.enc)) := S8'.out
          clear S8'
          have E : Aside (v5.heap[eb]? = some (.cells #[.int .i64 cp, .slice a5 be.length k5, .slice a6 hs.length k6] 25 (0, 0))) := E'.out
          clear E'
          have HB : Aside (Below w.heap.size w v5) := HB'.out
          clear HB'
          clear cg2
          refine (chd _ S2.out).mono ?_
          rintro e w6 ⟨rfl, hb⟩
          have C' : Aside (w6.heap[w.heap.size]? = some (.cells #[.int .i64 cp, .slice ao n c1, .slice ao2 n2 c2] 25 (0, 0))) := heap_later C.out hb
          have S2' : Aside (Sl w6 3 ao2 n2 c2 (hs.map Hd.enc)) := S2.out.stays hb
          have S7' : Aside (Sl w6 4 a5 be.length k5 (be.map Pc.enc)) := S7.out.stays hb
          have S8' : Aside (Sl w6 3 a6 hs.length k6 (hs.map Hd.enc)) := S8.out.stays hb
          have E' : Aside (w6.heap[eb]? = some (.cells #[.int .i64 cp, .slice a5 be.length k5, .slice a6 hs.length k6] 25 (0, 0))) := heap_later E.out hb
          have HB' : Aside (Below w.heap.size w w6) := HB.out.trans (hb.mono HB.out.size)
          clear hb HB C S2 S7 S8 E
          have C : Aside (w6.heap[w.heap.size]? = some (.cells #[.int .i64 cp, .slice ao n c1, .slice ao2 n2 c2] 25 (0, 0))) := C'.out
          clear C'
          have S2 : Aside (Sl w6 3 ao2 n2 c2 (hs.map Hd.enc)) := S2'.out
          clear S2'
          have S7 : Aside (Sl w6 4 a5 be.length k5 (be.map Pc.enc)) := S7'.out
          clear S7'
          have S8 : Aside (Sl w6 3 a6 hs.length k6 (hs.map Hd.enc)) := S8'.out
          clear S8'
          have E : Aside (w6.heap[eb]? = some (.cells #[.int .i64 cp, .slice a5 be.length k5, .slice a6 hs.length k6] 25 (0, 0))) := E'.out
          clear E'
          have HB : Aside (Below w.heap.size w w6) := HB'.out
          clear HB'
          have ec0 := cell_heap E.out 0 _ rfl
          have ec1 := cell_heap E.out 1 _ rfl
          have ec2 := cell_heap E.out 2 _ rfl
          have eclt : eb < w6.heap.size := (Array.getElem?_eq_some_iff.1 E.out).1
          have cc0 := cell_heap C.out 0 _ rfl
          have cc1 := cell_heap C.out 1 _ rfl
          have cc2 := cell_heap C.out 2 _ rfl
          have cclt : w.heap.size < w6.heap.size := (Array.getElem?_eq_some_iff.1 C.out).1
          clear chd
          go_wp2_with fail
          refine (crr a5 k5 a6 k6 _ S7.out S8.out).mono ?_
          rintro e w7 ⟨rfl, hb⟩
          have C' : Aside (w7.heap[w.heap.size]? = some (.cells #[.int .i64 cp, .slice ao n c1, .slice ao2 n2 c2] 25 (0, 0))) := heap_later C.out hb
          have S2' : Aside (Sl w7 3 ao2 n2 c2 (hs.map Hd.enc)) := S2.out.stays hb
          have HB' : Aside (Below w.heap.size w w7) := HB.out.trans (hb.mono HB.out.size)
          clear hb HB C S2 S7 S8 E ec0 ec1 ec2 eclt cc0 cc1 cc2 cclt
          have C : Aside (w7.heap[w.heap.size]? = some (.cells #[.int .i64 cp, .slice ao n c1, .slice ao2 n2 c2] 25 (0, 0))) := C'.out
          clear C'
          have S2 : Aside (Sl w7 3 ao2 n2 c2 (hs.map Hd.enc)) := S2'.out
          clear S2'
          have HB : Aside (Below w.heap.size w w7) := HB'.out
          clear HB'
          have cc0 := cell_heap C.out 0 _ rfl
          have cc1 := cell_heap C.out 1 _ rfl
          have cc2 := cell_heap C.out 2 _ rfl
          have cclt : w.heap.size < w7.heap.size := (Array.getElem?_eq_some_iff.1 C.out).1
          clear crr
          go_wp2
          clear cc0 cc1 cc2 cclt
          clear S2
          go_loopg [88] n2 (fun k s88 wr => ∃ idx : Nat, s88 = .int .i64 (idx : Int) ∧ k + idx = n2 ∧ Aside (Below w7.heap.size w7 wr))
          case atStart => exact ⟨0, rfl, by omega, Below.refl _ _⟩
          case round =>
            obtain ⟨idx, rfl, hk, BW⟩ := hrel
            have Cr : Aside (wr.heap[w.heap.size]? = some (.cells #[.int .i64 cp, .slice ao n c1, .slice ao2 n2 c2] 25 (0, 0))) := heap_later C.out BW.out
            have HBr : Aside (Below w.heap.size w wr) := HB.out.trans (BW.out.mono HB.out.size)
            have cc0 := cell_heap Cr.out 0 _ rfl
            have cc1 := cell_heap Cr.out 1 _ rfl
            have cc2 := cell_heap Cr.out 2 _ rfl
            have cclt : w.heap.size < wr.heap.size := (Array.getElem?_eq_some_iff.1 Cr.out).1
            by_cases hi : idx < n2
            · have hiz : (idx : Int) < (n2 : Int) := by omega
              have hix : idx < hs.length := by have := HL2.out; omega
              obtain ⟨b, off, rfl, hbw, q0, q1, q2⟩ := HC.out idx hix
              have l0 := (HBr.out.cell (p := ⟨b, off + idx * 3, none⟩) hbw).trans q0
              have l1 := (HBr.out.cell (p := ⟨b, off + idx * 3 + 1, none⟩) hbw).trans q1
              have l2 := (HBr.out.cell (p := ⟨b, off + idx * 3 + 2, none⟩) hbw).trans q2
              have hbr : b < wr.heap.size := Nat.lt_of_lt_of_le hbw HBr.out.size
              have PGi := PG.out idx hix
              clear q0 q1 q2 HC PG C
              generalize hs[idx]! = y at l0 l1 l2 PGi
              obtain ⟨y1, y2, y3⟩ := y
              simp only [] at l0 l1 l2 PGi
              by_cases d0 : y1 = id
              rotate_left
              · have t0 : (y1 == id) = false := by simpa using d0
                clear d0
                clear PGi
                go_wp2
                go_roundg (gk - 1)
                case measure => omega
                case rel => exact ⟨idx + 1, by simp, by omega, BW.out.alloc BW.out.size _⟩
              have t0 : (y1 == id) = true := by simpa using d0
              by_cases d1 : y2 = vers
              rotate_left
              · have t1 : (y2 == vers) = false := by simpa using d1
                clear d1
                clear d0
                clear PGi
                go_wp2
                go_roundg (gk - 1)
                case measure => omega
                case rel => exact ⟨idx + 1, by simp, by omega, BW.out.alloc BW.out.size _⟩
              have t1 : (y2 == vers) = true := by simpa using d1
              by_cases d2 : now < y3
              rotate_left
              · have t2 : decide (now < y3) = false := by exact decide_eq_false d2
                clear d2
                clear d0
                clear d1
                clear PGi
                go_wp2
                go_roundg (gk - 1)
                case measure => omega
                case rel => exact ⟨idx + 1, by simp, by omega, BW.out.alloc BW.out.size _⟩
              have t2 : decide (now < y3) = true := by exact decide_eq_true d2
              by_cases d3 : 0 ≤ at'
              rotate_left
              · have t3 : decide (0 ≤ at') = false := by exact decide_eq_false d3
                clear d3
                clear d0
                clear d1
                clear d2
                clear PGi
                go_wp2
                go_roundg (gk - 1)
                case measure => omega
                case rel => exact ⟨idx + 1, by simp, by omega, BW.out.alloc BW.out.size _⟩
              have t3 : decide (0 ≤ at') = true := by exact decide_eq_true d3
              by_cases d4 : at' ≤ 9007199254740991
              rotate_left
              · have t4 : decide (at' ≤ 9007199254740991) = false := by exact decide_eq_false d4
                clear d4
                clear d0
                clear d1
                clear d2
                clear d3
                clear PGi
                go_wp2
                go_roundg (gk - 1)
                case measure => omega
                case rel => exact ⟨idx + 1, by simp, by omega, BW.out.alloc BW.out.size _⟩
              have t4 : decide (at' ≤ 9007199254740991) = true := by exact decide_eq_true d4
              by_cases d5 : 0 < cp
              rotate_left
              · have t5 : decide (0 < cp) = false := by exact decide_eq_false d5
                clear d5
                clear d0
                clear d1
                clear d2
                clear d3
                clear d4
                clear PGi
                go_wp2
                go_roundg (gk - 1)
                case measure => omega
                case rel => exact ⟨idx + 1, by simp, by omega, BW.out.alloc BW.out.size _⟩
              have t5 : decide (0 < cp) = true := by exact decide_eq_true d5
              by_cases d6 : data.size = 0
              · have d61 : data.toList = [] := (emp_iff data).2 d6
                clear d0 d1 d2 d3 d4 d5 d6
                clear PGi
                go_wp2
                go_roundg (gk - 1)
                case measure => omega
                case rel => exact ⟨idx + 1, by simp, by omega, BW.out.alloc BW.out.size _⟩
              have d61 : ¬ data.toList = [] := fun e => d6 ((emp_iff data).1 e)
              have d62 : (data.toList == []) = false := by simpa using d61
              have d63 : decide (data.toList = []) = false := decide_eq_false d61
              have hfin := PGi d0 d1 d2 d3 d4 d5 (by omega)
              obtain ⟨h9, h8⟩ := Prod.mk.inj hfin
              subst h9
              clear hfin h8 PGi d0 d1 d2 d3 d4 d5 d6
              go_wp2_with fail
              refine (awake_calls _).mono ?_
              rintro e w9 ⟨rfl, hb⟩
              have HB9 : Aside (Below w.heap.size w w9) := (HBr.out.alloc HBr.out.size _).trans (hb.mono (HBr.out.alloc HBr.out.size _).size)
              clear hb
              go_wp2
              go_ret
              exact ⟨rfl, HB9.out⟩
            · have hiz : ¬ (idx : Int) < (n2 : Int) := by omega
              clear HC PG C
              go_wp2_with fail
              refine (awake_calls _).mono ?_
              rintro e w9 ⟨rfl, hb⟩
              have HB9 : Aside (Below w.heap.size w w9) := HBr.out.trans (hb.mono HBr.out.size)
              clear hb
              go_wp2
              go_ret
              exact ⟨rfl, HB9.out⟩
      | true =>
        obtain rfl : hl = true := H1.out rfl
        clear H1
        go_wp2_with fail
        refine (cg _ S1.out S2.out).mono ?_
        rintro e w3 ⟨a1, k1, a2, k2, rfl, s1, s2, hb⟩
        have C' : Aside (w3.heap[w.heap.size]? = some (.cells #[.int .i64 cp, .slice ao n c1, .slice ao2 n2 c2] 25 (0, 0))) := heap_later C.out hb
        have S1' : Aside (Sl w3 4 ao n c1 (bl.map Pc.enc)) := S1.out.stays hb
        have S2' : Aside (Sl w3 3 ao2 n2 c2 (hs.map Hd.enc)) := S2.out.stays hb
        have S3' : Aside (Sl w3 4 a1 bg.length k1 (bg.map Pc.enc)) := s1
        have S4' : Aside (Sl w3 3 a2 hs.length k2 (hs.map Hd.enc)) := s2
        have HB' : Aside (Below w.heap.size w w3) := HB.out.trans (hb.mono HB.out.size)
        clear hb HB C S1 S2 s1 s2 cc0 cc1 cc2 cclt
        have C : Aside (w3.heap[w.heap.size]? = some (.cells #[.int .i64 cp, .slice ao n c1, .slice ao2 n2 c2] 25 (0, 0))) := C'.out
        clear C'
        have S1 : Aside (Sl w3 4 ao n c1 (bl.map Pc.enc)) := S1'.out
        clear S1'
        have S2 : Aside (Sl w3 3 ao2 n2 c2 (hs.map Hd.enc)) := S2'.out
        clear S2'
        have S3 : Aside (Sl w3 4 a1 bg.length k1 (bg.map Pc.enc)) := S3'.out
        clear S3'
        have S4 : Aside (Sl w3 3 a2 hs.length k2 (hs.map Hd.enc)) := S4'.out
        clear S4'
        have HB : Aside (Below w.heap.size w w3) := HB'.out
        clear HB'
        have cc0 := cell_heap C.out 0 _ rfl
        have cc1 := cell_heap C.out 1 _ rfl
        have cc2 := cell_heap C.out 2 _ rfl
        have cclt : w.heap.size < w3.heap.size := (Array.getElem?_eq_some_iff.1 C.out).1
        have C' : Aside ((w3.alloc (.cells #[.int .i64 cp, .slice a1 bg.length k1, .slice a2 hs.length k2] 25)).heap[w.heap.size]? = some (.cells #[.int .i64 cp, .slice ao n c1, .slice ao2 n2 c2] 25 (0, 0))) := hp_old C.out
        have S1' : Aside (Sl (w3.alloc (.cells #[.int .i64 cp, .slice a1 bg.length k1, .slice a2 hs.length k2] 25)) 4 ao n c1 (bl.map Pc.enc)) := S1.out.stays ((Below.refl _ _).alloc (Nat.le_refl _) _)
        have S2' : Aside (Sl (w3.alloc (.cells #[.int .i64 cp, .slice a1 bg.length k1, .slice a2 hs.length k2] 25)) 3 ao2 n2 c2 (hs.map Hd.enc)) := S2.out.stays ((Below.refl _ _).alloc (Nat.le_refl _) _)
        have S3' : Aside (Sl (w3.alloc (.cells #[.int .i64 cp, .slice a1 bg.length k1, .slice a2 hs.length k2] 25)) 4 a1 bg.length k1 (bg.map Pc.enc)) := S3.out.stays ((Below.refl _ _).alloc (Nat.le_refl _) _)
        have S4' : Aside (Sl (w3.alloc (.cells #[.int .i64 cp, .slice a1 bg.length k1, .slice a2 hs.length k2] 25)) 3 a2 hs.length k2 (hs.map Hd.enc)) := S4.out.stays ((Below.refl _ _).alloc (Nat.le_refl _) _)
        have A' : Aside ((w3.alloc (.cells #[.int .i64 cp, .slice a1 bg.length k1, .slice a2 hs.length k2] 25)).heap[w3.heap.size]? = some (.cells #[.int .i64 cp, .slice a1 bg.length k1, .slice a2 hs.length k2] 25 (0, 0))) := hp_new rfl
        have HB' : Aside (Below w.heap.size w (w3.alloc (.cells #[.int .i64 cp, .slice a1 bg.length k1, .slice a2 hs.length k2] 25))) := HB.out.alloc HB.out.size _
        clear HB C S1 S2 S3 S4
        go_wp2_with fail
        clear cc0 cc1 cc2 cclt
        generalize (w3.alloc (.cells #[.int .i64 cp, .slice a1 bg.length k1, .slice a2 hs.length k2] 25)) = v3 at C' S1' S2' S3' S4' A' HB' ⊢
        generalize w3.heap.size = ab at A' ⊢
        have C : Aside (v3.heap[w.heap.size]? = some (.cells #[.int .i64 cp, .slice ao n c1, .slice ao2 n2 c2] 25 (0, 0))) := C'.out
        clear C'
        have S1 : Aside (Sl v3 4 ao n c1 (bl.map Pc.enc)) := S1'.out
        clear S1'
        have S2 : Aside (Sl v3 3 ao2 n2 c2 (hs.map Hd.enc)) := S2'.out
        clear S2'
        have S3 : Aside (Sl v3 4 a1 bg.length k1 (bg.map Pc.enc)) := S3'.out
        clear S3'
        have S4 : Aside (Sl v3 3 a2 hs.length k2 (hs.map Hd.enc)) := S4'.out
        clear S4'
        have A : Aside (v3.heap[ab]? = some (.cells #[.int .i64 cp, .slice a1 bg.length k1, .slice a2 hs.length k2] 25 (0, 0))) := A'.out
        clear A'
        have HB : Aside (Below w.heap.size w v3) := HB'.out
        clear HB'
        clear cg A S3 S4
        refine (chd _ S2.out).mono ?_
        rintro e w4 ⟨rfl, hb⟩
        have C' : Aside (w4.heap[w.heap.size]? = some (.cells #[.int .i64 cp, .slice ao n c1, .slice ao2 n2 c2] 25 (0, 0))) := heap_later C.out hb
        have S1' : Aside (Sl w4 4 ao n c1 (bl.map Pc.enc)) := S1.out.stays hb
        have S2' : Aside (Sl w4 3 ao2 n2 c2 (hs.map Hd.enc)) := S2.out.stays hb
        have HB' : Aside (Below w.heap.size w w4) := HB.out.trans (hb.mono HB.out.size)
        clear hb HB C S1 S2
        have C : Aside (w4.heap[w.heap.size]? = some (.cells #[.int .i64 cp, .slice ao n c1, .slice ao2 n2 c2] 25 (0, 0))) := C'.out
        clear C'
        have S1 : Aside (Sl w4 4 ao n c1 (bl.map Pc.enc)) := S1'.out
        clear S1'
        have S2 : Aside (Sl w4 3 ao2 n2 c2 (hs.map Hd.enc)) := S2'.out
        clear S2'
        have HB : Aside (Below w.heap.size w w4) := HB'.out
        clear HB'
        have cc0 := cell_heap C.out 0 _ rfl
        have cc1 := cell_heap C.out 1 _ rfl
        have cc2 := cell_heap C.out 2 _ rfl
        have cclt : w.heap.size < w4.heap.size := (Array.getElem?_eq_some_iff.1 C.out).1
        go_wp2_with fail
        refine (cp1 _ S1.out S2.out).mono ?_
        rintro e w5 ⟨a3, k3, a4, k4, rfl, s1, s2, hb⟩
        have C' : Aside (w5.heap[w.heap.size]? = some (.cells #[.int .i64 cp, .slice ao n c1, .slice ao2 n2 c2] 25 (0, 0))) := heap_later C.out hb
        have S2' : Aside (Sl w5 3 ao2 n2 c2 (hs.map Hd.enc)) := S2.out.stays hb
        have S5' : Aside (Sl w5 4 a3 bp.length k3 (bp.map Pc.enc)) := s1
        have S6' : Aside (Sl w5 3 a4 hs.length k4 (hs.map Hd.enc)) := s2
        have HB' : Aside (Below w.heap.size w w5) := HB.out.trans (hb.mono HB.out.size)
        clear hb HB C S2 S1 s1 s2 cc0 cc1 cc2 cclt
        have C : Aside (w5.heap[w.heap.size]? = some (.cells #[.int .i64 cp, .slice ao n c1, .slice ao2 n2 c2] 25 (0, 0))) := C'.out
        clear C'
        have S2 : Aside (Sl w5 3 ao2 n2 c2 (hs.map Hd.enc)) := S2'.out
        clear S2'
        have S5 : Aside (Sl w5 4 a3 bp.length k3 (bp.map Pc.enc)) := S5'.out
        clear S5'
        have S6 : Aside (Sl w5 3 a4 hs.length k4 (hs.map Hd.enc)) := S6'.out
        clear S6'
        have HB : Aside (Below w.heap.size w w5) := HB'.out
        clear HB'
        have C' : Aside ((w5.alloc (.cells #[.int .i64 cp, .slice a3 bp.length k3, .slice a4 hs.length k4] 25)).heap[w.heap.size]? = some (.cells #[.int .i64 cp, .slice ao n c1, .slice ao2 n2 c2] 25 (0, 0))) := hp_old C.out
        have S2' : Aside (Sl (w5.alloc (.cells #[.int .i64 cp, .slice a3 bp.length k3, .slice a4 hs.length k4] 25)) 3 ao2 n2 c2 (hs.map Hd.enc)) := S2.out.stays ((Below.refl _ _).alloc (Nat.le_refl _) _)
        have S5' : Aside (Sl (w5.alloc (.cells #[.int .i64 cp, .slice a3 bp.length k3, .slice a4 hs.length k4] 25)) 4 a3 bp.length k3 (bp.map Pc.enc)) := S5.out.stays ((Below.refl _ _).alloc (Nat.le_refl _) _)
        have S6' : Aside (Sl (w5.alloc (.cells #[.int .i64 cp, .slice a3 bp.length k3, .slice a4 hs.length k4] 25)) 3 a4 hs.length k4 (hs.map Hd.enc)) := S6.out.stays ((Below.refl _ _).alloc (Nat.le_refl _) _)
        have B' : Aside ((w5.alloc (.cells #[.int .i64 cp, .slice a3 bp.length k3, .slice a4 hs.length k4] 25)).heap[w5.heap.size]? = some (.cells #[.int .i64 cp, .slice a3 bp.length k3, .slice a4 hs.length k4] 25 (0, 0))) := hp_new rfl
        have HB' : Aside (Below w.heap.size w (w5.alloc (.cells #[.int .i64 cp, .slice a3 bp.length k3, .slice a4 hs.length k4] 25))) := HB.out.alloc HB.out.size _
        clear HB C S2 S5 S6
        go_wp2_with fail
        generalize (w5.alloc (.cells #[.int .i64 cp, .slice a3 bp.length k3, .slice a4 hs.length k4] 25)) = v5 at C' S2' S5' S6' B' HB' ⊢
        generalize w5.heap.size = bb at B' ⊢
        have C : Aside (v5.heap[w.heap.size]? = some (.cells #[.int .i64 cp, .slice ao n c1, .slice ao2 n2 c2] 25 (0, 0))) := C'.out
        clear C'
        have S2 : Aside (Sl v5 3 ao2 n2 c2 (hs.map Hd.enc)) := S2'.out
        clear S2'
        have S5 : Aside (Sl v5 4 a3 bp.length k3 (bp.map Pc.enc)) := S5'.out
        clear S5'
        have S6 : Aside (Sl v5 3 a4 hs.length k4 (hs.map Hd.enc)) := S6'.out
        clear S6'
        have B : Aside (v5.heap[bb]? = some (.cells #[.int .i64 cp, .slice a3 bp.length k3, .slice a4 hs.length k4] 25 (0, 0))) := B'.out
        clear B'
        have HB : Aside (Below w.heap.size w v5) := HB'.out
        clear HB'
        clear cp1
        cases ie with
        | false =>
          clear H2
          refine (cg2 a3 k3 a4 k4 _ S5.out S6.out).mono ?_
          rintro e w6 ⟨a5, k5, a6, k6, rfl, s1, s2, hb⟩
          have C' : Aside (w6.heap[w.heap.size]? = some (.cells #[.int .i64 cp, .slice ao n c1, .slice ao2 n2 c2] 25 (0, 0))) := heap_later C.out hb
          have S2' : Aside (Sl w6 3 ao2 n2 c2 (hs.map Hd.enc)) := S2.out.stays hb
          have S7' : Aside (Sl w6 4 a5 be.length k5 (be.map Pc.enc)) := s1
          have S8' : Aside (Sl w6 3 a6 hs.length k6 (hs.map Hd.enc)) := s2
          have HB' : Aside (Below w.heap.size w w6) := HB.out.trans (hb.mono HB.out.size)
          clear hb HB C S2 S5 S6 B s1 s2
          have C : Aside (w6.heap[w.heap.size]? = some (.cells #[.int .i64 cp, .slice ao n c1, .slice ao2 n2 c2] 25 (0, 0))) := C'.out
          clear C'
          have S2 : Aside (Sl w6 3 ao2 n2 c2 (hs.map Hd.enc)) := S2'.out
          clear S2'
          have S7 : Aside (Sl w6 4 a5 be.length k5 (be.map Pc.enc)) := S7'.out
          clear S7'
          have S8 : Aside (Sl w6 3 a6 hs.length k6 (hs.map Hd.enc)) := S8'.out
          clear S8'
          have HB : Aside (Below w.heap.size w w6) := HB'.out
          clear HB'
          have C' : Aside ((w6.alloc (.cells #[.int .i64 cp, .slice a5 be.length k5, .slice a6 hs.length k6] 25)).heap[w.heap.size]? = some (.cells #[.int .i64 cp, .slice ao n c1, .slice ao2 n2 c2] 25 (0, 0))) := hp_old C.out
          have S2' : Aside (Sl (w6.alloc (.cells #[.int .i64 cp, .slice a5 be.length k5, .slice a6 hs.length k6] 25)) 3 ao2 n2 c2 (hs.map Hd.enc)) := S2.out.stays ((Below.refl _ _).alloc (Nat.le_refl _) _)
          have S7' : Aside (Sl (w6.alloc (.cells #[.int .i64 cp, .slice a5 be.length k5, .slice a6 hs.length k6] 25)) 4 a5 be.length k5 (be.map Pc.enc)) := S7.out.stays ((Below.refl _ _).alloc (Nat.le_refl _) _)
          have S8' : Aside (Sl (w6.alloc (.cells #[.int .i64 cp, .slice a5 be.length k5, .slice a6 hs.length k6] 25)) 3 a6 hs.length k6 (hs.map Hd.enc)) := S8.out.stays ((Below.refl _ _).alloc (Nat.le_refl _) _)
          have E' : Aside ((w6.alloc (.cells #[.int .i64 cp, .slice a5 be.length k5, .slice a6 hs.length k6] 25)).heap[w6.heap.size]? = some (.cells #[.int .i64 cp, .slice a5 be.length k5, .slice a6 hs.length k6] 25 (0, 0))) := hp_new rfl
          have HB' : Aside (Below w.heap.size w (w6.alloc (.cells #[.int .i64 cp, .slice a5 be.length k5, .slice a6 hs.length k6] 25))) := HB.out.alloc HB.out.size _
          clear HB C S2 S7 S8
          go_wp2_with fail
          generalize (w6.alloc (.cells #[.int .i64 cp, .slice a5 be.length k5, .slice a6 hs.length k6] 25)) = v6 at C' S2' S7' S8' E' HB' ⊢
          generalize w6.heap.size = eb at E' ⊢
          have C : Aside (v6.heap[w.heap.size]? = some (.cells #[.int .i64 cp, .slice ao n c1, .slice ao2 n2 c2] 25 (0, 0))) := C'.out
          clear C'
          have S2 : Aside (Sl v6 3 ao2 n2 c2 (hs.map Hd.enc)) := S2'.out
          clear S2'
          have S7 : Aside (Sl v6 4 a5 be.length k5 (be.map Pc.enc)) := S7'.out
          clear S7'
          have S8 : Aside (Sl v6 3 a6 hs.length k6 (hs.map Hd.enc)) := S8'.out
          clear S8'
          have E : Aside (v6.heap[eb]? = some (.cells #[.int .i64 cp, .slice a5 be.length k5, .slice a6 hs.length k6] 25 (0, 0))) := E'.out
          clear E'
          have HB : Aside (Below w.heap.size w v6) := HB'.out
          clear HB'
          clear cg2
          clear chd
          refine (crr a5 k5 a6 k6 _ S7.out S8.out).mono ?_
          rintro e w7 ⟨rfl, hb⟩
          have C' : Aside (w7.heap[w.heap.size]? = some (.cells #[.int .i64 cp, .slice ao n c1, .slice ao2 n2 c2] 25 (0, 0))) := heap_later C.out hb
          have S2' : Aside (Sl w7 3 ao2 n2 c2 (hs.map Hd.enc)) := S2.out.stays hb
          have HB' : Aside (Below w.heap.size w w7) := HB.out.trans (hb.mono HB.out.size)
          clear hb HB C S2 S7 S8 E
          have C : Aside (w7.heap[w.heap.size]? = some (.cells #[.int .i64 cp, .slice ao n c1, .slice ao2 n2 c2] 25 (0, 0))) := C'.out
          clear C'
          have S2 : Aside (Sl w7 3 ao2 n2 c2 (hs.map Hd.enc)) := S2'.out
          clear S2'
          have HB : Aside (Below w.heap.size w w7) := HB'.out
          clear HB'
          have cc0 := cell_heap C.out 0 _ rfl
          have cc1 := cell_heap C.out 1 _ rfl
          have cc2 := cell_heap C.out 2 _ rfl
          have cclt : w.heap.size < w7.heap.size := (Array.getElem?_eq_some_iff.1 C.out).1
          clear crr
          go_wp2
          clear cc0 cc1 cc2 cclt
          clear S2
          go_loopg [88] n2 (fun k s88 wr => ∃ idx : Nat, s88 = .int .i64 (idx : Int) ∧ k + idx = n2 ∧ Aside (Below w7.heap.size w7 wr))
          case atStart => exact ⟨0, rfl, by omega, Below.refl _ _⟩
          case round =>
            obtain ⟨idx, rfl, hk, BW⟩ := hrel
            have Cr : Aside (wr.heap[w.heap.size]? = some (.cells #[.int .i64 cp, .slice ao n c1, .slice ao2 n2 c2] 25 (0, 0))) := heap_later C.out BW.out
            have HBr : Aside (Below w.heap.size w wr) := HB.out.trans (BW.out.mono HB.out.size)
            have cc0 := cell_heap Cr.out 0 _ rfl
            have cc1 := cell_heap Cr.out 1 _ rfl
            have cc2 := cell_heap Cr.out 2 _ rfl
            have cclt : w.heap.size < wr.heap.size := (Array.getElem?_eq_some_iff.1 Cr.out).1
            by_cases hi : idx < n2
            · have hiz : (idx : Int) < (n2 : Int) := by omega
              have hix : idx < hs.length := by have := HL2.out; omega
              obtain ⟨b, off, rfl, hbw, q0, q1, q2⟩ := HC.out idx hix
              have l0 := (HBr.out.cell (p := ⟨b, off + idx * 3, none⟩) hbw).trans q0
              have l1 := (HBr.out.cell (p := ⟨b, off + idx * 3 + 1, none⟩) hbw).trans q1
              have l2 := (HBr.out.cell (p := ⟨b, off + idx * 3 + 2, none⟩) hbw).trans q2
              have hbr : b < wr.heap.size := Nat.lt_of_lt_of_le hbw HBr.out.size
              have PGi := PG.out idx hix
              clear q0 q1 q2 HC PG C
              generalize hs[idx]! = y at l0 l1 l2 PGi
              obtain ⟨y1, y2, y3⟩ := y
              simp only [] at l0 l1 l2 PGi
              by_cases d0 : y1 = id
              rotate_left
              · have t0 : (y1 == id) = false := by simpa using d0
                clear d0
                clear PGi
                go_wp2
                go_roundg (gk - 1)
                case measure => omega
                case rel => exact ⟨idx + 1, by simp, by omega, BW.out.alloc BW.out.size _⟩
              have t0 : (y1 == id) = true := by simpa using d0
              by_cases d1 : y2 = vers
              rotate_left
              · have t1 : (y2 == vers) = false := by simpa using d1
                clear d1
                clear d0
                clear PGi
                go_wp2
                go_roundg (gk - 1)
                case measure => omega
                case rel => exact ⟨idx + 1, by simp, by omega, BW.out.alloc BW.out.size _⟩
              have t1 : (y2 == vers) = true := by simpa using d1
              by_cases d2 : now < y3
              rotate_left
              · have t2 : decide (now < y3) = false := by exact decide_eq_false d2
                clear d2
                clear d0
                clear d1
                clear PGi
                go_wp2
                go_roundg (gk - 1)
                case measure => omega
                case rel => exact ⟨idx + 1, by simp, by omega, BW.out.alloc BW.out.size _⟩
              have t2 : decide (now < y3) = true := by exact decide_eq_true d2
              by_cases d3 : 0 ≤ at'
              rotate_left
              · have t3 : decide (0 ≤ at') = false := by exact decide_eq_false d3
                clear d3
                clear d0
                clear d1
                clear d2
                clear PGi
                go_wp2
                go_roundg (gk - 1)
                case measure => omega
                case rel => exact ⟨idx + 1, by simp, by omega, BW.out.alloc BW.out.size _⟩
              have t3 : decide (0 ≤ at') = true := by exact decide_eq_true d3
              by_cases d4 : at' ≤ 9007199254740991
              rotate_left
              · have t4 : decide (at' ≤ 9007199254740991) = false := by exact decide_eq_false d4
                clear d4
                clear d0
                clear d1
                clear d2
                clear d3
                clear PGi
                go_wp2
                go_roundg (gk - 1)
                case measure => omega
                case rel => exact ⟨idx + 1, by simp, by omega, BW.out.alloc BW.out.size _⟩
              have t4 : decide (at' ≤ 9007199254740991) = true := by exact decide_eq_true d4
              by_cases d5 : 0 < cp
              rotate_left
              · have t5 : decide (0 < cp) = false := by exact decide_eq_false d5
                clear d5
                clear d0
                clear d1
                clear d2
                clear d3
                clear d4
                clear PGi
                go_wp2
                go_roundg (gk - 1)
                case measure => omega
                case rel => exact ⟨idx + 1, by simp, by omega, BW.out.alloc BW.out.size _⟩
              have t5 : decide (0 < cp) = true := by exact decide_eq_true d5
              by_cases d6 : data.size = 0
              · have d61 : data.toList = [] := (emp_iff data).2 d6
                clear d0 d1 d2 d3 d4 d5 d6
                clear PGi
                go_wp2
                go_roundg (gk - 1)
                case measure => omega
                case rel => exact ⟨idx + 1, by simp, by omega, BW.out.alloc BW.out.size _⟩
              have d61 : ¬ data.toList = [] := fun e => d6 ((emp_iff data).1 e)
              have d62 : (data.toList == []) = false := by simpa using d61
              have d63 : decide (data.toList = []) = false := decide_eq_false d61
              have hfin := PGi d0 d1 d2 d3 d4 d5 (by omega)
              obtain ⟨h9, h8⟩ := Prod.mk.inj hfin
              cases h8
            · have hiz : ¬ (idx : Int) < (n2 : Int) := by omega
              clear HC PG C
              go_wp2_with fail
              refine (awake_calls _).mono ?_
              rintro e w9 ⟨rfl, hb⟩
              have HB9 : Aside (Below w.heap.size w w9) := HBr.out.trans (hb.mono HBr.out.size)
              clear hb
              go_wp2
              go_ret
              exact ⟨rfl, HB9.out⟩
        | true =>
          clear H2
          refine (cg2 a3 k3 a4 k4 _ S5.out S6.out).mono ?_
          rintro e w6 ⟨a5, k5, a6, k6, rfl, s1, s2, hb⟩
          have C' : Aside (w6.heap[w.heap.size]? = some (.cells #[.int .i64 cp, .slice ao n c1, .slice ao2 n2 c2] 25 (0, 0))) := heap_later C.out hb
          have S2' : Aside (Sl w6 3 ao2 n2 c2 (hs.map Hd.enc)) := S2.out.stays hb
          have S7' : Aside (Sl w6 4 a5 be.length k5 (be.map Pc.enc)) := s1
          have S8' : Aside (Sl w6 3 a6 hs.length k6 (hs.map Hd.enc)) := s2
          have HB' : Aside (Below w.heap.size w w6) := HB.out.trans (hb.mono HB.out.size)
          clear hb HB C S2 S5 S6 B s1 s2
          have C : Aside (w6.heap[w.heap.size]? = some (.cells #[.int .i64 cp, .slice ao n c1, .slice ao2 n2 c2] 25 (0, 0))) := C'.out
          clear C'
          have S2 : Aside (Sl w6 3 ao2 n2 c2 (hs.map Hd.enc)) := S2'.out
          clear S2'
          have S7 : Aside (Sl w6 4 a5 be.length k5 (be.map Pc.enc)) := S7'.out
          clear S7'
          have S8 : Aside (Sl w6 3 a6 hs.length k6 (hs.map Hd.enc)) := S8'.out
          clear S8'
          have HB : Aside (Below w.heap.size w w6) := HB'.out
          clear HB'
          have cc0 := cell_heap C.out 0 _ rfl
          have cc1 := cell_heap C.out 1 _ rfl
          have cc2 := cell_heap C.out 2 _ rfl
          have cclt : w.heap.size < w6.heap.size := (Array.getElem?_eq_some_iff.1 C.out).1
          have C' : Aside ((w6.alloc (.cells #[.int .i64 cp, .slice a5 be.length k5, .slice a6 hs.length k6] 25)).heap[w.heap.size]? = some (.cells #[.int .i64 cp, .slice ao n c1, .slice ao2 n2 c2] 25 (0, 0))) := hp_old C.out
          have S2' : Aside (Sl (w6.alloc (.cells #[.int .i64 cp, .slice a5 be.length k5, .slice a6 hs.length k6] 25)) 3 ao2 n2 c2 (hs.map Hd.enc)) := S2.out.stays ((Below.refl _ _).alloc (Nat.le_refl _) _)
          have S7' : Aside (Sl (w6.alloc (.cells #[.int .i64 cp, .slice a5 be.length k5, .slice a6 hs.length k6] 25)) 4 a5 be.length k5 (be.map Pc.enc)) := S7.out.stays ((Below.refl _ _).alloc (Nat.le_refl _) _)
          have S8' : Aside (Sl (w6.alloc (.cells #[.int .i64 cp, .slice a5 be.length k5, .slice a6 hs.length k6] 25)) 3 a6 hs.length k6 (hs.map Hd.enc)) := S8.out.stays ((Below.refl _ _).alloc (Nat.le_refl _) _)
          have E' : Aside ((w6.alloc (.cells #[.int .i64 cp, .slice a5 be.length k5, .slice a6 hs.length k6] 25)).heap[w6.heap.size]? = some (.cells #[.int .i64 cp, .slice a5 be.length k5, .slice a6 hs.length k6] 25 (0, 0))) := hp_new rfl
          have HB' : Aside (Below w.heap.size w (w6.alloc (.cells #[.int .i64 cp, .slice a5 be.length k5, .slice a6 hs.length k6] 25))) := HB.out.alloc HB.out.size _
          clear HB C S2 S7 S8
          go_wp2_with fail
          clear cc0 cc1 cc2 cclt
          generalize (w6.alloc (.cells #[.int .i64 cp, .slice a5 be.length k5, .slice a6 hs.length k6] 25)) = v6 at C' S2' S7' S8' E' HB' ⊢
          generalize w6.heap.size = eb at E' ⊢
          have C : Aside (v6.heap[w.heap.size]? = some (.cells #[.int .i64 cp, .slice ao n c1, .slice ao2 n2 c2] 25 (0, 0))) := C'.out
          clear C'
          have S2 : Aside (Sl v6 3 ao2 n2 c2 (hs.map Hd.enc)) := S2'.out
          clear S2'
          have S7 : Aside (Sl v6 4 a5 be.length k5 (be.map Pc.enc)) := S7'.out
          clear S7'
          have S8 : Aside (Sl v6 3 a6 hs.length k6 (hs.map Hd.enc)) := S8'.out
          clear S8'
          have E : Aside (v6.heap[eb]? = some (.cells #[.int .i64 cp, .slice a5 be.length k5, .slice a6 hs.length k6] 25 (0, 0))) := E'.out
          clear E'
          have HB : Aside (Below w.heap.size w v6) := HB'.out
          clear HB'
          clear cg2
          refine (chd _ S2.out).mono ?_
          rintro e w7 ⟨rfl, hb⟩
          have C' : Aside (w7.heap[w.heap.size]? = some (.cells #[.int .i64 cp, .slice ao n c1, .slice ao2 n2 c2] 25 (0, 0))) := heap_later C.out hb
          have S2' : Aside (Sl w7 3 ao2 n2 c2 (hs.map Hd.enc)) := S2.out.stays hb
          have S7' : Aside (Sl w7 4 a5 be.length k5 (be.map Pc.enc)) := S7.out.stays hb
          have S8' : Aside (Sl w7 3 a6 hs.length k6 (hs.map Hd.enc)) := S8.out.stays hb
          have E' : Aside (w7.heap[eb]? = some (.cells #[.int .i64 cp, .slice a5 be.length k5, .slice a6 hs.length k6] 25 (0, 0))) := heap_later E.out hb
          have HB' : Aside (Below w.heap.size w w7) := HB.out.trans (hb.mono HB.out.size)
          clear hb HB C S2 S7 S8 E
          have C : Aside (w7.heap[w.heap.size]? = some (.cells #[.int .i64 cp, .slice ao n c1, .slice ao2 n2 c2] 25 (0, 0))) := C'.out
          clear C'
          have S2 : Aside (Sl w7 3 ao2 n2 c2 (hs.map Hd.enc)) := S2'.out
          clear S2'
          have S7 : Aside (Sl w7 4 a5 be.length k5 (be.map Pc.enc)) := S7'.out
          clear S7'
          have S8 : Aside (Sl w7 3 a6 hs.length k6 (hs.map Hd.enc)) := S8'.out
          clear S8'
          have E : Aside (w7.heap[eb]? = some (.cells #[.int .i64 cp, .slice a5 be.length k5, .slice a6 hs.length k6] 25 (0, 0))) := E'.out
          clear E'
          have HB : Aside (Below w.heap.size w w7) := HB'.out
          clear HB'
          have ec0 := cell_heap E.out 0 _ rfl
          have ec1 := cell_heap E.out 1 _ rfl
          have ec2 := cell_heap E.out 2 _ rfl
          have eclt : eb < w7.heap.size := (Array.getElem?_eq_some_iff.1 E.out).1
          have cc0 := cell_heap C.out 0 _ rfl
          have cc1 := cell_heap C.out 1 _ rfl
          have cc2 := cell_heap C.out 2 _ rfl
          have cclt : w.heap.size < w7.heap.size := (Array.getElem?_eq_some_iff.1 C.out).1
          clear chd
          go_wp2_with fail
          refine (crr a5 k5 a6 k6 _ S7.out S8.out).mono ?_
          rintro e w8 ⟨rfl, hb⟩
          have C' : Aside (w8.heap[w.heap.size]? = some (.cells #[.int .i64 cp, .slice ao n c1, .slice ao2 n2 c2] 25 (0, 0))) := heap_later C.out hb
          have S2' : Aside (Sl w8 3 ao2 n2 c2 (hs.map Hd.enc)) := S2.out.stays hb
          have HB' : Aside (Below w.heap.size w w8) := HB.out.trans (hb.mono HB.out.size)
          clear hb HB C S2 S7 S8 E ec0 ec1 ec2 eclt cc0 cc1 cc2 cclt
          have C : Aside (w8.heap[w.heap.size]? = some (.cells #[.int .i64 cp, .slice ao n c1, .slice ao2 n2 c2] 25 (0, 0))) := C'.out
          clear C'
          have S2 : Aside (Sl w8 3 ao2 n2 c2 (hs.map Hd.enc)) := S2'.out
          clear S2'
          have HB : Aside (Below w.heap.size w w8) := HB'.out
          clear HB'
          have cc0 := cell_heap C.out 0 _ rfl
          have cc1 := cell_heap C.out 1 _ rfl
          have cc2 := cell_heap C.out 2 _ rfl
          have cclt : w.heap.size < w8.heap.size := (Array.getElem?_eq_some_iff.1 C.out).1
          clear crr
          go_wp2
          clear cc0 cc1 cc2 cclt
          clear S2
          go_loopg [88] n2 (fun k s88 wr => ∃ idx : Nat, s88 = .int .i64 (idx : Int) ∧ k + idx = n2 ∧ Aside (Below w8.heap.size w8 wr))
          case atStart => exact ⟨0, rfl, by omega, Below.refl _ _⟩
          case round =>
            obtain ⟨idx, rfl, hk, BW⟩ := hrel
            have Cr : Aside (wr.heap[w.heap.size]? = some (.cells #[.int .i64 cp, .slice ao n c1, .slice ao2 n2 c2] 25 (0, 0))) := heap_later C.out BW.out
            have HBr : Aside (Below w.heap.size w wr) := HB.out.trans (BW.out.mono HB.out.size)
            have cc0 := cell_heap Cr.out 0 _ rfl
            have cc1 := cell_heap Cr.out 1 _ rfl
            have cc2 := cell_heap Cr.out 2 _ rfl
            have cclt : w.heap.size < wr.heap.size := (Array.getElem?_eq_some_iff.1 Cr.out).1
            by_cases hi : idx < n2
            · have hiz : (idx : Int) < (n2 : Int) := by omega
              have hix : idx < hs.length := by have := HL2.out; omega
              obtain ⟨b, off, rfl, hbw, q0, q1, q2⟩ := HC.out idx hix
              have l0 := (HBr.out.cell (p := ⟨b, off + idx * 3, none⟩) hbw).trans q0
              have l1 := (HBr.out.cell (p := ⟨b, off + idx * 3 + 1, none⟩) hbw).trans q1
              have l2 := (HBr.out.cell (p := ⟨b, off + idx * 3 + 2, none⟩) hbw).trans q2
              have hbr : b < wr.heap.size := Nat.lt_of_lt_of_le hbw HBr.out.size
              have PGi := PG.out idx hix
              clear q0 q1 q2 HC PG C
              generalize hs[idx]! = y at l0 l1 l2 PGi
              obtain ⟨y1, y2, y3⟩ := y
              simp only [] at l0 l1 l2 PGi
              by_cases d0 : y1 = id
              rotate_left
              · have t0 : (y1 == id) = false := by simpa using d0
                clear d0
                clear PGi
                go_wp2
                go_roundg (gk - 1)
                case measure => omega
                case rel => exact ⟨idx + 1, by simp, by omega, BW.out.alloc BW.out.size _⟩
              have t0 : (y1 == id) = true := by simpa using d0
              by_cases d1 : y2 = vers
              rotate_left
              · have t1 : (y2 == vers) = false := by simpa using d1
                clear d1
                clear d0
                clear PGi
                go_wp2
                go_roundg (gk - 1)
                case measure => omega
                case rel => exact ⟨idx + 1, by simp, by omega, BW.out.alloc BW.out.size _⟩
              have t1 : (y2 == vers) = true := by simpa using d1
              by_cases d2 : now < y3
              rotate_left
              · have t2 : decide (now < y3) = false := by exact decide_eq_false d2
                clear d2
                clear d0
                clear d1
                clear PGi
                go_wp2
                go_roundg (gk - 1)
                case measure => omega
                case rel => exact ⟨idx + 1, by simp, by omega, BW.out.alloc BW.out.size _⟩
              have t2 : decide (now < y3) = true := by exact decide_eq_true d2
              by_cases d3 : 0 ≤ at'
              rotate_left
              · have t3 : decide (0 ≤ at') = false := by exact decide_eq_false d3
                clear d3
                clear d0
                clear d1
                clear d2
                clear PGi
                go_wp2
                go_roundg (gk - 1)
                case measure => omega
                case rel => exact ⟨idx + 1, by simp, by omega, BW.out.alloc BW.out.size _⟩
              have t3 : decide (0 ≤ at') = true := by exact decide_eq_true d3
              by_cases d4 : at' ≤ 9007199254740991
              rotate_left
              · have t4 : decide (at' ≤ 9007199254740991) = false := by exact decide_eq_false d4
                clear d4
                clear d0
                clear d1
                clear d2
                clear d3
                clear PGi
                go_wp2
                go_roundg (gk - 1)
                case measure => omega
                case rel => exact ⟨idx + 1, by simp, by omega, BW.out.alloc BW.out.size _⟩
              have t4 : decide (at' ≤ 9007199254740991) = true := by exact decide_eq_true d4
              by_cases d5 : 0 < cp
              rotate_left
              · have t5 : decide (0 < cp) = false := by exact decide_eq_false d5
                clear d5
                clear d0
                clear d1
                clear d2
                clear d3
                clear d4
                clear PGi
                go_wp2
                go_roundg (gk - 1)
                case measure => omega
                case rel => exact ⟨idx + 1, by simp, by omega, BW.out.alloc BW.out.size _⟩
              have t5 : decide (0 < cp) = true := by exact decide_eq_true d5
              by_cases d6 : data.size = 0
              · have d61 : data.toList = [] := (emp_iff data).2 d6
                clear d0 d1 d2 d3 d4 d5 d6
                clear PGi
                go_wp2
                go_roundg (gk - 1)
                case measure => omega
                case rel => exact ⟨idx + 1, by simp, by omega, BW.out.alloc BW.out.size _⟩
              have d61 : ¬ data.toList = [] := fun e => d6 ((emp_iff data).1 e)
              have d62 : (data.toList == []) = false := by simpa using d61
              have d63 : decide (data.toList = []) = false := decide_eq_false d61
              have hfin := PGi d0 d1 d2 d3 d4 d5 (by omega)
              obtain ⟨h9, h8⟩ := Prod.mk.inj hfin
              subst h9
              clear hfin h8 PGi d0 d1 d2 d3 d4 d5 d6
              go_wp2_with fail
              refine (awake_calls _).mono ?_
              rintro e w9 ⟨rfl, hb⟩
              have HB9 : Aside (Below w.heap.size w w9) := (HBr.out.alloc HBr.out.size _).trans (hb.mono (HBr.out.alloc HBr.out.size _).size)
              clear hb
              go_wp2
              go_ret
              exact ⟨rfl, HB9.out⟩
            · have hiz : ¬ (idx : Int) < (n2 : Int) := by omega
              clear HC PG C
              go_wp2_with fail
              refine (awake_calls _).mono ?_
              rintro e w9 ⟨rfl, hb⟩
              have HB9 : Aside (Below w.heap.size w w9) := HBr.out.trans (hb.mono HBr.out.size)
              clear hb
              go_wp2
              go_ret
              exact ⟨rfl, HB9.out⟩

end Go.Proofs.Ytcgajlobbjoefaa
