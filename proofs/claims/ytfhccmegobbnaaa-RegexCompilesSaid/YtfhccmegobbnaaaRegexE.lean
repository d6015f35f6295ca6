/- This text gives the plain reading of a class of a regular expression, and proves the walk of the parser's class. Conditions: those that each theorem names. -/
import Derived.Test.YtfhccmegobbnaaaRegexD
import Derived.Laws.IdiomStrings
namespace Go.Proofs.Ytfhccmegobbnaaa
open Go.ChangeShapes Go.WideShapes Go.ChangeAt Go.RowKit
set_option linter.unusedVariables false
set_option linter.unusedSimpArgs false

/-- The items of a class from a position on: the set, and the position behind the bracket. -/
def itemsF : Nat → ByteArray → Nat → Bool → ByteArray → Except Nat (ByteArray × Nat)
  | 0, _, i, _, _ => .error i
  | f + 1, s, i, first, set =>
    if first = false ∧ i < s.size ∧ s[i]! = 93 then .ok (set, i + 1)
    else match charF s i with
      | .error k => .error k
      | .ok (a, j) =>
        if j < s.size ∧ s[j]! = 45 then
          match charF s (j + 1) with
          | .error k => .error k
          | .ok (b, m) => if b < a then .error (m - 1) else itemsF f s m false (set ++ ⟨#[a, b]⟩)
        else itemsF f s j false (set ++ ⟨#[a, a]⟩)
/-- A class behind its bracket. -/
def classF (s : ByteArray) (i : Nat) : Except Nat (In × Nat) :=
  if i < s.size ∧ s[i]! = 94 then
    match itemsF (s.size + 1) s (i + 1) true ⟨#[]⟩ with
    | .error k => .error k
    | .ok (set, j) => .ok (⟨3, 0, set, true, 0, 0⟩, j)
  else
    match itemsF (s.size + 1) s i true ⟨#[]⟩ with
    | .error k => .error k
    | .ok (set, j) => .ok (⟨3, 0, set, false, 0, 0⟩, j)
theorem escF_pos {s : ByteArray} {i j : Nat} {c : UInt8} (h : escF s i = .ok (c, j)) : i < j ∧ j ≤ s.size := by
  unfold escF at h
  split at h
  · cases h; omega
  · cases h
theorem charF_pos {s : ByteArray} {i j : Nat} {c : UInt8} (h : charF s i = .ok (c, j)) : i < j ∧ j ≤ s.size := by
  unfold charF at h
  split at h
  · split at h
    · exact escF_pos h
    · cases h; omega
  · cases h
theorem conv2 (W : World) (a b : UInt8) : (convert 82 9 (.slice (some ⟨W.heap.size, 0, none⟩) 2 2)).run Try.prog (W.alloc (.cells #[.int .u8 (a.toNat : Int), .int .u8 (b.toNat : Int)] 5)) = .ok (.string ⟨#[a, b]⟩) (W.alloc (.cells #[.int .u8 (a.toNat : Int), .int .u8 (b.toNat : Int)] 5)) := by
  refine run_convert_bytes_back (P := Try.prog) _ 82 9 5 ⟨W.heap.size, 0, none⟩ 2 [a, b] Try.underlying82 Try.underlying5 Try.underlying9 (fun j hj => ?_)
  rw [Addr.add_lit, Nat.zero_add]
  refine cell_heap (hp_new rfl) j _ ?_
  match j, hj with
  | 0, _ => rfl
  | 1, _ => rfl
def KPost (s : ByteArray) (pb B g : Nat) (code : List In) (bad : Int) (w : World) (r : Except Nat (In × Nat)) (e : Ending) (w' : World) : Prop :=
  match r with
  | .ok (i, j) => e = .returned (.bool true) ∧ Par s pb B j g (code ++ [i]) bad w' ∧ Below B w w'
  | .error k => e = .returned (.bool false) ∧ Par s pb B k g code (k : Int) w' ∧ Below B w w'
/-- The state of the class's loop: the parser, and the box ib of the instruction. -/
structure ClSt (s : ByteArray) (pb B i g : Nat) (code : List In) (bad : Int) (v : Value) (ib : Nat) (nt : Bool) (set : ByteArray) (w W : World) : Prop where
  par : ParV s pb B i g code bad v W
  box : W.heap[ib]? = some (.cells #[.int .i64 3, .int .u8 0, .string set, .bool nt, .int .i64 0, .int .i64 0] 34 (0, 0))
  hb : Below B w W
theorem ClSt.grown {s : ByteArray} {pb B i g : Nat} {code : List In} {bad : Int} {v : Value} {ib : Nat} {nt : Bool} {set : ByteArray} {w W W' : World} (h : ClSt s pb B i g code bad v ib nt set w W) {i2 : Nat} {bad2 : Int} (hp : ParV s pb B i2 g code bad2 v W') (hg : W.grownBy W' (some pb)) (hne : ¬ ib = pb) : ClSt s pb B i2 g code bad2 v ib nt set w W' :=
  ⟨hp, (hg.block _ (Array.getElem?_eq_some_iff.1 h.box).1 (fun e => hne (by cases e; rfl))).trans h.box, h.hb.grown hg (by have := h.par.size; have := h.hb.size; have := h.par.size.2; exact this) (fun k hk => by cases hk; exact h.par.hB)⟩
theorem ClSt.later {s : ByteArray} {pb B i g : Nat} {code : List In} {bad : Int} {v : Value} {ib : Nat} {nt : Bool} {set : ByteArray} {w W W' : World} (h : ClSt s pb B i g code bad v ib nt set w W) (hb : Below W.heap.size W W') : ClSt s pb B i g code bad v ib nt set w W' :=
  ⟨h.par.later hb, heap_later h.box hb, h.hb.trans (hb.mono h.par.size.2)⟩
/-- Another set is written into the box. -/
theorem ClSt.put {s : ByteArray} {pb B i g : Nat} {code : List In} {bad : Int} {v : Value} {ib : Nat} {nt : Bool} {set : ByteArray} {w W : World} (h : ClSt s pb B i g code bad v ib nt set w W) (hB : B ≤ ib) (hne : ¬ pb = ib) (hv : v.ownBlock ≠ some ib) (set2 : ByteArray) : ClSt s pb B i g code bad v ib nt set2 w (holds W ib #[.int .i64 3, .int .u8 0, .string set2, .bool nt, .int .i64 0, .int .i64 0] 34) :=
  ⟨⟨h.par.hB, hh_ne hne h.par.hp, own_holds h.par.hr hv⟩, hh_eq (Array.getElem?_eq_some_iff.1 h.box).1, below_holds h.hb hB _ _⟩

theorem alloc_holds {w : World} {b : Nat} {c : Array Value} {T : TypeId} (h : b < w.heap.size) (o : Obj) : (holds w b c T).alloc o = holds (w.alloc o) b c T := by
  unfold holds World.alloc
  congr 1
  apply Array.ext_getElem?
  intro k
  simp only [Array.getElem?_push, Array.getElem?_setIfInBounds, Array.size_setIfInBounds, Array.size_push]
  by_cases e1 : k = w.heap.size
  · subst e1
    rw [if_pos rfl, if_neg (by omega), if_pos rfl]
  · rw [if_neg e1, if_neg e1]
    by_cases e2 : b = k
    · subst e2
      rw [if_pos rfl, if_pos rfl, if_pos h, if_pos (by omega)]
    · rw [if_neg e2, if_neg e2]
/-- No bracket closes the class here. -/
def NCl (s : ByteArray) (i : Nat) (first : Bool) : Prop := ¬ (first = false ∧ i < s.size ∧ s[i]! = 93)
section
variable {s : ByteArray} {i j m k f : Nat} {set : ByteArray} {first : Bool} {a b : UInt8}
theorem items_close (h1 : i < s.size) (h2 : s[i]! = 93) : itemsF (f + 1) s i false set = .ok (set, i + 1) := by
  unfold itemsF
  rw [if_pos ⟨rfl, h1, h2⟩]
theorem items_err (h : NCl s i first) (hc : charF s i = .error k) : itemsF (f + 1) s i first set = .error k := by
  unfold itemsF
  rw [if_neg (show ¬ (first = false ∧ i < s.size ∧ s[i]! = 93) from h), hc]
theorem items_one (h : NCl s i first) (hc : charF s i = .ok (a, j)) (hd : ¬ (j < s.size ∧ s[j]! = 45)) : itemsF (f + 1) s i first set = itemsF f s j false (set ++ ⟨#[a, a]⟩) := by
  conv => lhs; unfold itemsF
  rw [if_neg (show ¬ (first = false ∧ i < s.size ∧ s[i]! = 93) from h), hc]
  simp only []
  rw [if_neg hd]
theorem items_rerr (h : NCl s i first) (hc : charF s i = .ok (a, j)) (hd : j < s.size ∧ s[j]! = 45) (h2 : charF s (j + 1) = .error k) : itemsF (f + 1) s i first set = .error k := by
  conv => lhs; unfold itemsF
  rw [if_neg (show ¬ (first = false ∧ i < s.size ∧ s[i]! = 93) from h), hc]
  simp only []
  rw [if_pos hd, h2]
theorem items_less (h : NCl s i first) (hc : charF s i = .ok (a, j)) (hd : j < s.size ∧ s[j]! = 45) (h2 : charF s (j + 1) = .ok (b, m)) (hl : b < a) : itemsF (f + 1) s i first set = .error (m - 1) := by
  conv => lhs; unfold itemsF
  rw [if_neg (show ¬ (first = false ∧ i < s.size ∧ s[i]! = 93) from h), hc]
  simp only []
  rw [if_pos hd, h2]
  simp only []
  rw [if_pos hl]
theorem items_two (h : NCl s i first) (hc : charF s i = .ok (a, j)) (hd : j < s.size ∧ s[j]! = 45) (h2 : charF s (j + 1) = .ok (b, m)) (hl : ¬ b < a) : itemsF (f + 1) s i first set = itemsF f s m false (set ++ ⟨#[a, b]⟩) := by
  conv => lhs; unfold itemsF
  rw [if_neg (show ¬ (first = false ∧ i < s.size ∧ s[i]! = 93) from h), hc]
  simp only []
  rw [if_pos hd, h2]
  simp only []
  rw [if_neg hl]
end

set_option maxRecDepth 20000 in
set_option maxHeartbeats 32000000 in
theorem class_calls (s : ByteArray) (pb B at' g : Nat) (code : List In) (bad : Int) (v : Value) (w u : World) (h0 : Below B w u) (h : ParV s pb B at' g code bad v u) (hz : s.size ≤ 100000) (hn : code.length ≤ 100000) (hat : at' ≤ s.size) :
    Calls Try.prog 72 #[.pointer (some ⟨pb, 0, none⟩)] u fun e w' => KPost s pb B g code bad w (classF s at') e w' := by
  have HB : Aside (Below B w u) := h0
  have HP : Aside (ParV s pb B at' g code bad v u) := h
  by_cases hc : at' < s.size ∧ s[at']! = 94
  · have ck := next_yes s pb B at' g code bad v 94 u h (by omega) hc.1 (by rw [pk_eq, hc.2]; rfl)
    have EC : classF s at' = match itemsF (s.size + 1) s (at' + 1) true ⟨#[]⟩ with | .error k => .error k | .ok (set, j) => .ok (⟨3, 0, set, true, 0, 0⟩, j) := if_pos hc
    have hin := hc.1
    clear hc
    obtain ⟨R, hR⟩ : ∃ R, itemsF (s.size + 1) s (at' + 1) true ⟨#[]⟩ = R := ⟨_, rfl⟩
    rw [hR] at EC
    have KE : Aside (∀ (k : Nat) w', R = .error k → Par s pb B k g code (k : Int) w' → Below B w w' → KPost s pb B g code bad w (classF s at') (.returned (.bool false)) w') := fun k w' hk h1 h2 => by
      rw [EC, hk]; exact ⟨rfl, h1, h2⟩
    have KO : Aside (∀ (set : ByteArray) (j : Nat) w', R = .ok (set, j) → Par s pb B j g (code ++ [⟨3, 0, set, true, 0, 0⟩]) bad w' → Below B w w' → KPost s pb B g code bad w (classF s at') (.returned (.bool true)) w') := fun set j w' hk h1 h2 => by
      rw [EC, hk]; exact ⟨rfl, h1, h2⟩
    have HR : Aside (itemsF (s.size + 1) s (at' + 1) true ⟨#[]⟩ = R) := hR
    have HO := h.hr
    have hob : ∀ k, v.ownBlock = some k → k < u.heap.size := fun k hk => (HO.lt k hk).2
    clear EC hR h h0 HO
    go_enter Try.func72, Try.ntmps72
    go_wp2_with fail
    refine ck.mono ?_
    rintro e u1 ⟨rfl, hp, hg⟩
    have HB1 : Aside (Below B w u1) := HB.out.trans (gbelow hg hp.hB HP.out.size.1)
    have hsz := hg.size
    have HP1 : Aside (ParV s pb B (at' + 1) g code bad v u1) := hp
    clear hp hg
    have nvi' : v.ownBlock ≠ some u1.heap.size := fun e => by have := hob _ e; omega
    have npi' : ¬ pb = u1.heap.size := by have := HP1.out.size.1; omega
    have hBi' : B ≤ u1.heap.size := HP1.out.size.2
    have CS0 : Aside (ClSt s pb B (at' + 1) g code bad v u1.heap.size true ⟨#[]⟩ w (u1.alloc (.cells #[.int .i64 3, .int .u8 0, .string ⟨#[]⟩, .bool true, .int .i64 0, .int .i64 0] 34))) := ⟨HP1.out.later ((Below.refl _ _).alloc (Nat.le_refl _) _), hp_new rfl, HB1.out.alloc HP1.out.size.2 _⟩
    clear HP HB HP1 HB1 hob hsz ck
    go_wp2
    generalize (u1.alloc (.cells #[.int .i64 3, .int .u8 0, .string ⟨#[]⟩, .bool true, .int .i64 0, .int .i64 0] 34)) = u2 at CS0 ⊢
    obtain ⟨ib, hib⟩ : ∃ ib, u1.heap.size = ib := ⟨_, rfl⟩
    rw [hib] at CS0 nvi' npi' hBi' ⊢
    have nvi : v.ownBlock ≠ some ib := nvi'
    have npi : ¬ pb = ib := npi'
    have nip : ¬ ib = pb := fun e => npi e.symm
    have hBi : B ≤ ib := hBi'
    clear hib nvi' npi' hBi'
    go_loopg [4] (s.size + 1) (fun k s4 wr => ∃ (i : Nat) (first : Bool) (set : ByteArray), s4 = .bool first ∧ Aside (itemsF k s i first set = R) ∧ s.size < i + k ∧ i ≤ s.size ∧ set.size ≤ 2 * i ∧ Aside (ClSt s pb B i g code bad v ib true set w wr))
    case atStart => exact ⟨(at' + 1), true, ⟨#[]⟩, rfl, HR.out, by omega, by omega, Nat.zero_le _, CS0.out⟩
    case round =>
      obtain ⟨i, first, set, rfl, FE, hk, hi, hss, CS⟩ := hrel
      obtain ⟨k1, rfl⟩ : ∃ k1, gk = k1 + 1 := ⟨gk - 1, by omega⟩
      clear CS0 HR
      cases first with
      | true =>
        have NC : Aside (NCl s i true) := (show ¬ _ by simp)
        have ch := fun W (h : ParV s pb B i g code bad v W) => char_calls s pb B i g code bad v W W (grefl _ _) h hz
        cases hch : charF s i with
        | error kk =>
          rw [hch] at ch
          have RR : Aside (R = .error kk) := FE.out.symm.trans (items_err NC.out hch)
          clear hch NC FE
          go_wp2_with fail
          refine (ch _ CS.out.par).mono ?_
          rintro e y2 ⟨rfl, hp, hg⟩
          have CS' : Aside (ClSt s pb B kk g code ((kk : Nat) : Int) v ib true set w y2) := CS.out.grown hp hg nip
          clear hp hg CS 
          have CS : Aside (ClSt s pb B kk g code ((kk : Nat) : Int) v ib true set w y2) := CS'.out
          clear CS'
          go_wp2
          refine bodyPost_ret (v := .bool false) (by simp [results, Try.results72, go_sem, ↓IntWalk.iteOmega, *]) rfl (KE.out kk _ RR.out CS.out.par.par CS.out.hb)
        | ok r1 =>
          obtain ⟨a, j⟩ := r1
          rw [hch] at ch
          have hij := charF_pos hch
          go_wp2_with fail
          refine (ch _ CS.out.par).mono ?_
          rintro e y3 ⟨rfl, hp, hg⟩
          have CS' : Aside (ClSt s pb B j g code bad v ib true set w y3) := CS.out.grown hp hg nip
          clear hp hg CS ch
          have CS : Aside (ClSt s pb B j g code bad v ib true set w y3) := CS'.out
          clear CS'
          by_cases hd : j < s.size ∧ s[j]! = 45
          rotate_left
          · have RR : Aside (itemsF k1 s j false (set ++ ⟨#[a, a]⟩) = R) := (items_one NC.out hch hd).symm.trans FE.out
            have hno : s.size ≤ j ∨ pkB s j ≠ 45 := by
              rcases Nat.lt_or_ge j s.size with h1 | h1
              · exact .inr (fun h2 => hd ⟨h1, (u8_at 45).1 h2⟩)
              · exact .inl h1
            clear hd hch NC FE
            go_wp2_with fail
            refine (next_no s pb B j g code bad 45 _ CS.out.par.par hno).mono ?_
            rintro e y4 ⟨rfl, hb⟩
            have CS' : Aside (ClSt s pb B j g code bad v ib true set w y4) := CS.out.later hb
            clear hb CS 
            have CS : Aside (ClSt s pb B j g code bad v ib true set w y4) := CS'.out
            clear CS'
            have hjn : j ≤ s.size := hij.2
            clear hno
            have hcv := conv2 y4 a a
            have hst := CS.out.box
            have lti : ib < y4.heap.size := (Array.getElem?_eq_some_iff.1 hst).1
            have ic2 := cell_heap hst 2 _ rfl
            have nal : ¬ y4.heap.size = ib := by omega
            have nal2 : ¬ ib = y4.heap.size := by omega
            have CS2 : Aside (ClSt s pb B j g code bad v ib true set w (y4.alloc (.cells #[.int .u8 (a.toNat : Int), .int .u8 (a.toNat : Int)] 5))) := CS.out.later ((Below.refl _ _).alloc (Nat.le_refl _) _)
            have CS3 : Aside (ClSt s pb B j g code bad v ib true (set ++ ⟨#[a, a]⟩) w (holds (y4.alloc (.cells #[.int .u8 (a.toNat : Int), .int .u8 (a.toNat : Int)] 5)) ib #[.int .i64 3, .int .u8 0, .string (set ++ ⟨#[a, a]⟩), .bool true, .int .i64 0, .int .i64 0] 34)) := CS2.out.put hBi npi nvi _
            have hal : ∀ o, (holds y4 ib #[.int .i64 3, .int .u8 0, .string set, .bool true, .int .i64 0, .int .i64 0] 34).alloc o = holds (y4.alloc o) ib #[.int .i64 3, .int .u8 0, .string set, .bool true, .int .i64 0, .int .i64 0] 34 := fun o => alloc_holds lti o
            have hcv2 : (convert 82 9 (.slice (some ⟨y4.heap.size, 0, none⟩) 2 2)).run Try.prog (holds (y4.alloc (.cells #[.int .u8 (a.toNat : Int), .int .u8 (a.toNat : Int)] 5)) ib #[.int .i64 3, .int .u8 0, .string set, .bool true, .int .i64 0, .int .i64 0] 34) = .ok (.string ⟨#[a, a]⟩) (holds (y4.alloc (.cells #[.int .u8 (a.toNat : Int), .int .u8 (a.toNat : Int)] 5)) ib #[.int .i64 3, .int .u8 0, .string set, .bool true, .int .i64 0, .int .i64 0] 34) := by
              rw [← hal, ← holds_self hst]
              exact hcv
            rw [holds_self hst]
            clear hst CS CS2 hcv
            go_wp2
            go_roundg k1
            case measure => omega
            case rel => exact ⟨j, false, _, rfl, RR.out, by omega, by omega, by rw [ByteArray.size_append]; show set.size + 2 ≤ _; omega, CS3.out⟩
          have hch2 := fun W (h : ParV s pb B (j + 1) g code bad v W) => char_calls s pb B (j + 1) g code bad v W W (grefl _ _) h hz
          have hnx := fun W (h : ParV s pb B j g code bad v W) => next_yes s pb B j g code bad v 45 W h (by omega) hd.1 (by rw [pk_eq, hd.2]; rfl)
          go_wp2_with fail
          refine (hnx _ CS.out.par).mono ?_
          rintro e y5 ⟨rfl, hp, hg⟩
          have CS' : Aside (ClSt s pb B (j + 1) g code bad v ib true set w y5) := CS.out.grown hp hg nip
          clear hp hg CS hnx
          have CS : Aside (ClSt s pb B (j + 1) g code bad v ib true set w y5) := CS'.out
          clear CS'
          cases hc2 : charF s (j + 1) with
          | error kk =>
            rw [hc2] at hch2
            have RR : Aside (R = .error kk) := FE.out.symm.trans (items_rerr NC.out hch hd hc2)
            clear hch NC FE hd hc2
            go_wp2_with fail
            refine (hch2 _ CS.out.par).mono ?_
            rintro e y6 ⟨rfl, hp, hg⟩
            have CS' : Aside (ClSt s pb B kk g code ((kk : Nat) : Int) v ib true set w y6) := CS.out.grown hp hg nip
            clear hp hg CS 
            have CS : Aside (ClSt s pb B kk g code ((kk : Nat) : Int) v ib true set w y6) := CS'.out
            clear CS'
            go_wp2
            refine bodyPost_ret (v := .bool false) (by simp [results, Try.results72, go_sem, ↓IntWalk.iteOmega, *]) rfl (KE.out kk _ RR.out CS.out.par.par CS.out.hb)
          | ok r2 =>
            obtain ⟨b, m⟩ := r2
            rw [hc2] at hch2
            have hjm := charF_pos hc2
            go_wp2_with fail
            refine (hch2 _ CS.out.par).mono ?_
            rintro e y7 ⟨rfl, hp, hg⟩
            have CS' : Aside (ClSt s pb B m g code bad v ib true set w y7) := CS.out.grown hp hg nip
            clear hp hg CS hch2
            have CS : Aside (ClSt s pb B m g code bad v ib true set w y7) := CS'.out
            clear CS'
            by_cases hl : b < a
            · have hlz : decide ((b.toNat : Int) < (a.toNat : Int)) = true := decide_eq_true (by have := UInt8.lt_iff_toNat_lt.1 hl; omega)
              have hlz2 : (b.toNat : Int) < (a.toNat : Int) := by have := UInt8.lt_iff_toNat_lt.1 hl; omega
              have RR : Aside (R = .error (m - 1)) := FE.out.symm.trans (items_less NC.out hch hd hc2 hl)
              clear hch NC FE hd hc2 hl
              have h1 := CS.out.par.hp
              have lt : pb < y7.heap.size := (Array.getElem?_eq_some_iff.1 h1).1
              have hwr : IntKind.i64.wrap ((m : Int) - 1) = (m : Int) - 1 := by rw [IntKind.wrap_i64]; omega
              have hp := CS.out.par.put (m - 1) g bad
              have hcast : ((m - 1 : Nat) : Int) = (m : Int) - 1 := by omega
              rw [hcast] at hp
              have CS' : Aside (ClSt s pb B (m - 1) g code bad v ib true set w (holds y7 pb #[.string s, .int .i64 ((m : Int) - 1), .int .i64 (g : Int), v, .int .i64 bad] 46)) := CS.out.grown hp (gholds _ _ _ _) nip
              rw [holds_self h1]
              clear h1 hp hcast CS
              go_wp2_with fail
              clear hwr lt
              generalize holds y7 pb #[.string s, .int .i64 ((m : Int) - 1), .int .i64 (g : Int), v, .int .i64 bad] 46 = y9 at CS' ⊢
              have CS : Aside (ClSt s pb B (m - 1) g code bad v ib true set w y9) := CS'.out
              clear CS'
              refine (fail_calls s pb B (m - 1) g code bad v _ CS.out.par).mono ?_
              rintro e y8 ⟨rfl, hp, hg⟩
              have CS' : Aside (ClSt s pb B (m - 1) g code (((m - 1) : Nat) : Int) v ib true set w y8) := CS.out.grown hp hg nip
              clear hp hg CS 
              have CS : Aside (ClSt s pb B (m - 1) g code (((m - 1) : Nat) : Int) v ib true set w y8) := CS'.out
              clear CS'
              go_wp2
              refine bodyPost_ret (v := .bool false) (by simp [results, Try.results72, go_sem, ↓IntWalk.iteOmega, *]) rfl (KE.out (m - 1) _ RR.out CS.out.par.par CS.out.hb)
            · have hlz : decide ((b.toNat : Int) < (a.toNat : Int)) = false := decide_eq_false (by intro h; exact hl (UInt8.lt_iff_toNat_lt.2 (by omega)))
              have hlz2 : ¬ (b.toNat : Int) < (a.toNat : Int) := by intro h; exact hl (UInt8.lt_iff_toNat_lt.2 (by omega))
              have RR : Aside (itemsF k1 s m false (set ++ ⟨#[a, b]⟩) = R) := (items_two NC.out hch hd hc2 hl).symm.trans FE.out
              clear hch NC FE hd hc2 hl
              have hcv := conv2 y7 a b
              have hst := CS.out.box
              have lti : ib < y7.heap.size := (Array.getElem?_eq_some_iff.1 hst).1
              have ic2 := cell_heap hst 2 _ rfl
              have nal : ¬ y7.heap.size = ib := by omega
              have nal2 : ¬ ib = y7.heap.size := by omega
              have CS2 : Aside (ClSt s pb B m g code bad v ib true set w (y7.alloc (.cells #[.int .u8 (a.toNat : Int), .int .u8 (b.toNat : Int)] 5))) := CS.out.later ((Below.refl _ _).alloc (Nat.le_refl _) _)
              have CS3 : Aside (ClSt s pb B m g code bad v ib true (set ++ ⟨#[a, b]⟩) w (holds (y7.alloc (.cells #[.int .u8 (a.toNat : Int), .int .u8 (b.toNat : Int)] 5)) ib #[.int .i64 3, .int .u8 0, .string (set ++ ⟨#[a, b]⟩), .bool true, .int .i64 0, .int .i64 0] 34)) := CS2.out.put hBi npi nvi _
              have hal : ∀ o, (holds y7 ib #[.int .i64 3, .int .u8 0, .string set, .bool true, .int .i64 0, .int .i64 0] 34).alloc o = holds (y7.alloc o) ib #[.int .i64 3, .int .u8 0, .string set, .bool true, .int .i64 0, .int .i64 0] 34 := fun o => alloc_holds lti o
              have hcv2 : (convert 82 9 (.slice (some ⟨y7.heap.size, 0, none⟩) 2 2)).run Try.prog (holds (y7.alloc (.cells #[.int .u8 (a.toNat : Int), .int .u8 (b.toNat : Int)] 5)) ib #[.int .i64 3, .int .u8 0, .string set, .bool true, .int .i64 0, .int .i64 0] 34) = .ok (.string ⟨#[a, b]⟩) (holds (y7.alloc (.cells #[.int .u8 (a.toNat : Int), .int .u8 (b.toNat : Int)] 5)) ib #[.int .i64 3, .int .u8 0, .string set, .bool true, .int .i64 0, .int .i64 0] 34) := by
                rw [← hal, ← holds_self hst]
                exact hcv
              rw [holds_self hst]
              clear hst CS CS2 hcv
              go_wp2
              go_roundg k1
              case measure => omega
              case rel => exact ⟨m, false, _, rfl, RR.out, by omega, by omega, by rw [ByteArray.size_append]; show set.size + 2 ≤ _; omega, CS3.out⟩
      | false =>
        by_cases hcl : i < s.size ∧ s[i]! = 93
        · have RR : Aside (R = .ok (set, i + 1)) := FE.out.symm.trans (items_close hcl.1 hcl.2)
          have hnx := fun W (h : ParV s pb B i g code bad v W) => next_yes s pb B i g code bad v 93 W h (by omega) hcl.1 (by rw [pk_eq, hcl.2]; rfl)
          clear hcl FE
          go_wp2_with fail
          refine (hnx _ CS.out.par).mono ?_
          rintro e y9 ⟨rfl, hp, hg⟩
          have CS' : Aside (ClSt s pb B (i + 1) g code bad v ib true set w y9) := CS.out.grown hp hg nip
          clear hp hg CS hnx
          have CS : Aside (ClSt s pb B (i + 1) g code bad v ib true set w y9) := CS'.out
          clear CS'
          have lti : ib < y9.heap.size := (Array.getElem?_eq_some_iff.1 CS.out.box).1
          have ic0 := cell_heap CS.out.box 0 _ rfl
          have ic1 := cell_heap CS.out.box 1 _ rfl
          have ic2 := cell_heap CS.out.box 2 _ rfl
          have ic3 := cell_heap CS.out.box 3 _ rfl
          have ic4 := cell_heap CS.out.box 4 _ rfl
          have ic5 := cell_heap CS.out.box 5 _ rfl
          go_wp2_with fail
          refine (emit_calls s pb B (i + 1) g code bad 3 0 set true 0 0 _ CS.out.par.par (by omega)).mono ?_
          rintro e y8 ⟨rfl, hp, hb⟩
          have HPE : Aside (Par s pb B (i + 1) g (code ++ [⟨3, 0, set, true, 0, 0⟩]) bad y8) := hp
          have HBE : Aside (Below B w y8) := CS.out.hb.trans hb
          clear hp hb CS ic0 ic1 ic2 ic3 ic4 ic5 lti
          go_wp2
          refine bodyPost_ret (v := .bool true) (by simp [results, Try.results72, go_sem, ↓IntWalk.iteOmega, *]) rfl (KO.out set (i + 1) _ RR.out HPE.out HBE.out)
        have NCL : Aside (NCl s i false) := fun h => hcl h.2
        have hno : s.size ≤ i ∨ pkB s i ≠ 93 := by
          rcases Nat.lt_or_ge i s.size with h1 | h1
          · exact .inr (fun h2 => hcl ⟨h1, (u8_at 93).1 h2⟩)
          · exact .inl h1
        clear hcl
        go_wp2_with fail
        refine (next_no s pb B i g code bad 93 _ CS.out.par.par hno).mono ?_
        rintro e y10 ⟨rfl, hb⟩
        have CS' : Aside (ClSt s pb B i g code bad v ib true set w y10) := CS.out.later hb
        clear hb CS hno
        have CS : Aside (ClSt s pb B i g code bad v ib true set w y10) := CS'.out
        clear CS'
        have NC : Aside (NCl s i false) := NCL.out
        have ch := fun W (h : ParV s pb B i g code bad v W) => char_calls s pb B i g code bad v W W (grefl _ _) h hz
        cases hch : charF s i with
        | error kk =>
          rw [hch] at ch
          have RR : Aside (R = .error kk) := FE.out.symm.trans (items_err NC.out hch)
          clear hch NC FE
          go_wp2_with fail
          refine (ch _ CS.out.par).mono ?_
          rintro e y11 ⟨rfl, hp, hg⟩
          have CS' : Aside (ClSt s pb B kk g code ((kk : Nat) : Int) v ib true set w y11) := CS.out.grown hp hg nip
          clear hp hg CS 
          have CS : Aside (ClSt s pb B kk g code ((kk : Nat) : Int) v ib true set w y11) := CS'.out
          clear CS'
          go_wp2
          refine bodyPost_ret (v := .bool false) (by simp [results, Try.results72, go_sem, ↓IntWalk.iteOmega, *]) rfl (KE.out kk _ RR.out CS.out.par.par CS.out.hb)
        | ok r1 =>
          obtain ⟨a, j⟩ := r1
          rw [hch] at ch
          have hij := charF_pos hch
          go_wp2_with fail
          refine (ch _ CS.out.par).mono ?_
          rintro e y12 ⟨rfl, hp, hg⟩
          have CS' : Aside (ClSt s pb B j g code bad v ib true set w y12) := CS.out.grown hp hg nip
          clear hp hg CS ch
          have CS : Aside (ClSt s pb B j g code bad v ib true set w y12) := CS'.out
          clear CS'
          by_cases hd : j < s.size ∧ s[j]! = 45
          rotate_left
          · have RR : Aside (itemsF k1 s j false (set ++ ⟨#[a, a]⟩) = R) := (items_one NC.out hch hd).symm.trans FE.out
            have hno : s.size ≤ j ∨ pkB s j ≠ 45 := by
              rcases Nat.lt_or_ge j s.size with h1 | h1
              · exact .inr (fun h2 => hd ⟨h1, (u8_at 45).1 h2⟩)
              · exact .inl h1
            clear hd hch NC FE
            go_wp2_with fail
            refine (next_no s pb B j g code bad 45 _ CS.out.par.par hno).mono ?_
            rintro e y13 ⟨rfl, hb⟩
            have CS' : Aside (ClSt s pb B j g code bad v ib true set w y13) := CS.out.later hb
            clear hb CS 
            have CS : Aside (ClSt s pb B j g code bad v ib true set w y13) := CS'.out
            clear CS'
            have hjn : j ≤ s.size := hij.2
            clear hno
            have hcv := conv2 y13 a a
            have hst := CS.out.box
            have lti : ib < y13.heap.size := (Array.getElem?_eq_some_iff.1 hst).1
            have ic2 := cell_heap hst 2 _ rfl
            have nal : ¬ y13.heap.size = ib := by omega
            have nal2 : ¬ ib = y13.heap.size := by omega
            have CS2 : Aside (ClSt s pb B j g code bad v ib true set w (y13.alloc (.cells #[.int .u8 (a.toNat : Int), .int .u8 (a.toNat : Int)] 5))) := CS.out.later ((Below.refl _ _).alloc (Nat.le_refl _) _)
            have CS3 : Aside (ClSt s pb B j g code bad v ib true (set ++ ⟨#[a, a]⟩) w (holds (y13.alloc (.cells #[.int .u8 (a.toNat : Int), .int .u8 (a.toNat : Int)] 5)) ib #[.int .i64 3, .int .u8 0, .string (set ++ ⟨#[a, a]⟩), .bool true, .int .i64 0, .int .i64 0] 34)) := CS2.out.put hBi npi nvi _
            have hal : ∀ o, (holds y13 ib #[.int .i64 3, .int .u8 0, .string set, .bool true, .int .i64 0, .int .i64 0] 34).alloc o = holds (y13.alloc o) ib #[.int .i64 3, .int .u8 0, .string set, .bool true, .int .i64 0, .int .i64 0] 34 := fun o => alloc_holds lti o
            have hcv2 : (convert 82 9 (.slice (some ⟨y13.heap.size, 0, none⟩) 2 2)).run Try.prog (holds (y13.alloc (.cells #[.int .u8 (a.toNat : Int), .int .u8 (a.toNat : Int)] 5)) ib #[.int .i64 3, .int .u8 0, .string set, .bool true, .int .i64 0, .int .i64 0] 34) = .ok (.string ⟨#[a, a]⟩) (holds (y13.alloc (.cells #[.int .u8 (a.toNat : Int), .int .u8 (a.toNat : Int)] 5)) ib #[.int .i64 3, .int .u8 0, .string set, .bool true, .int .i64 0, .int .i64 0] 34) := by
              rw [← hal, ← holds_self hst]
              exact hcv
            rw [holds_self hst]
            clear hst CS CS2 hcv
            go_wp2
            go_roundg k1
            case measure => omega
            case rel => exact ⟨j, false, _, rfl, RR.out, by omega, by omega, by rw [ByteArray.size_append]; show set.size + 2 ≤ _; omega, CS3.out⟩
          have hch2 := fun W (h : ParV s pb B (j + 1) g code bad v W) => char_calls s pb B (j + 1) g code bad v W W (grefl _ _) h hz
          have hnx := fun W (h : ParV s pb B j g code bad v W) => next_yes s pb B j g code bad v 45 W h (by omega) hd.1 (by rw [pk_eq, hd.2]; rfl)
          go_wp2_with fail
          refine (hnx _ CS.out.par).mono ?_
          rintro e y14 ⟨rfl, hp, hg⟩
          have CS' : Aside (ClSt s pb B (j + 1) g code bad v ib true set w y14) := CS.out.grown hp hg nip
          clear hp hg CS hnx
          have CS : Aside (ClSt s pb B (j + 1) g code bad v ib true set w y14) := CS'.out
          clear CS'
          cases hc2 : charF s (j + 1) with
          | error kk =>
            rw [hc2] at hch2
            have RR : Aside (R = .error kk) := FE.out.symm.trans (items_rerr NC.out hch hd hc2)
            clear hch NC FE hd hc2
            go_wp2_with fail
            refine (hch2 _ CS.out.par).mono ?_
            rintro e y15 ⟨rfl, hp, hg⟩
            have CS' : Aside (ClSt s pb B kk g code ((kk : Nat) : Int) v ib true set w y15) := CS.out.grown hp hg nip
            clear hp hg CS 
            have CS : Aside (ClSt s pb B kk g code ((kk : Nat) : Int) v ib true set w y15) := CS'.out
            clear CS'
            go_wp2
            refine bodyPost_ret (v := .bool false) (by simp [results, Try.results72, go_sem, ↓IntWalk.iteOmega, *]) rfl (KE.out kk _ RR.out CS.out.par.par CS.out.hb)
          | ok r2 =>
            obtain ⟨b, m⟩ := r2
            rw [hc2] at hch2
            have hjm := charF_pos hc2
            go_wp2_with fail
            refine (hch2 _ CS.out.par).mono ?_
            rintro e y16 ⟨rfl, hp, hg⟩
            have CS' : Aside (ClSt s pb B m g code bad v ib true set w y16) := CS.out.grown hp hg nip
            clear hp hg CS hch2
            have CS : Aside (ClSt s pb B m g code bad v ib true set w y16) := CS'.out
            clear CS'
            by_cases hl : b < a
            · have hlz : decide ((b.toNat : Int) < (a.toNat : Int)) = true := decide_eq_true (by have := UInt8.lt_iff_toNat_lt.1 hl; omega)
              have hlz2 : (b.toNat : Int) < (a.toNat : Int) := by have := UInt8.lt_iff_toNat_lt.1 hl; omega
              have RR : Aside (R = .error (m - 1)) := FE.out.symm.trans (items_less NC.out hch hd hc2 hl)
              clear hch NC FE hd hc2 hl
              have h1 := CS.out.par.hp
              have lt : pb < y16.heap.size := (Array.getElem?_eq_some_iff.1 h1).1
              have hwr : IntKind.i64.wrap ((m : Int) - 1) = (m : Int) - 1 := by rw [IntKind.wrap_i64]; omega
              have hp := CS.out.par.put (m - 1) g bad
              have hcast : ((m - 1 : Nat) : Int) = (m : Int) - 1 := by omega
              rw [hcast] at hp
              have CS' : Aside (ClSt s pb B (m - 1) g code bad v ib true set w (holds y16 pb #[.string s, .int .i64 ((m : Int) - 1), .int .i64 (g : Int), v, .int .i64 bad] 46)) := CS.out.grown hp (gholds _ _ _ _) nip
              rw [holds_self h1]
              clear h1 hp hcast CS
              go_wp2_with fail
              clear hwr lt
              generalize holds y16 pb #[.string s, .int .i64 ((m : Int) - 1), .int .i64 (g : Int), v, .int .i64 bad] 46 = y9 at CS' ⊢
              have CS : Aside (ClSt s pb B (m - 1) g code bad v ib true set w y9) := CS'.out
              clear CS'
              refine (fail_calls s pb B (m - 1) g code bad v _ CS.out.par).mono ?_
              rintro e y17 ⟨rfl, hp, hg⟩
              have CS' : Aside (ClSt s pb B (m - 1) g code (((m - 1) : Nat) : Int) v ib true set w y17) := CS.out.grown hp hg nip
              clear hp hg CS 
              have CS : Aside (ClSt s pb B (m - 1) g code (((m - 1) : Nat) : Int) v ib true set w y17) := CS'.out
              clear CS'
              go_wp2
              refine bodyPost_ret (v := .bool false) (by simp [results, Try.results72, go_sem, ↓IntWalk.iteOmega, *]) rfl (KE.out (m - 1) _ RR.out CS.out.par.par CS.out.hb)
            · have hlz : decide ((b.toNat : Int) < (a.toNat : Int)) = false := decide_eq_false (by intro h; exact hl (UInt8.lt_iff_toNat_lt.2 (by omega)))
              have hlz2 : ¬ (b.toNat : Int) < (a.toNat : Int) := by intro h; exact hl (UInt8.lt_iff_toNat_lt.2 (by omega))
              have RR : Aside (itemsF k1 s m false (set ++ ⟨#[a, b]⟩) = R) := (items_two NC.out hch hd hc2 hl).symm.trans FE.out
              clear hch NC FE hd hc2 hl
              have hcv := conv2 y16 a b
              have hst := CS.out.box
              have lti : ib < y16.heap.size := (Array.getElem?_eq_some_iff.1 hst).1
              have ic2 := cell_heap hst 2 _ rfl
              have nal : ¬ y16.heap.size = ib := by omega
              have nal2 : ¬ ib = y16.heap.size := by omega
              have CS2 : Aside (ClSt s pb B m g code bad v ib true set w (y16.alloc (.cells #[.int .u8 (a.toNat : Int), .int .u8 (b.toNat : Int)] 5))) := CS.out.later ((Below.refl _ _).alloc (Nat.le_refl _) _)
              have CS3 : Aside (ClSt s pb B m g code bad v ib true (set ++ ⟨#[a, b]⟩) w (holds (y16.alloc (.cells #[.int .u8 (a.toNat : Int), .int .u8 (b.toNat : Int)] 5)) ib #[.int .i64 3, .int .u8 0, .string (set ++ ⟨#[a, b]⟩), .bool true, .int .i64 0, .int .i64 0] 34)) := CS2.out.put hBi npi nvi _
              have hal : ∀ o, (holds y16 ib #[.int .i64 3, .int .u8 0, .string set, .bool true, .int .i64 0, .int .i64 0] 34).alloc o = holds (y16.alloc o) ib #[.int .i64 3, .int .u8 0, .string set, .bool true, .int .i64 0, .int .i64 0] 34 := fun o => alloc_holds lti o
              have hcv2 : (convert 82 9 (.slice (some ⟨y16.heap.size, 0, none⟩) 2 2)).run Try.prog (holds (y16.alloc (.cells #[.int .u8 (a.toNat : Int), .int .u8 (b.toNat : Int)] 5)) ib #[.int .i64 3, .int .u8 0, .string set, .bool true, .int .i64 0, .int .i64 0] 34) = .ok (.string ⟨#[a, b]⟩) (holds (y16.alloc (.cells #[.int .u8 (a.toNat : Int), .int .u8 (b.toNat : Int)] 5)) ib #[.int .i64 3, .int .u8 0, .string set, .bool true, .int .i64 0, .int .i64 0] 34) := by
                rw [← hal, ← holds_self hst]
                exact hcv
              rw [holds_self hst]
              clear hst CS CS2 hcv
              go_wp2
              go_roundg k1
              case measure => omega
              case rel => exact ⟨m, false, _, rfl, RR.out, by omega, by omega, by rw [ByteArray.size_append]; show set.size + 2 ≤ _; omega, CS3.out⟩
  · have hno : s.size ≤ at' ∨ pkB s at' ≠ 94 := by
      rcases Nat.lt_or_ge at' s.size with h1 | h1
      · exact .inr (fun h2 => hc ⟨h1, (u8_at 94).1 h2⟩)
      · exact .inl h1
    have ck := next_no s pb B at' g code bad 94 u h.par hno
    have EC : classF s at' = match itemsF (s.size + 1) s at' true ⟨#[]⟩ with | .error k => .error k | .ok (set, j) => .ok (⟨3, 0, set, false, 0, 0⟩, j) := if_neg hc
    clear hc hno
    obtain ⟨R, hR⟩ : ∃ R, itemsF (s.size + 1) s at' true ⟨#[]⟩ = R := ⟨_, rfl⟩
    rw [hR] at EC
    have KE : Aside (∀ (k : Nat) w', R = .error k → Par s pb B k g code (k : Int) w' → Below B w w' → KPost s pb B g code bad w (classF s at') (.returned (.bool false)) w') := fun k w' hk h1 h2 => by
      rw [EC, hk]; exact ⟨rfl, h1, h2⟩
    have KO : Aside (∀ (set : ByteArray) (j : Nat) w', R = .ok (set, j) → Par s pb B j g (code ++ [⟨3, 0, set, false, 0, 0⟩]) bad w' → Below B w w' → KPost s pb B g code bad w (classF s at') (.returned (.bool true)) w') := fun set j w' hk h1 h2 => by
      rw [EC, hk]; exact ⟨rfl, h1, h2⟩
    have HR : Aside (itemsF (s.size + 1) s at' true ⟨#[]⟩ = R) := hR
    have HO := h.hr
    have hob : ∀ k, v.ownBlock = some k → k < u.heap.size := fun k hk => (HO.lt k hk).2
    clear EC hR h h0 HO
    go_enter Try.func72, Try.ntmps72
    go_wp2_with fail
    refine ck.mono ?_
    rintro e u1 ⟨rfl, hb⟩
    have HB1 : Aside (Below B w u1) := HB.out.trans (hb.mono HP.out.size.2)
    have hsz := hb.size
    have HP1 : Aside (ParV s pb B at' g code bad v u1) := HP.out.later hb
    clear hb
    have nvi' : v.ownBlock ≠ some u1.heap.size := fun e => by have := hob _ e; omega
    have npi' : ¬ pb = u1.heap.size := by have := HP1.out.size.1; omega
    have hBi' : B ≤ u1.heap.size := HP1.out.size.2
    have CS0 : Aside (ClSt s pb B at' g code bad v u1.heap.size false ⟨#[]⟩ w (u1.alloc (.cells #[.int .i64 3, .int .u8 0, .string ⟨#[]⟩, .bool false, .int .i64 0, .int .i64 0] 34))) := ⟨HP1.out.later ((Below.refl _ _).alloc (Nat.le_refl _) _), hp_new rfl, HB1.out.alloc HP1.out.size.2 _⟩
    clear HP HB HP1 HB1 hob hsz ck
    go_wp2
    generalize (u1.alloc (.cells #[.int .i64 3, .int .u8 0, .string ⟨#[]⟩, .bool false, .int .i64 0, .int .i64 0] 34)) = u2 at CS0 ⊢
    obtain ⟨ib, hib⟩ : ∃ ib, u1.heap.size = ib := ⟨_, rfl⟩
    rw [hib] at CS0 nvi' npi' hBi' ⊢
    have nvi : v.ownBlock ≠ some ib := nvi'
    have npi : ¬ pb = ib := npi'
    have nip : ¬ ib = pb := fun e => npi e.symm
    have hBi : B ≤ ib := hBi'
    clear hib nvi' npi' hBi'
    go_loopg [4] (s.size + 1) (fun k s4 wr => ∃ (i : Nat) (first : Bool) (set : ByteArray), s4 = .bool first ∧ Aside (itemsF k s i first set = R) ∧ s.size < i + k ∧ i ≤ s.size ∧ set.size ≤ 2 * i ∧ Aside (ClSt s pb B i g code bad v ib false set w wr))
    case atStart => exact ⟨at', true, ⟨#[]⟩, rfl, HR.out, by omega, by omega, Nat.zero_le _, CS0.out⟩
    case round =>
      obtain ⟨i, first, set, rfl, FE, hk, hi, hss, CS⟩ := hrel
      obtain ⟨k1, rfl⟩ : ∃ k1, gk = k1 + 1 := ⟨gk - 1, by omega⟩
      clear CS0 HR
      cases first with
      | true =>
        have NC : Aside (NCl s i true) := (show ¬ _ by simp)
        have ch := fun W (h : ParV s pb B i g code bad v W) => char_calls s pb B i g code bad v W W (grefl _ _) h hz
        cases hch : charF s i with
        | error kk =>
          rw [hch] at ch
          have RR : Aside (R = .error kk) := FE.out.symm.trans (items_err NC.out hch)
          clear hch NC FE
          go_wp2_with fail
          refine (ch _ CS.out.par).mono ?_
          rintro e y19 ⟨rfl, hp, hg⟩
          have CS' : Aside (ClSt s pb B kk g code ((kk : Nat) : Int) v ib false set w y19) := CS.out.grown hp hg nip
          clear hp hg CS 
          have CS : Aside (ClSt s pb B kk g code ((kk : Nat) : Int) v ib false set w y19) := CS'.out
          clear CS'
          go_wp2
          refine bodyPost_ret (v := .bool false) (by simp [results, Try.results72, go_sem, ↓IntWalk.iteOmega, *]) rfl (KE.out kk _ RR.out CS.out.par.par CS.out.hb)
        | ok r1 =>
          obtain ⟨a, j⟩ := r1
          rw [hch] at ch
          have hij := charF_pos hch
          go_wp2_with fail
          refine (ch _ CS.out.par).mono ?_
          rintro e y20 ⟨rfl, hp, hg⟩
          have CS' : Aside (ClSt s pb B j g code bad v ib false set w y20) := CS.out.grown hp hg nip
          clear hp hg CS ch
          have CS : Aside (ClSt s pb B j g code bad v ib false set w y20) := CS'.out
          clear CS'
          by_cases hd : j < s.size ∧ s[j]! = 45
          rotate_left
          · have RR : Aside (itemsF k1 s j false (set ++ ⟨#[a, a]⟩) = R) := (items_one NC.out hch hd).symm.trans FE.out
            have hno : s.size ≤ j ∨ pkB s j ≠ 45 := by
              rcases Nat.lt_or_ge j s.size with h1 | h1
              · exact .inr (fun h2 => hd ⟨h1, (u8_at 45).1 h2⟩)
              · exact .inl h1
            clear hd hch NC FE
            go_wp2_with fail
            refine (next_no s pb B j g code bad 45 _ CS.out.par.par hno).mono ?_
            rintro e y21 ⟨rfl, hb⟩
            have CS' : Aside (ClSt s pb B j g code bad v ib false set w y21) := CS.out.later hb
            clear hb CS 
            have CS : Aside (ClSt s pb B j g code bad v ib false set w y21) := CS'.out
            clear CS'
            have hjn : j ≤ s.size := hij.2
            clear hno
            have hcv := conv2 y21 a a
            have hst := CS.out.box
            have lti : ib < y21.heap.size := (Array.getElem?_eq_some_iff.1 hst).1
            have ic2 := cell_heap hst 2 _ rfl
            have nal : ¬ y21.heap.size = ib := by omega
            have nal2 : ¬ ib = y21.heap.size := by omega
            have CS2 : Aside (ClSt s pb B j g code bad v ib false set w (y21.alloc (.cells #[.int .u8 (a.toNat : Int), .int .u8 (a.toNat : Int)] 5))) := CS.out.later ((Below.refl _ _).alloc (Nat.le_refl _) _)
            have CS3 : Aside (ClSt s pb B j g code bad v ib false (set ++ ⟨#[a, a]⟩) w (holds (y21.alloc (.cells #[.int .u8 (a.toNat : Int), .int .u8 (a.toNat : Int)] 5)) ib #[.int .i64 3, .int .u8 0, .string (set ++ ⟨#[a, a]⟩), .bool false, .int .i64 0, .int .i64 0] 34)) := CS2.out.put hBi npi nvi _
            have hal : ∀ o, (holds y21 ib #[.int .i64 3, .int .u8 0, .string set, .bool false, .int .i64 0, .int .i64 0] 34).alloc o = holds (y21.alloc o) ib #[.int .i64 3, .int .u8 0, .string set, .bool false, .int .i64 0, .int .i64 0] 34 := fun o => alloc_holds lti o
            have hcv2 : (convert 82 9 (.slice (some ⟨y21.heap.size, 0, none⟩) 2 2)).run Try.prog (holds (y21.alloc (.cells #[.int .u8 (a.toNat : Int), .int .u8 (a.toNat : Int)] 5)) ib #[.int .i64 3, .int .u8 0, .string set, .bool false, .int .i64 0, .int .i64 0] 34) = .ok (.string ⟨#[a, a]⟩) (holds (y21.alloc (.cells #[.int .u8 (a.toNat : Int), .int .u8 (a.toNat : Int)] 5)) ib #[.int .i64 3, .int .u8 0, .string set, .bool false, .int .i64 0, .int .i64 0] 34) := by
              rw [← hal, ← holds_self hst]
              exact hcv
            rw [holds_self hst]
            clear hst CS CS2 hcv
            go_wp2
            go_roundg k1
            case measure => omega
            case rel => exact ⟨j, false, _, rfl, RR.out, by omega, by omega, by rw [ByteArray.size_append]; show set.size + 2 ≤ _; omega, CS3.out⟩
          have hch2 := fun W (h : ParV s pb B (j + 1) g code bad v W) => char_calls s pb B (j + 1) g code bad v W W (grefl _ _) h hz
          have hnx := fun W (h : ParV s pb B j g code bad v W) => next_yes s pb B j g code bad v 45 W h (by omega) hd.1 (by rw [pk_eq, hd.2]; rfl)
          go_wp2_with fail
          refine (hnx _ CS.out.par).mono ?_
          rintro e y22 ⟨rfl, hp, hg⟩
          have CS' : Aside (ClSt s pb B (j + 1) g code bad v ib false set w y22) := CS.out.grown hp hg nip
          clear hp hg CS hnx
          have CS : Aside (ClSt s pb B (j + 1) g code bad v ib false set w y22) := CS'.out
          clear CS'
          cases hc2 : charF s (j + 1) with
          | error kk =>
            rw [hc2] at hch2
            have RR : Aside (R = .error kk) := FE.out.symm.trans (items_rerr NC.out hch hd hc2)
            clear hch NC FE hd hc2
            go_wp2_with fail
            refine (hch2 _ CS.out.par).mono ?_
            rintro e y23 ⟨rfl, hp, hg⟩
            have CS' : Aside (ClSt s pb B kk g code ((kk : Nat) : Int) v ib false set w y23) := CS.out.grown hp hg nip
            clear hp hg CS 
            have CS : Aside (ClSt s pb B kk g code ((kk : Nat) : Int) v ib false set w y23) := CS'.out
            clear CS'
            go_wp2
            refine bodyPost_ret (v := .bool false) (by simp [results, Try.results72, go_sem, ↓IntWalk.iteOmega, *]) rfl (KE.out kk _ RR.out CS.out.par.par CS.out.hb)
          | ok r2 =>
            obtain ⟨b, m⟩ := r2
            rw [hc2] at hch2
            have hjm := charF_pos hc2
            go_wp2_with fail
            refine (hch2 _ CS.out.par).mono ?_
            rintro e y24 ⟨rfl, hp, hg⟩
            have CS' : Aside (ClSt s pb B m g code bad v ib false set w y24) := CS.out.grown hp hg nip
            clear hp hg CS hch2
            have CS : Aside (ClSt s pb B m g code bad v ib false set w y24) := CS'.out
            clear CS'
            by_cases hl : b < a
            · have hlz : decide ((b.toNat : Int) < (a.toNat : Int)) = true := decide_eq_true (by have := UInt8.lt_iff_toNat_lt.1 hl; omega)
              have hlz2 : (b.toNat : Int) < (a.toNat : Int) := by have := UInt8.lt_iff_toNat_lt.1 hl; omega
              have RR : Aside (R = .error (m - 1)) := FE.out.symm.trans (items_less NC.out hch hd hc2 hl)
              clear hch NC FE hd hc2 hl
              have h1 := CS.out.par.hp
              have lt : pb < y24.heap.size := (Array.getElem?_eq_some_iff.1 h1).1
              have hwr : IntKind.i64.wrap ((m : Int) - 1) = (m : Int) - 1 := by rw [IntKind.wrap_i64]; omega
              have hp := CS.out.par.put (m - 1) g bad
              have hcast : ((m - 1 : Nat) : Int) = (m : Int) - 1 := by omega
              rw [hcast] at hp
              have CS' : Aside (ClSt s pb B (m - 1) g code bad v ib false set w (holds y24 pb #[.string s, .int .i64 ((m : Int) - 1), .int .i64 (g : Int), v, .int .i64 bad] 46)) := CS.out.grown hp (gholds _ _ _ _) nip
              rw [holds_self h1]
              clear h1 hp hcast CS
              go_wp2_with fail
              clear hwr lt
              generalize holds y24 pb #[.string s, .int .i64 ((m : Int) - 1), .int .i64 (g : Int), v, .int .i64 bad] 46 = y9 at CS' ⊢
              have CS : Aside (ClSt s pb B (m - 1) g code bad v ib false set w y9) := CS'.out
              clear CS'
              refine (fail_calls s pb B (m - 1) g code bad v _ CS.out.par).mono ?_
              rintro e y25 ⟨rfl, hp, hg⟩
              have CS' : Aside (ClSt s pb B (m - 1) g code (((m - 1) : Nat) : Int) v ib false set w y25) := CS.out.grown hp hg nip
              clear hp hg CS 
              have CS : Aside (ClSt s pb B (m - 1) g code (((m - 1) : Nat) : Int) v ib false set w y25) := CS'.out
              clear CS'
              go_wp2
              refine bodyPost_ret (v := .bool false) (by simp [results, Try.results72, go_sem, ↓IntWalk.iteOmega, *]) rfl (KE.out (m - 1) _ RR.out CS.out.par.par CS.out.hb)
            · have hlz : decide ((b.toNat : Int) < (a.toNat : Int)) = false := decide_eq_false (by intro h; exact hl (UInt8.lt_iff_toNat_lt.2 (by omega)))
              have hlz2 : ¬ (b.toNat : Int) < (a.toNat : Int) := by intro h; exact hl (UInt8.lt_iff_toNat_lt.2 (by omega))
              have RR : Aside (itemsF k1 s m false (set ++ ⟨#[a, b]⟩) = R) := (items_two NC.out hch hd hc2 hl).symm.trans FE.out
              clear hch NC FE hd hc2 hl
              have hcv := conv2 y24 a b
              have hst := CS.out.box
              have lti : ib < y24.heap.size := (Array.getElem?_eq_some_iff.1 hst).1
              have ic2 := cell_heap hst 2 _ rfl
              have nal : ¬ y24.heap.size = ib := by omega
              have nal2 : ¬ ib = y24.heap.size := by omega
              have CS2 : Aside (ClSt s pb B m g code bad v ib false set w (y24.alloc (.cells #[.int .u8 (a.toNat : Int), .int .u8 (b.toNat : Int)] 5))) := CS.out.later ((Below.refl _ _).alloc (Nat.le_refl _) _)
              have CS3 : Aside (ClSt s pb B m g code bad v ib false (set ++ ⟨#[a, b]⟩) w (holds (y24.alloc (.cells #[.int .u8 (a.toNat : Int), .int .u8 (b.toNat : Int)] 5)) ib #[.int .i64 3, .int .u8 0, .string (set ++ ⟨#[a, b]⟩), .bool false, .int .i64 0, .int .i64 0] 34)) := CS2.out.put hBi npi nvi _
              have hal : ∀ o, (holds y24 ib #[.int .i64 3, .int .u8 0, .string set, .bool false, .int .i64 0, .int .i64 0] 34).alloc o = holds (y24.alloc o) ib #[.int .i64 3, .int .u8 0, .string set, .bool false, .int .i64 0, .int .i64 0] 34 := fun o => alloc_holds lti o
              have hcv2 : (convert 82 9 (.slice (some ⟨y24.heap.size, 0, none⟩) 2 2)).run Try.prog (holds (y24.alloc (.cells #[.int .u8 (a.toNat : Int), .int .u8 (b.toNat : Int)] 5)) ib #[.int .i64 3, .int .u8 0, .string set, .bool false, .int .i64 0, .int .i64 0] 34) = .ok (.string ⟨#[a, b]⟩) (holds (y24.alloc (.cells #[.int .u8 (a.toNat : Int), .int .u8 (b.toNat : Int)] 5)) ib #[.int .i64 3, .int .u8 0, .string set, .bool false, .int .i64 0, .int .i64 0] 34) := by
                rw [← hal, ← holds_self hst]
                exact hcv
              rw [holds_self hst]
              clear hst CS CS2 hcv
              go_wp2
              go_roundg k1
              case measure => omega
              case rel => exact ⟨m, false, _, rfl, RR.out, by omega, by omega, by rw [ByteArray.size_append]; show set.size + 2 ≤ _; omega, CS3.out⟩
      | false =>
        by_cases hcl : i < s.size ∧ s[i]! = 93
        · have RR : Aside (R = .ok (set, i + 1)) := FE.out.symm.trans (items_close hcl.1 hcl.2)
          have hnx := fun W (h : ParV s pb B i g code bad v W) => next_yes s pb B i g code bad v 93 W h (by omega) hcl.1 (by rw [pk_eq, hcl.2]; rfl)
          clear hcl FE
          go_wp2_with fail
          refine (hnx _ CS.out.par).mono ?_
          rintro e y26 ⟨rfl, hp, hg⟩
          have CS' : Aside (ClSt s pb B (i + 1) g code bad v ib false set w y26) := CS.out.grown hp hg nip
          clear hp hg CS hnx
          have CS : Aside (ClSt s pb B (i + 1) g code bad v ib false set w y26) := CS'.out
          clear CS'
          have lti : ib < y26.heap.size := (Array.getElem?_eq_some_iff.1 CS.out.box).1
          have ic0 := cell_heap CS.out.box 0 _ rfl
          have ic1 := cell_heap CS.out.box 1 _ rfl
          have ic2 := cell_heap CS.out.box 2 _ rfl
          have ic3 := cell_heap CS.out.box 3 _ rfl
          have ic4 := cell_heap CS.out.box 4 _ rfl
          have ic5 := cell_heap CS.out.box 5 _ rfl
          go_wp2_with fail
          refine (emit_calls s pb B (i + 1) g code bad 3 0 set false 0 0 _ CS.out.par.par (by omega)).mono ?_
          rintro e y8 ⟨rfl, hp, hb⟩
          have HPE : Aside (Par s pb B (i + 1) g (code ++ [⟨3, 0, set, false, 0, 0⟩]) bad y8) := hp
          have HBE : Aside (Below B w y8) := CS.out.hb.trans hb
          clear hp hb CS ic0 ic1 ic2 ic3 ic4 ic5 lti
          go_wp2
          refine bodyPost_ret (v := .bool true) (by simp [results, Try.results72, go_sem, ↓IntWalk.iteOmega, *]) rfl (KO.out set (i + 1) _ RR.out HPE.out HBE.out)
        have NCL : Aside (NCl s i false) := fun h => hcl h.2
        have hno : s.size ≤ i ∨ pkB s i ≠ 93 := by
          rcases Nat.lt_or_ge i s.size with h1 | h1
          · exact .inr (fun h2 => hcl ⟨h1, (u8_at 93).1 h2⟩)
          · exact .inl h1
        clear hcl
        go_wp2_with fail
        refine (next_no s pb B i g code bad 93 _ CS.out.par.par hno).mono ?_
        rintro e y27 ⟨rfl, hb⟩
        have CS' : Aside (ClSt s pb B i g code bad v ib false set w y27) := CS.out.later hb
        clear hb CS hno
        have CS : Aside (ClSt s pb B i g code bad v ib false set w y27) := CS'.out
        clear CS'
        have NC : Aside (NCl s i false) := NCL.out
        have ch := fun W (h : ParV s pb B i g code bad v W) => char_calls s pb B i g code bad v W W (grefl _ _) h hz
        cases hch : charF s i with
        | error kk =>
          rw [hch] at ch
          have RR : Aside (R = .error kk) := FE.out.symm.trans (items_err NC.out hch)
          clear hch NC FE
          go_wp2_with fail
          refine (ch _ CS.out.par).mono ?_
          rintro e y28 ⟨rfl, hp, hg⟩
          have CS' : Aside (ClSt s pb B kk g code ((kk : Nat) : Int) v ib false set w y28) := CS.out.grown hp hg nip
          clear hp hg CS 
          have CS : Aside (ClSt s pb B kk g code ((kk : Nat) : Int) v ib false set w y28) := CS'.out
          clear CS'
          go_wp2
          refine bodyPost_ret (v := .bool false) (by simp [results, Try.results72, go_sem, ↓IntWalk.iteOmega, *]) rfl (KE.out kk _ RR.out CS.out.par.par CS.out.hb)
        | ok r1 =>
          obtain ⟨a, j⟩ := r1
          rw [hch] at ch
          have hij := charF_pos hch
          go_wp2_with fail
          refine (ch _ CS.out.par).mono ?_
          rintro e y29 ⟨rfl, hp, hg⟩
          have CS' : Aside (ClSt s pb B j g code bad v ib false set w y29) := CS.out.grown hp hg nip
          clear hp hg CS ch
          have CS : Aside (ClSt s pb B j g code bad v ib false set w y29) := CS'.out
          clear CS'
          by_cases hd : j < s.size ∧ s[j]! = 45
          rotate_left
          · have RR : Aside (itemsF k1 s j false (set ++ ⟨#[a, a]⟩) = R) := (items_one NC.out hch hd).symm.trans FE.out
            have hno : s.size ≤ j ∨ pkB s j ≠ 45 := by
              rcases Nat.lt_or_ge j s.size with h1 | h1
              · exact .inr (fun h2 => hd ⟨h1, (u8_at 45).1 h2⟩)
              · exact .inl h1
            clear hd hch NC FE
            go_wp2_with fail
            refine (next_no s pb B j g code bad 45 _ CS.out.par.par hno).mono ?_
            rintro e y30 ⟨rfl, hb⟩
            have CS' : Aside (ClSt s pb B j g code bad v ib false set w y30) := CS.out.later hb
            clear hb CS 
            have CS : Aside (ClSt s pb B j g code bad v ib false set w y30) := CS'.out
            clear CS'
            have hjn : j ≤ s.size := hij.2
            clear hno
            have hcv := conv2 y30 a a
            have hst := CS.out.box
            have lti : ib < y30.heap.size := (Array.getElem?_eq_some_iff.1 hst).1
            have ic2 := cell_heap hst 2 _ rfl
            have nal : ¬ y30.heap.size = ib := by omega
            have nal2 : ¬ ib = y30.heap.size := by omega
            have CS2 : Aside (ClSt s pb B j g code bad v ib false set w (y30.alloc (.cells #[.int .u8 (a.toNat : Int), .int .u8 (a.toNat : Int)] 5))) := CS.out.later ((Below.refl _ _).alloc (Nat.le_refl _) _)
            have CS3 : Aside (ClSt s pb B j g code bad v ib false (set ++ ⟨#[a, a]⟩) w (holds (y30.alloc (.cells #[.int .u8 (a.toNat : Int), .int .u8 (a.toNat : Int)] 5)) ib #[.int .i64 3, .int .u8 0, .string (set ++ ⟨#[a, a]⟩), .bool false, .int .i64 0, .int .i64 0] 34)) := CS2.out.put hBi npi nvi _
            have hal : ∀ o, (holds y30 ib #[.int .i64 3, .int .u8 0, .string set, .bool false, .int .i64 0, .int .i64 0] 34).alloc o = holds (y30.alloc o) ib #[.int .i64 3, .int .u8 0, .string set, .bool false, .int .i64 0, .int .i64 0] 34 := fun o => alloc_holds lti o
            have hcv2 : (convert 82 9 (.slice (some ⟨y30.heap.size, 0, none⟩) 2 2)).run Try.prog (holds (y30.alloc (.cells #[.int .u8 (a.toNat : Int), .int .u8 (a.toNat : Int)] 5)) ib #[.int .i64 3, .int .u8 0, .string set, .bool false, .int .i64 0, .int .i64 0] 34) = .ok (.string ⟨#[a, a]⟩) (holds (y30.alloc (.cells #[.int .u8 (a.toNat : Int), .int .u8 (a.toNat : Int)] 5)) ib #[.int .i64 3, .int .u8 0, .string set, .bool false, .int .i64 0, .int .i64 0] 34) := by
              rw [← hal, ← holds_self hst]
              exact hcv
            rw [holds_self hst]
            clear hst CS CS2 hcv
            go_wp2
            go_roundg k1
            case measure => omega
            case rel => exact ⟨j, false, _, rfl, RR.out, by omega, by omega, by rw [ByteArray.size_append]; show set.size + 2 ≤ _; omega, CS3.out⟩
          have hch2 := fun W (h : ParV s pb B (j + 1) g code bad v W) => char_calls s pb B (j + 1) g code bad v W W (grefl _ _) h hz
          have hnx := fun W (h : ParV s pb B j g code bad v W) => next_yes s pb B j g code bad v 45 W h (by omega) hd.1 (by rw [pk_eq, hd.2]; rfl)
          go_wp2_with fail
          refine (hnx _ CS.out.par).mono ?_
          rintro e y31 ⟨rfl, hp, hg⟩
          have CS' : Aside (ClSt s pb B (j + 1) g code bad v ib false set w y31) := CS.out.grown hp hg nip
          clear hp hg CS hnx
          have CS : Aside (ClSt s pb B (j + 1) g code bad v ib false set w y31) := CS'.out
          clear CS'
          cases hc2 : charF s (j + 1) with
          | error kk =>
            rw [hc2] at hch2
            have RR : Aside (R = .error kk) := FE.out.symm.trans (items_rerr NC.out hch hd hc2)
            clear hch NC FE hd hc2
            go_wp2_with fail
            refine (hch2 _ CS.out.par).mono ?_
            rintro e y32 ⟨rfl, hp, hg⟩
            have CS' : Aside (ClSt s pb B kk g code ((kk : Nat) : Int) v ib false set w y32) := CS.out.grown hp hg nip
            clear hp hg CS 
            have CS : Aside (ClSt s pb B kk g code ((kk : Nat) : Int) v ib false set w y32) := CS'.out
            clear CS'
            go_wp2
            refine bodyPost_ret (v := .bool false) (by simp [results, Try.results72, go_sem, ↓IntWalk.iteOmega, *]) rfl (KE.out kk _ RR.out CS.out.par.par CS.out.hb)
          | ok r2 =>
            obtain ⟨b, m⟩ := r2
            rw [hc2] at hch2
            have hjm := charF_pos hc2
            go_wp2_with fail
            refine (hch2 _ CS.out.par).mono ?_
            rintro e y33 ⟨rfl, hp, hg⟩
            have CS' : Aside (ClSt s pb B m g code bad v ib false set w y33) := CS.out.grown hp hg nip
            clear hp hg CS hch2
            have CS : Aside (ClSt s pb B m g code bad v ib false set w y33) := CS'.out
            clear CS'
            by_cases hl : b < a
            · have hlz : decide ((b.toNat : Int) < (a.toNat : Int)) = true := decide_eq_true (by have := UInt8.lt_iff_toNat_lt.1 hl; omega)
              have hlz2 : (b.toNat : Int) < (a.toNat : Int) := by have := UInt8.lt_iff_toNat_lt.1 hl; omega
              have RR : Aside (R = .error (m - 1)) := FE.out.symm.trans (items_less NC.out hch hd hc2 hl)
              clear hch NC FE hd hc2 hl
              have h1 := CS.out.par.hp
              have lt : pb < y33.heap.size := (Array.getElem?_eq_some_iff.1 h1).1
              have hwr : IntKind.i64.wrap ((m : Int) - 1) = (m : Int) - 1 := by rw [IntKind.wrap_i64]; omega
              have hp := CS.out.par.put (m - 1) g bad
              have hcast : ((m - 1 : Nat) : Int) = (m : Int) - 1 := by omega
              rw [hcast] at hp
              have CS' : Aside (ClSt s pb B (m - 1) g code bad v ib false set w (holds y33 pb #[.string s, .int .i64 ((m : Int) - 1), .int .i64 (g : Int), v, .int .i64 bad] 46)) := CS.out.grown hp (gholds _ _ _ _) nip
              rw [holds_self h1]
              clear h1 hp hcast CS
              go_wp2_with fail
              clear hwr lt
              generalize holds y33 pb #[.string s, .int .i64 ((m : Int) - 1), .int .i64 (g : Int), v, .int .i64 bad] 46 = y9 at CS' ⊢
              have CS : Aside (ClSt s pb B (m - 1) g code bad v ib false set w y9) := CS'.out
              clear CS'
              refine (fail_calls s pb B (m - 1) g code bad v _ CS.out.par).mono ?_
              rintro e y34 ⟨rfl, hp, hg⟩
              have CS' : Aside (ClSt s pb B (m - 1) g code (((m - 1) : Nat) : Int) v ib false set w y34) := CS.out.grown hp hg nip
              clear hp hg CS 
              have CS : Aside (ClSt s pb B (m - 1) g code (((m - 1) : Nat) : Int) v ib false set w y34) := CS'.out
              clear CS'
              go_wp2
              refine bodyPost_ret (v := .bool false) (by simp [results, Try.results72, go_sem, ↓IntWalk.iteOmega, *]) rfl (KE.out (m - 1) _ RR.out CS.out.par.par CS.out.hb)
            · have hlz : decide ((b.toNat : Int) < (a.toNat : Int)) = false := decide_eq_false (by intro h; exact hl (UInt8.lt_iff_toNat_lt.2 (by omega)))
              have hlz2 : ¬ (b.toNat : Int) < (a.toNat : Int) := by intro h; exact hl (UInt8.lt_iff_toNat_lt.2 (by omega))
              have RR : Aside (itemsF k1 s m false (set ++ ⟨#[a, b]⟩) = R) := (items_two NC.out hch hd hc2 hl).symm.trans FE.out
              clear hch NC FE hd hc2 hl
              have hcv := conv2 y33 a b
              have hst := CS.out.box
              have lti : ib < y33.heap.size := (Array.getElem?_eq_some_iff.1 hst).1
              have ic2 := cell_heap hst 2 _ rfl
              have nal : ¬ y33.heap.size = ib := by omega
              have nal2 : ¬ ib = y33.heap.size := by omega
              have CS2 : Aside (ClSt s pb B m g code bad v ib false set w (y33.alloc (.cells #[.int .u8 (a.toNat : Int), .int .u8 (b.toNat : Int)] 5))) := CS.out.later ((Below.refl _ _).alloc (Nat.le_refl _) _)
              have CS3 : Aside (ClSt s pb B m g code bad v ib false (set ++ ⟨#[a, b]⟩) w (holds (y33.alloc (.cells #[.int .u8 (a.toNat : Int), .int .u8 (b.toNat : Int)] 5)) ib #[.int .i64 3, .int .u8 0, .string (set ++ ⟨#[a, b]⟩), .bool false, .int .i64 0, .int .i64 0] 34)) := CS2.out.put hBi npi nvi _
              have hal : ∀ o, (holds y33 ib #[.int .i64 3, .int .u8 0, .string set, .bool false, .int .i64 0, .int .i64 0] 34).alloc o = holds (y33.alloc o) ib #[.int .i64 3, .int .u8 0, .string set, .bool false, .int .i64 0, .int .i64 0] 34 := fun o => alloc_holds lti o
              have hcv2 : (convert 82 9 (.slice (some ⟨y33.heap.size, 0, none⟩) 2 2)).run Try.prog (holds (y33.alloc (.cells #[.int .u8 (a.toNat : Int), .int .u8 (b.toNat : Int)] 5)) ib #[.int .i64 3, .int .u8 0, .string set, .bool false, .int .i64 0, .int .i64 0] 34) = .ok (.string ⟨#[a, b]⟩) (holds (y33.alloc (.cells #[.int .u8 (a.toNat : Int), .int .u8 (b.toNat : Int)] 5)) ib #[.int .i64 3, .int .u8 0, .string set, .bool false, .int .i64 0, .int .i64 0] 34) := by
                rw [← hal, ← holds_self hst]
                exact hcv
              rw [holds_self hst]
              clear hst CS CS2 hcv
              go_wp2
              go_roundg k1
              case measure => omega
              case rel => exact ⟨m, false, _, rfl, RR.out, by omega, by omega, by rw [ByteArray.size_append]; show set.size + 2 ≤ _; omega, CS3.out⟩

end Go.Proofs.Ytfhccmegobbnaaa
