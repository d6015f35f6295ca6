/- This text joins the walks of the calls of package cache and of its reference: at a valid cache each returns what one function on lists says, and a valid cache. Conditions: those that each theorem names. -/
import Derived.Test.YtcgajlobbjoefaaCacheZ
namespace Go.Proofs.Ytcgajlobbjoefaa
open Go.ChangeShapes Go.WideShapes Go.ChangeAt Go.RowKit
set_option linter.unusedVariables false
set_option linter.unusedSimpArgs false

def holdG (x : Hd) (hs : List Hd) : Bool := rangedB x && !(decide (holdI x.hid hs = -1) && decide (64 ≤ hs.length))
/-- Hold, on lists. -/
def holdF (x : Hd) (bl : List Pc) (hs : List Hd) : List Pc × List Hd :=
  if holdG x hs = true then (if 0 ≤ holdI x.hid hs ∧ hs[(holdI x.hid hs).toNat]!.vers ≠ x.vers then notI x.hid bl else bl, putH x hs) else (bl, hs)
/-- Put, on lists. -/
def putF (cp : Int) (p : Pc) (bl : List Pc) (hs : List Hd) : List Pc := if permB hs p = true ∧ cp ≠ 0 then putL cp p bl else bl
/-- Get, on lists. -/
def restF (at' : Int) (p : Pc) : ByteArray := p.data.extract (at' - p.pos).toNat p.data.size
def getF (id at' cnt now : Int) (bl : List Pc) (hs : List Hd) : List Pc × ByteArray × Bool :=
  if heldB id now hs = false ∨ at' < 0 ∨ cnt < 0 then (bl, ⟨#[]⟩, false)
  else if 0 ≤ endI id bl ∧ bl[(endI id bl).toNat]!.pos ≤ at' then (useL (endI id bl).toNat bl, ⟨#[]⟩, true)
  else if covI id at' bl = -1 then (bl, ⟨#[]⟩, false)
  else if cnt ≤ ((restF at' bl[(covI id at' bl).toNat]!).size : Int) then (useL (covI id at' bl).toNat bl, (restF at' bl[(covI id at' bl).toNat]!).extract 0 cnt.toNat, true)
  else if endI id bl = -1 ∨ bl[(endI id bl).toNat]!.pos ≠ endP bl[(covI id at' bl).toNat]! then (bl, ⟨#[]⟩, false)
  else (useL (endI id (useL (covI id at' bl).toNat bl)).toNat (useL (covI id at' bl).toNat bl), restF at' bl[(covI id at' bl).toNat]!, true)

theorem end_cases (id : Int) (bl : List Pc) : endI id bl = -1 ∨ ∃ k : Nat, k < bl.length ∧ endI id bl = (k : Int) ∧ isE id bl[k]! = true := by
  rcases fstI_spec (isE id) bl with ⟨h, _⟩ | ⟨k, h1, h2, h3, _⟩
  · exact .inl h
  · exact .inr ⟨k, h1, h2, h3⟩
theorem cov_cases (id at' : Int) (bl : List Pc) : covI id at' bl = -1 ∨ ∃ k : Nat, k < bl.length ∧ covI id at' bl = (k : Int) ∧ isC id at' bl[k]! = true := by
  rcases fstI_spec (isC id at') bl with ⟨h, _⟩ | ⟨k, h1, h2, h3, _⟩
  · exact .inl h
  · exact .inr ⟨k, h1, h2, h3⟩
theorem end_some {id : Int} {bl : List Pc} {y : Pc} (hy : y ∈ bl) (h : isE id y = true) : ∃ k : Nat, k < bl.length ∧ endI id bl = (k : Int) := by
  rcases fstI_spec (isE id) bl with ⟨_, hn⟩ | ⟨k, h1, h2, _, _⟩
  · obtain ⟨i, hi, e⟩ := get!_of_mem hy
    have := hn i hi
    rw [e, h] at this
    cases this
  · exact ⟨k, h1, h2⟩
theorem isC_in {id at' : Int} {y : Pc} (h : isC id at' y = true) : y.pid = id ∧ y.pos ≤ at' ∧ at' < endP y := by
  unfold isC at h
  rw [Bool.and_eq_true, Bool.and_eq_true, decide_eq_true_eq, decide_eq_true_eq, decide_eq_true_eq] at h
  exact h

theorem get_walk {P : List Pc × ByteArray × Bool → Prop} (id at' cnt now : Int) (bl : List Pc) (hs : List Hd)
    (hno : heldB id now hs = false ∨ at' < 0 ∨ cnt < 0 → P (bl, ⟨#[]⟩, false))
    (hend : heldB id now hs = true → 0 ≤ at' → 0 ≤ cnt → ∀ k : Nat, k < bl.length → endI id bl = (k : Int) → bl[k]!.pos ≤ at' → P (useL k bl, ⟨#[]⟩, true))
    (hnone : heldB id now hs = true → 0 ≤ at' → 0 ≤ cnt → (endI id bl = -1 ∨ ∃ k : Nat, k < bl.length ∧ endI id bl = (k : Int) ∧ at' < bl[k]!.pos) → covI id at' bl = -1 → P (bl, ⟨#[]⟩, false))
    (hpart : heldB id now hs = true → 0 ≤ at' → 0 ≤ cnt → (endI id bl = -1 ∨ ∃ k : Nat, k < bl.length ∧ endI id bl = (k : Int) ∧ at' < bl[k]!.pos) → ∀ j : Nat, j < bl.length → covI id at' bl = (j : Int) → bl[j]!.pos ≤ at' → at' < endP bl[j]! → cnt ≤ ((restF at' bl[j]!).size : Int) → P (useL j bl, (restF at' bl[j]!).extract 0 cnt.toNat, true))
    (hshort : heldB id now hs = true → 0 ≤ at' → 0 ≤ cnt → ∀ j : Nat, j < bl.length → (endI id bl = -1 ∨ ∃ k : Nat, k < bl.length ∧ endI id bl = (k : Int) ∧ at' < bl[k]!.pos ∧ bl[k]!.pos ≠ endP bl[j]!) → covI id at' bl = (j : Int) → bl[j]!.pos ≤ at' → at' < endP bl[j]! → ((restF at' bl[j]!).size : Int) < cnt → P (bl, ⟨#[]⟩, false))
    (hrest : heldB id now hs = true → 0 ≤ at' → 0 ≤ cnt → ∀ k j m : Nat, k < bl.length → endI id bl = (k : Int) → at' < bl[k]!.pos → j < bl.length → covI id at' bl = (j : Int) → bl[j]!.pos ≤ at' → at' < endP bl[j]! → ((restF at' bl[j]!).size : Int) < cnt → bl[k]!.pos = endP bl[j]! → m < bl.length → endI id (useL j bl) = (m : Int) → P (useL m (useL j bl), restF at' bl[j]!, true)) :
    P (getF id at' cnt now bl hs) := by
  unfold getF
  split
  · rename_i h; exact hno h
  · rename_i h
    have h1 : heldB id now hs = true := by
      cases e : heldB id now hs with
      | true => rfl
      | false => exact absurd (.inl e) h
    have h2 : 0 ≤ at' := by
      rcases Int.lt_or_le at' 0 with e | e
      · exact absurd (.inr (.inl e)) h
      · exact e
    have h3 : 0 ≤ cnt := by
      rcases Int.lt_or_le cnt 0 with e | e
      · exact absurd (.inr (.inr e)) h
      · exact e
    clear h
    rcases end_cases id bl with he | ⟨k, hk, he, hke⟩
    · rw [if_neg (by rw [he]; omega)]
      rcases cov_cases id at' bl with hc | ⟨j, hj, hc, hjc⟩
      · rw [if_pos hc]; exact hnone h1 h2 h3 (.inl he) hc
      · obtain ⟨_, q1, q2⟩ := isC_in hjc
        rw [if_neg (by rw [hc]; omega)]
        simp only [hc, Int.toNat_natCast]
        split
        · rename_i hq; exact hpart h1 h2 h3 (.inl he) j hj hc q1 q2 hq
        · rename_i hq
          rw [if_pos (.inl he)]
          exact hshort h1 h2 h3 j hj (.inl he) hc q1 q2 (by omega)
    · simp only [he, Int.toNat_natCast]
      split
      · rename_i hq; exact hend h1 h2 h3 k hk he hq.2
      · rename_i hq
        have hq : at' < bl[k]!.pos := by
          rcases Int.lt_or_le at' bl[k]!.pos with e | e
          · exact e
          · exact absurd ⟨by omega, e⟩ hq
        rcases cov_cases id at' bl with hc | ⟨j, hj, hc, hjc⟩
        · rw [if_pos hc]; exact hnone h1 h2 h3 (.inr ⟨k, hk, he, hq⟩) hc
        · obtain ⟨hid, q1, q2⟩ := isC_in hjc
          rw [if_neg (by rw [hc]; omega)]
          simp only [hc, Int.toNat_natCast]
          split
          · rename_i hl; exact hpart h1 h2 h3 (.inr ⟨k, hk, he, hq⟩) j hj hc q1 q2 hl
          · rename_i hl
            by_cases hx : bl[k]!.pos = endP bl[j]!
            · rw [if_neg (by rw [hx]; rintro (e | e); · omega
                             · exact e rfl)]
              obtain ⟨m, hm, em⟩ := end_some (id := id) ((useL_perm hj).mem_iff.2 (mem_get! hk)) hke
              rw [useL_len hj] at hm
              simp only [em, Int.toNat_natCast]
              exact hrest h1 h2 h3 k j m hk he hq hj hc q1 q2 (by omega) hx hm em
            · rw [if_pos (.inr hx)]
              exact hshort h1 h2 h3 j hj (.inr ⟨k, hk, he, hq, hx⟩) hc q1 q2 (by omega)

/-! ### They stay valid -/
theorem RightP.holdF {cp : Int} {bl : List Pc} {hs : List Hd} (h : RightP cp bl hs) (x : Hd) : RightP cp (Proofs.Ytcgajlobbjoefaa.holdF x bl hs).1 (Proofs.Ytcgajlobbjoefaa.holdF x bl hs).2 := by
  unfold Proofs.Ytcgajlobbjoefaa.holdF
  split
  · rename_i hg
    unfold holdG at hg
    rw [Bool.and_eq_true] at hg
    obtain ⟨hr, hg⟩ := hg
    rcases hold_cases x.hid hs with ⟨e, he⟩ | ⟨k, hk, e, he, _⟩
    · rw [e] at hg ⊢
      rw [if_neg (by omega)]
      exact h.insert x hr he (by simpa using hg)
    · simp only [e, Int.toNat_natCast]
      split
      · rename_i hv
        refine h.set List.filter_sublist hk x hr he (fun p hp hpi => ?_)
        exact absurd hpi (notI_mem.1 hp).2
      · rename_i hv
        refine h.set (List.Sublist.refl _) hk x hr he (fun p hp hpi => ?_)
        obtain ⟨y, hy, y1, y2⟩ := h.perm p hp
        obtain ⟨i, hi, ei⟩ := get!_of_mem hy
        have : i = k := asc_index h.asc hi hk (by rw [ei, y1, hpi, he])
        rw [this] at ei
        rw [← y2, ← ei]
        exact Classical.byContradiction fun hn => hv ⟨by omega, hn⟩
  · exact h
theorem RightP.putF {cp : Int} {bl : List Pc} {hs : List Hd} (h : RightP cp bl hs) (p : Pc) : RightP cp (Proofs.Ytcgajlobbjoefaa.putF cp p bl hs) hs := by
  unfold Proofs.Ytcgajlobbjoefaa.putF
  split
  · rename_i hq; exact h.put p hq.1 hq.2
  · exact h
theorem RightP.use {cp : Int} {bl : List Pc} {hs : List Hd} (h : RightP cp bl hs) {k : Nat} (hk : k < bl.length) : RightP cp (useL k bl) hs := h.permuted (useL_perm hk)
theorem RightP.getF {cp : Int} {bl : List Pc} {hs : List Hd} (h : RightP cp bl hs) (id at' cnt now : Int) : RightP cp (Proofs.Ytcgajlobbjoefaa.getF id at' cnt now bl hs).1 hs :=
  get_walk (P := fun r => RightP cp r.1 hs) id at' cnt now bl hs (fun _ => h) (fun _ _ _ k hk _ _ => h.use hk) (fun _ _ _ _ _ => h) (fun _ _ _ _ j hj _ _ _ _ => h.use hj) (fun _ _ _ _ _ _ _ _ _ _ => h) (fun _ _ _ k j m _ _ _ hj _ _ _ _ _ hm _ => (h.use hj).use (by rw [useL_len hj]; exact hm))

/-! ### The walks, joined -/
theorem cop_r {w : World} {cp : Int} {bl : List Pc} {hs : List Hd} {e : Ending} {w' : World} (h : CopPost w cp bl hs e w') : RPost w cp bl hs e w' := by
  obtain ⟨a1, k1, a2, k2, he, o1, o2, hb⟩ := h
  exact ⟨a1, k1, a2, k2, he, own_slP o1, own_slH o2, hb⟩
theorem fits_ {a b c d : Prop} (h : a ∧ b ∧ c ∧ d) : a ∧ b ∧ c ∧ d := h

theorem hold_all (cp : Int) (ao : Option Addr) (n c1 : Nat) (ao2 : Option Addr) (n2 c2 : Nat) (bl : List Pc) (hs : List Hd) (id vers til : Int) (w : World) (h1 : Sl w 4 ao n c1 (bl.map Pc.enc)) (h2 : Sl w 3 ao2 n2 c2 (hs.map Hd.enc)) (h : RightP cp bl hs) :
    Calls Try.prog 22 #[.agg #[.int .i64 cp, .slice ao n c1, .slice ao2 n2 c2], .int .i64 id, .int .i64 vers, .int .i64 til] w fun e w' => RPost w cp (holdF ⟨id, vers, til⟩ bl hs).1 (holdF ⟨id, vers, til⟩ bl hs).2 e w' := by
  have l1 := Sl.lenE h1
  have l2 := Sl.lenE h2
  have b1 := h.len
  have b2 := h.cap
  have b3 := h.hlen
  cases hr : rangedB (⟨id, vers, til⟩ : Hd) with
  | false =>
    have e : holdF ⟨id, vers, til⟩ bl hs = (bl, hs) := by unfold holdF holdG; rw [hr]; rfl
    rw [e]
    exact (hold_denied cp ao n c1 ao2 n2 c2 bl hs id vers til w h1 h2 (by omega) (by omega) hr).mono fun e w' h => cop_r h
  | true =>
    have hg := hr
    unfold rangedB at hg
    rw [decide_eq_true_eq] at hg
    obtain ⟨g1, g2, g3, g4, g5, g6⟩ := hg
    rcases hold_cases id hs with ⟨ei, he⟩ | ⟨k, hk, ei, he, _⟩
    · by_cases hf : 64 ≤ hs.length
      · have e : holdF ⟨id, vers, til⟩ bl hs = (bl, hs) := by unfold holdF holdG; simp only []; rw [hr, ei, decide_eq_true hf]; rfl
        rw [e]
        exact (hold_full cp ao n c1 ao2 n2 c2 bl hs id vers til w h1 h2 (by omega) (by omega) ⟨g1, g2⟩ ⟨g3, g4⟩ ⟨g5, g6⟩ h.asc he (by omega)).mono fun e w' h => cop_r h
      · have e : holdF ⟨id, vers, til⟩ bl hs = (bl, putH ⟨id, vers, til⟩ hs) := by
          unfold holdF holdG; simp only []; rw [hr, ei, decide_eq_false hf, if_pos (by rfl), if_neg (by omega)]
        rw [e]
        simp only []
        rw [put_miss_eq h.asc ⟨id, vers, til⟩ he]
        exact (hold_insert cp ao n c1 ao2 n2 c2 bl hs id vers til w h1 h2 (by omega) (by omega) ⟨g1, g2⟩ ⟨g3, g4⟩ ⟨g5, g6⟩ h.asc he (by omega)).mono fun e w' h => cop_r h
    · have hm : holdG ⟨id, vers, til⟩ hs = true := by
        unfold holdG; simp only []; rw [hr, ei, decide_eq_false (by omega)]; rfl
      by_cases hv : hs[k]!.vers = vers
      · have e : holdF ⟨id, vers, til⟩ bl hs = (bl, putH ⟨id, vers, til⟩ hs) := by
          unfold holdF; rw [if_pos hm]; simp only [ei, Int.toNat_natCast]; rw [if_neg (fun hh => hh.2 hv)]
        rw [e]
        simp only []
        rw [put_hit h.asc hk ⟨id, vers, til⟩ he]
        exact (hold_same cp ao n c1 ao2 n2 c2 bl hs id vers til w h1 h2 (by omega) (by omega) ⟨g1, g2⟩ ⟨g3, g4⟩ ⟨g5, g6⟩ h.asc hk he hv).mono fun e w' h => cop_r h
      · have e : holdF ⟨id, vers, til⟩ bl hs = (notI id bl, putH ⟨id, vers, til⟩ hs) := by
          unfold holdF; rw [if_pos hm]; simp only [ei, Int.toNat_natCast]; rw [if_pos ⟨by omega, hv⟩]
        rw [e]
        simp only []
        rw [put_hit h.asc hk ⟨id, vers, til⟩ he]
        exact (hold_other cp ao n c1 ao2 n2 c2 bl hs id vers til w h1 h2 (by omega) (by omega) ⟨g1, g2⟩ ⟨g3, g4⟩ ⟨g5, g6⟩ h.asc hk he hv).mono fun e w' h => cop_r h
theorem rhold_all (cp : Int) (ao : Option Addr) (n c1 : Nat) (ao2 : Option Addr) (n2 c2 : Nat) (bl : List Pc) (hs : List Hd) (id vers til : Int) (w : World) (h1 : Sl w 4 ao n c1 (bl.map Pc.enc)) (h2 : Sl w 3 ao2 n2 c2 (hs.map Hd.enc)) (h : RightP cp bl hs) :
    Calls Try.prog 41 #[.agg #[.int .i64 cp, .slice ao n c1, .slice ao2 n2 c2], .int .i64 id, .int .i64 vers, .int .i64 til] w fun e w' => RPost w cp (holdF ⟨id, vers, til⟩ bl hs).1 (holdF ⟨id, vers, til⟩ bl hs).2 e w' := by
  have l1 := Sl.lenE h1
  have l2 := Sl.lenE h2
  have b1 := h.len
  have b2 := h.cap
  have b3 := h.hlen
  cases hr : rangedB (⟨id, vers, til⟩ : Hd) with
  | false =>
    have e : holdF ⟨id, vers, til⟩ bl hs = (bl, hs) := by unfold holdF holdG; rw [hr]; rfl
    rw [e]
    exact rhold_no cp ao n c1 ao2 n2 c2 bl hs id vers til w h1 h2 (.inl hr)
  | true =>
    rcases hold_cases id hs with ⟨ei, he⟩ | ⟨k, hk, ei, he, _⟩
    · by_cases hf : 64 ≤ hs.length
      · have e : holdF ⟨id, vers, til⟩ bl hs = (bl, hs) := by unfold holdF holdG; simp only []; rw [hr, ei, decide_eq_true hf]; rfl
        rw [e]
        exact rhold_no cp ao n c1 ao2 n2 c2 bl hs id vers til w h1 h2 (.inr ⟨ei, by omega⟩)
      · have e : holdF ⟨id, vers, til⟩ bl hs = (bl, putH ⟨id, vers, til⟩ hs) := by
          unfold holdF holdG; simp only []; rw [hr, ei, decide_eq_false hf, if_pos (by rfl), if_neg (by omega)]
        rw [e]
        exact rhold_new cp ao n c1 ao2 n2 c2 bl hs id vers til w h1 h2 hr (by omega) ei (by omega)
    · have hm : holdG ⟨id, vers, til⟩ hs = true := by
        unfold holdG; simp only []; rw [hr, ei, decide_eq_false (by omega)]; rfl
      by_cases hv : hs[k]!.vers = vers
      · have e : holdF ⟨id, vers, til⟩ bl hs = (bl, putH ⟨id, vers, til⟩ hs) := by
          unfold holdF; rw [if_pos hm]; simp only [ei, Int.toNat_natCast]; rw [if_neg (fun hh => hh.2 hv)]
        rw [e]
        exact rhold_same cp ao n c1 ao2 n2 c2 bl hs id vers til w h1 h2 hr (by omega) hk ei hv
      · have e : holdF ⟨id, vers, til⟩ bl hs = (notI id bl, putH ⟨id, vers, til⟩ hs) := by
          unfold holdF; rw [if_pos hm]; simp only [ei, Int.toNat_natCast]; rw [if_pos ⟨by omega, hv⟩]
        rw [e]
        exact rhold_other cp ao n c1 ao2 n2 c2 bl hs id vers til w h1 h2 hr (by omega) (by omega) hk ei hv
theorem release_all (cp : Int) (ao : Option Addr) (n c1 : Nat) (ao2 : Option Addr) (n2 c2 : Nat) (bl : List Pc) (hs : List Hd) (id : Int) (w : World) (h1 : Sl w 4 ao n c1 (bl.map Pc.enc)) (h2 : Sl w 3 ao2 n2 c2 (hs.map Hd.enc)) (h : RightP cp bl hs) :
    Calls Try.prog 24 #[.agg #[.int .i64 cp, .slice ao n c1, .slice ao2 n2 c2], .int .i64 id] w fun e w' => RPost w cp (notI id bl) (notH id hs) e w' := by
  have l1 := Sl.lenE h1
  have l2 := Sl.lenE h2
  have b1 := h.len
  have b2 := h.cap
  have b3 := h.hlen
  rcases hold_cases id hs with ⟨ei, he⟩ | ⟨k, hk, ei, he, _⟩
  · rw [h.notI_self he, notH_self he]
    exact (release_miss cp ao n c1 ao2 n2 c2 bl hs id w h1 h2 (by omega) (by omega) h.asc he).mono fun e w' h => cop_r h
  · have e := drop_hit h.asc hk
    rw [he] at e
    rw [← e]
    exact (release_hit cp ao n c1 ao2 n2 c2 bl hs id w h1 h2 (by omega) (by omega) h.asc hk he).mono fun e w' h => cop_r h
theorem rrelease_all (cp : Int) (ao : Option Addr) (n c1 : Nat) (ao2 : Option Addr) (n2 c2 : Nat) (bl : List Pc) (hs : List Hd) (id : Int) (w : World) (h1 : Sl w 4 ao n c1 (bl.map Pc.enc)) (h2 : Sl w 3 ao2 n2 c2 (hs.map Hd.enc)) (h : RightP cp bl hs) :
    Calls Try.prog 42 #[.agg #[.int .i64 cp, .slice ao n c1, .slice ao2 n2 c2], .int .i64 id] w fun e w' => RPost w cp (notI id bl) (notH id hs) e w' := by
  have l1 := Sl.lenE h1
  have l2 := Sl.lenE h2
  have b1 := h.len
  have b2 := h.cap
  have b3 := h.hlen
  exact rrelease_calls cp ao n c1 ao2 n2 c2 bl hs id w h1 h2 (by omega) (by omega)
theorem put_all (cp : Int) (ao : Option Addr) (n c1 : Nat) (ao2 : Option Addr) (n2 c2 : Nat) (bl : List Pc) (hs : List Hd) (id vers at' : Int) (data : ByteArray) (w : World) (h1 : Sl w 4 ao n c1 (bl.map Pc.enc)) (h2 : Sl w 3 ao2 n2 c2 (hs.map Hd.enc)) (h : RightP cp bl hs) :
    Calls Try.prog 18 #[.agg #[.int .i64 cp, .slice ao n c1, .slice ao2 n2 c2], .int .i64 id, .int .i64 vers, .int .i64 at', .string data] w fun e w' => RPost w cp (putF cp ⟨id, vers, at', data⟩ bl hs) hs e w' := by
  have l1 := Sl.lenE h1
  have l2 := Sl.lenE h2
  have b1 := h.len
  have b2 := h.cap
  have b3 := h.hlen
  rcases hold_cases id hs with ⟨ei, he⟩ | ⟨k, hk, ei, he, _⟩
  · have e : putF cp ⟨id, vers, at', data⟩ bl hs = bl := by
      unfold putF; rw [if_neg (fun hh => by rw [perm_no ei] at hh; exact Bool.false_ne_true hh.1)]
    rw [e]
    exact (put_miss cp ao n c1 ao2 n2 c2 bl hs id vers at' data w h1 h2 (by omega) (by omega) h.asc he).mono fun e w' h => cop_r h
  · have ep := perm_of (hs := hs) (p := ⟨id, vers, at', data⟩) ei
    by_cases hd : hs[k]!.vers ≠ vers ∨ at' < 0 ∨ 9007199254740991 < at' ∨ 65536 < data.size ∨ cp = 0
    · have e : putF cp ⟨id, vers, at', data⟩ bl hs = bl := by
        unfold putF
        refine if_neg (fun hh => ?_)
        rw [ep, Bool.and_eq_true, decide_eq_true_eq, decide_eq_true_eq] at hh
        obtain ⟨⟨q1, q2, q3, q4⟩, q5⟩ := hh
        simp only [] at q1 q2 q3 q4
        rcases hd with hd | hd | hd | hd | hd
        · exact hd q1
        · omega
        · omega
        · omega
        · exact q5 hd
      rw [e]
      exact (put_denied cp ao n c1 ao2 n2 c2 bl hs id vers at' data w h1 h2 (by omega) (by omega) h.asc hk he hd).mono fun e w' h => cop_r h
    · have hv : hs[k]!.vers = vers := Classical.byContradiction fun hn => hd (.inl hn)
      have g1 : 0 ≤ at' := by
        rcases Int.lt_or_le at' 0 with q | q
        · exact absurd (.inr (.inl q)) hd
        · exact q
      have g2 : at' ≤ 9007199254740991 := by
        rcases Int.lt_or_le 9007199254740991 at' with q | q
        · exact absurd (.inr (.inr (.inl q))) hd
        · exact q
      have g3 : data.size ≤ 65536 := by
        rcases Nat.lt_or_ge 65536 data.size with q | q
        · exact absurd (.inr (.inr (.inr (.inl q)))) hd
        · exact q
      have g4 : cp ≠ 0 := fun q => hd (.inr (.inr (.inr (.inr q))))
      have e : putF cp ⟨id, vers, at', data⟩ bl hs = putL cp ⟨id, vers, at', data⟩ bl := by
        unfold putF
        refine if_pos ⟨?_, g4⟩
        rw [ep, Bool.and_eq_true, decide_eq_true_eq, decide_eq_true_eq]
        exact ⟨hv, g1, g2, g3⟩
      rw [e]
      exact (put_ok cp ao n c1 ao2 n2 c2 bl hs id vers at' data w h1 h2 (by omega) (by omega) h.asc hk he hv g1 g2 g3 g4 h.ok b2.1).mono fun e w' h => cop_r h
theorem rput_all (cp : Int) (ao : Option Addr) (n c1 : Nat) (ao2 : Option Addr) (n2 c2 : Nat) (bl : List Pc) (hs : List Hd) (id vers at' : Int) (data : ByteArray) (w : World) (h1 : Sl w 4 ao n c1 (bl.map Pc.enc)) (h2 : Sl w 3 ao2 n2 c2 (hs.map Hd.enc)) (h : RightP cp bl hs) :
    Calls Try.prog 43 #[.agg #[.int .i64 cp, .slice ao n c1, .slice ao2 n2 c2], .int .i64 id, .int .i64 vers, .int .i64 at', .string data] w fun e w' => RPost w cp (putF cp ⟨id, vers, at', data⟩ bl hs) hs e w' := by
  have l1 := Sl.lenE h1
  have b1 := h.len
  have b2 := h.cap
  unfold putF
  cases hp : permB hs ⟨id, vers, at', data⟩ with
  | false =>
    rw [if_neg (fun hh => Bool.false_ne_true hh.1)]
    exact rput_no cp ao n c1 ao2 n2 c2 bl hs id vers at' data w h1 h2 (.inl hp)
  | true =>
    by_cases hc : cp = 0
    · rw [if_neg (fun hh => hh.2 hc)]
      exact rput_no cp ao n c1 ao2 n2 c2 bl hs id vers at' data w h1 h2 (.inr hc)
    · rw [if_pos ⟨rfl, hc⟩]
      exact rput_ok cp ao n c1 ao2 n2 c2 bl hs id vers at' data w h1 h2 hp hc (by omega) h.ok
theorem drop_all (cp : Int) (ao : Option Addr) (n c1 : Nat) (ao2 : Option Addr) (n2 c2 : Nat) (bl : List Pc) (hs : List Hd) (id : Int) (w : World) (h1 : Sl w 4 ao n c1 (bl.map Pc.enc)) (h2 : Sl w 3 ao2 n2 c2 (hs.map Hd.enc)) (h : RightP cp bl hs) :
    Calls Try.prog 23 #[.agg #[.int .i64 cp, .slice ao n c1, .slice ao2 n2 c2], .int .i64 id] w fun e w' => RPost w cp (notI id bl) hs e w' := by
  have l1 := Sl.lenE h1
  have l2 := Sl.lenE h2
  have b1 := h.len
  have b2 := h.cap
  have b3 := h.hlen
  exact (drop_calls cp ao n c1 ao2 n2 c2 bl hs id w h1 h2 (by omega) (by omega)).mono fun e w' h => cop_r h
theorem rdrop_all (cp : Int) (ao : Option Addr) (n c1 : Nat) (ao2 : Option Addr) (n2 c2 : Nat) (bl : List Pc) (hs : List Hd) (id : Int) (w : World) (h1 : Sl w 4 ao n c1 (bl.map Pc.enc)) (h2 : Sl w 3 ao2 n2 c2 (hs.map Hd.enc)) (h : RightP cp bl hs) :
    Calls Try.prog 45 #[.agg #[.int .i64 cp, .slice ao n c1, .slice ao2 n2 c2], .int .i64 id] w fun e w' => RPost w cp (notI id bl) hs e w' := by
  have l1 := Sl.lenE h1
  have b1 := h.len
  have b2 := h.cap
  exact rdrop_calls cp ao n c1 ao2 n2 c2 bl hs id w h1 h2 (by omega)
theorem get_all (cp : Int) (ao : Option Addr) (n c1 : Nat) (ao2 : Option Addr) (n2 c2 : Nat) (bl : List Pc) (hs : List Hd) (id at' cnt now : Int) (w : World) (h1 : Sl w 4 ao n c1 (bl.map Pc.enc)) (h2 : Sl w 3 ao2 n2 c2 (hs.map Hd.enc)) (h : RightP cp bl hs) :
    Calls Try.prog 17 #[.agg #[.int .i64 cp, .slice ao n c1, .slice ao2 n2 c2], .int .i64 id, .int .i64 at', .int .i64 cnt, .int .i64 now] w fun e w' => GetPost w cp hs (getF id at' cnt now bl hs) e w' := by
  have l1 := Sl.lenE h1
  have l2 := Sl.lenE h2
  have b1 := h.len
  have b2 := h.cap
  have b3 := h.hlen
  have k1 : n ≤ 1000000 := by omega
  have k2 : n2 ≤ 1000000 := by omega
  refine get_walk (P := fun r => Calls Try.prog 17 #[.agg #[.int .i64 cp, .slice ao n c1, .slice ao2 n2 c2], .int .i64 id, .int .i64 at', .int .i64 cnt, .int .i64 now] w fun e w' => GetPost w cp hs r e w') id at' cnt now bl hs ?_ ?_ ?_ ?_ ?_ ?_
  · intro hd
    exact get_no cp ao n c1 ao2 n2 c2 bl hs id at' cnt now w h1 h2 k1 k2 h.asc hd
  · intro hh h0 hc k hk he hp
    exact get_end cp ao n c1 ao2 n2 c2 bl hs id at' cnt now w h1 h2 k1 k2 h.asc hh h0 hc hk he hp
  · intro hh h0 hc he hv
    rcases he with he | ⟨k, hk, he, hp⟩
    · exact get_none_n cp ao n c1 ao2 n2 c2 bl hs id at' cnt now w h1 h2 k1 k2 h.asc hh h0 hc he h.ok hv
    · exact get_none_f cp ao n c1 ao2 n2 c2 bl hs id at' cnt now w h1 h2 k1 k2 h.asc hh h0 hc hk he hp h.ok hv
  · intro hh h0 hc he j hj hv q1 q2 hcn
    rcases he with he | ⟨k, hk, he, hp⟩
    · exact get_part_n cp ao n c1 ao2 n2 c2 bl hs id at' cnt now w h1 h2 k1 k2 h.asc hh h0 hc he h.ok hj hv q1 q2 hcn
    · exact get_part_f cp ao n c1 ao2 n2 c2 bl hs id at' cnt now w h1 h2 k1 k2 h.asc hh h0 hc hk he hp h.ok hj hv q1 q2 hcn
  · intro hh h0 hc j hj he hv q1 q2 hcn
    rcases he with he | ⟨k, hk, he, hp, hne⟩
    · exact get_short_n cp ao n c1 ao2 n2 c2 bl hs id at' cnt now w h1 h2 k1 k2 h.asc hh h0 hc he h.ok hj hv q1 q2 hcn
    · exact get_short_f cp ao n c1 ao2 n2 c2 bl hs id at' cnt now w h1 h2 k1 k2 h.asc hh h0 hc hk he hp h.ok hj hv q1 q2 hcn hne
  · intro hh h0 hc k j m hk he hp hj hv q1 q2 hcn hne hm hem
    exact get_rest cp ao n c1 ao2 n2 c2 bl hs id at' cnt now w h1 h2 k1 k2 h.asc hh h0 hc hk he hp h.ok hj hv q1 q2 hcn hne hm hem
theorem rget_all (cp : Int) (ao : Option Addr) (n c1 : Nat) (ao2 : Option Addr) (n2 c2 : Nat) (bl : List Pc) (hs : List Hd) (id at' cnt now : Int) (w : World) (h1 : Sl w 4 ao n c1 (bl.map Pc.enc)) (h2 : Sl w 3 ao2 n2 c2 (hs.map Hd.enc)) (h : RightP cp bl hs) :
    Calls Try.prog 44 #[.agg #[.int .i64 cp, .slice ao n c1, .slice ao2 n2 c2], .int .i64 id, .int .i64 at', .int .i64 cnt, .int .i64 now] w fun e w' => GetPost w cp hs (getF id at' cnt now bl hs) e w' := by
  have l1 := Sl.lenE h1
  have b1 := h.len
  have b2 := h.cap
  have k1 : n ≤ 1000000 := by omega
  refine get_walk (P := fun r => Calls Try.prog 44 #[.agg #[.int .i64 cp, .slice ao n c1, .slice ao2 n2 c2], .int .i64 id, .int .i64 at', .int .i64 cnt, .int .i64 now] w fun e w' => GetPost w cp hs r e w') id at' cnt now bl hs ?_ ?_ ?_ ?_ ?_ ?_
  · intro hd
    exact rget_no cp ao n c1 ao2 n2 c2 bl hs id at' cnt now w h1 h2 k1 hd
  · intro hh h0 hc k hk he hp
    exact rget_end cp ao n c1 ao2 n2 c2 bl hs id at' cnt now w h1 h2 k1 hh h0 hc hk he hp h.ok
  · intro hh h0 hc he hv
    rcases he with he | ⟨k, hk, he, hp⟩
    · exact rget_none_n cp ao n c1 ao2 n2 c2 bl hs id at' cnt now w h1 h2 k1 hh h0 hc he h.ok hv
    · exact rget_none_f cp ao n c1 ao2 n2 c2 bl hs id at' cnt now w h1 h2 k1 hh h0 hc hk he hp h.ok hv
  · intro hh h0 hc he j hj hv q1 q2 hcn
    rcases he with he | ⟨k, hk, he, hp⟩
    · exact rget_part_n cp ao n c1 ao2 n2 c2 bl hs id at' cnt now w h1 h2 k1 hh h0 hc he h.ok hj hv q1 q2 hcn
    · exact rget_part_f cp ao n c1 ao2 n2 c2 bl hs id at' cnt now w h1 h2 k1 hh h0 hc hk he hp h.ok hj hv q1 q2 hcn
  · intro hh h0 hc j hj he hv q1 q2 hcn
    rcases he with he | ⟨k, hk, he, hp, hne⟩
    · exact rget_short_n cp ao n c1 ao2 n2 c2 bl hs id at' cnt now w h1 h2 k1 hh h0 hc he h.ok hj hv q1 q2 hcn
    · exact rget_short_f cp ao n c1 ao2 n2 c2 bl hs id at' cnt now w h1 h2 k1 hh h0 hc hk he hp h.ok hj hv q1 q2 hcn hne
  · intro hh h0 hc k j m hk he hp hj hv q1 q2 hcn hne hm hem
    exact rget_rest cp ao n c1 ao2 n2 c2 bl hs id at' cnt now w h1 h2 k1 hh h0 hc hk he hp h.ok hj hv q1 q2 hcn hne hm hem

end Go.Proofs.Ytcgajlobbjoefaa
