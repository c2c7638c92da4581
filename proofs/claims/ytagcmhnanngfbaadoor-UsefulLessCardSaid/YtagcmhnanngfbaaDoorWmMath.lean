/- The program's loop for words: rows of the length that is known to be the least. -/
import Derived.Test.YtagcmhnanngfbaaDoorWordMath
namespace Go.Proofs.YtagcmhnanngfbaaDoor.Hand
open Go.RowKit Go.Proofs.YtagcmhnanngfbaaDoorW.PrintWords Go.Proofs.YtagcmhnanngfbaaDoorW.PrintMore Go.Proofs.YtagcmhnanngfbaaDoor.Math

/-- One symbol more, under a limit; none: given up. -/
def buildM (L : Nat → Int) (W : Nat → Option (List Int)) (lim : Int) (p : Option (List Int)) (k : Int) : Option (List Int) :=
  match p with
  | none => none
  | some p => if 0 ≤ k then some (p ++ [k]) else match W (-1 - k).toNat with | none => none | some u => if lim < (p.length : Int) + L (-1 - k).toNat then none else some (p ++ u)
def bldM (L : Nat → Int) (W : Nat → Option (List Int)) (lim : Int) (p : Option (List Int)) (l : List Int) : Option (List Int) := l.foldl (buildM L W lim) p
section
variable {R : List (Int × List Int)} {N : Nat} {L : Nat → Int} {W : Nat → Option (List Int)} {lim : Int}
theorem bldM_none : ∀ l, bldM L W lim none l = none
  | [] => rfl
  | _ :: l => bldM_none l
theorem bldM_snoc (p : Option (List Int)) (l : List Int) (k : Int) : bldM L W lim p (l ++ [k]) = buildM L W lim (bldM L W lim p l) k := by simp [bldM]
theorem bldM_split {p : Option (List Int)} (l : List Int) (k : Nat) (h : bldM L W lim p (l.take k) = none) : bldM L W lim p l = none := by
  have e : bldM L W lim p l = bldM L W lim (bldM L W lim p (l.take k)) (l.drop k) := by
    show l.foldl (buildM L W lim) p = (l.drop k).foldl (buildM L W lim) ((l.take k).foldl (buildM L W lim) p)
    rw [← List.foldl_append, List.take_append_drop]
  rw [e, h, bldM_none]
def SoundM (R : List (Int × List Int)) (N : Nat) (L : Nat → Int) (W : Nat → Option (List Int)) : Prop := ∀ k, k < N → ∀ w, W k = some w → WD R k w ∧ (w.length : Int) = L k ∧ L k ≤ 65536
theorem SoundM.plain (h : SoundM R N L W) : SoundW R N 65568 W := fun k hk w hw => ⟨(h k hk w hw).1, by have := (h k hk w hw).2; omega⟩
theorem bldM_sound (hS : SoundM R N L W) : ∀ {l p q : List Int}, (∀ z ∈ l, -(N : Int) ≤ z) → bldM L W lim (some p) l = some q → ∃ w, WS R l w ∧ q = p ++ w
  | [], p, q, _, h => ⟨[], .nil, by have : some p = some q := h; simpa using this.symm⟩
  | k :: l, p, q, hl, h => by
    have hk := hl k (List.mem_cons_self ..)
    have h2 : bldM L W lim (buildM L W lim (some p) k) l = some q := h
    by_cases h0 : 0 ≤ k
    · have e : buildM L W lim (some p) k = some (p ++ [k]) := by simp [buildM, h0]
      rw [e] at h2
      obtain ⟨w, hw, rfl⟩ := bldM_sound hS (fun z hz => hl z (List.mem_cons_of_mem _ hz)) h2
      exact ⟨k :: w, .tok h0 hw, by simp⟩
    · cases hW : W (-1 - k).toNat with
      | none =>
        have e : buildM L W lim (some p) k = none := by simp [buildM, h0, hW]
        rw [e, bldM_none] at h2; cases h2
      | some u =>
        by_cases hlen : lim < (p.length : Int) + L (-1 - k).toNat
        · have e : buildM L W lim (some p) k = none := by simp [buildM, h0, hW, hlen]
          rw [e, bldM_none] at h2; cases h2
        · have e : buildM L W lim (some p) k = some (p ++ u) := by simp [buildM, h0, hW, hlen]
          rw [e] at h2
          obtain ⟨w, hw, rfl⟩ := bldM_sound hS (fun z hz => hl z (List.mem_cons_of_mem _ hz)) h2
          obtain ⟨⟨r, hr, hrl, hu⟩, _⟩ := hS _ (by omega) u hW
          exact ⟨u ++ w, .nt (by omega) r hr (by rw [hrl]; omega) hu hw, by simp⟩
/-- Rule i makes nothing that is ahead of what is known. -/
def CRm (R : List (Int × List Int)) (L : Nat → Int) (W : Nat → Option (List Int)) (i : Nat) : Prop :=
  0 ≤ L (R.getD i (0, [])).1.toNat → L (R.getD i (0, [])).1.toNat ≤ 65536 → ∀ q, bldM L W (L (R.getD i (0, [])).1.toNat) (some []) (R.getD i (0, [])).2 = some q → (q.length : Int) = L (R.getD i (0, [])).1.toNat → ∃ u, W (R.getD i (0, [])).1.toNat = some u ∧ cmpL u q ≤ 0
/-- How long a row would be. -/
def SL (L : Nat → Int) : List Int → Int
  | [] => 0
  | k :: l => (if k < 0 then L (-1 - k).toNat else 1) + SL L l
theorem LenIs.le (hL : LenIs R N L) {k : Nat} (hk : k < N) {w : List Int} (h : WD R k w) : 0 ≤ L k ∧ L k ≤ w.length := by
  obtain ⟨h1, h2⟩ := hL.2 k hk w h
  refine ⟨h1, Int.le_trans h2 ?_⟩
  unfold capL
  split <;> omega
theorem SL_le (hL : LenIs R N L) {l w : List Int} (h : WS R l w) : (∀ z ∈ l, -(N : Int) ≤ z) → SL L l ≤ w.length := by
  induction h with
  | nil => intro _; simp [SL]
  | @tok k l w h0 _ ih =>
    intro hl
    have := ih (fun z hz => hl z (List.mem_cons_of_mem _ hz))
    simp only [SL, List.length_cons]
    rw [if_neg (by omega)]
    omega
  | @nt k l w u h0 r hr hrl h1 _ _ ih2 =>
    intro hl
    have hk := hl k (List.mem_cons_self ..)
    have := ih2 (fun z hz => hl z (List.mem_cons_of_mem _ hz))
    have h3 := hL.le (k := (-1 - k).toNat) (by omega) ⟨r, hr, by rw [hrl]; omega, h1⟩
    simp only [SL, List.length_append]
    rw [if_pos h0]
    omega
theorem SL_word (hL : LenIs R N L) {l w : List Int} (h : WS R l w) : (∀ z ∈ l, -(N : Int) ≤ z) → w.length ≤ 65536 → ∃ w', WS R l w' ∧ (w'.length : Int) = SL L l := by
  induction h with
  | nil => intro _ _; exact ⟨[], .nil, by simp [SL]⟩
  | @tok k l w h0 _ ih =>
    intro hl hw
    rw [List.length_cons] at hw
    obtain ⟨w', h1, h2⟩ := ih (fun z hz => hl z (List.mem_cons_of_mem _ hz)) (by omega)
    refine ⟨k :: w', .tok h0 h1, ?_⟩
    simp only [SL, List.length_cons]
    rw [if_neg (by omega)]
    omega
  | @nt k l w u h0 r hr hrl h1 _ _ ih2 =>
    intro hl hw
    rw [List.length_append] at hw
    have hk := hl k (List.mem_cons_self ..)
    obtain ⟨w', i1, i2⟩ := ih2 (fun z hz => hl z (List.mem_cons_of_mem _ hz)) (by omega)
    have h3 := hL.le (k := (-1 - k).toNat) (by omega) ⟨r, hr, by rw [hrl]; omega, h1⟩
    obtain ⟨u0, ⟨r0, hr0, hrl0, hu0⟩, e0⟩ := (hL.1 (-1 - k).toNat (by omega)).2.2 h3.1
    have e1 : (u0.length : Int) = L (-1 - k).toNat := by
      rw [e0]
      unfold capL at e0 ⊢
      split at e0
      · rename_i hh; rw [if_pos hh]
      · omega
    refine ⟨u0 ++ w', .nt h0 r0 hr0 (by rw [hrl0]; omega) hu0 i1, ?_⟩
    simp only [SL, List.length_append]
    rw [if_pos h0]
    omega
/-- The least length comes to what a rule's right side would be. -/
theorem exact_rule (hL : LenIs R N L) {x : Nat} (hx : x < N) {r : Int × List Int} (hr : r ∈ R) (hrl : r.1 = (x : Int)) (hsy : ∀ z ∈ r.2, -(N : Int) ≤ z) {w : List Int} (h : WS R r.2 w) (hw : (w.length : Int) = L x) (hw2 : w.length ≤ 65536) : (w.length : Int) = SL L r.2 := by
  have h1 := SL_le hL h hsy
  obtain ⟨w', h2, h3⟩ := SL_word hL h hsy hw2
  have h4 := hL.le hx ⟨r, hr, hrl, h2⟩
  omega
theorem bldM_least (hL : LenIs R N L) (hS : SoundM R N L W) (hsy : ∀ r ∈ R, ∀ z ∈ r.2, -(N : Int) ≤ z) (hc : ∀ r ∈ R, 0 ≤ L r.1.toNat → L r.1.toNat ≤ 65536 → ∀ q, bldM L W (L r.1.toNat) (some []) r.2 = some q → (q.length : Int) = L r.1.toNat → ∃ u, W r.1.toNat = some u ∧ cmpL u q ≤ 0)
    {l w : List Int} (h : WS R l w) : (∀ z ∈ l, -(N : Int) ≤ z) → (w.length : Int) = SL L l → w.length ≤ 65536 → ∀ (lim : Int) (p : List Int), (p.length : Int) + w.length ≤ lim → ∃ row, bldM L W lim (some p) l = some (p ++ row) ∧ row.length = w.length ∧ cmpL row w ≤ 0 := by
  induction h with
  | nil => intro _ _ _ lim p _; exact ⟨[], by simp [bldM], rfl, by rw [cmpL_refl]; omega⟩
  | @tok k l w h0 h ih =>
    intro hl he hw lim p hp
    simp only [SL, List.length_cons] at he hw hp
    rw [if_neg (by omega)] at he
    obtain ⟨row, h1, h2, h3⟩ := ih (fun z hz => hl z (List.mem_cons_of_mem _ hz)) (by omega) (by omega) lim (p ++ [k]) (by simp; omega)
    refine ⟨k :: row, ?_, by simp [h2], ?_⟩
    · show bldM L W lim (buildM L W lim (some p) k) l = _
      rw [show buildM L W lim (some p) k = some (p ++ [k]) by simp [buildM, h0], h1]
      simp
    · have := cmpL_append (a := [k]) (a' := [k]) rfl (by rw [cmpL_refl]; omega) h3
      exact this
  | @nt k l w u h0 r hr hrl h1' h ih1 ih2 =>
    intro hl he hw lim p hp
    have hk := hl k (List.mem_cons_self ..)
    have hx : r.1.toNat = (-1 - k).toNat := by rw [hrl]
    simp only [SL, List.length_append] at he hw hp
    rw [if_pos h0] at he
    have hl' := fun z (hz : z ∈ l) => hl z (List.mem_cons_of_mem _ hz)
    have g1 := SL_le hL h hl'
    have g2 := hL.le (k := (-1 - k).toNat) (by omega) ⟨r, hr, by rw [hrl]; omega, h1'⟩
    have e1 : (u.length : Int) = L (-1 - k).toNat := by omega
    have e2 : (w.length : Int) = SL L l := by omega
    have e3 := exact_rule hL (x := (-1 - k).toNat) (by omega) hr (by rw [hrl]; omega) (hsy r hr) h1' e1 (by omega)
    obtain ⟨row1, j1, j2, j3⟩ := ih1 (hsy r hr) e3 (by omega) (L (-1 - k).toNat) [] (by simp; omega)
    rw [List.nil_append] at j1
    obtain ⟨u0, hu0, hs0⟩ := hc r hr (by rw [hx]; omega) (by rw [hx]; omega) row1 (by rw [hx]; exact j1) (by rw [hx]; omega)
    rw [hx] at hu0
    obtain ⟨_, hlen0, _⟩ := hS _ (by omega) u0 hu0
    obtain ⟨row2, i1, i2, i3⟩ := ih2 hl' e2 (by omega) lim (p ++ u0) (by simp only [List.length_append]; omega)
    refine ⟨u0 ++ row2, ?_, by simp only [List.length_append]; omega, cmpL_append (by omega) (cmpL_trans hs0 j3) i3⟩
    show bldM L W lim (buildM L W lim (some p) k) l = _
    have h0' : ¬ 0 ≤ k := by omega
    have hlen : ¬ lim < (p.length : Int) + L (-1 - k).toNat := by omega
    rw [show buildM L W lim (some p) k = some (p ++ u0) by simp [buildM, h0', hu0, hlen], i1]
    simp
theorem CRm.least (hL : LenIs R N L) (hS : SoundM R N L W) (hsy : ∀ r ∈ R, ∀ z ∈ r.2, -(N : Int) ≤ z) (hc : ∀ i, i < R.length → CRm R L W i) {k : Nat} (hk : k < N) (h0 : 0 ≤ L k) (h1 : L k ≤ 65536) : ∃ u, W k = some u ∧ WordIs R k u := by
  have hcr : ∀ r ∈ R, 0 ≤ L r.1.toNat → L r.1.toNat ≤ 65536 → ∀ q, bldM L W (L r.1.toNat) (some []) r.2 = some q → (q.length : Int) = L r.1.toNat → ∃ u, W r.1.toNat = some u ∧ cmpL u q ≤ 0 := by
    intro r hr
    obtain ⟨i, hi, rfl⟩ := List.getElem_of_mem hr
    have h1 := hc i hi
    unfold CRm at h1
    rw [List.getD_eq_getElem?_getD, List.getElem?_eq_getElem hi, Option.getD_some] at h1
    exact h1
  have main : ∀ w, WD R k w → (w.length : Int) = L k → ∃ u, W k = some u ∧ u.length = w.length ∧ cmpL u w ≤ 0 := by
    rintro w ⟨r, hr, hrl, h⟩ hw
    have hx : r.1.toNat = k := by rw [hrl]; simp
    have e := exact_rule hL hk hr hrl (hsy r hr) h hw (by omega)
    obtain ⟨row, j1, j2, j3⟩ := bldM_least hL hS hsy hcr h (hsy r hr) e (by omega) (L k) [] (by simp; omega)
    rw [List.nil_append] at j1
    obtain ⟨u, hu, hs⟩ := hcr r hr (by rw [hx]; exact h0) (by rw [hx]; exact h1) row (by rw [hx]; exact j1) (by rw [hx]; omega)
    rw [hx] at hu
    have := (hS k hk u hu).2.1
    exact ⟨u, hu, by omega, cmpL_trans hs j3⟩
  obtain ⟨w, hw, e⟩ := (hL.1 k hk).2.2 h0
  have hwl : (w.length : Int) = L k := by
    unfold capL at e
    split at e <;> omega
  obtain ⟨u, hu, hul, _⟩ := main w hw hwl
  refine ⟨u, hu, (hS k hk u hu).1, fun v hv => ?_⟩
  have hle := (hL.le hk hv).2
  have h2 := (hS k hk u hu).2.1
  by_cases hvl : (v.length : Int) = L k
  · obtain ⟨u', hu', h3, h4⟩ := main v hv hvl
    rw [hu] at hu'
    obtain rfl := Option.some.inj hu'
    exact .inr ⟨h3, h4⟩
  · exact .inl (by omega)
theorem SoundM.set (hS : SoundM R N L W) {r : Int × List Int} (hr : r ∈ R) (hl : ∀ z ∈ r.2, -(N : Int) ≤ z) (hx : 0 ≤ r.1) {q : List Int} (h : bldM L W lim (some []) r.2 = some q) (he : (q.length : Int) = L r.1.toNat) (hM : L r.1.toNat ≤ 65536) : SoundM R N L (setW W r.1.toNat q) := by
  intro k hk w hw
  by_cases e : k = r.1.toNat
  · rw [e, setW_same] at hw
    obtain rfl := Option.some.inj hw
    obtain ⟨u, hu, rfl⟩ := bldM_sound hS hl h
    rw [e]
    exact ⟨⟨r, hr, by omega, hu⟩, he, hM⟩
  · rw [setW_other e] at hw
    exact hS k hk w hw
end
end Go.Proofs.YtagcmhnanngfbaaDoor.Hand
