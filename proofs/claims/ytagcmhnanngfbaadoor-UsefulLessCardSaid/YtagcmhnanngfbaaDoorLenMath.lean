/- Words that nonterminals derive, and how long the shortest are. -/
import Derived.Test.YtagcmhnanngfbaaDoorUseMath
namespace Go.Proofs.YtagcmhnanngfbaaDoor.Hand
open Go.RowKit Go.Proofs.YtagcmhnanngfbaaDoorW.PrintWords Go.Proofs.YtagcmhnanngfbaaDoorW.PrintMore Go.Proofs.YtagcmhnanngfbaaDoor.Math

/-- A row of symbols derives a row of tokens. -/
inductive WS (R : List (Int × List Int)) : List Int → List Int → Prop
  | nil : WS R [] []
  | tok {k : Int} {l w : List Int} (h0 : 0 ≤ k) (h : WS R l w) : WS R (k :: l) (k :: w)
  | nt {k : Int} {l w u : List Int} (h0 : k < 0) (r : Int × List Int) (hr : r ∈ R) (hl : r.1 = -1 - k) (h1 : WS R r.2 u) (h : WS R l w) : WS R (k :: l) (u ++ w)
def WD (R : List (Int × List Int)) (k : Nat) (w : List Int) : Prop := ∃ r, r ∈ R ∧ r.1 = (k : Int) ∧ WS R r.2 w
/-- Lengths, no longer than one more than the most. -/
def capL (n : Nat) : Int := if n ≤ 65537 then (n : Int) else 65537
theorem capL_le (n : Nat) : capL n ≤ 65537 := by unfold capL; split <;> omega
theorem capL_nonneg (n : Nat) : 0 ≤ capL n := by unfold capL; split <;> omega
/-- One symbol more. -/
def stepL (L : Nat → Int) (s k : Int) : Int := if s < 0 then -1 else if (if k < 0 then L (-1 - k).toNat else 1) < 0 then -1 else min 65537 (s + (if k < 0 then L (-1 - k).toNat else 1))
def sumA (L : Nat → Int) (s : Int) (l : List Int) : Int := l.foldl (stepL L) s
def sumL (L : Nat → Int) (l : List Int) : Int := sumA L 0 l
theorem sumL_snoc (L : Nat → Int) (l : List Int) (k : Int) : sumL L (l ++ [k]) = stepL L (sumL L l) k := by simp [sumL, sumA]
theorem stepL_neg {L : Nat → Int} {s k : Int} (h : s < 0) : stepL L s k = -1 := by unfold stepL; rw [if_pos h]
theorem sumA_neg {L : Nat → Int} : ∀ {l : List Int} {s : Int}, s < 0 → sumA L s l < 0
  | [], s, h => h
  | k :: l, s, h => by
    show sumA L (stepL L s k) l < 0
    rw [stepL_neg h]
    exact sumA_neg (by omega)
theorem stepL_ge {L : Nat → Int} {s k : Int} : -1 ≤ stepL L s k ∧ stepL L s k ≤ 65537 := by
  unfold stepL
  split
  · omega
  · split
    · omega
    · omega
theorem sumL_ge {L : Nat → Int} {l : List Int} : -1 ≤ sumL L l ∧ sumL L l ≤ 65537 := by
  refine ntN_rec (p := fun l => -1 ≤ sumL L l ∧ sumL L l ≤ 65537) (by simp [sumL, sumA]) (fun l k _ => ?_) l
  rw [sumL_snoc]; exact stepL_ge
/-- What the table tells is so. -/
def SoundL (R : List (Int × List Int)) (N : Nat) (L : Nat → Int) : Prop := ∀ k, k < N → -1 ≤ L k ∧ L k ≤ 65537 ∧ (0 ≤ L k → ∃ w, WD R k w ∧ L k = capL w.length)
theorem capL_add (a b : Nat) : min 65537 (capL a + capL b) = capL (a + b) := by unfold capL; split <;> split <;> split <;> omega
theorem capL_min (s : Int) (a b : Nat) (h : s = capL a) : min 65537 (s + capL b) = capL (a + b) := by rw [h]; exact capL_add a b
theorem sumA_sound {R : List (Int × List Int)} {N : Nat} {L : Nat → Int} (hS : SoundL R N L) : ∀ {l : List Int} {a : Nat}, (∀ z ∈ l, -(N : Int) ≤ z) → 0 ≤ sumA L (capL a) l → ∃ w, WS R l w ∧ sumA L (capL a) l = capL (a + w.length)
  | [], a, _, _ => ⟨[], .nil, rfl⟩
  | k :: l, a, hl, h => by
    have hk := hl k (List.mem_cons_self ..)
    have h2 : 0 ≤ sumA L (stepL L (capL a) k) l := h
    have ha := capL_nonneg a
    show ∃ w, WS R (k :: l) w ∧ sumA L (stepL L (capL a) k) l = _
    by_cases h0 : k < 0
    · have hs := hS (-1 - k).toNat (by omega)
      by_cases hn : L (-1 - k).toNat < 0
      · exfalso
        have : stepL L (capL a) k = -1 := by unfold stepL; rw [if_neg (by omega), if_pos h0, if_pos hn]
        rw [this] at h2
        have := sumA_neg (L := L) (l := l) (s := -1) (by omega)
        omega
      · obtain ⟨u, ⟨r, hr, hrl, hu⟩, hL⟩ := hs.2.2 (by omega)
        have he : stepL L (capL a) k = capL (a + u.length) := by
          unfold stepL
          rw [if_neg (by omega), if_pos h0, if_neg hn, hL]
          exact capL_add a u.length
        rw [he] at h2 ⊢
        obtain ⟨w, hw, hws⟩ := sumA_sound hS (fun z hz => hl z (List.mem_cons_of_mem _ hz)) h2
        refine ⟨u ++ w, .nt h0 r hr (by rw [hrl]; omega) hu hw, ?_⟩
        rw [hws, List.length_append, Nat.add_assoc]
    · have he : stepL L (capL a) k = capL (a + 1) := by
        unfold stepL
        rw [if_neg (by omega), if_neg h0, if_neg (by omega)]
        exact capL_add a 1
      rw [he] at h2 ⊢
      obtain ⟨w, hw, hws⟩ := sumA_sound hS (fun z hz => hl z (List.mem_cons_of_mem _ hz)) h2
      refine ⟨k :: w, .tok (by omega) hw, ?_⟩
      rw [hws, List.length_cons]
      congr 1
      omega
theorem sumL_sound {R : List (Int × List Int)} {N : Nat} {L : Nat → Int} (hS : SoundL R N L) {l : List Int} (hl : ∀ z ∈ l, -(N : Int) ≤ z) (h : 0 ≤ sumL L l) : ∃ w, WS R l w ∧ sumL L l = capL w.length := by
  obtain ⟨w, h1, h2⟩ := sumA_sound hS (l := l) (a := 0) hl h
  exact ⟨w, h1, by rw [Nat.zero_add] at h2; exact h2⟩
/-- Rule i tells nothing shorter. -/
def CRl (R : List (Int × List Int)) (L : Nat → Int) (i : Nat) : Prop := 0 ≤ sumL L (R.getD i (0, [])).2 → 0 ≤ L (R.getD i (0, [])).1.toNat ∧ L (R.getD i (0, [])).1.toNat ≤ sumL L (R.getD i (0, [])).2
theorem sumA_closed {R : List (Int × List Int)} {L : Nat → Int} (hc : ∀ r ∈ R, 0 ≤ sumL L r.2 → 0 ≤ L r.1.toNat ∧ L r.1.toNat ≤ sumL L r.2) {l w : List Int} (h : WS R l w) : ∀ s : Int, 0 ≤ s → s ≤ 65537 → 0 ≤ sumA L s l ∧ sumA L s l ≤ min 65537 (s + w.length) := by
  induction h with
  | nil => intro s h0 h1; exact ⟨h0, by show s ≤ min 65537 (s + ((0 : Nat) : Int)); omega⟩
  | @tok k l w hk h ih =>
    intro s h0 h1
    have he : stepL L s k = min 65537 (s + 1) := by
      unfold stepL
      rw [if_neg (by omega), if_neg (by omega), if_neg (by omega)]
    obtain ⟨i1, i2⟩ := ih (min 65537 (s + 1)) (by omega) (by omega)
    show 0 ≤ sumA L (stepL L s k) l ∧ sumA L (stepL L s k) l ≤ _
    rw [he, List.length_cons]
    exact ⟨i1, by omega⟩
  | @nt k l w u hk r hr hrl h1' h ih1 ih2 =>
    intro s h0 h1
    obtain ⟨j1, j2⟩ := ih1 0 (by omega) (by omega)
    obtain ⟨c1, c2⟩ := hc r hr j1
    have hx : r.1.toNat = (-1 - k).toNat := by rw [hrl]
    rw [hx] at c1 c2
    have c3 : L (-1 - k).toNat ≤ min 65537 (0 + (u.length : Int)) := by
      have : sumL L r.2 = sumA L 0 r.2 := rfl
      omega
    have he : stepL L s k = min 65537 (s + L (-1 - k).toNat) := by
      unfold stepL
      rw [if_neg (by omega), if_pos hk, if_neg (by omega)]
    obtain ⟨i1, i2⟩ := ih2 (min 65537 (s + L (-1 - k).toNat)) (by omega) (by omega)
    show 0 ≤ sumA L (stepL L s k) l ∧ sumA L (stepL L s k) l ≤ _
    rw [he, List.length_append]
    exact ⟨i1, by omega⟩
/-- The lengths of shortest words. -/
def LenIs (R : List (Int × List Int)) (N : Nat) (L : Nat → Int) : Prop := SoundL R N L ∧ ∀ k, k < N → ∀ w, WD R k w → 0 ≤ L k ∧ L k ≤ capL w.length
theorem LenIs.of {R : List (Int × List Int)} {N : Nat} {L : Nat → Int} (hS : SoundL R N L) (hc : ∀ i, i < R.length → CRl R L i) : LenIs R N L := by
  refine ⟨hS, fun k hk w hw => ?_⟩
  obtain ⟨r, hr, hrl, h⟩ := hw
  have hcr : ∀ r ∈ R, 0 ≤ sumL L r.2 → 0 ≤ L r.1.toNat ∧ L r.1.toNat ≤ sumL L r.2 := by
    intro r hr
    obtain ⟨i, hi, rfl⟩ := List.getElem_of_mem hr
    have h1 := hc i hi
    unfold CRl at h1
    rw [List.getD_eq_getElem?_getD, List.getElem?_eq_getElem hi, Option.getD_some] at h1
    exact h1
  obtain ⟨j1, j2⟩ := sumA_closed hcr h 0 (by omega) (by omega)
  obtain ⟨c1, c2⟩ := hcr r hr j1
  have hx : r.1.toNat = k := by rw [hrl]; simp
  rw [hx] at c1 c2
  have he : sumL L r.2 = sumA L 0 r.2 := rfl
  refine ⟨c1, ?_⟩
  unfold capL
  split <;> omega
theorem LenIs.eq {R : List (Int × List Int)} {N : Nat} {L L' : Nat → Int} (h : LenIs R N L) (h' : LenIs R N L') {k : Nat} (hk : k < N) : L k = L' k := by
  have a := h.1 k hk
  have b := h'.1 k hk
  by_cases h0 : 0 ≤ L k
  · obtain ⟨w, hw, e⟩ := a.2.2 h0
    obtain ⟨c1, c2⟩ := h'.2 k hk w hw
    obtain ⟨u, hu, e2⟩ := b.2.2 c1
    have := (h.2 k hk u hu).2
    omega
  · by_cases h1 : 0 ≤ L' k
    · obtain ⟨u, hu, _⟩ := b.2.2 h1
      exact absurd (h.2 k hk u hu).1 h0
    · omega
/-- Sums over the nonterminals. -/
def tot (N : Nat) (f : Nat → Nat) : Nat := ((List.range N).map f).sum
theorem tot_succ (N : Nat) (f : Nat → Nat) : tot (N + 1) f = tot N f + f N := by simp [tot, List.range_succ]
theorem tot_mono {f g : Nat → Nat} : ∀ {N : Nat}, (∀ k, k < N → g k ≤ f k) → tot N g ≤ tot N f
  | 0, _ => by simp [tot]
  | N + 1, h => by
    rw [tot_succ, tot_succ]
    have h1 := tot_mono (N := N) (fun k hk => h k (by omega))
    have h2 := h N (by omega)
    omega
theorem tot_lt {f g : Nat → Nat} {x : Nat} (hx' : g x < f x) : ∀ {N : Nat}, x < N → (∀ k, k < N → g k ≤ f k) → tot N g < tot N f
  | 0, hx, _ => by omega
  | N + 1, hx, h => by
    rw [tot_succ, tot_succ]
    have h2 := h N (by omega)
    rcases Nat.lt_or_ge x N with h3 | h3
    · have h1 := tot_lt hx' (N := N) h3 (fun k hk => h k (by omega))
      omega
    · obtain rfl : x = N := by omega
      have h1 := tot_mono (N := x) (fun k hk => h k (by omega))
      omega
/-- How much shorter rows might still become. -/
def lval (n : Int) : Nat := if n < 0 then 65538 else n.toNat
def lmeas (N : Nat) (L : Nat → Int) : Nat := tot N (fun k => lval (L k))
def setL (L : Nat → Int) (x : Nat) (s : Int) : Nat → Int := fun q => if q = x then s else L q
theorem setL_same {L : Nat → Int} {x : Nat} {s : Int} : setL L x s x = s := by simp [setL]
theorem setL_other {L : Nat → Int} {x k : Nat} {s : Int} (h : k ≠ x) : setL L x s k = L k := by simp [setL, h]
theorem lval_lt {n s : Int} (h0 : 0 ≤ s) (h1 : s ≤ 65537) (h : n < 0 ∨ s < n) : lval s < lval n := by
  unfold lval
  rw [if_neg (by omega)]
  split <;> omega
theorem lmeas_lt {N : Nat} {L : Nat → Int} {x : Nat} {s : Int} (hx : x < N) (h0 : 0 ≤ s) (h1 : s ≤ 65537) (h : L x < 0 ∨ s < L x) : lmeas N (setL L x s) < lmeas N L := by
  have h2 := lval_lt h0 h1 h
  refine tot_lt (x := x) (by rw [setL_same]; exact h2) hx (fun k _ => ?_)
  by_cases e : k = x
  · rw [e, setL_same]; omega
  · rw [setL_other e]; exact Nat.le_refl _
theorem SoundL.set {R : List (Int × List Int)} {N : Nat} {L : Nat → Int} (hS : SoundL R N L) {r : Int × List Int} (hr : r ∈ R) (hl : ∀ z ∈ r.2, -(N : Int) ≤ z) (hx : 0 ≤ r.1) (h : 0 ≤ sumL L r.2) : SoundL R N (setL L r.1.toNat (sumL L r.2)) := by
  intro k hk
  unfold setL
  by_cases e : k = r.1.toNat
  · rw [if_pos e]
    obtain ⟨w, hw, he⟩ := sumL_sound hS hl h
    have hg := sumL_ge (L := L) (l := r.2)
    exact ⟨by omega, hg.2, fun _ => ⟨w, ⟨r, hr, by rw [e]; omega, hw⟩, he⟩⟩
  · rw [if_neg e]; exact hS k hk
theorem SoundL.start {R : List (Int × List Int)} {N : Nat} : SoundL R N (fun _ => -1) := by
  intro k hk
  refine ⟨show (-1 : Int) ≤ -1 by decide, show (-1 : Int) ≤ 65537 by decide, fun h => ?_⟩
  exact absurd (show (0 : Int) ≤ -1 from h) (by decide)
theorem stepL_ok {L : Nat → Int} {s k n : Int} (hs : 0 ≤ s) (hn : (if k < 0 then L (-1 - k).toNat else 1) = n) (h0 : 0 ≤ n) : stepL L s k = if s + n < 65537 then s + n else 65537 := by
  unfold stepL
  rw [if_neg (by omega), hn, if_neg (by omega)]
  split <;> omega
end Go.Proofs.YtagcmhnanngfbaaDoor.Hand
