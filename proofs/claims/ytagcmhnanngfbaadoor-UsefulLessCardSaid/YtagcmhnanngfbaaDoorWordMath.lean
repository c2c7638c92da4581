/- Least words: shortest first, then by tokens. -/
import Derived.Test.YtagcmhnanngfbaaDoorLenMath
namespace Go.Proofs.YtagcmhnanngfbaaDoor.Hand
open Go.RowKit Go.Proofs.YtagcmhnanngfbaaDoorW.PrintWords Go.Proofs.YtagcmhnanngfbaaDoorW.PrintMore Go.Proofs.YtagcmhnanngfbaaDoor.Math

/-- Which of two lists is ahead: -1, 0, 1. -/
def cmpL : List Int → List Int → Int
  | [], [] => 0
  | [], _ :: _ => -1
  | _ :: _, [] => 1
  | a :: l, b :: m => if a < b then -1 else if b < a then 1 else cmpL l m
theorem cmpL_refl : ∀ l, cmpL l l = 0
  | [] => rfl
  | a :: l => by simp [cmpL, cmpL_refl l]
theorem cmpL_eq : ∀ {l m : List Int}, cmpL l m = 0 → l = m
  | [], [], _ => rfl
  | [], _ :: _, h => by simp [cmpL] at h
  | _ :: _, [], h => by simp [cmpL] at h
  | a :: l, b :: m, h => by
    unfold cmpL at h
    split at h
    · omega
    · split at h
      · omega
      · have := cmpL_eq h
        rw [this, show a = b by omega]
theorem cmpL_neg : ∀ (l m : List Int), cmpL l m = - cmpL m l
  | [], [] => rfl
  | [], _ :: _ => rfl
  | _ :: _, [] => rfl
  | a :: l, b :: m => by
    unfold cmpL
    have := cmpL_neg l m
    split <;> split <;> first | omega | (split <;> omega)
theorem cmpL_append : ∀ {a a' b b' : List Int}, a.length = a'.length → cmpL a a' ≤ 0 → cmpL b b' ≤ 0 → cmpL (a ++ b) (a' ++ b') ≤ 0
  | [], [], b, b', _, _, h => h
  | [], _ :: _, _, _, h, _, _ => by simp at h
  | _ :: _, [], _, _, h, _, _ => by simp at h
  | x :: a, y :: a', b, b', h, h1, h2 => by
    have hl : a.length = a'.length := by simpa using h
    show cmpL (x :: (a ++ b)) (y :: (a' ++ b')) ≤ 0
    unfold cmpL at h1 ⊢
    split
    · omega
    · rename_i e1
      rw [if_neg e1] at h1
      split
      · rename_i e2; rw [if_pos e2] at h1; omega
      · rename_i e2; rw [if_neg e2] at h1; exact cmpL_append hl h1 h2
theorem cmpL_trans : ∀ {a b c : List Int}, cmpL a b ≤ 0 → cmpL b c ≤ 0 → cmpL a c ≤ 0
  | [], [], _, _, h => h
  | [], _ :: _, [], _, h => by simp [cmpL] at h
  | [], _ :: _, _ :: _, _, _ => by simp [cmpL]
  | _ :: _, [], _, h, _ => by simp [cmpL] at h
  | _ :: _, _ :: _, [], _, h => by simp [cmpL] at h
  | x :: a, y :: b, z :: c, h1, h2 => by
    unfold cmpL at h1 h2 ⊢
    have ht := cmpL_trans (a := a) (b := b) (c := c)
    by_cases e1 : x < y
    · by_cases e2 : y < z
      · rw [if_pos (by omega)]; omega
      · rw [if_neg e2] at h2
        split at h2
        · omega
        · rw [if_pos (by omega)]; omega
    · rw [if_neg e1] at h1
      split at h1
      · omega
      · by_cases e2 : y < z
        · rw [if_pos (by omega)]; omega
        · rw [if_neg e2] at h2
          split at h2
          · omega
          · rw [if_neg (by omega), if_neg (by omega)]; exact ht h1 h2
/-- Shorter, or as long and not behind. -/
def sle (a b : List Int) : Prop := a.length < b.length ∨ a.length = b.length ∧ cmpL a b ≤ 0
theorem sle_refl (a : List Int) : sle a a := .inr ⟨rfl, by rw [cmpL_refl]; omega⟩
theorem sle_trans {a b c : List Int} (h1 : sle a b) (h2 : sle b c) : sle a c := by
  rcases h1 with h1 | ⟨h1, h1'⟩ <;> rcases h2 with h2 | ⟨h2, h2'⟩
  · exact .inl (by omega)
  · exact .inl (by omega)
  · exact .inl (by omega)
  · exact .inr ⟨by omega, cmpL_trans h1' h2'⟩
theorem sle_antisymm {a b : List Int} (h1 : sle a b) (h2 : sle b a) : a = b := by
  rcases h1 with h1 | ⟨h1, h1'⟩ <;> rcases h2 with h2 | ⟨h2, h2'⟩ <;> try omega
  rw [cmpL_neg] at h2'
  exact cmpL_eq (by omega)
theorem sle_len {a b : List Int} (h : sle a b) : a.length ≤ b.length := by rcases h with h | ⟨h, _⟩ <;> omega
theorem sle_append {a a' b b' : List Int} (h1 : sle a a') (h2 : sle b b') : sle (a ++ b) (a' ++ b') := by
  rcases h1 with h1 | ⟨h1, h1'⟩
  · have := sle_len h2
    exact .inl (by simp only [List.length_append]; omega)
  · rcases h2 with h2 | ⟨h2, h2'⟩
    · exact .inl (by simp only [List.length_append]; omega)
    · exact .inr ⟨by simp only [List.length_append]; omega, cmpL_append h1 h1' h2'⟩
/-- The least word of a nonterminal. -/
def WordIs (R : List (Int × List Int)) (k : Nat) (w : List Int) : Prop := WD R k w ∧ ∀ u, WD R k u → sle w u
theorem WordIs.eq {R : List (Int × List Int)} {k : Nat} {w u : List Int} (h : WordIs R k w) (h' : WordIs R k u) : w = u := sle_antisymm (h.2 u h'.1) (h'.2 w h.1)
/-- A word as a number. -/
def valW (w : List Int) : Nat := w.foldl (fun v z => v * 64 + z.toNat) 0
def valA (v : Nat) (w : List Int) : Nat := w.foldl (fun v z => v * 64 + z.toNat) v
theorem valA_lt : ∀ {w : List Int} {v : Nat}, (∀ z ∈ w, 0 ≤ z ∧ z < 64) → valA v w < (v + 1) * 64 ^ w.length
  | [], v, _ => by simp [valA]
  | z :: w, v, h => by
    have hz := h z (List.mem_cons_self ..)
    have ih := valA_lt (w := w) (v := v * 64 + z.toNat) (fun y hy => h y (List.mem_cons_of_mem _ hy))
    show valA (v * 64 + z.toNat) w < _
    refine Nat.lt_of_lt_of_le ih ?_
    rw [List.length_cons, Nat.pow_succ, ← Nat.mul_assoc, Nat.mul_right_comm]
    exact Nat.mul_le_mul_right _ (by omega)
theorem valA_cmp : ∀ {a b : List Int} {v v' : Nat}, a.length = b.length → (∀ z ∈ a, 0 ≤ z ∧ z < 64) → (∀ z ∈ b, 0 ≤ z ∧ z < 64) → (v < v' ∨ v = v' ∧ cmpL a b < 0) → valA v a < valA v' b
  | [], [], v, v', _, _, _, h => by
    rcases h with h | ⟨_, h⟩
    · exact h
    · simp [cmpL] at h
  | [], _ :: _, _, _, h, _, _, _ => by simp at h
  | _ :: _, [], _, _, h, _, _, _ => by simp at h
  | x :: a, y :: b, v, v', hl, ha, hb, h => by
    have hx := ha x (List.mem_cons_self ..)
    have hy := hb y (List.mem_cons_self ..)
    show valA (v * 64 + x.toNat) a < valA (v' * 64 + y.toNat) b
    refine valA_cmp (by simpa using hl) (fun z hz => ha z (List.mem_cons_of_mem _ hz)) (fun z hz => hb z (List.mem_cons_of_mem _ hz)) ?_
    rcases h with h | ⟨rfl, h⟩
    · exact .inl (by omega)
    · unfold cmpL at h
      split at h
      · exact .inl (by omega)
      · split at h
        · omega
        · exact .inr ⟨by omega, h⟩
theorem valW_lt_of {a b : List Int} (hl : a.length = b.length) (ha : ∀ z ∈ a, 0 ≤ z ∧ z < 64) (hb : ∀ z ∈ b, 0 ≤ z ∧ z < 64) (h : cmpL a b < 0) : valW a < valW b := valA_cmp hl ha hb (.inr ⟨rfl, h⟩)
/-- A number that no word of at most 65536 tokens reaches. -/
def bigB (n : Nat) : Nat := 64 ^ n
theorem valW_lt {w : List Int} {n : Nat} (h : ∀ z ∈ w, 0 ≤ z ∧ z < 64) (hn : w.length ≤ n) : valW w < bigB n := by
  have := valA_lt (v := 0) h
  rw [Nat.zero_add, Nat.one_mul] at this
  exact Nat.lt_of_lt_of_le this (Nat.pow_le_pow_right (by decide) hn)
def rankW (n : Nat) : Option (List Int) → Nat
  | none => (n + 1) * (bigB n + 1)
  | some w => w.length * (bigB n + 1) + valW w
theorem rankW_lt {n : Nat} {w : List Int} {o : Option (List Int)} (hw : ∀ z ∈ w, 0 ≤ z ∧ z < 64) (hn : w.length ≤ n) (ho : ∀ u, o = some u → (∀ z ∈ u, 0 ≤ z ∧ z < 64) ∧ u.length ≤ n ∧ (w.length < u.length ∨ w.length = u.length ∧ cmpL w u < 0)) : rankW n (some w) < rankW n o := by
  have hv := valW_lt hw hn
  show w.length * (bigB n + 1) + valW w < rankW n o
  cases o with
  | none =>
    show _ < (n + 1) * (bigB n + 1)
    have : (w.length + 1) * (bigB n + 1) ≤ (n + 1) * (bigB n + 1) := Nat.mul_le_mul_right _ (by omega)
    rw [Nat.add_mul] at this
    omega
  | some u =>
    obtain ⟨hu, hun, h⟩ := ho u rfl
    show _ < u.length * (bigB n + 1) + valW u
    rcases h with h | ⟨h, h'⟩
    · have : (w.length + 1) * (bigB n + 1) ≤ u.length * (bigB n + 1) := Nat.mul_le_mul_right _ (by omega)
      rw [Nat.add_mul] at this
      omega
    · rw [h]
      have := valW_lt_of h hw hu h'
      omega
theorem WS_digits {t N : Nat} {R : List (Int × List Int)} (hR : RulesIn t N R) {l w : List Int} (h : WS R l w) : (∀ z ∈ l, z < (t : Int)) → ∀ z ∈ w, 0 ≤ z ∧ z < (t : Int) := by
  induction h with
  | nil => intro _ z hz; cases hz
  | tok h0 _ ih =>
    intro hl z hz
    rcases List.mem_cons.1 hz with rfl | hz
    · exact ⟨h0, hl _ (List.mem_cons_self ..)⟩
    · exact ih (fun y hy => hl y (List.mem_cons_of_mem _ hy)) z hz
  | nt h0 r hr _ _ _ ih1 ih2 =>
    intro hl z hz
    rcases List.mem_append.1 hz with hz | hz
    · exact ih1 (fun y hy => (hR.sym hr hy).2) z hz
    · exact ih2 (fun y hy => hl y (List.mem_cons_of_mem _ hy)) z hz
theorem WD.digits {t N k : Nat} {R : List (Int × List Int)} (hR : RulesIn t N R) (ht : t ≤ 60) {w : List Int} (h : WD R k w) : ∀ z ∈ w, 0 ≤ z ∧ z < 64 := by
  obtain ⟨r, hr, _, h⟩ := h
  intro z hz
  have := WS_digits hR h (fun y hy => (hR.sym hr hy).2) z hz
  exact ⟨this.1, by omega⟩
/-- What the document's loop makes of a right side, from a row on; none: given up. -/
def buildR (W : Nat → Option (List Int)) (p : Option (List Int)) (k : Int) : Option (List Int) :=
  match p with
  | none => none
  | some p => if 0 ≤ k then some (p ++ [k]) else match W (-1 - k).toNat with | none => none | some u => if p.length + u.length > 65536 then none else some (p ++ u)
def bldA (W : Nat → Option (List Int)) (p : Option (List Int)) (l : List Int) : Option (List Int) := l.foldl (buildR W) p
theorem bldA_none (W : Nat → Option (List Int)) : ∀ l, bldA W none l = none
  | [] => rfl
  | _ :: l => bldA_none W l
def SoundW (R : List (Int × List Int)) (N M : Nat) (W : Nat → Option (List Int)) : Prop := ∀ k, k < N → ∀ w, W k = some w → WD R k w ∧ w.length ≤ M
theorem bldA_sound {R : List (Int × List Int)} {N M : Nat} {W : Nat → Option (List Int)} (hS : SoundW R N M W) : ∀ {l p q : List Int}, (∀ z ∈ l, -(N : Int) ≤ z) → bldA W (some p) l = some q → ∃ w, WS R l w ∧ q = p ++ w
  | [], p, q, _, h => ⟨[], .nil, by have : some p = some q := h; simpa using this.symm⟩
  | k :: l, p, q, hl, h => by
    have hk := hl k (List.mem_cons_self ..)
    have h2 : bldA W (buildR W (some p) k) l = some q := h
    by_cases h0 : 0 ≤ k
    · have e : buildR W (some p) k = some (p ++ [k]) := by simp [buildR, h0]
      rw [e] at h2
      obtain ⟨w, hw, rfl⟩ := bldA_sound hS (fun z hz => hl z (List.mem_cons_of_mem _ hz)) h2
      exact ⟨k :: w, .tok h0 hw, by simp⟩
    · cases hW : W (-1 - k).toNat with
      | none =>
        have e : buildR W (some p) k = none := by simp [buildR, h0, hW]
        rw [e, bldA_none] at h2; cases h2
      | some u =>
        by_cases hlen : p.length + u.length > 65536
        · have e : buildR W (some p) k = none := by simp [buildR, h0, hW, hlen]
          rw [e, bldA_none] at h2; cases h2
        · have e : buildR W (some p) k = some (p ++ u) := by simp [buildR, h0, hW, hlen]
          rw [e] at h2
          obtain ⟨w, hw, rfl⟩ := bldA_sound hS (fun z hz => hl z (List.mem_cons_of_mem _ hz)) h2
          obtain ⟨⟨r, hr, hrl, hu⟩, _⟩ := hS _ (by omega) u hW
          exact ⟨u ++ w, .nt (by omega) r hr (by rw [hrl]; omega) hu hw, by simp⟩
/-- Rule i makes nothing that is ahead of what is known. -/
def CRw (R : List (Int × List Int)) (W : Nat → Option (List Int)) (i : Nat) : Prop := ∀ q, bldA W (some []) (R.getD i (0, [])).2 = some q → q.length ≤ 65536 → ∃ u, W (R.getD i (0, [])).1.toNat = some u ∧ sle u q
theorem bldA_least {R : List (Int × List Int)} {W : Nat → Option (List Int)} (hc : ∀ r ∈ R, ∀ q, bldA W (some []) r.2 = some q → q.length ≤ 65536 → ∃ u, W r.1.toNat = some u ∧ sle u q) {l w : List Int} (h : WS R l w) :
    ∀ p : List Int, p.length + w.length ≤ 65536 → ∃ row, bldA W (some p) l = some (p ++ row) ∧ sle row w := by
  induction h with
  | nil => intro p _; exact ⟨[], by simp [bldA], sle_refl _⟩
  | @tok k l w h0 h ih =>
    intro p hp
    obtain ⟨row, h1, h2⟩ := ih (p ++ [k]) (by simp at hp ⊢; omega)
    refine ⟨k :: row, ?_, sle_append (a := [k]) (a' := [k]) (sle_refl _) h2⟩
    show bldA W (buildR W (some p) k) l = _
    rw [show buildR W (some p) k = some (p ++ [k]) by simp [buildR, h0], h1]
    simp
  | @nt k l w u h0 r hr hrl h1' h ih1 ih2 =>
    intro p hp
    rw [List.length_append] at hp
    obtain ⟨row1, j1, j2⟩ := ih1 [] (by simp; omega)
    rw [List.nil_append] at j1
    have hl1 := sle_len j2
    obtain ⟨u0, hu0, hs0⟩ := hc r hr row1 j1 (by omega)
    have hle := sle_trans hs0 j2
    have hll := sle_len hle
    have hx : r.1.toNat = (-1 - k).toNat := by rw [hrl]
    rw [hx] at hu0
    obtain ⟨row2, i1, i2⟩ := ih2 (p ++ u0) (by rw [List.length_append]; omega)
    refine ⟨u0 ++ row2, ?_, sle_append hle i2⟩
    show bldA W (buildR W (some p) k) l = _
    have h0' : ¬ 0 ≤ k := by omega
    have hlen : ¬ p.length + u0.length > 65536 := by omega
    rw [show buildR W (some p) k = some (p ++ u0) by simp [buildR, h0', hu0, hlen], i1]
    simp
theorem CRw.least {R : List (Int × List Int)} {N M : Nat} {W : Nat → Option (List Int)} (hS : SoundW R N M W) (hc : ∀ i, i < R.length → CRw R W i) {k : Nat} (hk : k < N) {w : List Int} (hw : WD R k w) (hl : w.length ≤ 65536) : ∃ u, W k = some u ∧ WordIs R k u := by
  have hcr : ∀ r ∈ R, ∀ q, bldA W (some []) r.2 = some q → q.length ≤ 65536 → ∃ u, W r.1.toNat = some u ∧ sle u q := by
    intro r hr
    obtain ⟨i, hi, rfl⟩ := List.getElem_of_mem hr
    have h1 := hc i hi
    unfold CRw at h1
    rw [List.getD_eq_getElem?_getD, List.getElem?_eq_getElem hi, Option.getD_some] at h1
    exact h1
  have main : ∀ w, WD R k w → w.length ≤ 65536 → ∃ u, W k = some u ∧ sle u w := by
    rintro w ⟨r, hr, hrl, h⟩ hl
    obtain ⟨row, h1, h2⟩ := bldA_least hcr h [] (by simpa using hl)
    rw [List.nil_append] at h1
    obtain ⟨u, hu, hs⟩ := hcr r hr row h1 (by have := sle_len h2; omega)
    rw [show r.1.toNat = k by rw [hrl]; simp] at hu
    exact ⟨u, hu, sle_trans hs h2⟩
  obtain ⟨u, hu, hsu⟩ := main w hw hl
  have hul2 := sle_len hsu
  obtain ⟨hd, hul⟩ := hS k hk u hu
  refine ⟨u, hu, hd, fun v hv => ?_⟩
  by_cases hvl : v.length ≤ 65536
  · obtain ⟨u', hu', hs⟩ := main v hv hvl
    rw [hu] at hu'
    obtain rfl := Option.some.inj hu'
    exact hs
  · exact .inl (by omega)
theorem bldA_len {W : Nat → Option (List Int)} : ∀ {l p q : List Int}, bldA W (some p) l = some q → q.length ≤ max p.length 65536 + l.length
  | [], p, q, h => by
    have : some p = some q := h
    obtain rfl := Option.some.inj this
    simp; omega
  | k :: l, p, q, h => by
    have h2 : bldA W (buildR W (some p) k) l = some q := h
    by_cases h0 : 0 ≤ k
    · rw [show buildR W (some p) k = some (p ++ [k]) by simp [buildR, h0]] at h2
      have := bldA_len h2
      simp only [List.length_append, List.length_cons, List.length_nil] at this ⊢
      omega
    · cases hW : W (-1 - k).toNat with
      | none => rw [show buildR W (some p) k = none by simp [buildR, h0, hW], bldA_none] at h2; cases h2
      | some u =>
        by_cases hlen : p.length + u.length > 65536
        · rw [show buildR W (some p) k = none by simp [buildR, h0, hW, hlen], bldA_none] at h2; cases h2
        · rw [show buildR W (some p) k = some (p ++ u) by simp [buildR, h0, hW, hlen]] at h2
          have := bldA_len h2
          simp only [List.length_append, List.length_cons] at this ⊢
          omega
theorem bldA_snoc (W : Nat → Option (List Int)) (p : Option (List Int)) (l : List Int) (k : Int) : bldA W p (l ++ [k]) = buildR W (bldA W p l) k := by simp [bldA]
theorem bldA_split {W : Nat → Option (List Int)} {p : Option (List Int)} (l : List Int) (k : Nat) (h : bldA W p (l.take k) = none) : bldA W p l = none := by
  have e : bldA W p l = bldA W (bldA W p (l.take k)) (l.drop k) := by
    show l.foldl (buildR W) p = (l.drop k).foldl (buildR W) ((l.take k).foldl (buildR W) p)
    rw [← List.foldl_append, List.take_append_drop]
  rw [e, h, bldA_none]
/-- One row more. -/
def setW (W : Nat → Option (List Int)) (x : Nat) (q : List Int) : Nat → Option (List Int) := fun k => if k = x then some q else W k
theorem setW_same {W : Nat → Option (List Int)} {x : Nat} {q : List Int} : setW W x q x = some q := by simp [setW]
theorem setW_other {W : Nat → Option (List Int)} {x k : Nat} {q : List Int} (h : k ≠ x) : setW W x q k = W k := by simp [setW, h]
def wmeas (N M : Nat) (W : Nat → Option (List Int)) : Nat := tot N (fun k => rankW M (W k))
theorem wmeas_lt {N M : Nat} {W : Nat → Option (List Int)} {x : Nat} {q : List Int} (hx : x < N) (h : rankW M (some q) < rankW M (W x)) : wmeas N M (setW W x q) < wmeas N M W := by
  refine tot_lt (x := x) (by rw [setW_same]; exact h) hx (fun k _ => ?_)
  by_cases e : k = x
  · rw [e, setW_same]; exact Nat.le_of_lt h
  · rw [setW_other e]; exact Nat.le_refl _
theorem SoundW.set {R : List (Int × List Int)} {N M : Nat} {W : Nat → Option (List Int)} (hS : SoundW R N M W) {r : Int × List Int} (hr : r ∈ R) (hl : ∀ z ∈ r.2, -(N : Int) ≤ z) (hx : 0 ≤ r.1) {q : List Int} (h : bldA W (some []) r.2 = some q) (hM : 65536 + r.2.length ≤ M) : SoundW R N M (setW W r.1.toNat q) := by
  intro k hk w hw
  by_cases e : k = r.1.toNat
  · rw [e, setW_same] at hw
    obtain rfl := Option.some.inj hw
    obtain ⟨u, hu, rfl⟩ := bldA_sound hS hl h
    have := bldA_len h
    refine ⟨⟨r, hr, by rw [e]; omega, hu⟩, ?_⟩
    simp only [List.length_nil] at this
    omega
  · rw [setW_other e] at hw
    exact hS k hk w hw
end Go.Proofs.YtagcmhnanngfbaaDoor.Hand
