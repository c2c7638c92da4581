/- Plain laws: the numbers of a set one after the other, from the least on, as the library's trailing zeros tell them; unions, meets and differences. -/
import Derived.Test.YtagcmhnanngfbaaDoorBits
import Derived.Lib.TrailingZeros
namespace Go.Proofs.YtagcmhnanngfbaaDoor.Math
open Go.RowKit

theorem ctz_spec (t : Nat) (h0 : t ≠ 0) (h : t < 18446744073709551616) : ∃ m, t = 2 ^ (Lib.ctz 64 t + 1) * m + 2 ^ Lib.ctz 64 t ∧ Lib.ctz 64 t < 64 := by
  obtain ⟨m, hm, hk⟩ := Lib.ctzFrom_spec 64 t (by omega) h
  have e : Lib.ctz 64 t = Lib.ctzFrom 64 t := by simp [Lib.ctz, h0]
  rw [e]
  refine ⟨m, ?_, hk⟩
  rw [Nat.pow_succ, Nat.mul_assoc, ← Nat.mul_succ]
  exact hm
theorem low_test (c m j : Nat) : (2 ^ (c + 1) * m + 2 ^ c).testBit j = (decide (c = j) || (2 ^ (c + 1) * m).testBit j) ∧ (j ≤ c → (2 ^ (c + 1) * m).testBit j = false) := by
  have h1 := Nat.testBit_two_pow_mul_add m (b := 2 ^ c) (i := c + 1) (Nat.pow_lt_pow_right (by decide) (by omega)) j
  have h2 := Nat.testBit_two_pow_mul_add m (b := 0) (i := c + 1) (Nat.two_pow_pos _) j
  rw [Nat.add_zero] at h2
  rw [h1, h2, Nat.testBit_two_pow]
  refine ⟨?_, fun h => by rw [if_pos (by omega)]; simp⟩
  by_cases hj : j < c + 1
  · simp [hj]
  · have : c ≠ j := by omega
    simp [hj, this]
theorem drop_low (c m : Nat) : (2 ^ (c + 1) * m + 2 ^ c) &&& (2 ^ (c + 1) * m + 2 ^ c - 1) = 2 ^ (c + 1) * m := by
  have hp := Nat.two_pow_pos c
  have e : 2 ^ (c + 1) * m + 2 ^ c - 1 = 2 ^ (c + 1) * m + (2 ^ c - 1) := by omega
  have hl : 2 ^ c - 1 < 2 ^ (c + 1) := Nat.lt_of_le_of_lt (Nat.sub_le _ _) (Nat.pow_lt_pow_right (by decide) (by omega))
  apply Nat.eq_of_testBit_eq
  intro j
  have h3 := Nat.testBit_two_pow_mul_add m (b := 2 ^ c - 1) (i := c + 1) hl j
  have h2 := Nat.testBit_two_pow_mul_add m (b := 0) (i := c + 1) (Nat.two_pow_pos _) j
  rw [Nat.add_zero] at h2
  rw [Nat.testBit_and, (low_test c m j).1, e, h3, h2, Nat.testBit_two_pow_sub_one]
  by_cases hj : j < c + 1
  · simp only [hj, if_true, Nat.zero_testBit, Bool.or_false]
    by_cases e : c = j
    · subst e; simp
    · simp [e]
  · have : c ≠ j := by omega
    simp [hj, this]
theorem numsUp_low (c m : Nat) : ∀ k, numsUp (2 ^ (c + 1) * m + 2 ^ c) k = (if c < k then [c] else []) ++ numsUp (2 ^ (c + 1) * m) k
  | 0 => by simp [numsUp]
  | k + 1 => by
    rw [numsUp_succ, numsUp_succ, numsUp_low c m k, (low_test c m k).1]
    rcases Nat.lt_trichotomy c k with h | h | h
    · have h1 : c < k + 1 := by omega
      have h2 : c ≠ k := by omega
      simp [h, h1, h2]
    · subst h
      have h0 : numsUp (2 ^ (c + 1) * m) c = [] := by
        rw [numsUp, List.filter_eq_nil_iff]
        intro j hj
        rw [List.mem_range] at hj
        rw [(low_test c m j).2 (by omega)]; simp
      rw [(low_test c m c).2 (Nat.le_refl _), h0]
      simp
    · have h1 : ¬ c < k := by omega
      have h2 : ¬ c < k + 1 := by omega
      have h3 : c ≠ k := by omega
      simp [h1, h2, h3]
def nextT (t : Nat) : Nat := t &&& (t - 1)
/-- The least number first, then those of the rest. -/
theorem nums_step (t : Nat) (h0 : t ≠ 0) (h : t < 18446744073709551616) : nums64 t = Lib.ctz 64 t :: nums64 (nextT t) ∧ nextT t < t := by
  obtain ⟨m, hm, hk⟩ := ctz_spec t h0 h
  generalize Lib.ctz 64 t = c at *
  have e : nextT t = 2 ^ (c + 1) * m := by rw [nextT, hm]; exact drop_low c m
  refine ⟨?_, by rw [e, hm]; have := Nat.two_pow_pos c; omega⟩
  rw [e]
  show numsUp t 64 = c :: numsUp (2 ^ (c + 1) * m) 64
  rw [hm, numsUp_low, if_pos hk]; rfl
theorem nums_zero : nums64 0 = [] := by
  rw [nums64, List.filter_eq_nil_iff]; intro j _; simp
theorem numsI_step (t : Nat) (h0 : t ≠ 0) (h : t < 18446744073709551616) : numsI t = (Lib.ctz 64 t : Int) :: numsI (nextT t) := by
  rw [numsI, (nums_step t h0 h).1]; rfl
theorem nums_nil {t : Nat} (h : t < 18446744073709551616) : nums64 t = [] ↔ t = 0 := by
  constructor
  · intro e
    refine Classical.byContradiction fun h0 => ?_
    rw [(nums_step t h0 h).1] at e; simp at e
  · rintro rfl; exact nums_zero
theorem numsI_len (s : Nat) : (numsI s).length = pc 64 s := by rw [numsI, List.length_map, pc_nums]
theorem numsI_mem (s : Nat) (x : Int) : x ∈ numsI s ↔ ∃ j : Nat, x = j ∧ j < 64 ∧ s.testBit j = true := by
  simp only [numsI, nums64, List.mem_map, List.mem_filter, List.mem_range]
  constructor
  · rintro ⟨j, ⟨h1, h2⟩, rfl⟩; exact ⟨j, rfl, h1, h2⟩
  · rintro ⟨j, rfl, h1, h2⟩; exact ⟨j, ⟨h1, h2⟩, rfl⟩
theorem foldl_with (l : List Nat) : ∀ u j : Nat, (∀ x ∈ l, x < 64) → ((l.map (fun j : Nat => (j : Int))).foldl withN u).testBit j = (u.testBit j || decide (j ∈ l)) := by
  induction l with
  | nil => intro u j _; simp
  | cons a l ih =>
    intro u j h
    rw [List.map_cons, List.foldl_cons, ih _ _ (fun x hx => h x (List.mem_cons_of_mem _ hx)), withN, Nat.testBit_or, bitN_test, (inR_iff _).2 (by have := h a List.mem_cons_self; omega), Int.toNat_natCast]
    by_cases e : a = j
    · subst e; simp
    · have e' : ¬ j = a := fun h => e h.symm
      simp [e, e']
/-- A set gone through, number by number, and put to another one: both together. -/
theorem or_nums (u s : Nat) (hs : s < 18446744073709551616) : (numsI s).foldl withN u = u ||| s := by
  apply Nat.eq_of_testBit_eq
  intro j
  rw [numsI, foldl_with _ _ _ (fun x hx => by simp [nums64] at hx; exact hx.1), Nat.testBit_or]
  congr 1
  by_cases hj : j < 64
  · cases h : s.testBit j <;> simp [nums64, hj, h]
  · have h := lt_test hs (j := j) (by omega)
    simp [nums64, hj, h]
def unionN (l : List Nat) : Nat := l.foldl (· ||| ·) 0
theorem unionN_snoc (l : List Nat) (k : Nat) : unionN (l ++ [k]) = unionN l ||| k := by simp [unionN]
theorem unionN_lt_aux (l : List Nat) : ∀ s, s < 18446744073709551616 → (∀ x ∈ l, x < 18446744073709551616) → l.foldl (· ||| ·) s < 18446744073709551616 := by
  induction l with
  | nil => intro s h _; exact h
  | cons a l ih => intro s h hl; exact ih _ (or_lt h (hl a List.mem_cons_self)) (fun x hx => hl x (List.mem_cons_of_mem _ hx))
theorem unionN_lt (l : List Nat) (h : ∀ x ∈ l, x < 18446744073709551616) : unionN l < 18446744073709551616 := unionN_lt_aux l 0 (by decide) h
def minusN (s t : Nat) : Nat := s &&& (t ^^^ 18446744073709551615)
theorem minusN_lt {s : Nat} (t : Nat) (h : s < 18446744073709551616) : minusN s t < 18446744073709551616 := and_lt _ h
theorem minusN_test {s : Nat} (t : Nat) (hs : s < 18446744073709551616) (j : Nat) : (minusN s t).testBit j = (s.testBit j && !t.testBit j) := by
  rw [minusN, Nat.testBit_and, Nat.testBit_xor, max_test]
  by_cases hj : j < 64
  · simp [hj]
  · simp [lt_test hs (Nat.le_of_not_lt hj)]
theorem low_and_step (s t k : Nat) (hk : k < 64) : (if hasN s k && hasN t k then withN ((s &&& t) % 2 ^ k) k else (s &&& t) % 2 ^ k) = (s &&& t) % 2 ^ (k + 1) := by
  rw [← withN_low _ _ hk, Nat.testBit_and]
  simp [hasN, (inR_iff (k : Int)).2 (by omega : (0 : Int) ≤ k ∧ (k : Int) ≤ 63)]
theorem low_minus_step (s t k : Nat) (hs : s < 18446744073709551616) (hk : k < 64) : (if hasN s k && !hasN t k then withN (minusN s t % 2 ^ k) k else minusN s t % 2 ^ k) = minusN s t % 2 ^ (k + 1) := by
  rw [← withN_low _ _ hk, minusN_test t hs]
  simp [hasN, (inR_iff (k : Int)).2 (by omega : (0 : Int) ≤ k ∧ (k : Int) ≤ 63)]
theorem numsI_up (s k : Nat) (hk : k < 64) : (numsUp s (k + 1)).map (fun j : Nat => (j : Int)) = (numsUp s k).map (fun j : Nat => (j : Int)) ++ if hasN s k then [(k : Int)] else [] := by
  rw [numsUp_succ, List.map_append]
  congr 1
  simp only [hasN, (inR_iff (k : Int)).2 (by omega : (0 : Int) ≤ k ∧ (k : Int) ≤ 63), Bool.true_and, Int.toNat_natCast]
  cases s.testBit k <;> simp
end Go.Proofs.YtagcmhnanngfbaaDoor.Math
