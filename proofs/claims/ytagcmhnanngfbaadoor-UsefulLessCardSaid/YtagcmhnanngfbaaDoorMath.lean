/- Plain laws of sets of the numbers 0 to 63 as natural numbers below 2^64: bits, one number more, one less. -/
import Derived.Laws.BitsLemmas
import Derived.RowKit
namespace Go.Proofs.YtagcmhnanngfbaaDoor.Math
open Go.RowKit

def inR (k : Int) : Bool := decide (0 ≤ k) && decide (k ≤ 63)
def bitN (k : Int) : Nat := if inR k then 2 ^ k.toNat else 0
def hasN (s : Nat) (k : Int) : Bool := inR k && s.testBit k.toNat
def withN (s : Nat) (k : Int) : Nat := s ||| bitN k
def withoutN (s : Nat) (k : Int) : Nat := s &&& (bitN k ^^^ 18446744073709551615)
def ofN (l : List Int) : Nat := l.foldl withN 0
def fullN (n : Int) : Nat := 2 ^ (min n.toNat 64) - 1

theorem pow64_le {j : Nat} (h : 64 ≤ j) : 18446744073709551616 ≤ 2 ^ j := by
  have := Nat.pow_le_pow_right (show 0 < 2 by decide) h
  rwa [show (2:Nat) ^ 64 = 18446744073709551616 from by decide] at this
theorem wrap_u64 (n : Int) : IntKind.u64.wrap n = n % 18446744073709551616 := by simp [IntKind.wrap, IntKind.bits, IntKind.signed]
theorem wrap_u64_nat (n : Nat) (h : n < 18446744073709551616) : IntKind.u64.wrap (n : Int) = (n : Int) := by rw [wrap_u64]; omega

theorem inR_iff (k : Int) : inR k = true ↔ 0 ≤ k ∧ k ≤ 63 := by simp [inR]
theorem inR_no (k : Int) : inR k = false ↔ k < 0 ∨ 63 < k := by
  rw [← Bool.not_eq_true, inR_iff]; omega

theorem bitN_lt (k : Int) : bitN k < 18446744073709551616 := by
  unfold bitN
  split
  · rename_i h; rw [inR_iff] at h
    exact Nat.pow_lt_pow_right (by decide) (show k.toNat < 64 by omega)
  · decide

theorem bitN_test (k : Int) (j : Nat) : (bitN k).testBit j = (inR k && decide (k.toNat = j)) := by
  unfold bitN
  cases h : inR k
  · simp
  · simp [Nat.testBit_two_pow]

theorem or_lt {a b : Nat} (ha : a < 18446744073709551616) (hb : b < 18446744073709551616) : a ||| b < 18446744073709551616 := Nat.or_lt_two_pow (n := 64) ha hb
theorem and_lt {a : Nat} (b : Nat) (ha : a < 18446744073709551616) : a &&& b < 18446744073709551616 := Nat.lt_of_le_of_lt Nat.and_le_left ha

theorem bits_or (a b : Nat) (ha : a < 18446744073709551616) (hb : b < 18446744073709551616) : bits .or .u64 (a : Int) (b : Int) = ((a ||| b : Nat) : Int) :=
  (bits_nat .u64 64 (by decide) (fun n h0 h1 => by rw [wrap_u64]; omega) a b ha hb).2
theorem bits_and (a b : Nat) (ha : a < 18446744073709551616) (hb : b < 18446744073709551616) : bits .and .u64 (a : Int) (b : Int) = ((a &&& b : Nat) : Int) :=
  (bits_nat .u64 64 (by decide) (fun n h0 h1 => by rw [wrap_u64]; omega) a b ha hb).1
theorem bits_andNot (a b : Nat) (ha : a < 18446744073709551616) (hb : b < 18446744073709551616) : bits .andNot .u64 (a : Int) (b : Int) = ((a &&& (b ^^^ 18446744073709551615) : Nat) : Int) := by
  have h : (18446744073709551615 : Nat) = 2 ^ 64 - 1 := by decide
  have e : (BitVec.ofNat 64 a &&& ~~~ BitVec.ofNat 64 b).toNat = a &&& (b ^^^ 18446744073709551615) := by
    apply Nat.eq_of_testBit_eq
    intro j
    by_cases hj : j < 64
    · rw [BitVec.testBit_toNat, Nat.testBit_and, Nat.testBit_xor, h, Nat.testBit_two_pow_sub_one]
      rw [BitVec.getLsbD_and, BitVec.getLsbD_not, BitVec.getLsbD_ofNat, BitVec.getLsbD_ofNat]
      simp [hj]
    · have h1 : (BitVec.ofNat 64 a &&& ~~~ BitVec.ofNat 64 b).toNat.testBit j = false := Nat.testBit_lt_two_pow (Nat.lt_of_lt_of_le (BitVec.isLt _) (Nat.pow_le_pow_right (by decide) (by omega)))
      have h2 : a.testBit j = false := Nat.testBit_lt_two_pow (Nat.lt_of_lt_of_le ha (pow64_le (by omega)))
      rw [h1, Nat.testBit_and, h2]; rfl
  have e2 : bits .andNot .u64 (a : Int) (b : Int) = IntKind.u64.wrap ((BitVec.ofNat 64 a &&& ~~~ BitVec.ofNat 64 b).toNat : Int) := by
    simp only [bits, BitVec.ofInt_natCast]; rfl
  rw [e2, e]
  exact wrap_u64_nat _ (and_lt _ ha)

theorem withN_lt {s : Nat} (h : s < 18446744073709551616) (k : Int) : withN s k < 18446744073709551616 := or_lt h (bitN_lt k)
theorem withoutN_lt {s : Nat} (h : s < 18446744073709551616) (k : Int) : withoutN s k < 18446744073709551616 := and_lt _ h
theorem ofN_snoc (l : List Int) (k : Int) : ofN (l ++ [k]) = withN (ofN l) k := by simp [ofN]
theorem ofN_lt_aux (l : List Int) : ∀ s, s < 18446744073709551616 → l.foldl withN s < 18446744073709551616 := by
  induction l with
  | nil => intro s h; exact h
  | cons a l ih => intro s h; exact ih _ (withN_lt h a)
theorem ofN_lt (l : List Int) : ofN l < 18446744073709551616 := ofN_lt_aux l 0 (by decide)

theorem and_bit (s : Nat) (k : Int) : (s &&& bitN k != 0) = hasN s k := by
  unfold hasN
  cases h : inR k
  · simp [bitN, h]
  · simp only [bitN, h, if_true, Bool.true_and]
    cases hb : s.testBit k.toNat
    · have : s &&& 2 ^ k.toNat = 0 := by
        apply Nat.eq_of_testBit_eq
        intro j
        rw [Nat.testBit_and, Nat.testBit_two_pow, Nat.zero_testBit]
        by_cases e : k.toNat = j
        · subst e; simp [hb]
        · simp [e]
      simp [this]
    · have : s &&& 2 ^ k.toNat ≠ 0 := by
        intro h0
        have h1 : (s &&& 2 ^ k.toNat).testBit k.toNat = true := by rw [Nat.testBit_and, Nat.testBit_two_pow_self, hb]; rfl
        rw [h0] at h1; simp at h1
      simpa using this

/-- One number more, by sums: the document's way. -/
theorem withN_has {s : Nat} {k : Int} (h : hasN s k = true) : withN s k = s := by
  apply Nat.eq_of_testBit_eq
  intro j
  unfold hasN at h
  simp only [Bool.and_eq_true] at h
  rw [withN, Nat.testBit_or, bitN_test, h.1]
  by_cases e : k.toNat = j
  · subst e; simp [h.2]
  · simp [e]
theorem withN_out {s : Nat} {k : Int} (h : inR k = false) : withN s k = s := by simp [withN, bitN, h]
theorem hasN_out {s : Nat} {k : Int} (h : inR k = false) : hasN s k = false := by simp [hasN, h]
theorem withoutN_out {s : Nat} {k : Int} (hs : s < 18446744073709551616) (h : inR k = false) : withoutN s k = s := by
  simp only [withoutN, bitN, h, Bool.false_eq_true, if_false, Nat.zero_xor]
  have := Nat.and_two_pow_sub_one_eq_mod s 64
  rw [show (2 ^ 64 - 1 : Nat) = 18446744073709551615 from by decide] at this
  rw [this]
  exact Nat.mod_eq_of_lt hs
theorem add_two_pow {s j : Nat} (h : s.testBit j = false) : s + 2 ^ j = s ||| 2 ^ j := by
  have hp : s ||| 2 ^ j < 2 ^ (s + j + 1) := Nat.or_lt_two_pow (Nat.lt_of_lt_of_le Nat.lt_two_pow_self (Nat.pow_le_pow_right (by decide) (by omega))) (Nat.pow_lt_pow_right (by decide) (by omega))
  have h1 : s < 2 ^ (s + j) := Nat.lt_of_lt_of_le Nat.lt_two_pow_self (Nat.pow_le_pow_right (by decide) (by omega))
  have h2 : 2 ^ j ≤ 2 ^ (s + j) := Nat.pow_le_pow_right (by decide) (by omega)
  have h3 : 2 ^ (s + j + 1) = 2 ^ (s + j) + 2 ^ (s + j) := by rw [Nat.pow_succ]; omega
  have e : BitVec.ofNat (s + j + 1) s + BitVec.ofNat (s + j + 1) (2 ^ j) = BitVec.ofNat (s + j + 1) s ||| BitVec.ofNat (s + j + 1) (2 ^ j) := by
    apply BitVec.add_eq_or_of_and_eq_zero
    apply BitVec.eq_of_toNat_eq
    rw [BitVec.toNat_and, BitVec.toNat_ofNat, BitVec.toNat_ofNat, Nat.mod_eq_of_lt (by omega), Nat.mod_eq_of_lt (by omega)]
    simp only [BitVec.toNat_ofNat, Nat.zero_mod]
    apply Nat.eq_of_testBit_eq
    intro i
    rw [Nat.testBit_and, Nat.testBit_two_pow, Nat.zero_testBit]
    by_cases e : j = i
    · subst e; simp [h]
    · simp [e]
  have e2 := congrArg BitVec.toNat e
  rw [BitVec.toNat_add, BitVec.toNat_or, BitVec.toNat_ofNat, BitVec.toNat_ofNat, Nat.mod_eq_of_lt (a := s) (by omega), Nat.mod_eq_of_lt (a := 2 ^ j) (by omega), Nat.mod_eq_of_lt (by omega)] at e2
  exact e2
theorem withN_add {s : Nat} {k : Int} (hr : inR k = true) (h : hasN s k = false) : withN s k = s + 2 ^ k.toNat := by
  simp only [hasN, hr, Bool.true_and] at h
  simp only [withN, bitN, hr, if_true]
  exact (add_two_pow h).symm
theorem max_test (j : Nat) : (18446744073709551615 : Nat).testBit j = decide (j < 64) := by
  rw [show (18446744073709551615 : Nat) = 2 ^ 64 - 1 from by decide, Nat.testBit_two_pow_sub_one]
theorem lt_test {s : Nat} (hs : s < 18446744073709551616) {j : Nat} (h : 64 ≤ j) : s.testBit j = false :=
  Nat.testBit_lt_two_pow (Nat.lt_of_lt_of_le hs (pow64_le h))
theorem withoutN_test {s : Nat} (hs : s < 18446744073709551616) (k : Int) (j : Nat) : (withoutN s k).testBit j = (s.testBit j && !(inR k && decide (k.toNat = j))) := by
  rw [withoutN, Nat.testBit_and, Nat.testBit_xor, bitN_test, max_test]
  by_cases hj : j < 64
  · simp [hj]
  · simp [lt_test hs (Nat.le_of_not_lt hj)]
theorem withoutN_hasnt {s : Nat} {k : Int} (hs : s < 18446744073709551616) (h : hasN s k = false) : withoutN s k = s := by
  apply Nat.eq_of_testBit_eq
  intro j
  rw [withoutN_test hs]
  unfold hasN at h
  cases hr : inR k
  · simp
  · rw [hr] at h
    by_cases e : k.toNat = j
    · subst e; simp at h; simp [h]
    · simp [e]
theorem withoutN_sub {s : Nat} {k : Int} (hs : s < 18446744073709551616) (h : hasN s k = true) : withoutN s k + 2 ^ k.toNat = s := by
  simp only [hasN, Bool.and_eq_true] at h
  rw [add_two_pow (by rw [withoutN_test hs]; simp [h.1])]
  apply Nat.eq_of_testBit_eq
  intro j
  rw [Nat.testBit_or, withoutN_test hs, Nat.testBit_two_pow, h.1]
  by_cases e : k.toNat = j
  · subst e; simp [h.2]
  · simp [e]
theorem fullN_succ (n : Nat) (h : n < 64) : withN (2 ^ n - 1) (n : Int) = 2 ^ (n + 1) - 1 := by
  apply Nat.eq_of_testBit_eq
  intro j
  rw [withN, Nat.testBit_or, Nat.testBit_two_pow_sub_one, bitN_test, Nat.testBit_two_pow_sub_one, (inR_iff _).2 (by omega), Int.toNat_natCast]
  simp only [Bool.true_and]
  rcases Nat.lt_trichotomy j n with h1 | h1 | h1
  · simp [h1]; omega
  · subst h1; simp
  · have e1 : ¬ j < n := by omega
    have e2 : ¬ n = j := by omega
    have e3 : ¬ j < n + 1 := by omega
    simp [e1, e2, e3]
end Go.Proofs.YtagcmhnanngfbaaDoor.Math
