/- Sets given by what holds of their numbers. -/
import Derived.Test.YtagcmhnanngfbaaDoorBase
namespace Go.Proofs.YtagcmhnanngfbaaDoor.Hand
open Go.RowKit Go.Proofs.YtagcmhnanngfbaaDoorW.PrintWords Go.Proofs.YtagcmhnanngfbaaDoorW.PrintMore Go.Proofs.YtagcmhnanngfbaaDoor.Math

/-- The set of those below k that f holds of. -/
def sB (f : Nat → Bool) : Nat → Nat
  | 0 => 0
  | k + 1 => if f k then withN (sB f k) k else sB f k
theorem bitN_nat (k : Nat) (h : k ≤ 63) : bitN (k : Int) = 2 ^ k := by
  rw [bitN, (inR_iff _).2 (by omega)]; simp
theorem sB_lt {f : Nat → Bool} : ∀ {k : Nat}, k ≤ 64 → sB f k < 2 ^ k
  | 0, _ => by simp [sB]
  | k + 1, h => by
    have h1 := sB_lt (f := f) (k := k) (by omega)
    have h2 : 2 ^ k < 2 ^ (k + 1) := Nat.pow_lt_pow_right (by decide) (by omega)
    unfold sB
    split
    · unfold withN
      rw [bitN_nat k (by omega)]
      exact Nat.or_lt_two_pow (Nat.lt_trans h1 h2) h2
    · exact Nat.lt_trans h1 h2
theorem sB_test {f : Nat → Bool} {i : Nat} : ∀ {k : Nat}, k ≤ 64 → (sB f k).testBit i = (decide (i < k) && f i)
  | 0, _ => by simp [sB]
  | k + 1, h => by
    have h1 := sB_test (f := f) (i := i) (k := k) (by omega)
    unfold sB
    have hb : (bitN (k : Int)).testBit i = decide (k = i) := by rw [bitN_nat k (by omega), Nat.testBit_two_pow]
    by_cases e : i = k
    · subst e
      cases hf : f i
      · simp [h1, hf]
      · simp only [if_true, withN, Nat.testBit_or, hb, h1]; simp
    · have e2 : decide (i < k + 1) = decide (i < k) := by rw [decide_eq_decide]; omega
      cases hf : f k
      · simp [h1, e2]
      · simp only [if_true, withN, Nat.testBit_or, hb, h1, e2]
        have : decide (k = i) = false := decide_eq_false (fun h => e h.symm)
        rw [this, Bool.or_false]
theorem lt_u64 {s N : Nat} (h : s < 2 ^ N) (hN : N ≤ 64) : s < 18446744073709551616 := Nat.lt_of_lt_of_le h (Nat.le_trans (Nat.pow_le_pow_right (by decide) hN) (by decide))
/-- The set s is that of the numbers below N that P holds of. -/
structure SetIs (N s : Nat) (P : Nat → Prop) : Prop where
  lt : s < 2 ^ N
  is : ∀ k, k < N → (s.testBit k = true ↔ P k)
noncomputable def setOf (N : Nat) (P : Nat → Prop) : Nat := sB (fun k => tb (P k)) N
theorem setOf_is {N : Nat} (hN : N ≤ 64) (P : Nat → Prop) : SetIs N (setOf N P) P := ⟨sB_lt hN, fun k hk => by rw [setOf, sB_test hN, decide_eq_true hk, Bool.true_and, tb_iff]⟩
theorem SetIs.eq {N s t : Nat} {P : Nat → Prop} (h : SetIs N s P) (h' : SetIs N t P) : s = t := by
  apply Nat.eq_of_testBit_eq
  intro k
  by_cases hk : k < N
  · rw [Bool.eq_iff_iff, h.is k hk, h'.is k hk]
  · have hp : 2 ^ N ≤ 2 ^ k := Nat.pow_le_pow_right (by decide) (by omega)
    rw [Nat.testBit_lt_two_pow (Nat.lt_of_lt_of_le h.lt hp), Nat.testBit_lt_two_pow (Nat.lt_of_lt_of_le h'.lt hp)]
theorem SetIs.imp {N s : Nat} {P Q : Nat → Prop} (h : SetIs N s P) (hpq : ∀ k, k < N → (P k ↔ Q k)) : SetIs N s Q := ⟨h.lt, fun k hk => (h.is k hk).trans (hpq k hk)⟩
theorem SetIs.of {N s : Nat} {P : Nat → Prop} (h : SetIs N s P) (hN : N ≤ 64) : s = setOf N P := h.eq (setOf_is hN P)
theorem SetIs.meet {N s t : Nat} {P Q : Nat → Prop} (h : SetIs N s P) (h' : SetIs N t Q) : SetIs N (s &&& t) (fun k => P k ∧ Q k) :=
  ⟨Nat.lt_of_le_of_lt Nat.and_le_left h.lt, fun k hk => by rw [Nat.testBit_and, Bool.and_eq_true, h.is k hk, h'.is k hk]⟩
end Go.Proofs.YtagcmhnanngfbaaDoor.Hand
