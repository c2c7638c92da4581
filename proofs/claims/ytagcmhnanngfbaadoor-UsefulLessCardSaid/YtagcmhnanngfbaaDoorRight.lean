/- Plainly: what a grammar that is right is like. -/
import Derived.Test.YtagcmhnanngfbaaDoorGramMath
namespace Go.Proofs.YtagcmhnanngfbaaDoor.Hand
open Go.RowKit Go.Proofs.YtagcmhnanngfbaaDoorW.PrintWords Go.Proofs.YtagcmhnanngfbaaDoorW.PrintMore Go.Proofs.YtagcmhnanngfbaaDoor.Math

theorem firstBad_zero (t n : Nat) : ∀ (l : List (Int × List Int)) (i : Nat), (firstBad t n l i).1 = 0 → ∀ r ∈ l, ruleN t n r = 0
  | [], _, _, r, hr => by cases hr
  | x :: l, i, h, r, hr => by
    unfold firstBad at h
    by_cases h0 : ruleN t n x = 0
    · rw [if_pos h0] at h
      rcases List.mem_cons.1 hr with rfl | hr
      · exact h0
      · exact firstBad_zero t n l (i + 1) h r hr
    · rw [if_neg h0] at h
      exact absurd h h0
structure RightIs (g : Gr) : Prop where
  size : g.terms.length + g.nonterms.length ≤ 60
  rules : g.rules.length ≤ 120
  terms : NamesOk g.terms
  nonterms : NamesOk g.nonterms
  ax0 : 0 ≤ g.ax
  ax1 : g.ax < g.nonterms.length
  ruleN : ∀ r ∈ g.rules, ruleN g.terms.length g.nonterms.length r = 0
theorem checkN_zero {g : Gr} (h : (checkN g).1 = 0) : RightIs g := by
  unfold checkN at h
  split at h
  · cases h
  · split at h
    · cases h
    · split at h
      · cases h
      · rename_i h1 h2 h3
        have h2' : NamesOk g.terms ∧ NamesOk g.nonterms := ⟨Classical.byContradiction (fun x => h2 (.inl x)), Classical.byContradiction (fun x => h2 (.inr x))⟩
        exact ⟨by omega, by omega, h2'.1, h2'.2, by omega, by omega, firstBad_zero _ _ _ _ h⟩
theorem firstBad_ok (t n : Nat) : ∀ (l : List (Int × List Int)) (i : Nat), (firstBad t n l i).1 = 0 → firstBad t n l i = (0, -1)
  | [], _, _ => rfl
  | x :: l, i, h => by
    unfold firstBad at h ⊢
    by_cases h0 : Hand.ruleN t n x = 0
    · rw [if_pos h0] at h ⊢
      exact firstBad_ok t n l (i + 1) h
    · rw [if_neg h0] at h
      exact absurd h h0
theorem checkN_ok {g : Gr} (h : (checkN g).1 = 0) : checkN g = (0, -1) := by
  unfold checkN at h ⊢
  split at h
  · cases h
  · rename_i h1
    rw [if_neg h1]
    split at h
    · cases h
    · rename_i h2
      rw [if_neg h2]
      split at h
      · cases h
      · rename_i h3
        rw [if_neg h3]
        exact firstBad_ok _ _ _ _ h
theorem ruleN_len {t n : Nat} {r : Int × List Int} (h : Hand.ruleN t n r = 0) : r.2.length ≤ 32 := by
  unfold Hand.ruleN at h
  split at h
  · cases h
  · omega
/-- How many symbols all right sides have. -/
def sizeN (l : List (Int × List Int)) : Nat := (l.map (fun r => r.2.length)).sum
theorem sizeN_snoc (l : List (Int × List Int)) (r : Int × List Int) : sizeN (l ++ [r]) = sizeN l + r.2.length := by simp [sizeN]
theorem sizeN_le (l : List (Int × List Int)) (h : ∀ r ∈ l, r.2.length ≤ 32) : sizeN l ≤ 32 * l.length := by
  induction l with
  | nil => simp [sizeN]
  | cons x l ih =>
    have := ih (fun r hr => h r (List.mem_cons_of_mem _ hr))
    have h2 := h x List.mem_cons_self
    simp only [sizeN, List.map_cons, List.sum_cons, List.length_cons] at this ⊢
    omega
theorem sizeN_take (l : List (Int × List Int)) (k : Nat) : sizeN (l.take k) ≤ sizeN l := by
  have : sizeN l = sizeN (l.take k) + sizeN (l.drop k) := by
    conv => lhs; rw [← List.take_append_drop k l]
    simp [sizeN, -List.take_append_drop]
  omega
def tokBad (t : Nat) (x : Int) : Bool := decide (x < 0) || decide ((t : Int) ≤ x)
open Classical in
/-- What is wrong of a grammar and tokens: the error's number, and the rule. -/
noncomputable def mayN (g : Gr) (tk : List Int) : Nat × Int :=
  if (checkN g).1 ≠ 0 then checkN g
  else if 40 < tk.length ∨ 512 < sizeN g.rules then (12, -1)
  else if tk.any (tokBad g.terms.length) = true then (1, -1)
  else (0, -1)
end Go.Proofs.YtagcmhnanngfbaaDoor.Hand
