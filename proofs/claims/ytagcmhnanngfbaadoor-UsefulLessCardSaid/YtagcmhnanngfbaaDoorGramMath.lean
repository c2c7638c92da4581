/- Plainly: which names, rules and grammars are right; which error, and of which rule. -/
import Derived.Test.YtagcmhnanngfbaaDoorKinds
namespace Go.Proofs.YtagcmhnanngfbaaDoor.Hand
open Go.RowKit Go.Proofs.YtagcmhnanngfbaaDoorW.PrintWords Go.Proofs.YtagcmhnanngfbaaDoorW.PrintMore Go.Proofs.YtagcmhnanngfbaaDoor.Math

def NameOk (l : List ByteArray) (i : Nat) : Prop := (l.getD i ByteArray.empty).size ≠ 0 ∧ (l.getD i ByteArray.empty).size ≤ 32 ∧ l.getD i ByteArray.empty ∉ l.take i
def NamesOk (l : List ByteArray) : Prop := ∀ i, i < l.length → NameOk l i
def symBad (t n : Nat) (s : Int) : Bool := decide ((t : Int) ≤ s) || decide (s < -(n : Int))
/-- What is wrong of a rule: its error's number; 0: nothing. -/
def ruleN (t n : Nat) (r : Int × List Int) : Nat := if 32 < r.2.length then 3 else if r.1 < 0 ∨ (n : Int) ≤ r.1 ∨ r.2.any (symBad t n) = true then 1 else 0
def firstBad (t n : Nat) : List (Int × List Int) → Nat → Nat × Int
  | [], _ => (0, -1)
  | r :: rs, i => if ruleN t n r = 0 then firstBad t n rs (i + 1) else (ruleN t n r, i)
open Classical in
/-- What is wrong of a grammar: the error's number, and the rule; (0, -1): nothing. -/
noncomputable def checkN (g : Gr) : Nat × Int :=
  if 60 < g.terms.length + g.nonterms.length ∨ 120 < g.rules.length then (3, -1)
  else if ¬ NamesOk g.terms ∨ ¬ NamesOk g.nonterms then (10, -1)
  else if g.ax < 0 ∨ (g.nonterms.length : Int) ≤ g.ax then (1, -1)
  else firstBad g.terms.length g.nonterms.length g.rules 0
theorem ruleN_cases (t n : Nat) (r : Int × List Int) : ruleN t n r = 0 ∨ ruleN t n r = 1 ∨ ruleN t n r = 3 := by
  unfold ruleN; split
  · exact .inr (.inr rfl)
  · split
    · exact .inr (.inl rfl)
    · exact .inl rfl
theorem firstBad_skip (t n : Nat) : ∀ (l : List (Int × List Int)) (i j : Nat), (∀ k, k < j → ruleN t n (l.getD k (0, [])) = 0) → j ≤ l.length → firstBad t n l i = firstBad t n (l.drop j) (i + j)
  | l, i, 0, _, _ => by simp
  | [], i, j + 1, _, h => by simp at h
  | r :: rs, i, j + 1, h, hj => by
    have h0 := h 0 (by omega)
    simp only [List.getD_cons_zero] at h0
    rw [firstBad, if_pos h0, firstBad_skip t n rs (i + 1) j (fun k hk => by have := h (k + 1) (by omega); simpa using this) (by simpa using hj)]
    simp only [List.drop_succ_cons]
    congr 1; omega
theorem firstBad_at (t n : Nat) (l : List (Int × List Int)) (j : Nat) (h : ∀ k, k < j → ruleN t n (l.getD k (0, [])) = 0) (hj : j < l.length) (hb : ruleN t n (l.getD j (0, [])) ≠ 0) : firstBad t n l 0 = (ruleN t n (l.getD j (0, [])), (j : Int)) := by
  rw [firstBad_skip t n l 0 j h (by omega), List.drop_eq_getElem_cons hj, firstBad]
  have e : l.getD j (0, []) = l[j] := by rw [List.getD_eq_getElem?_getD, List.getElem?_eq_getElem hj]; rfl
  rw [e] at hb ⊢
  rw [if_neg hb]; simp
theorem firstBad_none (t n : Nat) (l : List (Int × List Int)) (h : ∀ k, k < l.length → ruleN t n (l.getD k (0, [])) = 0) : firstBad t n l 0 = (0, -1) := by
  rw [firstBad_skip t n l 0 l.length h (Nat.le_refl _)]; simp [firstBad]
theorem any_take_snoc (l : List Int) (f : Int → Bool) (j : Nat) (h : j < l.length) : (l.take (j + 1)).any f = ((l.take j).any f || f (l.getD j 0)) := by
  rw [take_snocD l j 0 h, List.any_append]; simp
/-- A grammar that is right. -/
def Right (g : Gr) : Prop := (checkN g).1 = 0
end Go.Proofs.YtagcmhnanngfbaaDoor.Hand
