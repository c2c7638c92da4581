/- Contracts of package member: may. -/
import Derived.Test.YtagcmhnanngfbaaDoorRight
import Derived.Test.YtagcmhnanngfbaaDoorGram
namespace Go.Proofs.YtagcmhnanngfbaaDoor.Hand
open Go.RowKit Go.Proofs.YtagcmhnanngfbaaDoorW.PrintWords Go.Proofs.YtagcmhnanngfbaaDoorW.PrintMore Go.Proofs.YtagcmhnanngfbaaDoor.Math

theorem gblk_keep' {g : Nat} {o : Obj} {w w' : World} (h : w.heap[g]? = some o) (hb : Below w.heap.size w w') : w'.heap[g]? = some o := (hb.block g (Array.getElem?_eq_some_iff.1 h).1).trans h
theorem tok_take_snoc (l : List Int) (f : Int → Bool) (j : Nat) (h : j < l.length) : (l.take (j + 1)).any f = ((l.take j).any f || f (l.getD j 0)) := by
  rw [take_snocD l j 0 h, List.any_append]; simp
theorem ErrV.nil_of {w : World} {A : Nat → Addr} {v : Value} {k : Nat} {r : Int} (h : ErrV w A v k r) (hk : k = 0) : v = .nilIface := by
  cases h with
  | none => rfl
  | sent i hi => omega
  | rule i hi pb po r h0 h1 => omega
/-- The types that an error's value may have. -/
def errTs : List Nat := [141
  , 103
  ]
theorem ErrV.iface_of {w : World} {A : Nat → Addr} {v : Value} {k : Nat} {r : Int} (h : ErrV w A v k r) (hk : ¬ k = 0) : ∃ T p, T ∈ errTs ∧ v = .iface T (.pointer p) := by
  cases h with
  | none => exact absurd rfl hk
  | sent i hi => exact ⟨_, _, by simp [errTs], rfl⟩
  | rule i hi pb po r h0 h1 => exact ⟨_, _, by simp [errTs], rfl⟩
end Go.Proofs.YtagcmhnanngfbaaDoor.Hand
