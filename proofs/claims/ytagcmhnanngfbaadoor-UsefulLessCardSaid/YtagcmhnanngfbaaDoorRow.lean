/- Rows in a block of their own, by their cells: made, written, kept. -/
import Derived.Test.YtagcmhnanngfbaaDoorBase
import Derived.Deep.LoopGhost
namespace Go.Proofs.YtagcmhnanngfbaaDoor.Hand
open Go.RowKit Go.Proofs.YtagcmhnanngfbaaDoorW.PrintWords Go.Proofs.YtagcmhnanngfbaaDoorW.PrintMore Go.Proofs.YtagcmhnanngfbaaDoor.Math

/-- Block g begins with these m cells, and may be written. -/
structure Row (w : World) (g m : Nat) (f : Nat → Value) : Prop where
  cell : ∀ q, q < m → w.cell? ⟨g, q, none⟩ = some (f q)
  free : ∀ q, w.frozen? ⟨g, q, none⟩ = false
  lt : g < w.heap.size
section
variable {w w' : World} {g m : Nat} {f : Nat → Value}
theorem Row.below (h : Row w g m f) (hb : Below w.heap.size w w') : Row w' g m f :=
  ⟨fun q hq => (hb.cell (p := ⟨g, q, none⟩) h.lt).trans (h.cell q hq), fun q => (hb.frozen (p := ⟨g, q, none⟩) h.lt).trans (h.free q), Nat.lt_of_lt_of_le h.lt hb.size⟩
theorem Row.belowN (h : Row w g m f) {B : Nat} (hb : Below B w w') (hg : g < B) : Row w' g m f :=
  ⟨fun q hq => (hb.cell (p := ⟨g, q, none⟩) hg).trans (h.cell q hq), fun q => (hb.frozen (p := ⟨g, q, none⟩) hg).trans (h.free q), Nat.lt_of_lt_of_le h.lt hb.size⟩
theorem Row.drewN (h : Row w g m f) (n : Nat) : Row (w.drewN n) g m f := h.below (pw_below_drewN (Below.refl _ _) _)
theorem Row.block (h : Row w g m f) (hk : w'.heap[g]? = w.heap[g]?) (hs : w.heap.size ≤ w'.heap.size) : Row w' g m f :=
  ⟨fun q hq => (World.cell?_of_block (w := w) (a := ⟨g, q, none⟩) hk).trans (h.cell q hq), fun q => (World.frozen?_of_block (w := w) (a := ⟨g, q, none⟩) hk).trans (h.free q), Nat.lt_of_lt_of_le h.lt hs⟩
theorem Row.far (h : Row w g m f) (p : Addr) (hp : p.block ≠ g) (v : Value) : Row (w.setCell p v) g m f :=
  ⟨fun q hq => (World.cell?_setCell_other w p ⟨g, q, none⟩ v (fun e => hp (by rw [e]))).trans (h.cell q hq), fun q => by rw [World.frozen?_setCell]; exact h.free q, by rw [World.size_setCell]; exact h.lt⟩
theorem Row.set (h : Row w g m f) (q : Nat) (hq : q < m) (v : Value) : Row (w.setCell ⟨g, q, none⟩ v) g m (fun x => if x = q then v else f x) := by
  refine ⟨fun x hx => ?_, fun x => by rw [World.frozen?_setCell]; exact h.free x, by rw [World.size_setCell]; exact h.lt⟩
  by_cases e : x = q
  · subst e
    rw [if_pos rfl]
    exact World.cell?_setCell_same w _ v (h.cell x hx)
  · rw [if_neg e, World.cell?_setCell_other w _ _ v (fun h => e (by injection h with _ h2 _; exact h2.symm))]
    exact h.cell x hx
theorem Row.ext {f' : Nat → Value} (h : Row w g m f) (he : ∀ q, q < m → f q = f' q) : Row w g m f' := ⟨fun q hq => by rw [h.cell q hq, he q hq], h.free, h.lt⟩
theorem Row.made (w : World) (z : Value) (m : Nat) (e : TypeId) : Row (w.alloc (.cells (madeCells #[z] m) e)) w.heap.size m (fun _ => z) := by
  refine ⟨fun q hq => ?_, fun q => by simp, by simp⟩
  rw [World.cell?_alloc_new]
  simp [madeCells, hq, Nat.mod_one]
end
theorem infoBool : (Tryd.prog.info? 4).map (fun i => (i.zero, i.size, i.bytes)) = some (some (.bool false), 1, 1) := by kernel_rfl
end Go.Proofs.YtagcmhnanngfbaaDoor.Hand
