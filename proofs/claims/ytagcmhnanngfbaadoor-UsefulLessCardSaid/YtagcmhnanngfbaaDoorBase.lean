/- Words used by all my texts of this seat: quiet calls, facts about what is read. -/
import Derived.Test.YtagcmhnanngfbaaDoorProg
import Derived.WalkKit
import Derived.KernelRfl
import Derived.Below
import Derived.Outline
import Derived.Deep.QuietTactic
import Derived.BigQuiet
import Derived.Lib.Hide
import Derived.WideShapes
import Derived.Laws.Strings
import Derived.Test.YtagcmhnanngfbaaDoorWMore
import Derived.Test.YtagcmhnanngfbaaDoorMath
namespace Go.Proofs.YtagcmhnanngfbaaDoor.Hand
open Go.RowKit Go.Proofs.YtagcmhnanngfbaaDoorW.PrintWords Go.Proofs.YtagcmhnanngfbaaDoorW.PrintMore Go.Proofs.YtagcmhnanngfbaaDoor.Math

theorem ret_int {k : IntKind} {a b : Int} (h : a = b) : Ending.returned (.int k a) = .returned (.int k b) := by rw [h]
theorem ret_bool {a b : Bool} (h : a = b) : Ending.returned (.bool a) = .returned (.bool b) := by rw [h]
theorem nat_ne (n : Nat) : (((n : Nat) : Int) != 0) = (n != 0) := by
  rw [Bool.eq_iff_iff]; simp

/-- A call that answers v and leaves memory alone. -/
def Quiet (f : FuncId) (args : Array Value) (w : World) (v : Value) : Prop :=
  Calls Tryd.prog f args w fun e w' => e = .returned v ∧ ∃ n, w' = w.drewN n

theorem at_nat {w : World} {k : IntKind} {A : Option Addr} {n : Nat} {l : List Int} (h : (Kd.int k).C w A n l) (i : Nat) (hi : i < l.length) : ∃ ad y, A = some ad ∧ w.cell? (ad.add i) = some (.int k y) ∧ Hid (l.getD i 0 = y) := by
  have hn : n = l.length := h.1.symm
  obtain ⟨ad, h1, h2⟩ := Kd.at_int h (i : Int) (by omega) (by omega)
  exact ⟨ad, _, h1, h2, Lib.hid rfl⟩
/-- Lists of sets of numbers. -/
def KSet : Kd Nat := Kd.scalar (fun n : Nat => Value.int .u64 (n : Int)) (fun _ => rfl)
theorem at_scalar {α : Type} {enc : α → Value} {h1 : ∀ x, (enc x).oneCell' = true} {w : World} {A : Option Addr} {n : Nat} {l : List α} (h : (Kd.scalar enc h1).C w A n l) (i : Nat) (hi : i < l.length) (d : α) :
    ∃ ad y, A = some ad ∧ w.cell? (ad.add i) = some (enc y) ∧ Hid (l.getD i d = y) := by
  have hn : n = l.length := h.1.symm
  obtain ⟨ad, c, h1', h2, h3, h4⟩ := h.get_ d (i : Int) (by omega) (by omega)
  have hc : c = [enc (l.getD i d)] := h3
  refine ⟨ad, l.getD i d, h1', ?_, Lib.hid rfl⟩
  have := h4 0 (enc (l.getD i d)) (by rw [hc]; rfl)
  simpa [show (Kd.scalar enc h1).sz = 1 from rfl] using this
theorem take_snocD {α : Type} (l : List α) (i : Nat) (d : α) (h : i < l.length) : l.take (i + 1) = l.take i ++ [l.getD i d] := by
  rw [List.take_succ_eq_append_getElem h, List.getD_eq_getElem?_getD, List.getElem?_eq_getElem h]; rfl
theorem R_lit {α : Type} {enc : α → Value} {h1 : ∀ x, (enc x).oneCell' = true} (e base : Nat) (w : World) (xs : List α) (hb : base ≤ w.heap.size) (hm : xs.length ≤ maxLen) :
    (Kd.scalar enc h1).R e (w.alloc (.cells (xs.map enc).toArray e)) base (fun _ => True) (.slice (some ⟨w.heap.size, 0, none⟩) xs.length xs.length) xs := by
  refine ⟨fun _ _ => trivial, (xs.map enc), ?_, by show (xs.map enc).length = xs.length * 1; simp, ?_⟩
  · have := World.ownsRow_lit (base := base) (e := e) (size := 1) w (xs.map enc).toArray xs.length hb hm (by simp)
    exact this
  · intro j p hj
    show ((xs.map enc).drop (j * 1)).take 1 = [enc p]
    rw [Nat.mul_one, ← List.map_drop, ← List.map_take]
    have hlt : j < xs.length := (List.getElem?_eq_some_iff.1 hj).1
    rw [List.drop_eq_getElem_cons hlt]
    have : xs[j] = p := (List.getElem?_eq_some_iff.1 hj).2
    simp [this]
theorem Kd.C_takeN {α : Type} {d : Kd α} {w : World} {A : Option Addr} {m : Nat} {l r : List α} (h : d.C w A m (l ++ r)) : d.C w A l.length l := by
  have hm : m = (l ++ r).length := h.1.symm
  subst hm
  have h2 := Kd.C_take (k := d) (A := A) (w := w) (xs := l ++ r) (m := l.length) h (by simp)
  simpa using h2
theorem below_step {w1 w2 : World} {n : Nat} (hb : Below (w1.drewN n).heap.size (w1.drewN n) w2) : Below w1.heap.size w1 w2 := (pw_below_drewN (Below.refl w1.heap.size w1) n).trans hb
theorem below_next {w w1 w2 : World} (h : Below w.heap.size w w1) (hb : Below w1.heap.size w1 w2) : Below w.heap.size w w2 := h.trans (hb.mono h.size)
theorem addr_zero (a : Addr) : a.add 0 = a := by simp [Addr.add]
theorem str_inj {a b : ByteArray} (h : a.toList = b.toList) : a = b := by
  rw [ByteArray.toList_eq, ByteArray.toList_eq] at h
  exact Go.WideShapes.bytes_inj h
open Classical in
/-- The truth of a sentence, as a Bool. -/
noncomputable def tb (p : Prop) : Bool := decide p
theorem tb_iff {p : Prop} : tb p = true ↔ p := by unfold tb; exact @decide_eq_true_iff p (Classical.propDecidable p)
theorem tb_yes {p : Prop} (h : p) : tb p = true := tb_iff.2 h
theorem tb_no {p : Prop} (h : ¬ p) : tb p = false := by rw [← Bool.not_eq_true, tb_iff]; exact h
theorem tb_congr {p q : Prop} (h : p ↔ q) : tb p = tb q := by rw [Bool.eq_iff_iff, tb_iff, tb_iff]; exact h
theorem tb_bool {b : Bool} {p : Prop} (h : b = true ↔ p) : b = tb p := by rw [Bool.eq_iff_iff, tb_iff]; exact h
theorem getD_mem {α : Type} (l : List α) (i : Nat) (d : α) (h : i < l.length) : l.getD i d ∈ l := by
  rw [List.getD_eq_getElem?_getD, List.getElem?_eq_getElem h]; exact List.getElem_mem h
theorem take_snoc_getD (l : List Int) (i : Nat) (h : i < l.length) : l.take (i + 1) = l.take i ++ [l.getD i 0] := by
  rw [List.take_succ_eq_append_getElem h, List.getD_eq_getElem?_getD, List.getElem?_eq_getElem h]; rfl

theorem take_succ_nil {α : Type} (l : List α) : l.take 0 = [] := by simp
theorem infoInt : (Tryd.prog.info? 3).map (fun i => (i.zero, i.size, i.bytes)) = some (some (.int .i64 0), 1, 8) := by kernel_rfl
theorem infoString : (Tryd.prog.info? 9).map (fun i => (i.zero, i.size, i.bytes)) = some (some (.string ⟨#[]⟩), 1, 16) := by kernel_rfl
theorem infoSet : (Tryd.prog.info? 28).map (fun i => (i.zero, i.size, i.bytes)) = some (some (.int .u64 0), 1, 8) := by kernel_rfl
end Go.Proofs.YtagcmhnanngfbaaDoor.Hand
