/- Rows of tokens in memory: a list of lists, some of them not known. -/
import Derived.Test.YtagcmhnanngfbaaDoorWordC
import Derived.Laws.Cover3
import Derived.Test.YtagcmhnanngfbaaDoorRow
namespace Go.Proofs.YtagcmhnanngfbaaDoor.Hand
open Go.RowKit Go.Proofs.YtagcmhnanngfbaaDoorW.PrintWords Go.Proofs.YtagcmhnanngfbaaDoorW.PrintMore Go.Proofs.YtagcmhnanngfbaaDoor.Math

@[go_sem] theorem neqNilInts (a : Option Addr) (l c : Nat) (w : World) : (binOp .neq 38 (.slice a l c) (.slice none 0 0)).run Tryd.prog w = .ok (.bool (!a.isNone)) w := run_neq_slice_nil w _ _ a l c Tryd.underlying38
@[go_sem] theorem eqlNilInts (a : Option Addr) (l c : Nat) (w : World) : (binOp .eql 38 (.slice a l c) (.slice none 0 0)).run Tryd.prog w = .ok (.bool a.isNone) w := by
  simp only [binOp]
  simp [run_equal_slice_nil w _ _ a l c Tryd.underlying38]
/-- What a value that is nil or a list tells. -/
def ListAt (w : World) (v : Value) (gr : Nat) : Option (List Int) → Prop
  | none => v = .slice none 0 0
  | some l => ∃ ad c, v = .slice (some ad) l.length c ∧ l.length ≤ c ∧ Kd.C (Kd.int .i64) w (some ad) l.length l ∧ ad.block ≠ gr
structure RowsAt (w : World) (gr N : Nat) (V : Nat → Value) (W : Nat → Option (List Int)) : Prop where
  row : Row w gr N V
  lst : ∀ k, k < N → ListAt w (V k) gr (W k)
theorem ListAt.below {w w' : World} {v : Value} {gr : Nat} {o : Option (List Int)} (h : ListAt w v gr o) (hb : Below w.heap.size w w') : ListAt w' v gr o := by
  cases o with
  | none => exact h
  | some l =>
    obtain ⟨ad, c, h1, h2, h3, h4⟩ := h
    exact ⟨ad, c, h1, h2, Kd.C_below h3 hb, h4⟩
theorem C_far {w : World} {ad : Addr} {l : List Int} (h : Kd.C (Kd.int .i64) w (some ad) l.length l) {p : Addr} (hp : ad.block ≠ p.block) (v : Value) : Kd.C (Kd.int .i64) (w.setCell p v) (some ad) l.length l := by
  obtain ⟨h1, h2, h3⟩ := h
  refine ⟨h1, h2, fun hn => ?_⟩
  obtain ⟨a, ha, hc⟩ := h3 hn
  refine ⟨a, ha, fun j q hj => ?_⟩
  obtain ⟨c, e1, e2, e3⟩ := hc j q hj
  refine ⟨c, e1, e2, fun i u hu => ?_⟩
  obtain rfl := Option.some.inj ha
  rw [World.cell?_setCell_other w p _ v (fun e => hp (by rw [e]; unfold Addr.add; split <;> rfl))]
  exact e3 i u hu
theorem ListAt.far {w : World} {v : Value} {gr : Nat} {o : Option (List Int)} (h : ListAt w v gr o) (k : Nat) (u : Value) : ListAt (w.setCell ⟨gr, k, none⟩ u) v gr o := by
  cases o with
  | none => exact h
  | some l =>
    obtain ⟨ad, c, h1, h2, h3, h4⟩ := h
    exact ⟨ad, c, h1, h2, C_far h3 h4 u, h4⟩
theorem RowsAt.below {w w' : World} {gr N : Nat} {V : Nat → Value} {W : Nat → Option (List Int)} (h : RowsAt w gr N V W) (hb : Below w.heap.size w w') : RowsAt w' gr N V W := ⟨h.row.below hb, fun k hk => (h.lst k hk).below hb⟩
theorem RowsAt.put {w : World} {gr N x : Nat} {V : Nat → Value} {W : Nat → Option (List Int)} (h : RowsAt w gr N V W) (hx : x < N) {u : Value} {q : List Int} (hu : ListAt w u gr (some q)) : RowsAt (w.setCell ⟨gr, x, none⟩ u) gr N (fun k => if k = x then u else V k) (setW W x q) := by
  refine ⟨h.row.set x hx u, fun k hk => ?_⟩
  by_cases e : k = x
  · rw [e, setW_same, if_pos rfl]; exact hu.far x u
  · rw [setW_other e, if_neg e]; exact (h.lst k hk).far x u
theorem own_some {v : Value} {A : Option Addr} {n c b : Nat} (h : v = .slice A n c) (hb : v.ownBlock = some b) : ∃ ad, A = some ad ∧ ad.block = b := by
  subst h
  cases A with
  | none => simp [Value.ownBlock] at hb
  | some ad => exact ⟨ad, rfl, by simpa [Value.ownBlock] using hb⟩
/-- A list that is being made. -/
structure Made (wb : World) (u : Value) (p : List Int) (wr : World) : Prop where
  form : ∃ ad c, u = .slice (some ad) p.length c
  own : (Kd.int .i64).R 3 wr wb.heap.size (fun _ => True) u p
  bel : Below wb.heap.size wb wr
theorem Made.next {wb wr w1 : World} {u v1 : Value} {p q : List Int} (h : Made wb u p wr) (ho : (Kd.int .i64).R 3 w1 wb.heap.size (fun _ => True) v1 q) (hb : Below wb.heap.size wb w1) (hat : v1.ownBlock = u.ownBlock ∨ ∃ b, v1.ownBlock = some b ∧ wr.heap.size ≤ b) : Made wb v1 q w1 := by
  refine ⟨?_, ho, hb⟩
  obtain ⟨A, c, e⟩ := Kd.R_slice ho
  obtain ⟨ad, c', e'⟩ := h.form
  rcases hat with hat | ⟨b, hat, _⟩
  · rw [e'] at hat
    obtain ⟨ad', rfl, _⟩ := own_some (b := ad.block) e (by rw [hat]; simp [Value.ownBlock])
    exact ⟨ad', c, e⟩
  · obtain ⟨ad', rfl, _⟩ := own_some e hat
    exact ⟨ad', c, e⟩
theorem Made.list {wb wr : World} {u : Value} {p : List Int} {gr : Nat} (h : Made wb u p wr) (hg : gr < wb.heap.size) : ListAt wr u gr (some p) := by
  obtain ⟨ad, c, rfl⟩ := h.form
  obtain ⟨_, h2, h3⟩ := Kd.R_reads' h.own
  have := Kd.R_base h.own ad.block (by simp [Value.ownBlock])
  exact ⟨ad, c, rfl, h2, h3, by omega⟩
end Go.Proofs.YtagcmhnanngfbaaDoor.Hand
