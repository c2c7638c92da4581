/- Rules by their heads: a row of rules whose right sides lie elsewhere. -/
import Derived.Test.YtagcmhnanngfbaaDoorKit
import Derived.Test.YtagcmhnanngfbaaDoorOpens
namespace Go.Proofs.YtagcmhnanngfbaaDoor.Hand
open Go.RowKit Go.Proofs.YtagcmhnanngfbaaDoorW.PrintWords Go.Proofs.YtagcmhnanngfbaaDoorW.PrintMore Go.Proofs.YtagcmhnanngfbaaDoor.Math

/-- A slice's head: where, how many, room. -/
structure Hd where
  ad : Option Addr
  n : Nat
  c : Nat
def Hd.v (h : Hd) : Value := .slice h.ad h.n h.c
def KHd : Kd (Int × Hd) := Kd.pair (Kd.int .i64) (Kd.scalar Hd.v (fun _ => rfl))
/-- A head that leads to this rule. -/
structure HdIs (w : World) (h : Int × Hd) (r : Int × List Int) : Prop where
  left : h.1 = r.1
  len : h.2.n = r.2.length
  cap : r.2.length ≤ h.2.c
  row : Kd.C (Kd.int .i64) w h.2.ad r.2.length r.2
theorem HdIs.below {w w' : World} {h : Int × Hd} {r : Int × List Int} (hh : HdIs w h r) (hb : Below w.heap.size w w') : HdIs w' h r := ⟨hh.left, hh.len, hh.cap, Kd.C_below hh.row hb⟩
/-- Heads for rules. -/
def HdsAre (w : World) (hs : List (Int × Hd)) (l : List (Int × List Int)) : Prop := hs.length = l.length ∧ ∀ (j : Nat) (h : Int × Hd) (r : Int × List Int), hs[j]? = some h → l[j]? = some r → HdIs w h r
theorem HdsAre.below {w w' : World} {hs : List (Int × Hd)} {l : List (Int × List Int)} (hh : HdsAre w hs l) (hb : Below w.heap.size w w') : HdsAre w' hs l := ⟨hh.1, fun j h r h1 h2 => (hh.2 j h r h1 h2).below hb⟩
theorem HdsAre.nil (w : World) : HdsAre w [] [] := ⟨rfl, fun j h r h1 => by simp at h1⟩
theorem HdsAre.snoc {w : World} {hs : List (Int × Hd)} {l : List (Int × List Int)} {h : Int × Hd} {r : Int × List Int} (hh : HdsAre w hs l) (h1 : HdIs w h r) : HdsAre w (hs ++ [h]) (l ++ [r]) := by
  refine ⟨by simp [hh.1], fun j a b ha hb => ?_⟩
  rcases Nat.lt_or_ge j hs.length with hj | hj
  · rw [List.getElem?_append_left hj] at ha
    rw [List.getElem?_append_left (by rw [← hh.1]; exact hj)] at hb
    exact hh.2 j a b ha hb
  · have hjl : j = hs.length := by
      have := (List.getElem?_eq_some_iff.1 ha).1
      simp at this; omega
    rw [hjl, List.getElem?_append_right (Nat.le_refl _)] at ha
    rw [hjl, hh.1, List.getElem?_append_right (Nat.le_refl _)] at hb
    simp at ha hb
    subst ha hb
    exact h1
theorem heads_of {w : World} {A : Option Addr} {n : Nat} {l : List (Int × List Int)} (h : KRule.C w A n l) : ∃ hs, KHd.C w A n hs ∧ HdsAre w hs l := by
  obtain ⟨h1, h2, h3⟩ := h
  have hx : ∀ i, i < l.length → ∃ x : Int × Hd, ∀ r, l[i]? = some r → HdIs w x r ∧ ∀ ad, A = some ad → w.cell? (ad.add (i * 2)) = some (.int .i64 x.1) ∧ w.cell? (ad.add (i * 2 + 1)) = some x.2.v := by
    intro i hi
    obtain ⟨ad, ha, hc⟩ := h3 (by omega)
    obtain ⟨c, e1, e2, e3⟩ := hc i l[i] (List.getElem?_eq_getElem hi)
    obtain ⟨c0, c1, rfl, k0, A', c', k1, k2, k3⟩ := e2
    have k0' : c0 = [.int .i64 l[i].1] := k0
    subst k0' k1
    refine ⟨(l[i].1, ⟨A', l[i].2.length, c'⟩), fun r hr => ?_⟩
    rw [List.getElem?_eq_getElem hi] at hr
    obtain rfl := Option.some.inj hr
    refine ⟨⟨rfl, rfl, k2, k3⟩, fun ad' ha' => ?_⟩
    rw [ha] at ha'
    obtain rfl := Option.some.inj ha'
    exact ⟨e3 0 _ rfl, e3 1 _ rfl⟩
  obtain ⟨hs, hl, hp⟩ := list_of hx
  have hget : ∀ j h, hs[j]? = some h → ∃ r, l[j]? = some r := fun j h hj => by
    have := (List.getElem?_eq_some_iff.1 hj).1
    exact ⟨_, List.getElem?_eq_getElem (by omega)⟩
  refine ⟨hs, ⟨hl.trans h1, h2, fun hn => ?_⟩, hl, fun j h r hj hr => (hp j h hj r hr).1⟩
  obtain ⟨ad, ha, hc⟩ := h3 hn
  refine ⟨ad, ha, fun j h hj => ?_⟩
  obtain ⟨r, hr⟩ := hget j h hj
  obtain ⟨q1, q2⟩ := (hp j h hj r hr).2 ad ha
  refine ⟨[.int .i64 h.1, h.2.v], rfl, ⟨[.int .i64 h.1], [h.2.v], rfl, rfl, rfl⟩, fun i u hu => ?_⟩
  match i, hu with
  | 0, hu => simp at hu; subst hu; exact q1
  | 1, hu => simp at hu; subst hu; exact q2
  | i + 2, hu => simp at hu
theorem of_heads {w : World} {A : Option Addr} {n : Nat} {hs : List (Int × Hd)} {l : List (Int × List Int)} (h : KHd.C w A n hs) (hh : HdsAre w hs l) : KRule.C w A n l := by
  refine C_imp (a := KHd) (b := KRule) rfl h hh.1.symm (fun j x y cs hx hy hk => ?_)
  obtain ⟨c0, c1, rfl, k0, k1⟩ := hk
  have k0' : c0 = [.int .i64 x.1] := k0
  have k1' : c1 = [x.2.v] := k1
  subst k0' k1'
  obtain ⟨e1, e2, e3, e4⟩ := hh.2 j x y hx hy
  refine ⟨[.int .i64 x.1], [x.2.v], rfl, by rw [e1]; rfl, x.2.ad, x.2.c, ?_, e3, e4⟩
  unfold Hd.v
  rw [e2]
section
open Go.ChangeShapes Go.WideShapes Go.ChangeAt
set_option maxRecDepth 20000
variable {H : Type} {enc : TypeId × Value → H} {W : World} {base : Nat} {r : Reach} {b0 : Nat} {spare : Nat → Bool} {held : Bool} {v : Value} {d : DataW H} {ps : List MemPlace} {ts : List TypeId} {ds : List (DataW H)} {j : Nat}
theorem openRule (hsz : (DataW.weightsEach Tryd.prog ts ds).all (· ≤ reachBytes) = true) (ht : ts[j]? = some 56) (hd : ds[j]? = some d) (hv : Value.okWide Tryd.prog W r b0 56 v) (h : DataW.Trod enc Tryd.prog W base spare held 56 v d ps) :
    ∃ (x : Int) (B : Option Addr) (c : Nat) (l : List Int), v = .agg #[.int .i64 x, .slice B l.length c] ∧ Kd.C (Kd.int .i64) W B l.length l ∧ l.length * 8 ≤ 140737488351232 ∧ l.length ≤ c ∧ (Lit.int .i64 x).wf = true ∧ ∀ s ∈ l, (Lit.int .i64 s).wf = true := by
  obtain ⟨v0, v1, y0, y1, n, rfl, rfl, rfl, h0, h1⟩ := Joins.open_agg2 Tryd.underlying56 (by kernel_rfl) (by kernel_rfl) hv h
  have hw : ∀ k ∈ (DataW.agg [y0.1, y1.1]).weights Tryd.prog 56, k ≤ reachBytes := fun k hk => by
    have := List.all_eq_true.1 hsz k (DataW.weights_mem_each ht hd k hk)
    simpa using this
  simp only [DataW.weights, Tryd.underlying56, List.map_cons, List.map_nil, DataW.weightsEach, List.append_nil, List.mem_append] at hw
  obtain ⟨x, e0, _, b0⟩ := DataW.trod_int Tryd.underlying3 h0
  obtain ⟨l, ⟨B, c, e1, p1, q1⟩, b1, g1⟩ := opens_ints H enc W base spare held n _ _ h1 (fun k hk => hw k (.inr hk))
  simp only [List.cons.injEq, and_true] at e0 e1
  subst e0 e1
  exact ⟨x, B, c, l, rfl, q1, b1, p1, b0, g1⟩
end
end Go.Proofs.YtagcmhnanngfbaaDoor.Hand
