/- The memory of useful.Word's loop; its closure. -/
import Derived.Test.YtagcmhnanngfbaaDoorWmMath
import Derived.Test.YtagcmhnanngfbaaDoorRowsAt
import Derived.OneCell
namespace Go.Proofs.YtagcmhnanngfbaaDoor.Hand
open Go.RowKit Go.Proofs.YtagcmhnanngfbaaDoorW.PrintWords Go.Proofs.YtagcmhnanngfbaaDoorW.PrintMore Go.Proofs.YtagcmhnanngfbaaDoor.Math

theorem ListAt.far2 {w : World} {v : Value} {gr gq : Nat} {o : Option (List Int)} (h : ListAt w v gr o) (h2 : ListAt w v gq o) (k : Nat) (u : Value) : ListAt (w.setCell ⟨gr, k, none⟩ u) v gq o := by
  cases o with
  | none => exact h2
  | some l =>
    obtain ⟨ad, c, h1, h2', h3, h4⟩ := h
    obtain ⟨ad2, c2, g1, g2, g3, g4⟩ := h2
    exact ⟨ad2, c2, g1, g2, C_far g3 (by rw [h1] at g1; injection g1 with g1; rw [← Option.some.inj g1]; exact h4) u, g4⟩
/-- Rows (block b, its variable b1) and which are known (block b2, its variable b3). -/
structure WSt (w : World) (b b1 b2 b3 N : Nat) (V : Nat → Value) (W : Nat → Option (List Int)) : Prop where
  rows : RowsAt w b N V W
  lst2 : ∀ k, k < N → ListAt w (V k) b2 (W k)
  known : Row w b2 N (fun k => .bool (W k).isSome)
  pr : w.cell? ⟨b1, 0, none⟩ = some (.slice (some ⟨b, 0, none⟩) N N)
  pk : w.cell? ⟨b3, 0, none⟩ = some (.slice (some ⟨b2, 0, none⟩) N N)
  ne : b1 ≠ b ∧ b1 ≠ b2 ∧ b3 ≠ b ∧ b3 ≠ b2 ∧ b ≠ b2
section
variable {w w' : World} {b b1 b2 b3 N : Nat} {V : Nat → Value} {W : Nat → Option (List Int)}
theorem WSt.below (h : WSt w b b1 b2 b3 N V W) (hb : Below w.heap.size w w') : WSt w' b b1 b2 b3 N V W :=
  ⟨h.rows.below hb, fun k hk => (h.lst2 k hk).below hb, h.known.below hb, (hb.cell (World.block_lt_of_cell? _ _ h.pr)).trans h.pr, (hb.cell (World.block_lt_of_cell? _ _ h.pk)).trans h.pk, h.ne⟩
theorem WSt.drewN (h : WSt w b b1 b2 b3 N V W) (n : Nat) : WSt (w.drewN n) b b1 b2 b3 N V W := h.below (pw_below_drewN (Below.refl _ _) _)
theorem WSt.put (h : WSt w b b1 b2 b3 N V W) {x : Nat} (hx : x < N) {u : Value} {q : List Int} (hu : ListAt w u b (some q)) (hu2 : ListAt w u b2 (some q)) :
    WSt ((w.setCell ⟨b, x, none⟩ u).setCell ⟨b2, x, none⟩ (.bool true)) b b1 b2 b3 N (fun k => if k = x then u else V k) (setW W x q) := by
  have h1 := h.rows.put hx hu
  obtain ⟨n1, n2, n3, n4, n5⟩ := h.ne
  refine ⟨⟨h1.row.far _ (fun e => n5 e.symm) _, fun k hk => ?_⟩, fun k hk => ?_, ?_, ?_, ?_, h.ne⟩
  · by_cases e : k = x
    · rw [e, setW_same]
      simp only [if_true]
      exact (hu.far2 hu2 x u).far2 (hu.far x u) x _
    · rw [setW_other e, if_neg e]
      exact ((h.rows.lst k hk).far2 (h.lst2 k hk) x u).far2 ((h.rows.lst k hk).far x u) x _
  · by_cases e : k = x
    · rw [e, setW_same]
      simp only [if_true]
      exact (hu.far2 hu2 x u).far x _
    · rw [setW_other e, if_neg e]
      exact ((h.rows.lst k hk).far2 (h.lst2 k hk) x u).far x _
  · refine ((h.known.far ⟨b, x, none⟩ n5 u).set x hx (.bool true)).ext (fun k hk => ?_)
    by_cases e : k = x
    · rw [e, setW_same, if_pos rfl]; rfl
    · rw [setW_other e, if_neg e]
  · rw [World.cell?_setCell_other _ _ _ _ (by intro e; injection e with e; exact n2 e.symm), World.cell?_setCell_other _ _ _ _ (by intro e; injection e with e; exact n1 e.symm)]; exact h.pr
  · rw [World.cell?_setCell_other _ _ _ _ (by intro e; injection e with e; exact n4 e.symm), World.cell?_setCell_other _ _ _ _ (by intro e; injection e with e; exact n3 e.symm)]; exact h.pk
theorem WSt.made (w : World) (N t1 t2 t3 t4 : Nat) :
    WSt ((((w.alloc (.cells (madeCells #[.slice none 0 0] N) t1)).alloc (.cells #[.slice (some ⟨w.heap.size, 0, none⟩) N N] t2)).alloc (.cells (madeCells #[.bool false] N) t3)).alloc (.cells #[.slice (some ⟨w.heap.size + 1 + 1, 0, none⟩) N N] t4)) w.heap.size (w.heap.size + 1) (w.heap.size + 1 + 1) (w.heap.size + 1 + 1 + 1) N (fun _ => .slice none 0 0) (fun _ => none) ∧
    Below w.heap.size w ((((w.alloc (.cells (madeCells #[.slice none 0 0] N) t1)).alloc (.cells #[.slice (some ⟨w.heap.size, 0, none⟩) N N] t2)).alloc (.cells (madeCells #[.bool false] N) t3)).alloc (.cells #[.slice (some ⟨w.heap.size + 1 + 1, 0, none⟩) N N] t4)) := by
  have a1 := Row.made w (.slice none 0 0) N t1
  have z1 : (w.alloc (.cells (madeCells #[.slice none 0 0] N) t1)).heap.size = w.heap.size + 1 := World.size_alloc _ _
  have b1 := below_alloc (Below.refl w.heap.size w) (.cells (madeCells #[.slice none 0 0] N) t1)
  generalize w.alloc (.cells (madeCells #[.slice none 0 0] N) t1) = v1 at *
  have a2 : (v1.alloc (.cells #[.slice (some ⟨w.heap.size, 0, none⟩) N N] t2)).cell? ⟨w.heap.size + 1, 0, none⟩ = some (.slice (some ⟨w.heap.size, 0, none⟩) N N) := by rw [← z1]; simp [go_sem]
  have z2 : (v1.alloc (.cells #[.slice (some ⟨w.heap.size, 0, none⟩) N N] t2)).heap.size = w.heap.size + 1 + 1 := by rw [← z1]; exact World.size_alloc _ _
  have b2 := below_alloc (Below.refl v1.heap.size v1) (.cells #[.slice (some ⟨w.heap.size, 0, none⟩) N N] t2)
  generalize v1.alloc (.cells #[.slice (some ⟨w.heap.size, 0, none⟩) N N] t2) = v2 at *
  have a3 : Row (v2.alloc (.cells (madeCells #[.bool false] N) t3)) (w.heap.size + 1 + 1) N (fun _ => .bool false) := by rw [← z2]; exact Row.made v2 _ N t3
  have z3 : (v2.alloc (.cells (madeCells #[.bool false] N) t3)).heap.size = w.heap.size + 1 + 1 + 1 := by rw [← z2]; exact World.size_alloc _ _
  have b3 := below_alloc (Below.refl v2.heap.size v2) (.cells (madeCells #[.bool false] N) t3)
  generalize v2.alloc (.cells (madeCells #[.bool false] N) t3) = v3 at *
  have a4 : (v3.alloc (.cells #[.slice (some ⟨w.heap.size + 1 + 1, 0, none⟩) N N] t4)).cell? ⟨w.heap.size + 1 + 1 + 1, 0, none⟩ = some (.slice (some ⟨w.heap.size + 1 + 1, 0, none⟩) N N) := by rw [← z3]; simp [go_sem]
  have b4 := below_alloc (Below.refl v3.heap.size v3) (.cells #[.slice (some ⟨w.heap.size + 1 + 1, 0, none⟩) N N] t4)
  generalize v3.alloc (.cells #[.slice (some ⟨w.heap.size + 1 + 1, 0, none⟩) N N] t4) = v4 at *
  have h34 := b4
  have h24 := below_next b3 b4
  have h14 := below_next b2 h24
  refine ⟨⟨⟨a1.below h14, fun k hk => rfl⟩, fun k hk => rfl, (a3.below h34).ext (fun q hq => rfl), (h24.cell (World.block_lt_of_cell? _ _ a2)).trans a2, a4, by omega⟩, below_next b1 h14⟩
end
/-- Is a row new, or ahead of what is known? -/
def betterB (W : Nat → Option (List Int)) (x : Nat) (a : List Int) : Bool := match W x with | none => true | some u => decide (cmpL a u < 0)
theorem better_calls {w : World} {b b1 b2 b3 N : Nat} {V : Nat → Value} {W : Nat → Option (List Int)} (h : WSt w b b1 b2 b3 N V W) (hN : N ≤ 60) (x : Int) (h0 : 0 ≤ x) (h2 : x < N) (A : Option Addr) (c : Nat) (a : List Int) (ha : Kd.C (Kd.int .i64) w A a.length a) :
    Quiet 49 #[.slice A a.length c, .int .i64 x, .pointer (some ⟨b3, 0, none⟩), .pointer (some ⟨b1, 0, none⟩)] w (.bool (betterB W x.toNat a)) := by
  unfold Quiet
  have hkn := h.known.cell x.toNat (by omega)
  have hro := h.rows.row.cell x.toNat (by omega)
  have hls := h.rows.lst x.toNat (by omega)
  have hpr := h.pr
  have hpk := h.pk
  have HA := Lib.hid ha
  clear ha
  cases hW : W x.toNat with
  | none =>
    have HE : Hid (betterB W x.toNat a = true) := Lib.hid (by unfold betterB; rw [hW])
    rw [hW] at hls hkn
    have hl' : V x.toNat = .slice none 0 0 := hls
    rw [hl'] at hro
    have hk' : w.cell? ⟨b2, x.toNat, none⟩ = some (.bool false) := hkn
    clear hls hl' hW h hkn
    go_enter Tryd.func49, Tryd.ntmps49
    go_wp2
    go_ret
    exact ⟨ret_bool HE.out.symm, 0, rfl⟩
  | some u =>
    rw [hW] at hls hkn
    obtain ⟨ad, c2, e1, e2, e3, e4⟩ := hls
    rw [e1] at hro
    have hk' : w.cell? ⟨b2, x.toNat, none⟩ = some (.bool true) := hkn
    have HE : Hid (betterB W x.toNat a = decide (cmpL a u < 0)) := Lib.hid (by unfold betterB; rw [hW])
    have HQ := Lib.hid (fun W => scompare_calls A (some ad) c c2 a u W)
    have HU := Lib.hid e3
    obtain ⟨z, hz⟩ : ∃ z, cmpL a u = z := ⟨_, rfl⟩
    rw [hz] at HE
    have HZ := Lib.hid hz
    clear hW h hkn e1 e2 e3 e4 hz
    go_enter Tryd.func49, Tryd.ntmps49
    go_wp2_with (go_at_call 50; refine (HQ.out _ HA.out HU.out).mono ?_; rintro e w' ⟨rfl, n1, rfl⟩; rw [HZ.out])
    go_ret
    exact ⟨ret_bool HE.out.symm, _, rfl⟩
end Go.Proofs.YtagcmhnanngfbaaDoor.Hand
