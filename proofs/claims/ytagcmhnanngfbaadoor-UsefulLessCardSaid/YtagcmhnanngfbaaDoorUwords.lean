/- The walk of UsefulWords. -/
import Derived.Test.YtagcmhnanngfbaaDoorUword
import Derived.Test.YtagcmhnanngfbaaDoorRword
import Derived.Test.YtagcmhnanngfbaaDoorKit
import Derived.Test.YtagcmhnanngfbaaDoorOpens
import Derived.Test.YtagcmhnanngfbaaDoorLaid
namespace Go.Proofs.YtagcmhnanngfbaaDoor.Hand
open Go.RowKit Go.Proofs.YtagcmhnanngfbaaDoorW.PrintWords Go.Proofs.YtagcmhnanngfbaaDoorW.PrintMore Go.Proofs.YtagcmhnanngfbaaDoor.Math

/-- A list of integers at hand. -/
def ListV (w : World) (v : Value) (l : List Int) : Prop := ∃ A c, v = .slice A l.length c ∧ Kd.C (Kd.int .i64) w A l.length l
theorem ListV.below {w w' : World} {v : Value} {l : List Int} (h : ListV w v l) (hb : Below w.heap.size w w') : ListV w' v l := by
  obtain ⟨A, c, h1, h2⟩ := h
  exact ⟨A, c, h1, Kd.C_below h2 hb⟩
theorem ListV.nil (w : World) : ListV w (.slice none 0 0) [] := ⟨none, 0, rfl, rfl, by simp, fun h => absurd h (by simp)⟩
theorem ListV.row {w : World} {gm N : Nat} {L : Nat → Int} (h : Row w gm N (fun q => .int .i64 (L q))) (hN : N ≤ 60) : ListV w (.slice (some ⟨gm, 0, none⟩) N N) ((List.range N).map L) := by
  have hl : ((List.range N).map L).length = N := by simp
  refine ⟨some ⟨gm, 0, none⟩, N, by rw [hl], rfl, by omega, fun _ => ⟨_, rfl, fun j q hj => ?_⟩⟩
  have hjN : j < N := by
    have := (List.getElem?_eq_some_iff.1 hj).1
    omega
  have hq : L j = q := by
    rw [List.getElem?_map, List.getElem?_range hjN] at hj
    exact Option.some.inj hj
  refine ⟨[.int .i64 q], rfl, rfl, fun i u hu => ?_⟩
  cases i with
  | zero =>
    have hu' : Value.int .i64 q = u := by simpa using hu
    subst hu'
    have := h.cell j hjN
    rw [hq] at this
    have e : (Addr.add ⟨gm, 0, none⟩ (j * (Kd.int .i64).sz + 0)) = ⟨gm, j, none⟩ := by
      rw [show (Kd.int .i64).sz = 1 from rfl]
      unfold Addr.add
      split
      · rename_i h0; rw [show j = 0 by omega]
      · simp
    rw [e]
    exact this
  | succ i => simp at hu
section
open Classical
/-- The lengths of shortest words. -/
noncomputable def lenF (g : Gr) : Nat → Int := if h : ∃ L, LenIs g.rules g.nonterms.length L then Classical.choose h else fun _ => -1
theorem lenF_eq {g : Gr} {L : Nat → Int} (h : LenIs g.rules g.nonterms.length L) {k : Nat} (hk : k < g.nonterms.length) : L k = lenF g k := by
  have he : ∃ L, LenIs g.rules g.nonterms.length L := ⟨L, h⟩
  unfold lenF
  rw [dif_pos he]
  exact h.eq (Classical.choose_spec he) hk
noncomputable def shL (g : Gr) : List Int := if (checkN g).1 = 0 then (List.range g.nonterms.length).map (lenF g) else []
theorem shL_eq {g : Gr} {L : Nat → Int} (hc : (checkN g).1 = 0) (h : LenIs g.rules g.nonterms.length L) : (List.range g.nonterms.length).map L = shL g := by
  unfold shL
  rw [if_pos hc]
  exact List.map_congr_left (fun k hk => lenF_eq h (List.mem_range.1 hk))
noncomputable def wdF (g : Gr) (x : Nat) : List Int := if h : ∃ q, WordIs g.rules x q then Classical.choose h else []
theorem wdF_eq {g : Gr} {x : Nat} {q : List Int} (h : WordIs g.rules x q) : q = wdF g x := by
  have he : ∃ q, WordIs g.rules x q := ⟨q, h⟩
  unfold wdF
  rw [dif_pos he]
  exact h.eq (Classical.choose_spec he)
/-- Which error Word tells; the row. -/
noncomputable def wdK (g : Gr) (x : Int) : Nat := if (checkN g).1 ≠ 0 then (checkN g).1 else if x < 0 ∨ (g.nonterms.length : Int) ≤ x then 1 else if lenF g x.toNat < 0 then 15 else if 65536 < lenF g x.toNat then 12 else 0
noncomputable def wdL (g : Gr) (x : Int) : List Int := if wdK g x = 0 then wdF g x.toNat else []
theorem wdK_err {g : Gr} {x : Int} (h : ¬ (checkN g).1 = 0) : wdK g x = (checkN g).1 := by unfold wdK; rw [if_pos h]
theorem wdK_arg {g : Gr} {x : Int} (h : (checkN g).1 = 0) (hx : x < 0 ∨ (g.nonterms.length : Int) ≤ x) : wdK g x = 1 := by unfold wdK; rw [if_neg (by simp [h]), if_pos hx]
theorem wdK_in {g : Gr} {x : Int} (h : (checkN g).1 = 0) (h0 : 0 ≤ x) (h1 : x < g.nonterms.length) : wdK g x = if lenF g x.toNat < 0 then 15 else if 65536 < lenF g x.toNat then 12 else 0 := by unfold wdK; rw [if_neg (by simp [h]), if_neg (by omega)]
theorem wdL_no {g : Gr} {x : Int} (h : ¬ wdK g x = 0) : wdL g x = [] := by unfold wdL; rw [if_neg h]
theorem wdL_yes {g : Gr} {x : Int} (h : wdK g x = 0) {q : List Int} (hq : WordIs g.rules x.toNat q) : q = wdL g x := by unfold wdL; rw [if_pos h]; exact wdF_eq hq
end
theorem ushortL_calls (v : Value) (g : Gr) (w : World) (A : Nat → Addr) (hE : Errs w A) (hv : GramAt w v g) :
    Calls Tryd.prog 17 #[v] w fun e w' => ∃ B c u r, e = .returned (.tuple #[.slice B (shL g).length c, u]) ∧ Kd.C (Kd.int .i64) w' B (shL g).length (shL g) ∧ ErrV w' A u (checkN g).1 r ∧ Below w.heap.size w w' := by
  refine (ushortest_calls v g w A hE hv).mono ?_
  rintro e w' (⟨u, rfl, hk, hu, hb⟩ | ⟨gm, L, rfl, hk, hr, hL, hg, hb⟩)
  · have hl : shL g = [] := by unfold shL; rw [if_neg hk]
    rw [hl]
    obtain ⟨B, c, e1, e2⟩ := ListV.nil w'
    exact ⟨B, c, u, _, by rw [e1], e2, hu, hb⟩
  · obtain ⟨z1, z2, _⟩ := checkN_zero hk
    obtain ⟨B, c, e1, e2⟩ := ListV.row hr (by omega)
    rw [shL_eq hk hL] at e1 e2
    exact ⟨B, c, .nilIface, -1, by rw [e1], e2, by rw [hk]; exact .none, hb⟩
theorem rshortL_calls (v : Value) (g : Gr) (w : World) (hv : GramAt w v g) :
    Calls Tryd.prog 18 #[v] w fun e w' => ∃ B c, e = .returned (.tuple #[.slice B (shL g).length c, .int .i64 ((checkN g).1 : Nat)]) ∧ Kd.C (Kd.int .i64) w' B (shL g).length (shL g) ∧ Below w.heap.size w w' := by
  refine (rshortest_calls v g w hv).mono ?_
  rintro e w' (⟨rfl, hk, hb⟩ | ⟨gm, L, rfl, hk, hr, hL, hg, hb⟩)
  · have hl : shL g = [] := by unfold shL; rw [if_neg hk]
    rw [hl]
    obtain ⟨B, c, e1, e2⟩ := ListV.nil w'
    exact ⟨B, c, by rw [e1], e2, hb⟩
  · obtain ⟨z1, z2, _⟩ := checkN_zero hk
    obtain ⟨B, c, e1, e2⟩ := ListV.row hr (by omega)
    rw [shL_eq hk hL] at e1 e2
    exact ⟨B, c, by rw [e1, hk]; rfl, e2, hb⟩
theorem uwordL_calls (v : Value) (g : Gr) (x : Int) (w : World) (A : Nat → Addr) (hE : Errs w A) (hv : GramAt w v g) :
    Calls Tryd.prog 19 #[v, .int .i64 x] w fun e w' => ∃ B c u r, e = .returned (.tuple #[.slice B (wdL g x).length c, u]) ∧ Kd.C (Kd.int .i64) w' B (wdL g x).length (wdL g x) ∧ ErrV w' A u (wdK g x) r ∧ Below w.heap.size w w' := by
  refine (uword_calls v g x w A hE hv).mono ?_
  rintro e w' ⟨v', u, rfl, hb, h⟩
  have nil : ∀ r, wdK g x = r → ¬ r = 0 → v' = .slice none 0 0 → ∀ q, ErrV w' A u r q → ∃ B c u' r', Ending.returned (.tuple #[v', u]) = .returned (.tuple #[.slice B (wdL g x).length c, u']) ∧ Kd.C (Kd.int .i64) w' B (wdL g x).length (wdL g x) ∧ ErrV w' A u' (wdK g x) r' ∧ Below w.heap.size w w' := by
    intro r hr h0 hv' q hu
    rw [wdL_no (by rw [hr]; exact h0), hr, hv']
    obtain ⟨B, c, e1, e2⟩ := ListV.nil w'
    exact ⟨B, c, u, q, by rw [e1], e2, hu, hb⟩
  rcases h with ⟨h1, h2, h3⟩ | ⟨h1, h2, h3, h4⟩ | ⟨h1, h2, h3, L, hL, h4⟩
  · exact nil _ (wdK_err h1) h1 h2 _ h3
  · exact nil _ (wdK_arg h1 h2) (by decide) h3 _ h4
  · have hk := wdK_in h1 h2 h3
    have hl := lenF_eq hL (k := x.toNat) (by omega)
    rw [← hl] at hk
    rcases h4 with ⟨i1, i2, i3⟩ | ⟨i1, i2, i3⟩ | ⟨i1, i2, i3, ad, c, q, i4, i5, i6⟩
    · exact nil _ (by rw [hk, if_pos i1]) (by decide) i2 _ i3
    · exact nil _ (by rw [hk, if_neg (by omega), if_pos i1]) (by decide) i2 _ i3
    · have hz : wdK g x = 0 := by rw [hk, if_neg (by omega), if_neg (by omega)]
      have hq := wdL_yes hz i4
      rw [← hq, hz]
      exact ⟨some ad, c, u, -1, by rw [i5], i6, by rw [i3]; exact .none, hb⟩
theorem rwordL_calls (v : Value) (g : Gr) (x : Int) (w : World) (hv : GramAt w v g) :
    Calls Tryd.prog 20 #[v, .int .i64 x] w fun e w' => ∃ B c, e = .returned (.tuple #[.slice B (wdL g x).length c, .int .i64 (wdK g x : Nat)]) ∧ Kd.C (Kd.int .i64) w' B (wdL g x).length (wdL g x) ∧ Below w.heap.size w w' := by
  refine (rword_calls v g x w hv).mono ?_
  rintro e w' ⟨v', u, rfl, hb, h⟩
  have nil : ∀ r : Nat, wdK g x = r → ¬ r = 0 → v' = .slice none 0 0 → u = (r : Int) → ∃ B c, Ending.returned (.tuple #[v', .int .i64 u]) = .returned (.tuple #[.slice B (wdL g x).length c, .int .i64 (wdK g x : Nat)]) ∧ Kd.C (Kd.int .i64) w' B (wdL g x).length (wdL g x) ∧ Below w.heap.size w w' := by
    intro r hr h0 hv' hu
    rw [wdL_no (by rw [hr]; exact h0), hr, hv', hu]
    obtain ⟨B, c, e1, e2⟩ := ListV.nil w'
    exact ⟨B, c, by rw [e1], e2, hb⟩
  rcases h with ⟨h1, h2, h3⟩ | ⟨h1, h2, h3, h4⟩ | ⟨h1, h2, h3, L, hL, h4⟩
  · exact nil _ (wdK_err h1) h1 h2 h3
  · exact nil 1 (wdK_arg h1 h2) (by decide) h3 h4
  · have hk := wdK_in h1 h2 h3
    have hl := lenF_eq hL (k := x.toNat) (by omega)
    rw [← hl] at hk
    rcases h4 with ⟨i1, i2, i3⟩ | ⟨i1, i2, i3⟩ | ⟨i1, i2, i3, ad, c, q, i4, i5, i6⟩
    · exact nil 15 (by rw [hk, if_pos i1]) (by decide) i2 i3
    · exact nil 12 (by rw [hk, if_neg (by omega), if_pos i1]) (by decide) i2 i3
    · have hz : wdK g x = 0 := by rw [hk, if_neg (by omega), if_neg (by omega)]
      have hq := wdL_yes hz i4
      rw [← hq, hz]
      exact ⟨some ad, c, by rw [i5, i3]; rfl, i6, hb⟩
theorem ints_same (A B : Option Addr) (c d : Nat) (l : List Int) (w : World) (hr : Kd.C (Kd.int .i64) w A l.length l) (hq : Kd.C (Kd.int .i64) w B l.length l) : Quiet 21 #[.slice A l.length c, .slice B l.length d] w (.bool true) := by
  have := ints_calls A B c d l l w hr hq
  rwa [decide_eq_true rfl] at this
set_option maxHeartbeats 1600000 in
set_option maxRecDepth 20000 in
theorem usefulWords_walk {w : World} (g : Gr) (v : Value) (hg : GramAt w v g ∧ GramB g) (x : Int) (hE : ∃ A, Errs w A) :
    Calls Tryd.prog 4 #[v, .int .i64 x] w fun e w' => e = .returned (.bool true) ∧ Below w.heap.size w w' := by
  obtain ⟨hv, hB⟩ := hg
  obtain ⟨A, hE⟩ := hE
  have HV := Lib.hid hv
  obtain ⟨AT, cT, AN, cN, AR, cR, rfl, q1, q2, q3, q4, q5, q6⟩ := hv
  clear q4 q5 q6
  obtain ⟨w1, hw1⟩ : ∃ w1, w.alloc (.cells #[.slice AT g.terms.length cT, .slice AN g.nonterms.length cN, .int .i64 g.ax, .slice AR g.rules.length cR] 25) = w1 := ⟨_, rfl⟩
  have hb1 : Below w.heap.size w w1 := by rw [← hw1]; exact below_alloc (Below.refl _ _) _
  have hk1 : w1.heap[w.heap.size]? = some (.cells #[.slice AT g.terms.length cT, .slice AN g.nonterms.length cN, .int .i64 g.ax, .slice AR g.rules.length cR] 25 (0, 0)) := by rw [← hw1]; exact heap_alloc_new w _
  obtain ⟨c0, c1, c2, c3⟩ := blk_cells2 hk1
  have HB1 := Lib.hid hb1
  have HK1 := Lib.hid hk1
  have HG1 := Lib.hid (HV.out.below hb1)
  have HE1 := Lib.hid (hE.below hb1)
  have HLG := Lib.hid (lentGrammar_calls _ g w1 HG1.out (by have := hB.terms; omega) (by have := hB.nonterms; omega) (by have := hB.rules; omega) (fun r hr => by have := hB.right r hr; omega))
  clear hb1 hk1 hE hB
  go_enter Tryd.func4, Tryd.ntmps4
  go_upto_region 2 with (go_at_call 10; refine HLG.out.mono ?_; rintro e w2 ⟨u, rfl, hu, hb2⟩; have HU := Aside0.mk hu; have HB2 := Lib.hid hb2; obtain ⟨BT, dT, BN, dN, BR, dR, rfl, -⟩ := hu; clear hb2 c0 c1 c2 c3)
  obtain ⟨w4, hw4⟩ : ∃ w4, w2.alloc (.cells #[.slice BT g.terms.length dT, .slice BN g.nonterms.length dN, .int .i64 g.ax, .slice BR g.rules.length dR] 25) = w4 := ⟨_, rfl⟩
  rw [hw4]
  have hb4 : Below w2.heap.size w2 w4 := by rw [← hw4]; exact below_alloc (Below.refl _ _) _
  have hk4 : w4.heap[w2.heap.size]? = some (.cells #[.slice BT g.terms.length dT, .slice BN g.nonterms.length dN, .int .i64 g.ax, .slice BR g.rules.length dR] 25 (0, 0)) := by rw [← hw4]; exact heap_alloc_new w2 _
  obtain ⟨d0, d1, d2, d3⟩ := blk_cells2 hk4
  have h14 : Below w1.heap.size w1 w4 := below_next HB2.out hb4
  have HE4 := Lib.hid (HE1.out.below h14)
  have HG4 := Lib.hid (HG1.out.below h14)
  have HU4 := Lib.hid (HU.out.below hb4)
  have HKg := Lib.hid (gblk_keep' HK1.out h14)
  have HKu := Lib.hid hk4
  have HB4 := Lib.hid (below_next HB1.out h14)
  clear hw4 hb4 hk4 h14 hw1 HLG
  go_upto_region 6 with (first
    | (go_at_call 17; refine (ushortL_calls _ g w4 A HE4.out HU4.out.plain).mono ?_; rintro e w5 ⟨B5, n5, u5, r5, rfl, hc5, hu5, hb5⟩; have HC5 := Lib.hid hc5; have HU5 := Lib.hid hu5; have HB5 := Lib.hid hb5; obtain ⟨e0, e1, e2, e3⟩ := blk_cells2 (gblk_keep' HKg.out hb5); clear hu5 hb5 hc5 d0 d1 d2 d3)
    | (go_at_call 18; refine (rshortL_calls _ g w5 (HG4.out.below HB5.out)).mono ?_; rintro e w6 ⟨B6, n6, rfl, hc6, hb6⟩; have HC6 := Lib.hid hc6; have P6 := Lib.hid hb6; have HB6 := Lib.hid (below_next HB5.out hb6); obtain ⟨d0, d1, d2, d3⟩ := blk_cells2 (gblk_keep' HKu.out HB6.out); clear hc6 hb6 e0 e1 e2 e3)
    | (go_at_call 19; refine (uwordL_calls _ g x w6 A (HE4.out.below HB6.out) (HU4.out.below HB6.out).plain).mono ?_; rintro e w7 ⟨B7, n7, u7, r7, rfl, hc7, hu7, hb7⟩; have HC7 := Lib.hid hc7; have HU7 := Lib.hid hu7; have Q7 := Lib.hid hb7; have P7 := Lib.hid (below_next P6.out hb7); have HB7 := Lib.hid (below_next HB6.out hb7); obtain ⟨e0, e1, e2, e3⟩ := blk_cells2 (gblk_keep' HKg.out HB7.out); clear hc7 hu7 hb7 d0 d1 d2 d3)
    | (go_at_call 20; refine (rwordL_calls _ g x w7 (HG4.out.below HB7.out)).mono ?_; rintro e w8 ⟨B8, n8, rfl, hc8, hb8⟩; have HC8 := Lib.hid hc8; have P8 := Lib.hid (below_next P7.out hb8); have Q8 := Lib.hid (below_next Q7.out hb8); have R8 := Lib.hid hb8; have HB8 := Lib.hid (below_next HB7.out hb8); clear hc8 hb8 e0 e1 e2 e3))
  obtain ⟨l, hl⟩ : ∃ y, shL g = y := ⟨_, rfl⟩
  obtain ⟨m, hm⟩ : ∃ y, wdL g x = y := ⟨_, rfl⟩
  obtain ⟨k, hk⟩ : ∃ k, (checkN g).1 = k := ⟨_, rfl⟩
  obtain ⟨k2, hk2⟩ : ∃ k, wdK g x = k := ⟨_, rfl⟩
  rw [hl, hm, hk, hk2]
  rw [hl] at HC5 HC6
  rw [hm] at HC7 HC8
  rw [hk] at HU5
  rw [hk2] at HU7
  clear hl hm hk hk2
  have f1 : ((k : Int) == (k : Int)) = true := beq_self_eq_true _
  have f2 : ((k2 : Int) == (k2 : Int)) = true := beq_self_eq_true _
  go_wp2_with (first
    | (go_at_call 16; refine (keptGrammar_calls _ _ g w12 (HU4.out.below HB12.out) (HG4.out.below HB12.out)).mono ?_; rintro e w13 ⟨rfl, hb13⟩; have HB13 := Lib.hid (below_next HB12.out hb13); clear hb13 d0 d1 d2 d3 e0 e1 e2 e3)
    | (go_at_call 21; refine (ints_same B7 B8 n7 n8 m w11 (Kd.C_below HC7.out R11.out) (Kd.C_below HC8.out T11.out)).mono ?_; rintro e w12 ⟨rfl, n1, hw⟩; have HB12 := Lib.hid (show Below w4.heap.size w4 w12 by rw [hw]; exact pw_below_drewN HB11.out _); obtain ⟨d0, d1, d2, d3⟩ := blk_cells2 (gblk_keep' HKu.out HB12.out); obtain ⟨e0, e1, e2, e3⟩ := blk_cells2 (gblk_keep' HKg.out HB12.out); clear hw)
    | (go_at_call 15; refine (kind_calls (HE4.out.below HB10.out) (HU7.out.below R10.out)).mono ?_; rintro e w11 ⟨rfl, hb11⟩; have R11 := Lib.hid (below_next R10.out hb11); have T11 := Lib.hid (below_next T10.out hb11); have HB11 := Lib.hid (below_next HB10.out hb11); clear hb11)
    | (go_at_call 21; refine (ints_same B5 B6 n5 n6 l w9 (Kd.C_below HC5.out P9.out) (Kd.C_below HC6.out Q9.out)).mono ?_; rintro e w10 ⟨rfl, n1, hw⟩; have HB10 := Lib.hid (show Below w4.heap.size w4 w10 by rw [hw]; exact pw_below_drewN HB9.out _); have R10 := Lib.hid (show Below w7.heap.size w7 w10 by rw [hw]; exact pw_below_drewN R9.out _); have T10 := Lib.hid (show Below w8.heap.size w8 w10 by rw [hw]; exact pw_below_drewN T9.out _); clear hw)
    | (go_at_call 15; refine (kind_calls (HE4.out.below HB8.out) (HU5.out.below P8.out)).mono ?_; rintro e w9 ⟨rfl, hb9⟩; have P9 := Lib.hid (below_next P8.out hb9); have Q9 := Lib.hid (below_next Q8.out hb9); have R9 := Lib.hid (below_next R8.out hb9); have T9 := Lib.hid hb9; have HB9 := Lib.hid (below_next HB8.out hb9); clear hb9))
  go_ret
  exact ⟨rfl, below_next HB4.out HB13.out⟩
end Go.Proofs.YtagcmhnanngfbaaDoor.Hand
