/- The walk of UsefulSets: it answers true and leaves the memory that it was given as it was, where the errors' variables stand. -/
import Derived.Test.YtagcmhnanngfbaaDoorRuseD
import Derived.Test.YtagcmhnanngfbaaDoorKit
import Derived.Test.YtagcmhnanngfbaaDoorOpens
import Derived.Test.YtagcmhnanngfbaaDoorLaid
namespace Go.Proofs.YtagcmhnanngfbaaDoor.Hand
open Go.RowKit Go.Proofs.YtagcmhnanngfbaaDoorW.PrintWords Go.Proofs.YtagcmhnanngfbaaDoorW.PrintMore Go.Proofs.YtagcmhnanngfbaaDoor.Math

set_option maxHeartbeats 1600000 in
set_option maxRecDepth 20000 in
theorem usefulSets_walk {w : World} (g : Gr) (v : Value) (hg : GramAt w v g ∧ GramB g) (hE : ∃ A, Errs w A) :
    Calls Tryd.prog 3 #[v] w fun e w' => e = .returned (.bool true) ∧ Below w.heap.size w w' := by
  obtain ⟨hv, hB⟩ := hg
  obtain ⟨A, hE⟩ := hE
  have HV := Lib.hid hv
  obtain ⟨AT, cT, AN, cN, AR, cR, rfl, q1, q2, q3, q4, q5, q6⟩ := hv
  clear q4 q5 q6
  obtain ⟨w1, hw1⟩ : ∃ w1, w.alloc (.cells #[.slice AT g.terms.length cT, .slice AN g.nonterms.length cN, .int .i64 g.ax, .slice AR g.rules.length cR] 25) = w1 := ⟨_, rfl⟩
  have hb1 : Below w.heap.size w w1 := by rw [← hw1]; exact below_alloc (Below.refl _ _) _
  have hk1 : w1.heap[w.heap.size]? = some (.cells #[.slice AT g.terms.length cT, .slice AN g.nonterms.length cN, .int .i64 g.ax, .slice AR g.rules.length cR] 25 (0, 0)) := by rw [← hw1]; exact heap_alloc_new w _
  obtain ⟨c0, c1, c2, c3⟩ := blk_cells2 hk1
  have HB1 := Lib.hid hb1
  have HK1 := Lib.hid hk1
  have HG1 := Lib.hid (HV.out.below hb1)
  have HE1 := Lib.hid (hE.below hb1)
  have HLG := Lib.hid (lentGrammar_calls _ g w1 HG1.out (by have := hB.terms; omega) (by have := hB.nonterms; omega) (by have := hB.rules; omega) (fun r hr => by have := hB.right r hr; omega))
  clear hb1 hk1 hE hB
  go_enter Tryd.func3, Tryd.ntmps3
  go_upto_region 2 with (go_at_call 10; refine HLG.out.mono ?_; rintro e w2 ⟨u, rfl, hu, hb2⟩; have HU := Aside0.mk hu; have HB2 := Lib.hid hb2; obtain ⟨BT, dT, BN, dN, BR, dR, rfl, -⟩ := hu; clear hb2 c0 c1 c2 c3)
  obtain ⟨w4, hw4⟩ : ∃ w4, w2.alloc (.cells #[.slice BT g.terms.length dT, .slice BN g.nonterms.length dN, .int .i64 g.ax, .slice BR g.rules.length dR] 25) = w4 := ⟨_, rfl⟩
  rw [hw4]
  have hb4 : Below w2.heap.size w2 w4 := by rw [← hw4]; exact below_alloc (Below.refl _ _) _
  have hk4 : w4.heap[w2.heap.size]? = some (.cells #[.slice BT g.terms.length dT, .slice BN g.nonterms.length dN, .int .i64 g.ax, .slice BR g.rules.length dR] 25 (0, 0)) := by rw [← hw4]; exact heap_alloc_new w2 _
  obtain ⟨d0, d1, d2, d3⟩ := blk_cells2 hk4
  have h14 : Below w1.heap.size w1 w4 := below_next HB2.out hb4
  have HE4 := Lib.hid (HE1.out.below h14)
  have HG4 := Lib.hid (HG1.out.below h14)
  have HU4 := Lib.hid (HU.out.below hb4)
  have HKg := Lib.hid (gblk_keep' HK1.out h14)
  have HKu := Lib.hid hk4
  have HB4 := Lib.hid (below_next HB1.out h14)
  clear hw4 hb4 hk4 h14 hw1 HLG
  go_upto_region 8 with (first
    | (go_at_call 11; refine (uProductive_calls _ g w4 A HE4.out HU4.out.plain).mono ?_; rintro e w5 ⟨u5, r5, rfl, hu5, hb5⟩; have HU5 := Lib.hid hu5; have HB5 := Lib.hid hb5; obtain ⟨e0, e1, e2, e3⟩ := blk_cells2 (gblk_keep' HKu.out hb5); clear hu5 hb5 d0 d1 d2 d3)
    | (go_at_call 12; refine (uReached_calls _ g w5 A (HE4.out.below HB5.out) (HU4.out.below HB5.out).plain).mono ?_; rintro e w6 ⟨u6, r6, rfl, hu6, hb6⟩; have HU6 := Lib.hid hu6; have P6 := Lib.hid hb6; have HB6 := Lib.hid (below_next HB5.out hb6); obtain ⟨d0, d1, d2, d3⟩ := blk_cells2 (gblk_keep' HKu.out HB6.out); clear hu6 hb6 e0 e1 e2 e3)
    | (go_at_call 13; refine (uUseful_calls _ g w6 A (HE4.out.below HB6.out) (HU4.out.below HB6.out).plain).mono ?_; rintro e w7 ⟨u7, r7, rfl, hu7, hb7⟩; have HU7 := Lib.hid hu7; have P7 := Lib.hid (below_next P6.out hb7); have Q7 := Lib.hid hb7; have HB7 := Lib.hid (below_next HB6.out hb7); obtain ⟨e0, e1, e2, e3⟩ := blk_cells2 (gblk_keep' HKg.out HB7.out); clear hu7 hb7 d0 d1 d2 d3)
    | (go_at_call 14; refine (rusets2_calls _ g w9 (HG4.out.below HB9.out)).mono ?_; rintro e w10 ⟨rfl, hb10⟩; have P10 := Lib.hid (below_next P9.out hb10); have Q10 := Lib.hid (below_next Q9.out hb10); have R10 := Lib.hid (below_next R9.out hb10); have HB10 := Lib.hid (below_next HB9.out hb10); clear hb10 g0 g1 g2 g3)
    | (go_at_call 14; refine (rusets1_calls _ g w8 (HG4.out.below HB8.out)).mono ?_; rintro e w9 ⟨rfl, hb9⟩; have P9 := Lib.hid (below_next P8.out hb9); have Q9 := Lib.hid (below_next Q8.out hb9); have R9 := Lib.hid (below_next R8.out hb9); have HB9 := Lib.hid (below_next HB8.out hb9); obtain ⟨g0, g1, g2, g3⟩ := blk_cells2 (gblk_keep' HKg.out HB9.out); clear hb9 f0 f1 f2 f3)
    | (go_at_call 14; refine (rusets0_calls _ g w7 (HG4.out.below HB7.out)).mono ?_; rintro e w8 ⟨rfl, hb8⟩; have P8 := Lib.hid (below_next P7.out hb8); have Q8 := Lib.hid (below_next Q7.out hb8); have R8 := Lib.hid hb8; have HB8 := Lib.hid (below_next HB7.out hb8); obtain ⟨f0, f1, f2, f3⟩ := blk_cells2 (gblk_keep' HKg.out HB8.out); clear hb8 e0 e1 e2 e3))
  obtain ⟨a0, ha0⟩ : ∃ y, usN g 0 = y := ⟨_, rfl⟩
  obtain ⟨a1, ha1⟩ : ∃ y, usN g 1 = y := ⟨_, rfl⟩
  obtain ⟨a2, ha2⟩ : ∃ y, usN g 2 = y := ⟨_, rfl⟩
  obtain ⟨k, hk⟩ : ∃ k, (checkN g).1 = k := ⟨_, rfl⟩
  rw [ha0, ha1, ha2, hk]
  rw [hk] at HU5 HU6 HU7
  clear ha0 ha1 ha2 hk
  have f1 : ((a0 : Int) == (a0 : Int)) = true := beq_self_eq_true _
  have f2 : ((a1 : Int) == (a1 : Int)) = true := beq_self_eq_true _
  have f3 : ((a2 : Int) == (a2 : Int)) = true := beq_self_eq_true _
  have f4 : ((k : Int) == (k : Int)) = true := beq_self_eq_true _
  go_wp2_with (first
    | (go_at_call 15; refine (kind_calls (HE4.out.below HB12.out) (HU7.out.below R12.out)).mono ?_; rintro e w13 ⟨rfl, hb13⟩; have HB13 := Lib.hid (below_next HB12.out hb13); obtain ⟨d0, d1, d2, d3⟩ := blk_cells2 (gblk_keep' HKu.out HB13.out); obtain ⟨e0, e1, e2, e3⟩ := blk_cells2 (gblk_keep' HKg.out HB13.out); clear hb13)
    | (go_at_call 15; refine (kind_calls (HE4.out.below HB11.out) (HU6.out.below Q11.out)).mono ?_; rintro e w12 ⟨rfl, hb12⟩; have R12 := Lib.hid (below_next R11.out hb12); have HB12 := Lib.hid (below_next HB11.out hb12); clear hb12)
    | (go_at_call 15; refine (kind_calls (HE4.out.below HB10.out) (HU5.out.below P10.out)).mono ?_; rintro e w11 ⟨rfl, hb11⟩; have Q11 := Lib.hid (below_next Q10.out hb11); have R11 := Lib.hid (below_next R10.out hb11); have HB11 := Lib.hid (below_next HB10.out hb11); clear hb11)
    | (go_at_call 16; refine (keptGrammar_calls _ _ g w13 (HU4.out.below HB13.out) (HG4.out.below HB13.out)).mono ?_; rintro e w14 ⟨rfl, hb14⟩; have HB14 := Lib.hid (below_next HB13.out hb14); clear hb14 d0 d1 d2 d3 e0 e1 e2 e3))
  go_ret
  exact ⟨rfl, below_next HB4.out HB14.out⟩
end Go.Proofs.YtagcmhnanngfbaaDoor.Hand
