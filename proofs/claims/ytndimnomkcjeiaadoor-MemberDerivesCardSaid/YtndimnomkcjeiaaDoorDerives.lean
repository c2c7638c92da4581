/- The walk of MemberDerives: it answers true and leaves the memory that it was given as it was, where the errors' variables stand. -/
import Derived.Test.YtndimnomkcjeiaaDoorRfrom
import Derived.Test.YtndimnomkcjeiaaDoorKit
import Derived.Test.YtndimnomkcjeiaaDoorOpens
import Derived.Test.YtndimnomkcjeiaaDoorLaid
namespace Go.Proofs.YtndimnomkcjeiaaDoor.Hand
open Go.RowKit Go.Proofs.YtndimnomkcjeiaaDoorW.PrintWords Go.Proofs.YtndimnomkcjeiaaDoorW.PrintMore Go.Proofs.YtndimnomkcjeiaaDoor.Math

set_option maxHeartbeats 1600000 in
set_option maxRecDepth 20000 in
theorem memberDerives_walk {w : World} (g : Gr) (v : Value) (hg : GramAt w v g ∧ GramB g) (x : Int) (At : Option Addr) (ct : Nat) (tk : List Int)
    (ht : Kd.C (Kd.int .i64) w At tk.length tk ∧ tk.length * 8 ≤ 140737488351232 ∧ tk.length ≤ ct ∧ ∀ x ∈ tk, (Lit.int .i64 x).wf = true) (hE : ∃ A, Errs w A) :
    Calls Tryd.prog 4 #[v, .int .i64 x, .slice At tk.length ct] w fun e w' => e = .returned (.bool true) ∧ Below w.heap.size w w' := by
  obtain ⟨hv, hB⟩ := hg
  obtain ⟨hr, hl8, hlc, -⟩ := ht
  obtain ⟨A, hE⟩ := hE
  have HV := Lib.hid hv
  obtain ⟨AT, cT, AN, cN, AR, cR, rfl, q1, q2, q3, q4, q5, q6⟩ := hv
  clear q4 q5 q6
  obtain ⟨w1, hw1⟩ : ∃ w1, w.alloc (.cells #[.slice AT g.terms.length cT, .slice AN g.nonterms.length cN, .int .i64 g.ax, .slice AR g.rules.length cR] 25) = w1 := ⟨_, rfl⟩
  have hb1 : Below w.heap.size w w1 := by rw [← hw1]; exact below_alloc (Below.refl _ _) _
  have hk1 : w1.heap[w.heap.size]? = some (.cells #[.slice AT g.terms.length cT, .slice AN g.nonterms.length cN, .int .i64 g.ax, .slice AR g.rules.length cR] 25 (0, 0)) := by rw [← hw1]; exact heap_alloc_new w _
  obtain ⟨c0, c1, c2, c3⟩ := blk_cells2 hk1
  have HB1 := Lib.hid hb1
  have HK1 := Lib.hid hk1
  have HG1 := Lib.hid (HV.out.below hb1)
  have HT1 := Lib.hid (Kd.C_below hr hb1)
  have HE1 := Lib.hid (hE.below hb1)
  have HLG := Lib.hid (lentGrammar_calls _ g w1 HG1.out (by have := hB.terms; omega) (by have := hB.nonterms; omega) (by have := hB.rules; omega) (fun r hr => by have := hB.right r hr; omega))
  have HLI := Lib.hid (fun (W : World) (hW : Below w1.heap.size w1 W) => lentInts_calls At ct tk W (Kd.C_below HT1.out hW) (by omega))
  clear hb1 hk1 hr hE hB hl8
  go_enter Tryd.func4, Tryd.ntmps4
  go_upto_region 2 with (first
    | (go_at_call 10; refine HLG.out.mono ?_; rintro e w2 ⟨u, rfl, hu, hb2⟩; have HU := Aside0.mk hu; have HB2 := Lib.hid hb2; obtain ⟨BT, dT, BN, dN, BR, dR, rfl, -⟩ := hu; clear hb2 c0 c1 c2 c3)
    | (go_at_call 11; refine (HLI.out w2 HB2.out).mono ?_; rintro e w3 ⟨Al, cl, rfl, hcl, hrl, hb3⟩; have HRl := Lib.hid (Kd.R_reads' hrl); have HB3 := Lib.hid hb3; clear hrl hb3))
  obtain ⟨w4, hw4⟩ : ∃ w4, w3.alloc (.cells #[.slice BT g.terms.length dT, .slice BN g.nonterms.length dN, .int .i64 g.ax, .slice BR g.rules.length dR] 25) = w4 := ⟨_, rfl⟩
  rw [hw4]
  have hb4 : Below w3.heap.size w3 w4 := by rw [← hw4]; exact below_alloc (Below.refl _ _) _
  have hk4 : w4.heap[w3.heap.size]? = some (.cells #[.slice BT g.terms.length dT, .slice BN g.nonterms.length dN, .int .i64 g.ax, .slice BR g.rules.length dR] 25 (0, 0)) := by rw [← hw4]; exact heap_alloc_new w3 _
  obtain ⟨d0, d1, d2, d3⟩ := blk_cells2 hk4
  have h14 : Below w1.heap.size w1 w4 := below_next (below_next HB2.out HB3.out) hb4
  have HE4 := Lib.hid (HE1.out.below h14)
  have HG4 := Lib.hid (HG1.out.below h14)
  have HT4 := Lib.hid (Kd.C_below HT1.out h14)
  have HU4 := Lib.hid (HU.out.below (below_next HB3.out hb4))
  have HL4 : Hid (KMInt.C w4 Al (tk.length + 1) (tk.map some ++ [none])) := Lib.hid (by have := Kd.C_below HRl.out.2.2 hb4; rwa [← HRl.out.1] at this)
  have HKg := Lib.hid (gblk_keep' HK1.out h14)
  have HKu := Lib.hid hk4
  have HB4 := Lib.hid (below_next HB1.out h14)
  clear hw4 hb4 hk4 h14 hw1 HLG HLI
  go_upto_region 6 with (first
    | (go_at_call 18; refine (mderives_calls _ g Al cl tk w4 A HE4.out HU4.out.plain (by omega) (lent_C (a := Kd.int .i64) HL4.out)).mono ?_; rintro e w5 ⟨u5, r5, rfl, hu5, hb5⟩; have HU5 := Lib.hid hu5; have HB5 := Lib.hid hb5; obtain ⟨e0, e1, e2, e3⟩ := blk_cells2 (gblk_keep' HKg.out hb5); clear hu5 hb5 d0 d1 d2 d3)
    | (go_at_call 19; refine (rderives_calls _ g At ct tk w5 (HG4.out.below HB5.out) hlc (Kd.C_below HT4.out HB5.out)).mono ?_; rintro e w6 ⟨rfl, hb6⟩; have P6 := Lib.hid hb6; have HB6 := Lib.hid (below_next HB5.out hb6); obtain ⟨d0, d1, d2, d3⟩ := blk_cells2 (gblk_keep' HKu.out HB6.out); clear hb6 e0 e1 e2 e3)
    | (go_at_call 20; refine (mfrom_calls _ g Al cl tk x w6 A (HE4.out.below HB6.out) (HU4.out.below HB6.out).plain (by omega) (lent_C (a := Kd.int .i64) (Kd.C_below HL4.out HB6.out))).mono ?_; rintro e w7 ⟨u7, r7, rfl, hu7, hb7⟩; have HU7 := Lib.hid hu7; have P7 := Lib.hid (below_next P6.out hb7); have HB7 := Lib.hid (below_next HB6.out hb7); obtain ⟨e0, e1, e2, e3⟩ := blk_cells2 (gblk_keep' HKg.out HB7.out); clear hu7 hb7 d0 d1 d2 d3)
    | (go_at_call 21; refine (rfrom_calls _ g At ct tk x w7 (HG4.out.below HB7.out) hlc (Kd.C_below HT4.out HB7.out)).mono ?_; rintro e w8 ⟨rfl, hb8⟩; have P8 := Lib.hid (below_next P7.out hb8); have Q8 := Lib.hid hb8; have HB8 := Lib.hid (below_next HB7.out hb8); clear hb8 e0 e1 e2 e3))
  obtain ⟨y1, hy1⟩ : ∃ y, fromB g tk g.ax = y := ⟨_, rfl⟩
  obtain ⟨y2, hy2⟩ : ∃ y, fromB g tk x = y := ⟨_, rfl⟩
  obtain ⟨k1, hk1⟩ : ∃ k, fromK g tk g.ax = k := ⟨_, rfl⟩
  obtain ⟨k2, hk2⟩ : ∃ k, fromK g tk x = k := ⟨_, rfl⟩
  rw [hy1, hy2, hk1, hk2]
  rw [hk1] at HU5
  rw [hk2] at HU7
  clear hy1 hy2 hk1 hk2
  have f1 : (y1 == y1) = true := beq_self_eq_true _
  have f2 : (y2 == y2) = true := beq_self_eq_true _
  have f3 : ((k1 : Int) == (k1 : Int)) = true := beq_self_eq_true _
  have f4 : ((k2 : Int) == (k2 : Int)) = true := beq_self_eq_true _
  go_wp2_with (first
    | (go_at_call 14; refine (kind_calls (HE4.out.below HB9.out) (HU7.out.below Q9.out)).mono ?_; rintro e w10 ⟨rfl, hb10⟩; have HB10 := Lib.hid (below_next HB9.out hb10); obtain ⟨d0, d1, d2, d3⟩ := blk_cells2 (gblk_keep' HKu.out HB10.out); obtain ⟨e0, e1, e2, e3⟩ := blk_cells2 (gblk_keep' HKg.out HB10.out); clear hb10)
    | (go_at_call 14; refine (kind_calls (HE4.out.below HB8.out) (HU5.out.below P8.out)).mono ?_; rintro e w9 ⟨rfl, hb9⟩; have Q9 := Lib.hid (below_next Q8.out hb9); have HB9 := Lib.hid (below_next HB8.out hb9); clear hb9)
    | (go_at_call 15; refine (keptGrammar_calls _ _ g w10 (HU4.out.below HB10.out) (HG4.out.below HB10.out)).mono ?_; rintro e w11 ⟨rfl, hb11⟩; have HB11 := Lib.hid (below_next HB10.out hb11); clear hb11 d0 d1 d2 d3 e0 e1 e2 e3)
    | (go_at_call 16; refine (keptInts_calls Al At cl ct tk w11 (Kd.C_below HL4.out HB11.out) hcl (Kd.C_below HT4.out HB11.out)).mono ?_; rintro e w12 ⟨rfl, n12, rfl⟩))
  go_ret
  exact ⟨rfl, pw_below_drewN (below_next HB4.out HB11.out) _⟩
end Go.Proofs.YtndimnomkcjeiaaDoor.Hand
