/- Contracts of dovetailref07: Sets. -/
import Derived.Test.YtagcmhnanngfbaaDoorRuseC
namespace Go.Proofs.YtagcmhnanngfbaaDoor.Hand
open Go.RowKit Go.Proofs.YtagcmhnanngfbaaDoorW.PrintWords Go.Proofs.YtagcmhnanngfbaaDoorW.PrintMore Go.Proofs.YtagcmhnanngfbaaDoor.Math

set_option maxHeartbeats 1000000 in
set_option maxRecDepth 20000 in
theorem rusets0_calls (v : Value) (g : Gr) (w : World) (hv : GramAt w v g) :
    Calls Tryd.prog 14 #[v, .int .i64 0] w fun e w' => e = .returned (.tuple #[.int .u64 ((usN g 0 : Nat) : Int), .int .i64 ((checkN g).1 : Nat)]) ∧ Below w.heap.size w w' := by
  have HV := Lib.hid hv
  obtain ⟨AT, cT, AN, cN, AR, cR, rfl, q1, q2, q3, q4, q5, q6⟩ := hv
  have l2 := q5.2.1
  obtain ⟨w1, hw1⟩ : ∃ w1, w.alloc (.cells #[.slice AT g.terms.length cT, .slice AN g.nonterms.length cN, .int .i64 g.ax, .slice AR g.rules.length cR] 25) = w1 := ⟨_, rfl⟩
  have hb1 : Below w.heap.size w w1 := by rw [← hw1]; exact below_alloc (Below.refl _ _) _
  have hk1 : w1.heap[w.heap.size]? = some (.cells #[.slice AT g.terms.length cT, .slice AN g.nonterms.length cN, .int .i64 g.ax, .slice AR g.rules.length cR] 25 (0, 0)) := by rw [← hw1]; exact heap_alloc_new w _
  obtain ⟨c0, c1, c2, c3⟩ := blk_cells2 hk1
  have HB1 := Lib.hid hb1
  have HK1 := Lib.hid hk1
  have HG := Lib.hid (HV.out.below hb1)
  have HCk := Lib.hid (rcheck_calls _ g w1 HG.out)
  clear hb1 hk1 q4 q5 q6
  by_cases hok : (checkN g).1 = 0
  · have HOK := Lib.hid hok
    have hc := GOk.of hok
    have HU : Hid (usN g 0 = setOf g.nonterms.length (usP g 0)) := Lib.hid (by unfold usN; rw [if_pos hok])
    have hN : g.nonterms.length ≤ 60 := by have := hc.size; omega
    rw [hok] at HCk
    have HGo := Lib.hid hc
    clear hok hc
    have HM := Lib.hid (fun (W : World) (hW : Below w1.heap.size w1 W) => rproductive_calls _ g W (HG.out.below hW) HGo.out)
    go_enter Tryd.func14, Tryd.ntmps14
    go_wp2_with (first
      | (go_at_call 40; refine HCk.out.mono ?_; rintro e w2 ⟨rfl, hb2⟩; have HB2 := Lib.hid hb2; obtain ⟨d0, d1, d2, d3⟩ := blk_cells2 (gblk_keep' HK1.out hb2); clear hb2 c0 c1 c2 c3)
      | (go_at_call 42; refine (HM.out w2 HB2.out).mono ?_; rintro e w3 ⟨gm, rfl, hrow, -, hb3⟩; have HRow := Lib.hid hrow; have HB3 := Lib.hid (below_next HB2.out hb3); clear hrow hb3 d0 d1 d2 d3)
      | (go_at_call 41; refine (rset_calls HRow.out hN).mono ?_; rintro e w' ⟨rfl, n1, rfl⟩))
    go_ret2
    exact ⟨by rw [HU.out, HOK.out]; rfl, pw_below_drewN (below_next HB1.out HB3.out) _⟩
  · have HU : Hid (usN g 0 = 0) := Lib.hid (by unfold usN; rw [if_neg hok])
    have hk0 : (((checkN g).1 : Int) == 0) = false := by rw [beq_eq_false_iff_ne]; omega
    clear hok
    go_enter Tryd.func14, Tryd.ntmps14
    go_wp2_with (go_at_call 40; refine HCk.out.mono ?_; rintro e w2 ⟨rfl, hb2⟩; have HB2 := Lib.hid hb2; clear hb2)
    go_ret2
    exact ⟨by rw [HU.out]; rfl, below_next HB1.out HB2.out⟩
set_option maxHeartbeats 1000000 in
set_option maxRecDepth 20000 in
theorem rusets2_calls (v : Value) (g : Gr) (w : World) (hv : GramAt w v g) :
    Calls Tryd.prog 14 #[v, .int .i64 2] w fun e w' => e = .returned (.tuple #[.int .u64 ((usN g 2 : Nat) : Int), .int .i64 ((checkN g).1 : Nat)]) ∧ Below w.heap.size w w' := by
  have HV := Lib.hid hv
  obtain ⟨AT, cT, AN, cN, AR, cR, rfl, q1, q2, q3, q4, q5, q6⟩ := hv
  have l2 := q5.2.1
  obtain ⟨w1, hw1⟩ : ∃ w1, w.alloc (.cells #[.slice AT g.terms.length cT, .slice AN g.nonterms.length cN, .int .i64 g.ax, .slice AR g.rules.length cR] 25) = w1 := ⟨_, rfl⟩
  have hb1 : Below w.heap.size w w1 := by rw [← hw1]; exact below_alloc (Below.refl _ _) _
  have hk1 : w1.heap[w.heap.size]? = some (.cells #[.slice AT g.terms.length cT, .slice AN g.nonterms.length cN, .int .i64 g.ax, .slice AR g.rules.length cR] 25 (0, 0)) := by rw [← hw1]; exact heap_alloc_new w _
  obtain ⟨c0, c1, c2, c3⟩ := blk_cells2 hk1
  have HB1 := Lib.hid hb1
  have HK1 := Lib.hid hk1
  have HG := Lib.hid (HV.out.below hb1)
  have HCk := Lib.hid (rcheck_calls _ g w1 HG.out)
  clear hb1 hk1 q4 q5 q6
  by_cases hok : (checkN g).1 = 0
  · have HOK := Lib.hid hok
    have hc := GOk.of hok
    have HU : Hid (usN g 2 = setOf g.nonterms.length (usP g 2)) := Lib.hid (by unfold usN; rw [if_pos hok])
    have hN : g.nonterms.length ≤ 60 := by have := hc.size; omega
    rw [hok] at HCk
    have HGo := Lib.hid hc
    clear hok hc
    have HM := Lib.hid (fun (W : World) (hW : Below w1.heap.size w1 W) => ruseful_calls _ g W (HG.out.below hW) HGo.out)
    go_enter Tryd.func14, Tryd.ntmps14
    go_wp2_with (first
      | (go_at_call 40; refine HCk.out.mono ?_; rintro e w2 ⟨rfl, hb2⟩; have HB2 := Lib.hid hb2; obtain ⟨d0, d1, d2, d3⟩ := blk_cells2 (gblk_keep' HK1.out hb2); clear hb2 c0 c1 c2 c3)
      | (go_at_call 44; refine (HM.out w2 HB2.out).mono ?_; rintro e w3 ⟨gm, rfl, hrow, hb3⟩; have HRow := Lib.hid hrow; have HB3 := Lib.hid (below_next HB2.out hb3); clear hrow hb3 d0 d1 d2 d3)
      | (go_at_call 41; refine (rset_calls HRow.out hN).mono ?_; rintro e w' ⟨rfl, n1, rfl⟩))
    go_ret2
    exact ⟨by rw [HU.out, HOK.out]; rfl, pw_below_drewN (below_next HB1.out HB3.out) _⟩
  · have HU : Hid (usN g 2 = 0) := Lib.hid (by unfold usN; rw [if_neg hok])
    have hk0 : (((checkN g).1 : Int) == 0) = false := by rw [beq_eq_false_iff_ne]; omega
    clear hok
    go_enter Tryd.func14, Tryd.ntmps14
    go_wp2_with (go_at_call 40; refine HCk.out.mono ?_; rintro e w2 ⟨rfl, hb2⟩; have HB2 := Lib.hid hb2; clear hb2)
    go_ret2
    exact ⟨by rw [HU.out]; rfl, below_next HB1.out HB2.out⟩
set_option maxHeartbeats 1000000 in
set_option maxRecDepth 20000 in
theorem rusets1_calls (v : Value) (g : Gr) (w : World) (hv : GramAt w v g) :
    Calls Tryd.prog 14 #[v, .int .i64 1] w fun e w' => e = .returned (.tuple #[.int .u64 ((usN g 1 : Nat) : Int), .int .i64 ((checkN g).1 : Nat)]) ∧ Below w.heap.size w w' := by
  have HV := Lib.hid hv
  obtain ⟨AT, cT, AN, cN, AR, cR, rfl, q1, q2, q3, q4, q5, q6⟩ := hv
  have l2 := q5.2.1
  obtain ⟨w1, hw1⟩ : ∃ w1, w.alloc (.cells #[.slice AT g.terms.length cT, .slice AN g.nonterms.length cN, .int .i64 g.ax, .slice AR g.rules.length cR] 25) = w1 := ⟨_, rfl⟩
  have hb1 : Below w.heap.size w w1 := by rw [← hw1]; exact below_alloc (Below.refl _ _) _
  have hk1 : w1.heap[w.heap.size]? = some (.cells #[.slice AT g.terms.length cT, .slice AN g.nonterms.length cN, .int .i64 g.ax, .slice AR g.rules.length cR] 25 (0, 0)) := by rw [← hw1]; exact heap_alloc_new w _
  obtain ⟨c0, c1, c2, c3⟩ := blk_cells2 hk1
  have HB1 := Lib.hid hb1
  have HK1 := Lib.hid hk1
  have HG := Lib.hid (HV.out.below hb1)
  have HCk := Lib.hid (rcheck_calls _ g w1 HG.out)
  clear hb1 hk1 q4 q5 q6
  by_cases hok : (checkN g).1 = 0
  · have HOK := Lib.hid hok
    have hc := GOk.of hok
    have HU : Hid (usN g 1 = setOf g.nonterms.length (usP g 1)) := Lib.hid (by unfold usN; rw [if_pos hok])
    have hN : g.nonterms.length ≤ 60 := by have := hc.size; omega
    rw [hok] at HCk
    have HGo := Lib.hid hc
    clear hok hc
    have HM := Lib.hid (fun (W : World) (hW : Below w1.heap.size w1 W) (gi : Nat) (hi : Row W gi g.nonterms.length (fun q => .bool ((fun _ => true) q))) => rreached_calls _ g W gi (fun _ => true) hi (HG.out.below hW) HGo.out)
    have HE : Hid (sB (fun q => tb (RD g.rules g.ax.toNat (fun k => (fun _ => true) k = true) q)) g.nonterms.length = setOf g.nonterms.length (usP g 1)) := Lib.hid (setOf_congr (by omega) (fun k hk => RD.congr (fun r hr => ⟨fun h => h.imp (fun _ _ => trivial), fun h => h.imp (fun _ _ => rfl)⟩)))
    have hmk : ∀ W : World, (Instr.makeSlice 60 (.int .i64 ((g.nonterms.length : Nat) : Int)) (.int .i64 ((g.nonterms.length : Nat) : Int))).run Tryd.prog W = .ok (.slice (some ⟨W.heap.size, 0, none⟩) g.nonterms.length g.nonterms.length) (W.alloc (.cells (madeCells #[.bool false] g.nonterms.length) 4)) :=
      print_make_of (P := Tryd.prog) 60 4 (.bool false) 1 rfl infoBool rfl (by decide) g.nonterms.length (by omega)
    go_enter Tryd.func14, Tryd.ntmps14
    go_wp2_with (first
      | (go_at_call 40; refine HCk.out.mono ?_; rintro e w2 ⟨rfl, hb2⟩; have HB2 := Lib.hid hb2; obtain ⟨d0, d1, d2, d3⟩ := blk_cells2 (gblk_keep' HK1.out hb2); clear hb2 c0 c1 c2 c3))
    obtain ⟨w3, hw3⟩ : ∃ w3, w2.alloc (.cells (madeCells #[.bool false] g.nonterms.length) 4) = w3 := ⟨_, rfl⟩
    rw [hw3]
    have HRow3 := Aside0.mk (show Row w3 w2.heap.size g.nonterms.length (fun q => .bool (decide (q < 0))) by rw [← hw3]; exact (Row.made w2 _ _ _).ext (fun q _ => by simp))
    have HB3 := Aside0.mk (show Below w2.heap.size w2 w3 by rw [← hw3]; exact below_alloc (Below.refl _ _) _)
    obtain ⟨gm, hgm⟩ : ∃ gm, w2.heap.size = gm := ⟨_, rfl⟩
    rw [hgm] at HRow3 ⊢
    have HGm := Lib.hid hgm
    clear hw3 hmk hgm d0 d1 d2 d3 hw1
    go_loopw [9] (fun x wr => ∃ i : Nat, i ≤ g.nonterms.length ∧ x = .int .i64 i ∧ Aside0 (Row wr gm g.nonterms.length (fun q => .bool (decide (q < i)))) ∧ Aside0 (Below w2.heap.size w2 wr)) (fun x _ => g.nonterms.length - (intOf x).toNat)
    case atStart => exact ⟨0, by omega, rfl, HRow3, HB3⟩
    case round =>
      obtain ⟨i, hi, rfl, HA, HBx⟩ := hrel
      by_cases hlt : i < g.nonterms.length
      · have ha := HA.out.cell i hlt
        have hf := HA.out.free i
        go_wp2
        go_roundw
        case rel => exact ⟨i + 1, by omega, by go_num, ⟨(HA.out.set i hlt (.bool true)).ext (fun q hq => by
          by_cases e : q = i
          · subst e; simp
          · rw [if_neg e]
            have : q < i + 1 ↔ q < i := by omega
            simp only [this])⟩, ⟨HBx.out.setCell (by rw [HGm.out]; exact Nat.le_refl _) _⟩⟩
        case measure => (simp [intOf]; omega)
      · obtain rfl : i = g.nonterms.length := by omega
        have HRow := Lib.hid (HA.out.ext (f' := fun q => .bool ((fun _ => true) q)) (fun q hq => by simp [hq]))
        have HBw := Lib.hid (below_next HB2.out HBx.out)
        obtain ⟨e0, e1, e2, e3⟩ := blk_cells2 (gblk_keep' HK1.out HBw.out)
        obtain ⟨w4, rfl⟩ : ∃ wo : World, wo = wr := ⟨_, rfl⟩
        go_wp2_with (first
          | (go_at_call 43; refine (HM.out w4 HBw.out gm HRow.out).mono ?_; rintro e w5 ⟨gr, rfl, hrow, -, hb5⟩; have HRow5 := Lib.hid hrow; have HB5 := Lib.hid (below_next HBw.out hb5); clear hrow hb5 e0 e1 e2 e3)
          | (go_at_call 41; refine (rset_calls HRow5.out hN).mono ?_; rintro e w' ⟨rfl, n1, rfl⟩))
        go_ret2
        exact ⟨by rw [HU.out, HOK.out, ← HE.out]; rfl, pw_below_drewN (below_next HB1.out HB5.out) _⟩
  · have HU : Hid (usN g 1 = 0) := Lib.hid (by unfold usN; rw [if_neg hok])
    have hk0 : (((checkN g).1 : Int) == 0) = false := by rw [beq_eq_false_iff_ne]; omega
    clear hok
    go_enter Tryd.func14, Tryd.ntmps14
    go_wp2_with (go_at_call 40; refine HCk.out.mono ?_; rintro e w2 ⟨rfl, hb2⟩; have HB2 := Lib.hid hb2; clear hb2)
    go_ret2
    exact ⟨by rw [HU.out]; rfl, below_next HB1.out HB2.out⟩
end Go.Proofs.YtagcmhnanngfbaaDoor.Hand
