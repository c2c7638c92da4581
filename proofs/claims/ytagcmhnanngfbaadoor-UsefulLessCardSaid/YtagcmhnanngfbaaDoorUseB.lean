/- Contracts of package useful: Productive, Reached, Useful. -/
import Derived.Test.YtagcmhnanngfbaaDoorUse
import Derived.Deep.RegionHeld3
namespace Go.Proofs.YtagcmhnanngfbaaDoor.Hand
open Go.RowKit Go.Proofs.YtagcmhnanngfbaaDoorW.PrintWords Go.Proofs.YtagcmhnanngfbaaDoorW.PrintMore Go.Proofs.YtagcmhnanngfbaaDoor.Math

theorem RD.congr {R : List (Int × List Int)} {ax : Nat} {I J : Nat → Prop} (h : ∀ r ∈ R, AllIn I r.2 ↔ AllIn J r.2) {k : Nat} : RD R ax I k ↔ RD R ax J k := ⟨RD.imp (fun r hr => (h r hr).1), RD.imp (fun r hr => (h r hr).2)⟩
theorem allIn_congr {g : Gr} (hg : GOk g) {I J : Nat → Prop} (h : ∀ k, k < g.nonterms.length → (I k ↔ J k)) : ∀ r ∈ g.rules, AllIn I r.2 ↔ AllIn J r.2 := by
  intro r hr
  constructor <;> intro ha s hs h0
  · exact (h _ (by have := hg.right.sym hr hs; omega)).1 (ha s hs h0)
  · exact (h _ (by have := hg.right.sym hr hs; omega)).2 (ha s hs h0)
/-- What the document says: which 0: productive, 1: reached, 2: useful. -/
noncomputable def usP (g : Gr) : Nat → Nat → Prop
  | 0 => PD g.rules
  | 1 => RD g.rules g.ax.toNat (fun _ => True)
  | _ => fun k => PD g.rules k ∧ RD g.rules g.ax.toNat (PD g.rules) k
open Classical in
noncomputable def usN (g : Gr) (x : Nat) : Nat := if (checkN g).1 = 0 then setOf g.nonterms.length (usP g x) else 0
theorem meet_setOf {N : Nat} (hN : N ≤ 64) {P Q : Nat → Prop} : setOf N P &&& setOf N Q = setOf N (fun k => P k ∧ Q k) := ((setOf_is hN P).meet (setOf_is hN Q)).of hN
theorem setOf_congr {N : Nat} (hN : N ≤ 64) {P Q : Nat → Prop} (h : ∀ k, k < N → (P k ↔ Q k)) : setOf N P = setOf N Q := ((setOf_is hN P).imp h).of hN
theorem setOf_lt {N : Nat} (hN : N ≤ 64) (P : Nat → Prop) : setOf N P < 18446744073709551616 := lt_u64 (setOf_is hN P).lt hN
theorem four_step {a0 a1 a2 a3 : Addr} {v0 v1 v2 v3 : Value} {w3 W w' : World} (h : W.cell? a0 = some v0 ∧ W.cell? a1 = some v1 ∧ W.cell? a2 = some v2 ∧ W.cell? a3 = some v3 ∧ Aside0 (Below w3.heap.size w3 W)) (hb : Below W.heap.size W w') :
    w'.cell? a0 = some v0 ∧ w'.cell? a1 = some v1 ∧ w'.cell? a2 = some v2 ∧ w'.cell? a3 = some v3 ∧ Aside0 (Below w3.heap.size w3 w') := by
  obtain ⟨h0, h1, h2, h3, h4⟩ := h
  exact ⟨(hb.cell (World.block_lt_of_cell? _ _ h0)).trans h0, (hb.cell (World.block_lt_of_cell? _ _ h1)).trans h1, (hb.cell (World.block_lt_of_cell? _ _ h2)).trans h2, (hb.cell (World.block_lt_of_cell? _ _ h3)).trans h3, ⟨below_next h4.out hb⟩⟩
theorem four_drew {p0 p1 p2 p3 : Prop} {w3 W : World} (_h : Aside0 (p0 ∧ p1 ∧ p2 ∧ p3 ∧ Aside0 (Below w3.heap.size w3 W))) (n : Nat) : Below W.heap.size W (W.drewN n) := pw_below_drewN (Below.refl _ _) n
theorem uuseful_calls (v : Value) (g : Gr) (w : World) (hv : GramAt w v g) (hc : GOk g) :
    Calls Tryd.prog 39 #[v] w fun e w' => e = .returned (.int .u64 ((setOf g.nonterms.length (usP g 2) : Nat) : Int)) ∧ Below w.heap.size w w' := by
  have hN : g.nonterms.length ≤ 64 := by have := hc.size; omega
  have HV := Lib.hid hv
  obtain ⟨AT, cT, AN, cN, AR, cR, rfl, q1, q2, q3, q4, q5, q6⟩ := hv
  obtain ⟨w1, hw1⟩ : ∃ w1, w.alloc (.cells #[.slice AT g.terms.length cT, .slice AN g.nonterms.length cN, .int .i64 g.ax, .slice AR g.rules.length cR] 25) = w1 := ⟨_, rfl⟩
  have hb1 : Below w.heap.size w w1 := by rw [← hw1]; exact below_alloc (Below.refl _ _) _
  have hk1 : w1.heap[w.heap.size]? = some (.cells #[.slice AT g.terms.length cT, .slice AN g.nonterms.length cN, .int .i64 g.ax, .slice AR g.rules.length cR] 25 (0, 0)) := by rw [← hw1]; exact heap_alloc_new w _
  obtain ⟨c0, c1, c2, c3⟩ := blk_cells2 hk1
  have HB1 := Lib.hid hb1
  have HK1 := Lib.hid hk1
  have HG := Lib.hid (HV.out.below hb1)
  have HM := Lib.hid (uproductive_calls _ g w1 HG.out hc)
  have HR2 := Lib.hid (fun (W : World) (hW : Below w1.heap.size w1 W) => ureached_calls _ g (setOf g.nonterms.length (PD g.rules)) W (setOf_lt hN _) (HG.out.below hW) hc)
  have HMe := Lib.hid (fun W => meet_calls (setOf g.nonterms.length (PD g.rules)) (setOf g.nonterms.length (RD g.rules g.ax.toNat (fun k => (setOf g.nonterms.length (PD g.rules)).testBit k = true))) (setOf_lt hN _) (setOf_lt hN _) W)
  have HE : Hid (setOf g.nonterms.length (PD g.rules) &&& setOf g.nonterms.length (RD g.rules g.ax.toNat (fun k => (setOf g.nonterms.length (PD g.rules)).testBit k = true)) = setOf g.nonterms.length (usP g 2)) := Lib.hid (by
    rw [meet_setOf hN]
    refine setOf_congr hN (fun k hk => ?_)
    show _ ↔ PD g.rules k ∧ RD g.rules g.ax.toNat (PD g.rules) k
    rw [RD.congr (allIn_congr hc (fun k hk => (setOf_is hN (PD g.rules)).is k hk))])
  clear hb1 hk1 q4 q5 q6 hc hN
  obtain ⟨p, hp⟩ : ∃ p, setOf g.nonterms.length (PD g.rules) = p := ⟨_, rfl⟩
  rw [hp] at HM HR2 HMe HE
  obtain ⟨r, hr⟩ : ∃ r, setOf g.nonterms.length (RD g.rules g.ax.toNat (fun k => p.testBit k = true)) = r := ⟨_, rfl⟩
  rw [hr] at HR2 HMe HE
  clear hp hr
  go_enter Tryd.func39, Tryd.ntmps39
  go_wp2_with (first
    | (go_at_call 36; refine HM.out.mono ?_; rintro e w2 ⟨rfl, hb2⟩; have HB2 := Lib.hid hb2; obtain ⟨d0, d1, d2, d3⟩ := blk_cells2 (gblk_keep' HK1.out hb2); clear hb2 c0 c1 c2 c3)
    | (go_at_call 37; refine (HR2.out w2 HB2.out).mono ?_; rintro e w3 ⟨rfl, hb3⟩; have HB3 := Lib.hid (below_next HB2.out hb3); clear hb3 d0 d1 d2 d3)
    | (go_at_call 58; refine (HMe.out _).mono ?_; rintro e w' ⟨rfl, n, rfl⟩))
  go_ret
  exact ⟨ret_int (by rw [HE.out]), pw_below_drewN (below_next HB1.out HB3.out) _⟩
theorem uProductive_calls (v : Value) (g : Gr) (w : World) (A : Nat → Addr) (hE : Errs w A) (hv : GramAt w v g) :
    Calls Tryd.prog 11 #[v] w fun e w' => ∃ u r, e = .returned (.tuple #[.int .u64 ((usN g 0 : Nat) : Int), u]) ∧ ErrV w' A u (checkN g).1 r ∧ Below w.heap.size w w' := by
  have HV := Lib.hid hv
  obtain ⟨AT, cT, AN, cN, AR, cR, rfl, q1, q2, q3, q4, q5, q6⟩ := hv
  obtain ⟨w1, hw1⟩ : ∃ w1, w.alloc (.cells #[.slice AT g.terms.length cT, .slice AN g.nonterms.length cN, .int .i64 g.ax, .slice AR g.rules.length cR] 25) = w1 := ⟨_, rfl⟩
  have hb1 : Below w.heap.size w w1 := by rw [← hw1]; exact below_alloc (Below.refl _ _) _
  have hk1 : w1.heap[w.heap.size]? = some (.cells #[.slice AT g.terms.length cT, .slice AN g.nonterms.length cN, .int .i64 g.ax, .slice AR g.rules.length cR] 25 (0, 0)) := by rw [← hw1]; exact heap_alloc_new w _
  obtain ⟨c0, c1, c2, c3⟩ := blk_cells2 hk1
  have HB1 := Lib.hid hb1
  have HK1 := Lib.hid hk1
  have HG := Lib.hid (HV.out.below hb1)
  have HCk := Lib.hid (check_calls _ g w1 A (hE.below hb1) HG.out)
  clear hb1 hk1 hE q4 q5 q6
  by_cases hok : (checkN g).1 = 0
  · have HOK := Lib.hid hok
    have HU : Hid (usN g 0 = setOf g.nonterms.length (usP g 0)) := Lib.hid (by unfold usN; rw [if_pos hok])
    have hN : g.nonterms.length ≤ 64 := by have := (GOk.of hok).size; omega
    have HM := Lib.hid (fun (W : World) (hW : Below w1.heap.size w1 W) => (show Calls Tryd.prog 36 _ W fun e w' => e = .returned (.int .u64 ((setOf g.nonterms.length (usP g 0) : Nat) : Int)) ∧ Below W.heap.size W w' from uproductive_calls _ g W (HG.out.below hW) (GOk.of hok)))
    clear hok
    go_enter Tryd.func11, Tryd.ntmps11
    go_wp2_with (first | (go_at_call 35; refine HCk.out.mono ?_; rintro e w2 ⟨u, rfl, hu, hb2⟩; have HB2 := Lib.hid hb2; obtain rfl := hu.nil_of HOK.out; obtain ⟨d0, d1, d2, d3⟩ := blk_cells2 (gblk_keep' HK1.out hb2); clear hu hb2 c0 c1 c2 c3) | (go_at_call 36; refine (HM.out w2 HB2.out).mono ?_; rintro e w3 ⟨rfl, hb3⟩; have HB3 := Lib.hid hb3; clear hb3))
    go_ret2
    exact ⟨.nilIface, -1, by rw [HU.out]; rfl, by rw [HOK.out]; exact .none, below_next (below_next HB1.out HB2.out) HB3.out⟩
  · have HU : Hid (usN g 0 = 0) := Lib.hid (by unfold usN; rw [if_neg hok])
    have HOK := Lib.hid hok
    clear hok
    go_enter Tryd.func11, Tryd.ntmps11
    go_wp2_with (go_at_call 35; refine HCk.out.mono ?_; rintro e w2 ⟨u, rfl, hu, hb2⟩; have HU2 := Lib.hid hu; have HB2 := Lib.hid hb2; obtain ⟨T, p, hT, rfl⟩ := hu.iface_of HOK.out; clear hu hb2 hT)
    go_ret2
    exact ⟨_, _, by rw [HU.out]; rfl, HU2.out, below_next HB1.out HB2.out⟩
theorem uUseful_calls (v : Value) (g : Gr) (w : World) (A : Nat → Addr) (hE : Errs w A) (hv : GramAt w v g) :
    Calls Tryd.prog 13 #[v] w fun e w' => ∃ u r, e = .returned (.tuple #[.int .u64 ((usN g 2 : Nat) : Int), u]) ∧ ErrV w' A u (checkN g).1 r ∧ Below w.heap.size w w' := by
  have HV := Lib.hid hv
  obtain ⟨AT, cT, AN, cN, AR, cR, rfl, q1, q2, q3, q4, q5, q6⟩ := hv
  obtain ⟨w1, hw1⟩ : ∃ w1, w.alloc (.cells #[.slice AT g.terms.length cT, .slice AN g.nonterms.length cN, .int .i64 g.ax, .slice AR g.rules.length cR] 25) = w1 := ⟨_, rfl⟩
  have hb1 : Below w.heap.size w w1 := by rw [← hw1]; exact below_alloc (Below.refl _ _) _
  have hk1 : w1.heap[w.heap.size]? = some (.cells #[.slice AT g.terms.length cT, .slice AN g.nonterms.length cN, .int .i64 g.ax, .slice AR g.rules.length cR] 25 (0, 0)) := by rw [← hw1]; exact heap_alloc_new w _
  obtain ⟨c0, c1, c2, c3⟩ := blk_cells2 hk1
  have HB1 := Lib.hid hb1
  have HK1 := Lib.hid hk1
  have HG := Lib.hid (HV.out.below hb1)
  have HCk := Lib.hid (check_calls _ g w1 A (hE.below hb1) HG.out)
  clear hb1 hk1 hE q4 q5 q6
  by_cases hok : (checkN g).1 = 0
  · have HOK := Lib.hid hok
    have HU : Hid (usN g 2 = setOf g.nonterms.length (usP g 2)) := Lib.hid (by unfold usN; rw [if_pos hok])
    have hN : g.nonterms.length ≤ 64 := by have := (GOk.of hok).size; omega
    have HM := Lib.hid (fun (W : World) (hW : Below w1.heap.size w1 W) => (uuseful_calls _ g W (HG.out.below hW) (GOk.of hok)))
    clear hok
    go_enter Tryd.func13, Tryd.ntmps13
    go_wp2_with (first | (go_at_call 35; refine HCk.out.mono ?_; rintro e w2 ⟨u, rfl, hu, hb2⟩; have HB2 := Lib.hid hb2; obtain rfl := hu.nil_of HOK.out; obtain ⟨d0, d1, d2, d3⟩ := blk_cells2 (gblk_keep' HK1.out hb2); clear hu hb2 c0 c1 c2 c3) | (go_at_call 39; refine (HM.out w2 HB2.out).mono ?_; rintro e w3 ⟨rfl, hb3⟩; have HB3 := Lib.hid hb3; clear hb3))
    go_ret2
    exact ⟨.nilIface, -1, by rw [HU.out]; rfl, by rw [HOK.out]; exact .none, below_next (below_next HB1.out HB2.out) HB3.out⟩
  · have HU : Hid (usN g 2 = 0) := Lib.hid (by unfold usN; rw [if_neg hok])
    have HOK := Lib.hid hok
    clear hok
    go_enter Tryd.func13, Tryd.ntmps13
    go_wp2_with (go_at_call 35; refine HCk.out.mono ?_; rintro e w2 ⟨u, rfl, hu, hb2⟩; have HU2 := Lib.hid hu; have HB2 := Lib.hid hb2; obtain ⟨T, p, hT, rfl⟩ := hu.iface_of HOK.out; clear hu hb2 hT)
    go_ret2
    exact ⟨_, _, by rw [HU.out]; rfl, HU2.out, below_next HB1.out HB2.out⟩
set_option maxHeartbeats 1000000 in
set_option maxRecDepth 20000 in
theorem uReached_calls (v : Value) (g : Gr) (w : World) (A : Nat → Addr) (hE : Errs w A) (hv : GramAt w v g) :
    Calls Tryd.prog 12 #[v] w fun e w' => ∃ u r, e = .returned (.tuple #[.int .u64 ((usN g 1 : Nat) : Int), u]) ∧ ErrV w' A u (checkN g).1 r ∧ Below w.heap.size w w' := by
  have HV := Lib.hid hv
  obtain ⟨AT, cT, AN, cN, AR, cR, rfl, q1, q2, q3, q4, q5, q6⟩ := hv
  obtain ⟨w1, hw1⟩ : ∃ w1, w.alloc (.cells #[.slice AT g.terms.length cT, .slice AN g.nonterms.length cN, .int .i64 g.ax, .slice AR g.rules.length cR] 25) = w1 := ⟨_, rfl⟩
  have hb1 : Below w.heap.size w w1 := by rw [← hw1]; exact below_alloc (Below.refl _ _) _
  have hk1 : w1.heap[w.heap.size]? = some (.cells #[.slice AT g.terms.length cT, .slice AN g.nonterms.length cN, .int .i64 g.ax, .slice AR g.rules.length cR] 25 (0, 0)) := by rw [← hw1]; exact heap_alloc_new w _
  obtain ⟨c0, c1, c2, c3⟩ := blk_cells2 hk1
  have HB1 := Lib.hid hb1
  have HK1 := Lib.hid hk1
  have HG := Lib.hid (HV.out.below hb1)
  have HCk := Lib.hid (check_calls _ g w1 A (hE.below hb1) HG.out)
  clear hb1 hk1 hE q4 q5 q6
  by_cases hok : (checkN g).1 = 0
  · have HOK := Lib.hid hok
    have HU : Hid (usN g 1 = setOf g.nonterms.length (usP g 1)) := Lib.hid (by unfold usN; rw [if_pos hok])
    have hN : g.nonterms.length ≤ 64 := by have := (GOk.of hok).size; omega
    have HM := Lib.hid (fun (W : World) (hW : Below w1.heap.size w1 W) => ((ureached_calls _ g (fullN 64) W (by decide) (HG.out.below hW) (GOk.of hok)).mono (R' := fun e w' => e = .returned (.int .u64 ((setOf g.nonterms.length (usP g 1) : Nat) : Int)) ∧ Below W.heap.size W w') (by
      rintro e w' ⟨rfl, hb⟩
      refine ⟨?_, hb⟩
      rw [setOf_congr hN (fun k hk => RD.congr (allIn_congr (GOk.of hok) (fun k hk => (show (fullN 64).testBit k = true ↔ True by rw [show fullN 64 = 18446744073709551615 from by decide, max_test, decide_eq_true (by omega : k < 64)]; simp))))]
      rfl)))
    clear hok
    go_enter Tryd.func12, Tryd.ntmps12
    go_wp2_with (first | (go_at_call 35; refine HCk.out.mono ?_; rintro e w2 ⟨u, rfl, hu, hb2⟩; have HB2 := Lib.hid hb2; obtain rfl := hu.nil_of HOK.out; obtain ⟨d0, d1, d2, d3⟩ := blk_cells2 (gblk_keep' HK1.out hb2); clear hu hb2 c0 c1 c2 c3))
    go_region_held3 (fun w' => w'.cell? ⟨w.heap.size, 0, none⟩ = some (.slice AT g.terms.length cT) ∧ w'.cell? ⟨w.heap.size, 1, none⟩ = some (.slice AN g.nonterms.length cN) ∧ w'.cell? ⟨w.heap.size, 2, none⟩ = some (.int .i64 g.ax) ∧ w'.cell? ⟨w.heap.size, 3, none⟩ = some (.slice AR g.rules.length cR) ∧ Aside0 (Below w2.heap.size w2 w'))
      (first
        | (refine ⟨?_, ?_, ?_, ?_, ⟨below_drew1 (Below.refl _ _)⟩⟩ <;> assumption)
        | exact four_step hS.out hb.out
        | (refine ⟨?_, ?_, ?_, ?_, ⟨pw_below_drewN (Below.refl _ _) _⟩⟩ <;> (rw [World.cell?_drewN]; assumption)))
      (first
        | (go_at_call 38; have hS := Aside0.mk (by assumption : _ ∧ _ ∧ _ ∧ _ ∧ Aside0 (Below w2.heap.size w2 _)); refine (full_calls 64 _).mono ?_; rintro e w' ⟨rfl, n, rfl⟩; have hb := Aside0.mk (four_drew hS n))
        | (go_at_call 37; have hS := Aside0.mk (by assumption : _ ∧ _ ∧ _ ∧ _ ∧ Aside0 (Below w2.heap.size w2 _)); refine (HM.out _ (below_next HB2.out hS.out.2.2.2.2.out)).mono ?_; rintro e w3 ⟨rfl, hb3⟩; have hb := Aside0.mk hb3; have HB3 := Aside0.mk (below_next hS.out.2.2.2.2.out hb3); clear hb3))
    go_wp2
    go_ret2
    exact ⟨.nilIface, -1, by rw [HU.out]; rfl, by rw [HOK.out]; exact .none, below_next (below_next HB1.out HB2.out) HB3.out⟩
  · have HU : Hid (usN g 1 = 0) := Lib.hid (by unfold usN; rw [if_neg hok])
    have HOK := Lib.hid hok
    clear hok
    go_enter Tryd.func12, Tryd.ntmps12
    go_wp2_with (go_at_call 35; refine HCk.out.mono ?_; rintro e w2 ⟨u, rfl, hu, hb2⟩; have HU2 := Lib.hid hu; have HB2 := Lib.hid hb2; obtain ⟨T, p, hT, rfl⟩ := hu.iface_of HOK.out; clear hu hb2 hT)
    go_ret2
    exact ⟨_, _, by rw [HU.out]; rfl, HU2.out, below_next HB1.out HB2.out⟩
end Go.Proofs.YtagcmhnanngfbaaDoor.Hand
