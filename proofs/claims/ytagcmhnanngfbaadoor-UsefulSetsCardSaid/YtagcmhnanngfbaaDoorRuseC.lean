/- Contracts of dovetailref07: reached, useful, Sets. -/
import Derived.Test.YtagcmhnanngfbaaDoorRuseB
namespace Go.Proofs.YtagcmhnanngfbaaDoor.Hand
open Go.RowKit Go.Proofs.YtagcmhnanngfbaaDoorW.PrintWords Go.Proofs.YtagcmhnanngfbaaDoorW.PrintMore Go.Proofs.YtagcmhnanngfbaaDoor.Math

/-- One mark more, with whatever else is known. -/
theorem mark_step' {N : Nat} {Cl Pr : Prop} {M0 M : Nat → Bool} {x : Nat} (hx : x < N) (hs : Cl → ∀ k, k < N → M k = M0 k) (hs2 : Cl → M0 x = true) (h : ((∀ k, k < N → M k = M0 k) ∧ Pr) ∨ miss N M < miss N M0) :
    (Cl → ∀ k, k < N → updM M x k = M0 k) ∧ (((∀ k, k < N → updM M x k = M0 k) ∧ Pr ∧ M0 x = true) ∨ miss N (updM M x) < miss N M0) := by
  refine ⟨fun hc k hk => ?_, ?_⟩
  · have h1 := hs hc k hk
    have h2 := hs2 hc
    unfold updM
    split
    · rename_i e; rw [e, h2]
    · exact h1
  · rcases h with ⟨h1, h2⟩ | h
    · cases hM : M x
      · refine .inr ?_
        rw [← miss_congr h1]
        exact miss_lt (fun k _ h => updM_mono h) hx hM updM_same
      · exact .inl ⟨fun k hk => by rw [updM_old hM, h1 k hk], h2, by rw [← h1 x hx, hM]⟩
    · exact .inr (Nat.lt_of_le_of_lt (miss_mono (fun k _ h => updM_mono h)) h)
/-- Rule i reaches nothing new. -/
def CRr (R : List (Int × List Int)) (I : Nat → Prop) (M : Nat → Bool) (i : Nat) : Prop := M (R.getD i (0, [])).1.toNat = true → AllIn I (R.getD i (0, [])).2 → AllIn (fun k => M k = true) (R.getD i (0, [])).2
theorem CRr.congr {g : Gr} (hg : GOk g) {I : Nat → Prop} {M M' : Nat → Bool} (h : ∀ k, k < g.nonterms.length → M k = M' k) (i : Nat) (hi : i < g.rules.length) (hc : CRr g.rules I M i) : CRr g.rules I M' i := by
  intro hx ha
  have hm := getD_mem g.rules i (0, []) hi
  have hl := hg.right.left hm
  exact (allIn_congr hg (I := fun k => M k = true) (J := fun k => M' k = true) (fun k hk => by rw [h k hk]) _ hm).1 (hc (by rw [h _ (by omega)]; exact hx) ha)
theorem CRr.full {g : Gr} {I : Nat → Prop} {ax : Nat} {M : Nat → Bool} (hb : M ax = true) (h : ∀ i, i < g.rules.length → CRr g.rules I M i) {k : Nat} (hp : RD g.rules ax I k) : M k = true := by
  refine RD.closed (S := fun n => M n = true) hb (fun r hr h1 hin => ?_) hp
  obtain ⟨i, hi, rfl⟩ := List.getElem_of_mem hr
  have h2 := h i hi
  unfold CRr at h2
  rw [List.getD_eq_getElem?_getD, List.getElem?_eq_getElem hi, Option.getD_some] at h2
  exact h2 h1 hin
set_option maxHeartbeats 2000000 in
set_option maxRecDepth 20000 in
theorem rreached_calls (v : Value) (g : Gr) (w : World) (gi : Nat) (I : Nat → Bool) (hi : Row w gi g.nonterms.length (fun q => .bool (I q))) (hv : GramAt w v g) (hc : GOk g) :
    Calls Tryd.prog 43 #[v, .slice (some ⟨gi, 0, none⟩) g.nonterms.length g.nonterms.length] w fun e w' => ∃ gm, e = .returned (.slice (some ⟨gm, 0, none⟩) g.nonterms.length g.nonterms.length) ∧ Row w' gm g.nonterms.length (fun q => .bool (tb (RD g.rules g.ax.toNat (fun k => I k = true) q))) ∧ w.heap.size ≤ gm ∧ Below w.heap.size w w' := by
  have hN : g.nonterms.length ≤ 60 := by have := hc.size; omega
  have HV := Lib.hid hv
  obtain ⟨AT, cT, AN, cN, AR, cR, rfl, q1, q2, q3, q4, q5, q6⟩ := hv
  have hlr := q6.2.1
  have l2 := q5.2.1
  have hr120 := hc.rules
  have hax0 := hc.ax0
  have hax1 := hc.ax1
  obtain ⟨w1, hw1⟩ : ∃ w1, w.alloc (.cells #[.slice AT g.terms.length cT, .slice AN g.nonterms.length cN, .int .i64 g.ax, .slice AR g.rules.length cR] 25) = w1 := ⟨_, rfl⟩
  have hb1 : Below w.heap.size w w1 := by rw [← hw1]; exact below_alloc (Below.refl _ _) _
  have hk1 : w1.heap[w.heap.size]? = some (.cells #[.slice AT g.terms.length cT, .slice AN g.nonterms.length cN, .int .i64 g.ax, .slice AR g.rules.length cR] 25 (0, 0)) := by rw [← hw1]; exact heap_alloc_new w _
  obtain ⟨c0, c1, c2, c3⟩ := blk_cells2 hk1
  have HB1 := Lib.hid hb1
  have HK1 := Lib.hid hk1
  have HR := Lib.hid (Kd.C_below q6 hb1)
  have HI := Lib.hid (hi.below hb1)
  have HC := Lib.hid hc
  obtain ⟨w2, hw2⟩ : ∃ w2, w1.alloc (.cells (madeCells #[.bool false] g.nonterms.length) 4) = w2 := ⟨_, rfl⟩
  have hmk : (Instr.makeSlice 60 (.int .i64 ((g.nonterms.length : Nat) : Int)) (.int .i64 ((g.nonterms.length : Nat) : Int))).run Tryd.prog w1 = .ok (.slice (some ⟨w1.heap.size, 0, none⟩) g.nonterms.length g.nonterms.length) w2 := by
    rw [← hw2]
    exact print_make_of (P := Tryd.prog) 60 4 (.bool false) 1 rfl infoBool rfl (by decide) g.nonterms.length (by omega) w1
  have hrow2 : Row w2 w1.heap.size g.nonterms.length (fun q => .bool ((fun _ => false) q)) := by rw [← hw2]; exact Row.made w1 _ _ _
  have hb2 : Below w1.heap.size w1 w2 := by rw [← hw2]; exact below_alloc (Below.refl _ _) _
  obtain ⟨d0, d1, d2, d3⟩ := blk_cells2 (gblk_keep' hk1 hb2)
  have hc2 := hrow2.cell g.ax.toNat (by omega)
  have hf2 := hrow2.free g.ax.toNat
  have HRow := Aside0.mk (hrow2.updM (x := g.ax.toNat) (by omega))
  have HB2 := Aside0.mk (hb2.setCell (p := ⟨w1.heap.size, g.ax.toNat, none⟩) (Nat.le_refl _) (.bool true))
  clear hb1 hk1 q4 q5 q6 hc hw2 hi hrow2 hb2
  go_enter Tryd.func43, Tryd.ntmps43
  go_wp2
  obtain ⟨gm, hgm⟩ : ∃ gm, w1.heap.size = gm := ⟨_, rfl⟩
  rw [hgm] at HRow HB2 ⊢
  have HGm := Lib.hid hgm
  clear hmk hgm hw1 c0 c1 c2 c3 d0 d1 d2 d3 hc2 hf2
  go_loopw [6] (fun x wr => ∃ (t : Nat) (M : Nat → Bool), t ≤ g.nonterms.length + 1 ∧ x = .int .i64 t ∧ Aside0 (Row wr gm g.nonterms.length (fun q => .bool (M q))) ∧ Aside0 (M g.ax.toNat = true ∧ ∀ k, k < g.nonterms.length → M k = true → RD g.rules g.ax.toNat (fun k => I k = true) k) ∧ Aside0 ((∀ i, i < g.rules.length → CRr g.rules (fun k => I k = true) M i) ∨ t + miss g.nonterms.length M ≤ g.nonterms.length) ∧ Aside0 (Below w1.heap.size w1 wr)) (fun x _ => g.nonterms.length + 1 - (intOf x).toNat)
  case atStart => exact ⟨0, _, by omega, rfl, HRow, ⟨updM_same, fun k hk h => by
    rcases updM_or h with h | rfl
    · cases h
    · exact .base⟩, ⟨.inr (by have := miss_le g.nonterms.length (updM (fun _ => false) g.ax.toNat); omega)⟩, ⟨by rw [HGm.out]; exact HB2.out⟩⟩
  case round =>
    obtain ⟨t, M0, ht, rfl, HRow0, HS0, HX0, HB0⟩ := hrel
    obtain ⟨wo, rfl⟩ : ∃ wo : World, wo = wr := ⟨_, rfl⟩
    obtain ⟨c0, c1, c2, c3⟩ := blk_cells2 (gblk_keep' HK1.out HB0.out)
    by_cases htt : t ≤ g.nonterms.length
    · go_wp2
      clear c0 c1 c2 c3
      go_loopw [7] (fun x wr => ∃ (i : Nat) (M : Nat → Bool), i ≤ g.rules.length ∧ x = .int .i64 i ∧ Aside0 (Row wr gm g.nonterms.length (fun q => .bool (M q))) ∧ Aside0 (M g.ax.toNat = true ∧ ∀ k, k < g.nonterms.length → M k = true → RD g.rules g.ax.toNat (fun k => I k = true) k) ∧ Aside0 ((∀ i, i < g.rules.length → CRr g.rules (fun k => I k = true) M0 i) → ∀ k, k < g.nonterms.length → M k = M0 k) ∧ Aside0 (((∀ k, k < g.nonterms.length → M k = M0 k) ∧ ∀ j, j < i → CRr g.rules (fun k => I k = true) M0 j) ∨ miss g.nonterms.length M < miss g.nonterms.length M0) ∧ Aside0 (Below w1.heap.size w1 wr)) (fun x _ => g.rules.length - (intOf x).toNat)
      case atStart => exact ⟨0, M0, by omega, rfl, HRow0, HS0, ⟨fun _ _ _ => rfl⟩, ⟨.inl ⟨fun _ _ => rfl, fun j h => by omega⟩⟩, HB0⟩
      case round =>
        obtain ⟨i, M, hi, rfl, HRowM, HSM, HsM, HpM, HBM⟩ := hrel
        obtain ⟨wi, rfl⟩ : ∃ wo : World, wo = wr := ⟨_, rfl⟩
        obtain ⟨c0, c1, c2, c3⟩ := blk_cells2 (gblk_keep' HK1.out HBM.out)
        by_cases hlt : i < g.rules.length
        · obtain ⟨ad, x, B, c, r, rfl, h1, h2, hrc, hr, HD⟩ := at_rule HR.out i hlt
          have k1 := (HBM.out.cell (World.block_lt_of_cell? _ _ h1)).trans h1
          have k2 := (HBM.out.cell (World.block_lt_of_cell? _ _ h2)).trans h2
          have HRc := Lib.hid hr
          have hlrr := hr.2.1
          have hRr : Hid ((x, r) ∈ g.rules) := Lib.hid (by rw [← HD.out]; exact getD_mem g.rules i _ hlt)
          have hx0 : 0 ≤ x := (HC.out.right.left hRr.out).1
          have hxN : x < g.nonterms.length := (HC.out.right.left hRr.out).2
          obtain ⟨w3, hw3⟩ : ∃ w3, wi.alloc (.cells #[.int .i64 x, .slice B r.length c] 56) = w3 := ⟨_, rfl⟩
          have hb3 : Below wi.heap.size wi w3 := by rw [← hw3]; exact below_alloc (Below.refl _ _) _
          have r0 : w3.cell? ⟨wi.heap.size, 0, none⟩ = some (.int .i64 x) := by rw [← hw3]; simp [go_sem]
          have r1 : w3.cell? ⟨wi.heap.size, 1, none⟩ = some (.slice B r.length c) := by rw [← hw3]; simp [go_sem]
          have HB3 := Aside0.mk (below_next HBM.out hb3)
          have HRow3 := Aside0.mk (HRowM.out.below hb3)
          have HGi := Lib.hid HRowM.out.lt
          have HSy := Lib.hid (fun s (hs : s ∈ r) => HC.out.right.sym hRr.out hs)
          have HT60 := Lib.hid HC.out.size
          have HAll := Lib.hid (rall_calls B c r (Kd.C_below HRc.out HB3.out) (HI.out.below HB3.out) (fun s hs => by have := HSy.out s hs; have := HT60.out; omega) hN)
          have hcell := HRow3.out.cell x.toNat (by omega)
          have HCR : Hid (CRr g.rules (fun k => I k = true) M0 i ↔ (M0 x.toNat = true → AllIn (fun k => I k = true) r → AllIn (fun k => M0 k = true) r)) := Lib.hid (by unfold CRr; rw [HD.out])
          have HxM : Hid ((∀ k, k < g.nonterms.length → M k = M0 k) → M x.toNat = M0 x.toNat) := Lib.hid (fun h => h _ (by omega))
          clear hr h1 h2 hb3
          have hskip : (M x.toNat = false ∨ tb (AllIn (fun k => I k = true) r) = false) ∨ (M x.toNat = true ∧ tb (AllIn (fun k => I k = true) r) = true) := by
            cases M x.toNat <;> cases tb (AllIn (fun k => I k = true) r) <;> simp
          obtain ⟨b1, hb1⟩ : ∃ b, M x.toNat = b := ⟨_, rfl⟩
          obtain ⟨b2, hb2⟩ : ∃ b, tb (AllIn (fun k => I k = true) r) = b := ⟨_, rfl⟩
          rw [hb1] at hcell hskip
          rw [hb2] at HAll hskip
          have H1 := Lib.hid hb1
          have H2 := Lib.hid hb2
          clear hb1 hb2
          rcases hskip with hskip | ⟨rfl, rfl⟩
          · have HCl : Hid ((∀ k, k < g.nonterms.length → M k = M0 k) → CRr g.rules (fun k => I k = true) M0 i) := Lib.hid (fun h => HCR.out.2 (fun hx ha => by
              rcases hskip with e | e
              · rw [← HxM.out h, H1.out, e] at hx; cases hx
              · have := H2.out; rw [tb_yes ha, e] at this; cases this))
            cases b1
            · go_wp2_with (fail)
              go_roundw
              case rel => exact ⟨i + 1, M, by omega, by go_num, HRow3, HSM, HsM, ⟨by
                rcases HpM.out with ⟨h1, h2⟩ | h
                · refine .inl ⟨h1, fun j hj => ?_⟩
                  rcases Nat.lt_or_ge j i with h' | h'
                  · exact h2 j h'
                  · obtain rfl : j = i := by omega
                    exact HCl.out h1
                · exact .inr h⟩, HB3⟩
              case measure => simp [intOf]; omega
            · obtain rfl : b2 = false := hskip.resolve_left (by decide)
              go_wp2_with (go_at_call 60; refine HAll.out.mono ?_; rintro e w' ⟨rfl, n1, rfl⟩)
              go_roundw
              case rel => exact ⟨i + 1, M, by omega, by go_num, ⟨HRow3.out.drewN _⟩, HSM, HsM, ⟨by
                rcases HpM.out with ⟨h1, h2⟩ | h
                · refine .inl ⟨h1, fun j hj => ?_⟩
                  rcases Nat.lt_or_ge j i with h' | h'
                  · exact h2 j h'
                  · obtain rfl : j = i := by omega
                    exact HCl.out h1
                · exact .inr h⟩, ⟨pw_below_drewN HB3.out _⟩⟩
              case measure => simp [intOf]; omega
          · have HA : Hid (AllIn (fun k => I k = true) r) := Lib.hid (tb_iff.1 H2.out)
            go_wp2_with (go_at_call 60; refine HAll.out.mono ?_; rintro e w' ⟨rfl, n1, rfl⟩)
            clear hcell r0 k1 k2 c0 c1 c2 c3 hw3
            go_loopw [9] (fun x' wr => ∃ (k : Nat) (M' : Nat → Bool), k ≤ r.length ∧ x' = .int .i64 k ∧ wr.cell? ⟨wi.heap.size, 1, none⟩ = some (.slice B r.length c) ∧ Aside0 (Row wr gm g.nonterms.length (fun q => .bool (M' q))) ∧ Aside0 (M' g.ax.toNat = true ∧ ∀ k, k < g.nonterms.length → M' k = true → RD g.rules g.ax.toNat (fun k => I k = true) k) ∧ Aside0 ((∀ i, i < g.rules.length → CRr g.rules (fun k => I k = true) M0 i) → ∀ k, k < g.nonterms.length → M' k = M0 k) ∧ Aside0 (((∀ k, k < g.nonterms.length → M' k = M0 k) ∧ ((∀ j, j < i → CRr g.rules (fun k => I k = true) M0 j) ∧ AllIn (fun k => M0 k = true) (r.take k))) ∨ miss g.nonterms.length M' < miss g.nonterms.length M0) ∧ Aside0 (Below w1.heap.size w1 wr)) (fun x' _ => r.length - (intOf x').toNat)
            case atStart => exact ⟨0, M, by omega, rfl, by rw [World.cell?_drewN]; exact r1, ⟨HRow3.out.drewN _⟩, HSM, HsM, ⟨by
              rcases HpM.out with ⟨h1, h2⟩ | h
              · exact .inl ⟨h1, h2, fun s hs => by simp at hs⟩
              · exact .inr h⟩, ⟨pw_below_drewN HB3.out _⟩⟩
            case round =>
              obtain ⟨k, M', hk, rfl, r1', HRow4, HS4, Hs4, Hp4, HB4⟩ := hrel
              obtain ⟨wk, rfl⟩ : ∃ wo : World, wo = wr := ⟨_, rfl⟩
              by_cases hkt : k < r.length
              · obtain ⟨ad2, y, rfl, hcy, HY⟩ := at_scalar (Kd.C_below HRc.out HB4.out) k hkt 0
                have HYm : Hid (y ∈ r) := Lib.hid (by rw [← HY.out]; exact getD_mem r k 0 hkt)
                have hy1 : -(g.nonterms.length : Int) ≤ y := (HSy.out y HYm.out).1
                have hy2 : y < 4611686018427387904 := by have := (HSy.out y HYm.out).2; have := HT60.out; omega
                have HSn : Hid (AllIn (fun k => M0 k = true) (r.take (k + 1)) ↔ AllIn (fun k => M0 k = true) (r.take k) ∧ (y < 0 → M0 (-1 - y).toNat = true)) := Lib.hid (by rw [take_snocD r k 0 hkt, HY.out]; exact AllIn_snoc)
                by_cases h0 : y < 0
                · have e1 : 0 ≤ -1 - y := by omega
                  have e2 : -1 - y < (g.nonterms.length : Int) := by omega
                  have hcm := HRow4.out.cell (-1 - y).toNat (by omega)
                  have hfm := HRow4.out.free (-1 - y).toNat
                  go_wp2
                  go_roundw
                  case rel =>
                    have hs := mark_step' (x := (-1 - y).toNat) (by omega) Hs4.out (fun hcl => by
                      have h1 := HCR.out.1 (hcl i hlt) (by rw [← HxM.out (HsM.out hcl)]; exact H1.out) HA.out
                      exact h1 y HYm.out h0) Hp4.out
                    refine ⟨k + 1, updM M' (-1 - y).toNat, by omega, by go_num, ?_, ⟨HRow4.out.updM (by omega)⟩, ⟨updM_mono HS4.out.1, fun q hq h => ?_⟩, ⟨hs.1⟩, ⟨?_⟩, ⟨HB4.out.setCell (by rw [HGm.out]; exact Nat.le_refl _) _⟩⟩
                    · rw [World.cell?_setCell_other wk _ _ _ (fun e => by injection e with e _ _; have := HGi.out; omega)]; exact r1'
                    · rcases updM_or h with h | rfl
                      · exact HS4.out.2 q hq h
                      · exact .step (x, r) hRr.out (HSM.out.2 _ (by omega) H1.out) HA.out y HYm.out h0
                    · rcases hs.2 with ⟨h1, ⟨h2, h3⟩, h4⟩ | h
                      · exact .inl ⟨h1, h2, HSn.out.2 ⟨h3, fun _ => h4⟩⟩
                      · exact .inr h
                  case measure => simp [intOf]; omega
                · go_wp2
                  go_roundw
                  case rel => exact ⟨k + 1, M', by omega, by go_num, r1', HRow4, HS4, Hs4, ⟨by
                    rcases Hp4.out with ⟨h1, h2, h3⟩ | h
                    · exact .inl ⟨h1, h2, HSn.out.2 ⟨h3, fun h => absurd h h0⟩⟩
                    · exact .inr h⟩, HB4⟩
                  case measure => simp [intOf]; omega
              · obtain rfl : k = r.length := by omega
                go_wp2
                go_roundw
                case rel => exact ⟨i + 1, M', by omega, by go_num, HRow4, HS4, Hs4, ⟨by
                  rcases Hp4.out with ⟨h1, h2, h3⟩ | h
                  · rw [List.take_length] at h3
                    refine .inl ⟨h1, fun j hj => ?_⟩
                    rcases Nat.lt_or_ge j i with h' | h'
                    · exact h2 j h'
                    · obtain rfl : j = i := by omega
                      exact HCR.out.2 (fun _ _ => h3)
                  · exact .inr h⟩, HB4⟩
                case measure => simp [intOf]; omega
        · obtain rfl : i = g.rules.length := by omega
          go_wp2
          go_roundw
          case rel => exact ⟨t + 1, M, by omega, by go_num, HRowM, HSM, ⟨turn_end (CR := CRr g.rules (fun k => I k = true)) (fun h i hi hc => CRr.congr HC.out h i hi hc) HX0.out HsM.out HpM.out⟩, HBM⟩
          case measure => simp [intOf]; omega
    · have HF : Hid (∀ k, k < g.nonterms.length → M0 k = tb (RD g.rules g.ax.toNat (fun k => I k = true) k)) := Lib.hid (fun k hk => by
        have hcl : ∀ i, i < g.rules.length → CRr g.rules (fun k => I k = true) M0 i := HX0.out.resolve_right (by omega)
        rw [Bool.eq_iff_iff, tb_iff]
        exact ⟨HS0.out.2 k hk, fun hp => CRr.full HS0.out.1 hcl hp⟩)
      go_wp2
      go_ret
      exact ⟨gm, rfl, HRow0.out.ext (fun q hq => by rw [HF.out q hq]), by rw [← HGm.out]; exact HB1.out.size, below_next HB1.out HB0.out⟩
set_option maxHeartbeats 1000000 in
set_option maxRecDepth 20000 in
theorem ruseful_calls (v : Value) (g : Gr) (w : World) (hv : GramAt w v g) (hc : GOk g) :
    Calls Tryd.prog 44 #[v] w fun e w' => ∃ gm, e = .returned (.slice (some ⟨gm, 0, none⟩) g.nonterms.length g.nonterms.length) ∧ Row w' gm g.nonterms.length (fun q => .bool (tb (usP g 2 q))) ∧ Below w.heap.size w w' := by
  have hN : g.nonterms.length ≤ 60 := by have := hc.size; omega
  have HV := Lib.hid hv
  obtain ⟨AT, cT, AN, cN, AR, cR, rfl, q1, q2, q3, q4, q5, q6⟩ := hv
  obtain ⟨w1, hw1⟩ : ∃ w1, w.alloc (.cells #[.slice AT g.terms.length cT, .slice AN g.nonterms.length cN, .int .i64 g.ax, .slice AR g.rules.length cR] 25) = w1 := ⟨_, rfl⟩
  have hb1 : Below w.heap.size w w1 := by rw [← hw1]; exact below_alloc (Below.refl _ _) _
  have hk1 : w1.heap[w.heap.size]? = some (.cells #[.slice AT g.terms.length cT, .slice AN g.nonterms.length cN, .int .i64 g.ax, .slice AR g.rules.length cR] 25 (0, 0)) := by rw [← hw1]; exact heap_alloc_new w _
  obtain ⟨c0, c1, c2, c3⟩ := blk_cells2 hk1
  have HB1 := Lib.hid hb1
  have HK1 := Lib.hid hk1
  have HG := Lib.hid (HV.out.below hb1)
  have HP := Lib.hid (rproductive_calls _ g w1 HG.out hc)
  have HRe := Lib.hid (fun (W : World) (hW : Below w1.heap.size w1 W) (gi : Nat) (I : Nat → Bool) (hi : Row W gi g.nonterms.length (fun q => .bool (I q))) => rreached_calls _ g W gi I hi (HG.out.below hW) hc)
  clear hb1 hk1 q4 q5 q6 hc
  go_enter Tryd.func44, Tryd.ntmps44
  go_wp2_with (first
    | (go_at_call 42; refine HP.out.mono ?_; rintro e w2 ⟨gp, rfl, hrow2, hgp, hb2⟩; have HRow2 := Lib.hid hrow2; have HGp := Lib.hid hgp; have HB2 := Lib.hid hb2; obtain ⟨d0, d1, d2, d3⟩ := blk_cells2 (gblk_keep' HK1.out hb2); clear hrow2 hgp hb2 c0 c1 c2 c3)
    | (go_at_call 43; refine (HRe.out w2 HB2.out gp (fun q => tb (PD g.rules q)) HRow2.out).mono ?_; rintro e w3 ⟨gr, rfl, hrow3, hgr, hb3⟩; have HRow3 := Lib.hid hrow3; have HGr := Lib.hid (Nat.ne_of_lt (Nat.lt_of_lt_of_le HRow2.out.lt hgr)); have HB3 := Lib.hid (below_next HB2.out hb3); have HRow4 := Aside0.mk (HRow2.out.below hb3); clear hrow3 hgr hb3 d0 d1 d2 d3))
  have HF : Hid (∀ q, q < g.nonterms.length → (tb (PD g.rules q) && tb (RD g.rules g.ax.toNat (fun k => tb (PD g.rules k) = true) q)) = tb (usP g 2 q)) := Lib.hid (fun q hq => by
    rw [Bool.eq_iff_iff, Bool.and_eq_true, tb_iff, tb_iff, tb_iff]
    show _ ↔ PD g.rules q ∧ RD g.rules g.ax.toNat (PD g.rules) q
    rw [RD.congr (J := PD g.rules) (fun r hr => ⟨fun h => h.imp (fun k hk => tb_iff.1 hk), fun h => h.imp (fun k hk => tb_iff.2 hk)⟩)])
  obtain ⟨P, hP⟩ : ∃ P : Nat → Bool, P = fun q => tb (PD g.rules q) := ⟨_, rfl⟩
  obtain ⟨Q, hQ⟩ : ∃ Q : Nat → Bool, Q = fun q => tb (RD g.rules g.ax.toNat (fun k => tb (PD g.rules k) = true) q) := ⟨_, rfl⟩
  have HF2 : Hid (∀ q, q < g.nonterms.length → (P q && Q q) = tb (usP g 2 q)) := Lib.hid (by rw [hP, hQ]; exact HF.out)
  have HRow5 := Aside0.mk (show Row w3 gp g.nonterms.length (fun q => .bool (P q)) by rw [hP]; exact HRow4.out)
  have HRow6 := Aside0.mk (show Row w3 gr g.nonterms.length (fun q => .bool (Q q)) by rw [hQ]; exact HRow3.out)
  clear hP hQ HF HRow4 HRow3 HRow2 hw1
  go_loopw [5] (fun x wr => ∃ i : Nat, i ≤ g.nonterms.length ∧ x = .int .i64 i ∧ Aside0 (Row wr gp g.nonterms.length (fun q => .bool (if q < i then P q && Q q else P q))) ∧ Aside0 (Row wr gr g.nonterms.length (fun q => .bool (Q q))) ∧ Aside0 (Below w1.heap.size w1 wr)) (fun x _ => g.nonterms.length - (intOf x).toNat)
  case atStart => exact ⟨0, by omega, rfl, ⟨HRow5.out.ext (fun q _ => by rw [if_neg (Nat.not_lt_zero q)])⟩, HRow6, ⟨HB3.out⟩⟩
  case round =>
    obtain ⟨i, hi, rfl, HA, HC, HBx⟩ := hrel
    by_cases hlt : i < g.nonterms.length
    · have ha := HA.out.cell i hlt
      have hf := HA.out.free i
      have hb := HC.out.cell i hlt
      rw [if_neg (Nat.lt_irrefl i)] at ha
      have HS : Hid (∀ b, b = (P i && Q i) → Row (wr.setCell ⟨gp, i, none⟩ (.bool b)) gp g.nonterms.length (fun q => .bool (if q < i + 1 then P q && Q q else P q))) := Lib.hid (fun b hb => (HA.out.set i hlt (.bool b)).ext (fun q hq => by
        by_cases e : q = i
        · subst e; rw [if_pos rfl, if_pos (Nat.lt_succ_self q), hb]
        · rw [if_neg e]
          have : q < i + 1 ↔ q < i := by omega
          simp only [this]))
      have hi0 : (0 : Int) ≤ (i : Int) := by omega
      have hi1 : (i : Int) < (g.nonterms.length : Int) := by omega
      cases hP : P i <;> cases hQ : Q i
      all_goals
        rw [hP] at ha
        rw [hQ] at hb
        have HPQ := Lib.hid (And.intro hP hQ)
        clear hP hQ
        go_wp2
        go_roundw
        case rel => exact ⟨i + 1, by omega, by go_num, ⟨HS.out _ (by rw [HPQ.out.1, HPQ.out.2]; rfl)⟩, ⟨HC.out.far ⟨gp, i, none⟩ HGr.out _⟩, ⟨HBx.out.setCell HGp.out _⟩⟩
        case measure => simp [intOf]; omega
    · obtain rfl : i = g.nonterms.length := by omega
      go_wp2
      go_ret
      exact ⟨gp, rfl, HA.out.ext (fun q hq => by rw [if_pos hq, HF2.out q hq]), below_next HB1.out HBx.out⟩
end Go.Proofs.YtagcmhnanngfbaaDoor.Hand
