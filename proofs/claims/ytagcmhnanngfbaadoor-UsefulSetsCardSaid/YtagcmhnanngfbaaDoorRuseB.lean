/- Contracts of dovetailref07: productive. -/
import Derived.Test.YtagcmhnanngfbaaDoorRuse
namespace Go.Proofs.YtagcmhnanngfbaaDoor.Hand
open Go.RowKit Go.Proofs.YtagcmhnanngfbaaDoorW.PrintWords Go.Proofs.YtagcmhnanngfbaaDoorW.PrintMore Go.Proofs.YtagcmhnanngfbaaDoor.Math

/-- Rule i adds nothing. -/
def CRp (R : List (Int × List Int)) (M : Nat → Bool) (i : Nat) : Prop := AllIn (fun k => M k = true) (R.getD i (0, [])).2 → M (R.getD i (0, [])).1.toNat = true
theorem CRp.congr {g : Gr} (hg : GOk g) {M M' : Nat → Bool} (h : ∀ k, k < g.nonterms.length → M k = M' k) (i : Nat) (hi : i < g.rules.length) (hc : CRp g.rules M i) : CRp g.rules M' i := by
  intro ha
  have hm := getD_mem g.rules i (0, []) hi
  have hl := hg.right.left hm
  rw [← h _ (by omega)]
  exact hc ((allIn_congr hg (I := fun k => M' k = true) (J := fun k => M k = true) (fun k hk => by rw [h k hk]) _ hm).1 ha)
theorem CRp.full {g : Gr} {M : Nat → Bool} (h : ∀ i, i < g.rules.length → CRp g.rules M i) {k : Nat} (hp : PD g.rules k) : M k = true := by
  refine PD.closed (S := fun n => M n = true) (fun r hr hin => ?_) hp
  obtain ⟨i, hi, rfl⟩ := List.getElem_of_mem hr
  have h1 := h i hi
  unfold CRp at h1
  rw [List.getD_eq_getElem?_getD, List.getElem?_eq_getElem hi, Option.getD_some] at h1
  exact h1 hin
set_option maxHeartbeats 1600000 in
set_option maxRecDepth 20000 in
theorem rproductive_calls (v : Value) (g : Gr) (w : World) (hv : GramAt w v g) (hc : GOk g) :
    Calls Tryd.prog 42 #[v] w fun e w' => ∃ gm, e = .returned (.slice (some ⟨gm, 0, none⟩) g.nonterms.length g.nonterms.length) ∧ Row w' gm g.nonterms.length (fun q => .bool (tb (PD g.rules q))) ∧ w.heap.size ≤ gm ∧ Below w.heap.size w w' := by
  have hN : g.nonterms.length ≤ 60 := by have := hc.size; omega
  have HV := Lib.hid hv
  obtain ⟨AT, cT, AN, cN, AR, cR, rfl, q1, q2, q3, q4, q5, q6⟩ := hv
  have hlr := q6.2.1
  have l2 := q5.2.1
  have hr120 := hc.rules
  obtain ⟨w1, hw1⟩ : ∃ w1, w.alloc (.cells #[.slice AT g.terms.length cT, .slice AN g.nonterms.length cN, .int .i64 g.ax, .slice AR g.rules.length cR] 25) = w1 := ⟨_, rfl⟩
  have hb1 : Below w.heap.size w w1 := by rw [← hw1]; exact below_alloc (Below.refl _ _) _
  have hk1 : w1.heap[w.heap.size]? = some (.cells #[.slice AT g.terms.length cT, .slice AN g.nonterms.length cN, .int .i64 g.ax, .slice AR g.rules.length cR] 25 (0, 0)) := by rw [← hw1]; exact heap_alloc_new w _
  obtain ⟨c0, c1, c2, c3⟩ := blk_cells2 hk1
  have HB1 := Lib.hid hb1
  have HK1 := Lib.hid hk1
  have HR := Lib.hid (Kd.C_below q6 hb1)
  have HC := Lib.hid hc
  obtain ⟨w2, hw2⟩ : ∃ w2, w1.alloc (.cells (madeCells #[.bool false] g.nonterms.length) 4) = w2 := ⟨_, rfl⟩
  have hmk : (Instr.makeSlice 60 (.int .i64 ((g.nonterms.length : Nat) : Int)) (.int .i64 ((g.nonterms.length : Nat) : Int))).run Tryd.prog w1 = .ok (.slice (some ⟨w1.heap.size, 0, none⟩) g.nonterms.length g.nonterms.length) w2 := by
    rw [← hw2]
    exact print_make_of (P := Tryd.prog) 60 4 (.bool false) 1 rfl infoBool rfl (by decide) g.nonterms.length (by omega) w1
  have HRow := Aside0.mk (show Row w2 w1.heap.size g.nonterms.length (fun q => .bool ((fun _ => false) q)) by rw [← hw2]; exact Row.made w1 _ _ _)
  have HB2 := Aside0.mk (show Below w1.heap.size w1 w2 by rw [← hw2]; exact below_alloc (Below.refl _ _) _)
  clear hb1 hk1 q4 q5 q6 hc hw2
  go_enter Tryd.func42, Tryd.ntmps42
  go_wp2
  obtain ⟨gm, hgm⟩ : ∃ gm, w1.heap.size = gm := ⟨_, rfl⟩
  rw [hgm] at HRow ⊢
  have HGm := Lib.hid hgm
  clear hmk hgm hw1 c0 c1 c2 c3
  go_loopw [4] (fun x wr => ∃ (t : Nat) (M : Nat → Bool), t ≤ g.nonterms.length + 1 ∧ x = .int .i64 t ∧ Aside0 (Row wr gm g.nonterms.length (fun q => .bool (M q))) ∧ Aside0 (∀ k, k < g.nonterms.length → M k = true → PD g.rules k) ∧ Aside0 ((∀ i, i < g.rules.length → CRp g.rules M i) ∨ t + miss g.nonterms.length M ≤ g.nonterms.length) ∧ Aside0 (Below w1.heap.size w1 wr)) (fun x _ => g.nonterms.length + 1 - (intOf x).toNat)
  case atStart => exact ⟨0, fun _ => false, by omega, rfl, HRow, ⟨fun k hk h => by cases h⟩, ⟨.inr (by have := miss_le g.nonterms.length (fun _ => false); omega)⟩, HB2⟩
  case round =>
    obtain ⟨t, M0, ht, rfl, HRow0, HS0, HX0, HB0⟩ := hrel
    obtain ⟨wo, rfl⟩ : ∃ wo : World, wo = wr := ⟨_, rfl⟩
    obtain ⟨c0, c1, c2, c3⟩ := blk_cells2 (gblk_keep' HK1.out HB0.out)
    by_cases htt : t ≤ g.nonterms.length
    · go_wp2
      clear c0 c1 c2 c3
      go_loopw [5] (fun x wr => ∃ (i : Nat) (M : Nat → Bool), i ≤ g.rules.length ∧ x = .int .i64 i ∧ Aside0 (Row wr gm g.nonterms.length (fun q => .bool (M q))) ∧ Aside0 (∀ k, k < g.nonterms.length → M k = true → PD g.rules k) ∧ Aside0 ((∀ i, i < g.rules.length → CRp g.rules M0 i) → ∀ k, k < g.nonterms.length → M k = M0 k) ∧ Aside0 (((∀ k, k < g.nonterms.length → M k = M0 k) ∧ ∀ j, j < i → CRp g.rules M0 j) ∨ miss g.nonterms.length M < miss g.nonterms.length M0) ∧ Aside0 (Below w1.heap.size w1 wr)) (fun x _ => g.rules.length - (intOf x).toNat)
      case atStart => exact ⟨0, M0, by omega, rfl, HRow0, HS0, ⟨fun _ _ _ => rfl⟩, ⟨.inl ⟨fun _ _ => rfl, fun j h => by omega⟩⟩, HB0⟩
      case round =>
        obtain ⟨i, M, hi, rfl, HRowM, HSM, HsM, HpM, HBM⟩ := hrel
        obtain ⟨wi, rfl⟩ : ∃ wo : World, wo = wr := ⟨_, rfl⟩
        obtain ⟨c0, c1, c2, c3⟩ := blk_cells2 (gblk_keep' HK1.out HBM.out)
        by_cases hlt : i < g.rules.length
        · obtain ⟨ad, x, B, c, r, rfl, k1, k2, hrc, hr, HD⟩ := at_rule (Kd.C_below HR.out HBM.out) i hlt
          have hRr : Hid ((x, r) ∈ g.rules) := Lib.hid (by rw [← HD.out]; exact getD_mem g.rules i _ hlt)
          have hx0 : 0 ≤ x := (HC.out.right.left hRr.out).1
          have hxN : x < g.nonterms.length := (HC.out.right.left hRr.out).2
          have HAll := Lib.hid (rall_calls B c r hr HRowM.out (fun s hs => by have := HC.out.right.sym hRr.out hs; have := HC.out.size; omega) hN)
          have hcell := HRowM.out.cell x.toNat (by omega)
          have hfree := HRowM.out.free x.toNat
          have HCR : Hid (CRp g.rules M0 i ↔ (AllIn (fun k => M0 k = true) r → M0 x.toNat = true)) := Lib.hid (by unfold CRp; rw [HD.out])
          have HAC : Hid ((∀ k, k < g.nonterms.length → M k = M0 k) → (AllIn (fun k => M0 k = true) r ↔ AllIn (fun k => M k = true) r)) := Lib.hid (fun h => allIn_congr HC.out (I := fun k => M0 k = true) (J := fun k => M k = true) (fun k hk => by rw [h k hk]) _ hRr.out)
          clear hr
          cases hall : tb (AllIn (fun k => M k = true) r)
          · rw [hall] at HAll
            have HN : Hid (¬ AllIn (fun k => M k = true) r) := Lib.hid (fun h => by rw [tb_yes h] at hall; cases hall)
            clear hall
            go_wp2_with (go_at_call 60; refine HAll.out.mono ?_; rintro e w' ⟨rfl, n1, rfl⟩)
            go_roundw
            case rel => exact ⟨i + 1, M, by omega, by go_num, ⟨HRowM.out.drewN _⟩, HSM, HsM, ⟨by
              rcases HpM.out with ⟨h1, h2⟩ | h
              · refine .inl ⟨h1, fun j hj => ?_⟩
                rcases Nat.lt_or_ge j i with h' | h'
                · exact h2 j h'
                · obtain rfl : j = i := by omega
                  exact HCR.out.2 (fun ha => absurd ((HAC.out h1).1 ha) HN.out)
              · exact .inr h⟩, ⟨pw_below_drewN HBM.out _⟩⟩
            case measure => simp [intOf]; omega
          · rw [hall] at HAll
            have HN : Hid (AllIn (fun k => M k = true) r) := Lib.hid (tb_iff.1 hall)
            clear hall
            go_wp2_with (go_at_call 60; refine HAll.out.mono ?_; rintro e w' ⟨rfl, n1, rfl⟩)
            go_roundw
            case rel =>
              have hs := mark_step (CR := CRp g.rules) (x := x.toNat) (by omega) HsM.out (fun hcl => by
                exact HCR.out.1 (hcl i hlt) ((HAC.out (HsM.out hcl)).2 HN.out)) HpM.out
              refine ⟨i + 1, updM M x.toNat, by omega, by go_num, ⟨(HRowM.out.drewN _).updM (by omega)⟩, ⟨fun k hk h => ?_⟩, ⟨hs.1⟩, ⟨?_⟩, ⟨(pw_below_drewN HBM.out _).setCell (by rw [HGm.out]; exact Nat.le_refl _) _⟩⟩
              · rcases updM_or h with h | rfl
                · exact HSM.out k hk h
                · exact PD.mk (x, r) hRr.out (fun z hz h0 => HSM.out _ (by have := HC.out.right.sym hRr.out hz; omega) (HN.out z hz h0))
              · rcases hs.2 with ⟨h1, h2, h3⟩ | h
                · refine .inl ⟨h1, fun j hj => ?_⟩
                  rcases Nat.lt_or_ge j i with h' | h'
                  · exact h2 j h'
                  · obtain rfl : j = i := by omega
                    exact HCR.out.2 (fun _ => h3)
                · exact .inr h
            case measure => simp [intOf]; omega
        · obtain rfl : i = g.rules.length := by omega
          go_wp2
          go_roundw
          case rel => exact ⟨t + 1, M, by omega, by go_num, HRowM, HSM, ⟨turn_end (CR := CRp g.rules) (fun h i hi hc => CRp.congr HC.out h i hi hc) HX0.out HsM.out HpM.out⟩, HBM⟩
          case measure => simp [intOf]; omega
    · have HF : Hid (∀ k, k < g.nonterms.length → M0 k = tb (PD g.rules k)) := Lib.hid (fun k hk => by
        have hcl : ∀ i, i < g.rules.length → CRp g.rules M0 i := HX0.out.resolve_right (by omega)
        rw [Bool.eq_iff_iff, tb_iff]
        exact ⟨HS0.out k hk, fun hp => CRp.full hcl hp⟩)
      go_wp2
      go_ret
      exact ⟨gm, rfl, HRow0.out.ext (fun q hq => by rw [HF.out q hq]), by rw [← HGm.out]; exact HB1.out.size, below_next HB1.out HB0.out⟩
end Go.Proofs.YtagcmhnanngfbaaDoor.Hand
