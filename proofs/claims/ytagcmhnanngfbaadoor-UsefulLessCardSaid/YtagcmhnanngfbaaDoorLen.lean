/- Contracts: useful.lengths: how many tokens shortest rows have. -/
import Derived.Test.YtagcmhnanngfbaaDoorLenMath
import Derived.Test.YtagcmhnanngfbaaDoorRepeat
import Derived.Test.YtagcmhnanngfbaaDoorUse
namespace Go.Proofs.YtagcmhnanngfbaaDoor.Hand
open Go.RowKit Go.Proofs.YtagcmhnanngfbaaDoorW.PrintWords Go.Proofs.YtagcmhnanngfbaaDoorW.PrintMore Go.Proofs.YtagcmhnanngfbaaDoor.Math

theorem sumL_split {L : Nat → Int} (l : List Int) (k : Nat) (h : sumL L (l.take k) < 0) : sumL L l < 0 := by
  have e : sumL L l = sumA L (sumL L (l.take k)) (l.drop k) := by
    show l.foldl (stepL L) 0 = (l.drop k).foldl (stepL L) ((l.take k).foldl (stepL L) 0)
    rw [← List.foldl_append, List.take_append_drop]
  rw [e]
  exact sumA_neg h
set_option maxHeartbeats 1600000 in
set_option maxRecDepth 20000 in
theorem ulengths_calls (v : Value) (g : Gr) (w : World) (hv : GramAt w v g) (hc : GOk g) :
    Calls Tryd.prog 48 #[v] w fun e w' => ∃ (gm : Nat) (L : Nat → Int), e = .returned (.slice (some ⟨gm, 0, none⟩) g.nonterms.length g.nonterms.length) ∧ Row w' gm g.nonterms.length (fun q => .int .i64 (L q)) ∧ LenIs g.rules g.nonterms.length L ∧ w.heap.size ≤ gm ∧ Below w.heap.size w w' := by
  have hN : g.nonterms.length ≤ 60 := by have := hc.size; omega
  have hN1 : 1 ≤ g.nonterms.length := by have := hc.ax0; have := hc.ax1; omega
  have HV := Lib.hid hv
  obtain ⟨AT, cT, AN, cN, AR, cR, rfl, q1, q2, q3, q4, q5, q6⟩ := hv
  have hlr := q6.2.1
  have l2 := q5.2.1
  have hr120 := hc.rules
  obtain ⟨w1, hw1⟩ : ∃ w1, w.alloc (.cells #[.slice AT g.terms.length cT, .slice AN g.nonterms.length cN, .int .i64 g.ax, .slice AR g.rules.length cR] 25) = w1 := ⟨_, rfl⟩
  have hb1 : Below w.heap.size w w1 := by rw [← hw1]; exact below_alloc (Below.refl _ _) _
  have hk1 : w1.heap[w.heap.size]? = some (.cells #[.slice AT g.terms.length cT, .slice AN g.nonterms.length cN, .int .i64 g.ax, .slice AR g.rules.length cR] 25 (0, 0)) := by rw [← hw1]; exact heap_alloc_new w _
  obtain ⟨w2, hw2⟩ : ∃ w2, w1.alloc (.cells #[.int .i64 (-1)] 3) = w2 := ⟨_, rfl⟩
  have hb2 : Below w1.heap.size w1 w2 := by rw [← hw2]; exact below_alloc (Below.refl _ _) _
  obtain ⟨c0, c1, c2, c3⟩ := blk_cells2 hk1
  have d1 : w2.cell? ⟨w.heap.size, 1, none⟩ = some (.slice AN g.nonterms.length cN) := (blk_cells2 (gblk_keep' hk1 hb2)).2.1
  have hz : w2.cell? ⟨w1.heap.size, 0, none⟩ = some (.int .i64 (-1)) := by rw [← hw2]; simp [go_sem]
  have HRep := Lib.hid (repeat1_calls ⟨w1.heap.size, 0, none⟩ 1 g.nonterms.length (-1) w2 hN1 hN hz)
  have HB1 := Lib.hid hb1
  have HB2 := Lib.hid hb2
  have HK1 := Lib.hid hk1
  have HR := Lib.hid (Kd.C_below q6 hb1)
  have HC := Lib.hid hc
  clear hb1 hk1 hb2 q4 q5 q6 hc hz
  go_enter Tryd.func48, Tryd.ntmps48
  go_wp2_with (go_at_call 75; refine HRep.out.mono ?_; rintro e w3 ⟨gm, rfl, hrow, hgm, hb3⟩; have HRow := Aside0.mk hrow; have HGm := Lib.hid (Nat.le_trans HB2.out.size hgm); have HB3 := Aside0.mk (below_next HB2.out hb3); clear hrow hgm hb3)
  clear hw1 hw2 c0 c1 c2 c3 d1
  go_loopg [4] (2 * lmeas g.nonterms.length (fun _ => -1) + 1) (fun m v wr => ∃ (again : Bool) (L : Nat → Int), v = .bool again ∧ Aside0 (Row wr gm g.nonterms.length (fun q => .int .i64 (L q))) ∧ Aside0 (SoundL g.rules g.nonterms.length L) ∧ Aside0 (again = false → ∀ i, i < g.rules.length → CRl g.rules L i) ∧ Aside0 (Below w1.heap.size w1 wr) ∧ Aside0 (m = 2 * lmeas g.nonterms.length L + (if again then 1 else 0)))
  case atStart => exact ⟨true, fun _ => -1, rfl, HRow, ⟨SoundL.start⟩, ⟨fun h => by cases h⟩, HB3, ⟨rfl⟩⟩
  case round =>
    obtain ⟨again, L0, rfl, HRow0, HS0, HX0, HB0, HM0⟩ := hrel
    obtain ⟨wo, rfl⟩ : ∃ wo : World, wo = wr := ⟨_, rfl⟩
    cases again
    · go_wp2
      go_ret
      exact ⟨gm, rfl, L0, HRow0.out, LenIs.of HS0.out (HX0.out trivial), Nat.le_trans HB1.out.size HGm.out, below_next HB1.out HB0.out⟩
    · obtain ⟨c0, c1, c2, c3⟩ := blk_cells2 (gblk_keep' HK1.out HB0.out)
      go_wp2
      go_step3
      go_wp2
      go_step3
      go_wp2
      clear c0 c1 c2 c3
      go_loopw [4, 20] (fun a x wr => ∃ (ag : Bool) (i : Nat) (L : Nat → Int), i ≤ g.rules.length ∧ a = .bool ag ∧ x = .int .i64 i ∧ Aside0 (Row wr gm g.nonterms.length (fun q => .int .i64 (L q))) ∧ Aside0 (SoundL g.rules g.nonterms.length L) ∧ Aside0 (ag = false → ∀ j, j < i → CRl g.rules L j) ∧ Aside0 (Below w1.heap.size w1 wr) ∧ Aside0 (lmeas g.nonterms.length L + (if ag then 1 else 0) ≤ lmeas g.nonterms.length L0)) (fun _ x _ => g.rules.length - (intOf x).toNat)
      case atStart => exact ⟨false, 0, L0, by omega, rfl, rfl, HRow0, HS0, ⟨fun _ j h => by omega⟩, HB0, ⟨by simp⟩⟩
      case round =>
        obtain ⟨ag, i, L, hi, rfl, rfl, HRowL, HSL, HXL, HBL, HML⟩ := hrel
        obtain ⟨wi, rfl⟩ : ∃ wo : World, wo = wr := ⟨_, rfl⟩
        by_cases hlt : i < g.rules.length
        · obtain ⟨ad, x, B, c, r, rfl, k1, k2, hrc, hr, HD⟩ := at_rule (Kd.C_below HR.out HBL.out) i hlt
          have hRr : Hid ((x, r) ∈ g.rules) := Lib.hid (by rw [← HD.out]; exact getD_mem g.rules i _ hlt)
          have hx0 : 0 ≤ x := (HC.out.right.left hRr.out).1
          have hxN : x < g.nonterms.length := (HC.out.right.left hRr.out).2
          obtain ⟨w4, hw4⟩ : ∃ w4, wi.alloc (.cells #[.int .i64 x, .slice B r.length c] 56) = w4 := ⟨_, rfl⟩
          have hb4 : Below wi.heap.size wi w4 := by rw [← hw4]; exact below_alloc (Below.refl _ _) _
          have r0 : w4.cell? ⟨wi.heap.size, 0, none⟩ = some (.int .i64 x) := by rw [← hw4]; simp [go_sem]
          have r1 : w4.cell? ⟨wi.heap.size, 1, none⟩ = some (.slice B r.length c) := by rw [← hw4]; simp [go_sem]
          have HB4 := Aside0.mk (below_next HBL.out hb4)
          have HRow4 := Aside0.mk (HRowL.out.below hb4)
          have HR4 := Lib.hid (Kd.C_below hr hb4)
          have hlrr := hr.2.1
          have HSy := Lib.hid (fun s (hs : s ∈ r) => HC.out.right.sym hRr.out hs)
          have HT60 := Lib.hid HC.out.size
          have HCR : Hid (CRl g.rules L i ↔ (0 ≤ sumL L r → 0 ≤ L x.toNat ∧ L x.toNat ≤ sumL L r)) := Lib.hid (by unfold CRl; rw [HD.out])
          have hcl := HRow4.out.cell x.toNat (by omega)
          have hfl := HRow4.out.free x.toNat
          clear hr hb4
          go_wp2
          clear hw4
          go_loopw [7, 27] (fun a x' wr => ∃ (k : Nat) (s : Int), k ≤ r.length ∧ a = .int .i64 s ∧ x' = .int .i64 k ∧ Hid (s = sumL L (r.take k)) ∧ 0 ≤ s ∧ s ≤ 65537 ∧ wr = w4) (fun _ x' _ => r.length - (intOf x').toNat)
          case atStart => exact ⟨0, 0, by omega, rfl, rfl, Lib.hid (by rfl), by omega, by omega, by first | rfl | trivial⟩
          case round =>
            obtain ⟨k, s, hk, rfl, rfl, HSum, hs0, hs1, rfl⟩ := hrel
            by_cases hkt : k < r.length
            · obtain ⟨ad2, y, rfl, hcy, HY⟩ := at_scalar HR4.out k hkt 0
              have HYm : Hid (y ∈ r) := Lib.hid (by rw [← HY.out]; exact getD_mem r k 0 hkt)
              have hy1 : -(g.nonterms.length : Int) ≤ y := (HSy.out y HYm.out).1
              have hy2 : y < 4611686018427387904 := by have := (HSy.out y HYm.out).2; have := HT60.out; omega
              have HSn : Hid (sumL L (r.take (k + 1)) = stepL L s y) := Lib.hid (by rw [take_snocD r k 0 hkt, HY.out, sumL_snoc, HSum.out])
              by_cases h0 : y < 0
              · have e1 : 0 ≤ -1 - y := by omega
                have e2 : -1 - y < (g.nonterms.length : Int) := by omega
                have hcm := HRow4.out.cell (-1 - y).toNat (by omega)
                obtain ⟨n, hn⟩ : ∃ n, L (-1 - y).toNat = n := ⟨_, rfl⟩
                rw [hn] at hcm
                have hnb : n ≤ 65537 := by rw [← hn]; exact (HSL.out _ (by omega)).2.1
                have HN := Lib.hid hn
                clear hn
                by_cases hneg : n < 0
                · have HE : Hid (sumL L r < 0) := Lib.hid (sumL_split r (k + 1) (by rw [HSn.out]; unfold stepL; rw [if_neg (by omega), if_pos h0, HN.out, if_pos hneg]; omega))
                  go_wp2
                  go_roundw
                  case rel => exact ⟨ag, i + 1, L, by omega, rfl, by go_num, HRow4, HSL, ⟨fun h j hj => by
                    rcases Nat.lt_or_ge j i with h' | h'
                    · exact HXL.out h j h'
                    · obtain rfl : j = i := by omega
                      exact HCR.out.2 (fun h => absurd h (by have := HE.out; omega))⟩, HB4, HML⟩
                  case measure => simp [intOf]; omega
                · have HE : Hid (stepL L s y = if s + n < 65537 then s + n else 65537) := Lib.hid (stepL_ok hs0 (by rw [if_pos h0, HN.out]) (by omega))
                  go_wp2
                  go_roundw
                  case rel => exact ⟨k + 1, _, by omega, rfl, by go_num, Lib.hid (by rw [HSn.out, HE.out]), by split <;> omega, by split <;> omega, by first | rfl | trivial⟩
                  case measure => simp [intOf]; omega
              · have HE : Hid (stepL L s y = if s + 1 < 65537 then s + 1 else 65537) := Lib.hid (stepL_ok hs0 (by rw [if_neg h0]) (by omega))
                go_wp2
                go_roundw
                case rel => exact ⟨k + 1, _, by omega, rfl, by go_num, Lib.hid (by rw [HSn.out, HE.out]), by split <;> omega, by split <;> omega, by first | rfl | trivial⟩
                case measure => simp [intOf]; omega
            · have HE : Hid (s = sumL L r) := Lib.hid (by rw [HSum.out, List.take_of_length_le (by omega)])
              obtain ⟨n, hn⟩ : ∃ n, L x.toNat = n := ⟨_, rfl⟩
              rw [hn] at hcl
              have HN := Lib.hid hn
              clear hn
              by_cases hup : n < 0 ∨ s < n
              · have HUp := Lib.hid hup
                have hrow : Hid (∀ W : World, Row W gm g.nonterms.length (fun q => .int .i64 (L q)) → Row (W.setCell ⟨gm, x.toNat, none⟩ (.int .i64 s)) gm g.nonterms.length (fun q => .int .i64 (setL L x.toNat s q))) := Lib.hid (fun W hW => (hW.set x.toNat (by omega) (.int .i64 s)).ext (fun q hq => by unfold setL; split <;> simp_all))
                have hfin : Hid (SoundL g.rules g.nonterms.length (setL L x.toNat s) ∧ lmeas g.nonterms.length (setL L x.toNat s) < lmeas g.nonterms.length L) := Lib.hid ⟨by
                  have := HSL.out.set (r := (x, r)) hRr.out (fun z hz => (HSy.out z hz).1) hx0 (by rw [← HE.out]; exact hs0)
                  rwa [← HE.out] at this, lmeas_lt (by omega) hs0 hs1 (by rw [HN.out]; exact hup)⟩
                have hcase : n < 0 ∨ (¬ n < 0 ∧ s < n) := by omega
                clear hup
                rcases hcase with hcase | ⟨hcase, hcase2⟩
                all_goals
                  go_wp2
                  go_roundw
                  case rel => exact ⟨true, i + 1, setL L x.toNat s, by omega, rfl, by go_num, ⟨hrow.out _ HRow4.out⟩, ⟨hfin.out.1⟩, ⟨fun h => by cases h⟩, ⟨HB4.out.setCell HGm.out _⟩, ⟨by have := HML.out; have := hfin.out.2; simp only [if_true]; omega⟩⟩
                  case measure => simp [intOf]; omega
              · have h1 : ¬ n < 0 := by omega
                have h2 : ¬ s < n := by omega
                clear hup
                go_wp2
                go_roundw
                case rel => exact ⟨ag, i + 1, L, by omega, rfl, by go_num, HRow4, HSL, ⟨fun h j hj => by
                  rcases Nat.lt_or_ge j i with h' | h'
                  · exact HXL.out h j h'
                  · obtain rfl : j = i := by omega
                    exact HCR.out.2 (fun _ => by rw [HN.out, ← HE.out]; omega)⟩, HB4, HML⟩
                case measure => simp [intOf]; omega
        · obtain rfl : i = g.rules.length := by omega
          go_wp2
          rw [Exit.noGoto_normal]
          go_wp2
          go_roundg (2 * lmeas g.nonterms.length L + (if ag then 1 else 0))
          case rel => exact ⟨ag, L, rfl, HRowL, HSL, HXL, HBL, ⟨rfl⟩⟩
          case measure => have h1 := HML.out; have h2 := HM0.out; simp at h2; cases ag <;> simp at h1 ⊢ <;> omega
def ShortRes (w0 : World) (A : Nat → Addr) (g : Gr) (e : Ending) (w' : World) : Prop :=
  (∃ u, e = .returned (.tuple #[.slice none 0 0, u]) ∧ ¬ (checkN g).1 = 0 ∧ ErrV w' A u (checkN g).1 (checkN g).2 ∧ Below w0.heap.size w0 w') ∨
  (∃ gm L, e = .returned (.tuple #[.slice (some ⟨gm, 0, none⟩) g.nonterms.length g.nonterms.length, .nilIface]) ∧ (checkN g).1 = 0 ∧ Row w' gm g.nonterms.length (fun q => .int .i64 (L q)) ∧ LenIs g.rules g.nonterms.length L ∧ w0.heap.size ≤ gm ∧ Below w0.heap.size w0 w')
theorem ushortest_calls (v : Value) (g : Gr) (w : World) (A : Nat → Addr) (hE : Errs w A) (hv : GramAt w v g) :
    Calls Tryd.prog 17 #[v] w fun e w' => ShortRes w A g e w' := by
  have HV := Lib.hid hv
  obtain ⟨AT, cT, AN, cN, AR, cR, rfl, q1, q2, q3, q4, q5, q6⟩ := hv
  obtain ⟨w1, hw1⟩ : ∃ w1, w.alloc (.cells #[.slice AT g.terms.length cT, .slice AN g.nonterms.length cN, .int .i64 g.ax, .slice AR g.rules.length cR] 25) = w1 := ⟨_, rfl⟩
  have hb1 : Below w.heap.size w w1 := by rw [← hw1]; exact below_alloc (Below.refl _ _) _
  have hk1 : w1.heap[w.heap.size]? = some (.cells #[.slice AT g.terms.length cT, .slice AN g.nonterms.length cN, .int .i64 g.ax, .slice AR g.rules.length cR] 25 (0, 0)) := by rw [← hw1]; exact heap_alloc_new w _
  obtain ⟨c0, c1, c2, c3⟩ := blk_cells2 hk1
  have HB1 := Lib.hid hb1
  have HK1 := Lib.hid hk1
  have HG := Lib.hid (HV.out.below hb1)
  have HCk := Lib.hid (check_calls _ g w1 A (hE.below hb1) HG.out)
  clear hb1 hk1 hE q4 q5 q6
  by_cases hok : (checkN g).1 = 0
  · have HOK := Lib.hid hok
    have HM := Lib.hid (fun (W : World) (hW : Below w1.heap.size w1 W) => ulengths_calls _ g W (HG.out.below hW) (GOk.of hok))
    clear hok
    go_enter Tryd.func17, Tryd.ntmps17
    go_wp2_with (first
      | (go_at_call 35; refine HCk.out.mono ?_; rintro e w2 ⟨u, rfl, hu, hb2⟩; have HB2 := Lib.hid hb2; obtain rfl := hu.nil_of HOK.out; obtain ⟨d0, d1, d2, d3⟩ := blk_cells2 (gblk_keep' HK1.out hb2); clear hu hb2 c0 c1 c2 c3)
      | (go_at_call 48; refine (HM.out w2 HB2.out).mono ?_; rintro e w3 ⟨gm, L, rfl, hrow, hL, hgm, hb3⟩; have HRow := Lib.hid hrow; have HL := Lib.hid hL; have HGm := Lib.hid (Nat.le_trans HB2.out.size hgm); have HB3 := Lib.hid (below_next HB2.out hb3); clear hrow hL hgm hb3))
    go_ret2
    exact .inr ⟨gm, L, rfl, HOK.out, HRow.out, HL.out, Nat.le_trans HB1.out.size HGm.out, below_next HB1.out HB3.out⟩
  · have HOK := Lib.hid hok
    clear hok
    go_enter Tryd.func17, Tryd.ntmps17
    go_wp2_with (go_at_call 35; refine HCk.out.mono ?_; rintro e w2 ⟨u, rfl, hu, hb2⟩; have HU2 := Lib.hid hu; have HB2 := Lib.hid hb2; obtain ⟨T, p, hT, rfl⟩ := hu.iface_of HOK.out; clear hu hb2 hT)
    go_ret2
    exact .inl ⟨_, rfl, HOK.out, HU2.out, below_next HB1.out HB2.out⟩
end Go.Proofs.YtagcmhnanngfbaaDoor.Hand
