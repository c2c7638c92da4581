/- Contract of dovetailref07.Shortest. -/
import Derived.Test.YtagcmhnanngfbaaDoorLen
import Derived.Test.YtagcmhnanngfbaaDoorRef03
namespace Go.Proofs.YtagcmhnanngfbaaDoor.Hand
open Go.RowKit Go.Proofs.YtagcmhnanngfbaaDoorW.PrintWords Go.Proofs.YtagcmhnanngfbaaDoorW.PrintMore Go.Proofs.YtagcmhnanngfbaaDoor.Math

theorem Row.setL {w : World} {g N x : Nat} {L : Nat → Int} (h : Row w g N (fun q => .int .i64 (L q))) (hx : x < N) (s : Int) : Row (w.setCell ⟨g, x, none⟩ (.int .i64 s)) g N (fun q => .int .i64 (Hand.setL L x s q)) :=
  (h.set x hx (.int .i64 s)).ext (fun q hq => by
    by_cases e : q = x
    · rw [if_pos e, e, setL_same]
    · rw [if_neg e, setL_other e])
def RShortRes (w0 : World) (g : Gr) (e : Ending) (w' : World) : Prop :=
  (e = .returned (.tuple #[.slice none 0 0, .int .i64 ((checkN g).1 : Nat)]) ∧ ¬ (checkN g).1 = 0 ∧ Below w0.heap.size w0 w') ∨
  (∃ gm L, e = .returned (.tuple #[.slice (some ⟨gm, 0, none⟩) g.nonterms.length g.nonterms.length, .int .i64 0]) ∧ (checkN g).1 = 0 ∧ Row w' gm g.nonterms.length (fun q => .int .i64 (L q)) ∧ LenIs g.rules g.nonterms.length L ∧ w0.heap.size ≤ gm ∧ Below w0.heap.size w0 w')
set_option maxHeartbeats 2000000 in
set_option maxRecDepth 20000 in
theorem rshortest_calls (v : Value) (g : Gr) (w : World) (hv : GramAt w v g) :
    Calls Tryd.prog 18 #[v] w fun e w' => RShortRes w g e w' := by
  have HV := Lib.hid hv
  obtain ⟨AT, cT, AN, cN, AR, cR, rfl, q1, q2, q3, q4, q5, q6⟩ := hv
  have hlr := q6.2.1
  have l2 := q5.2.1
  obtain ⟨w1, hw1⟩ : ∃ w1, w.alloc (.cells #[.slice AT g.terms.length cT, .slice AN g.nonterms.length cN, .int .i64 g.ax, .slice AR g.rules.length cR] 25) = w1 := ⟨_, rfl⟩
  have hb1 : Below w.heap.size w w1 := by rw [← hw1]; exact below_alloc (Below.refl _ _) _
  have hk1 : w1.heap[w.heap.size]? = some (.cells #[.slice AT g.terms.length cT, .slice AN g.nonterms.length cN, .int .i64 g.ax, .slice AR g.rules.length cR] 25 (0, 0)) := by rw [← hw1]; exact heap_alloc_new w _
  obtain ⟨c0, c1, c2, c3⟩ := blk_cells2 hk1
  have HB1 := Lib.hid hb1
  have HK1 := Lib.hid hk1
  have HCk := Lib.hid (rcheck_calls _ g w1 (HV.out.below hb1))
  have HR := Lib.hid (Kd.C_below q6 hb1)
  clear hb1 hk1 q4 q5 q6
  by_cases hok : (checkN g).1 = 0
  · have HC := Lib.hid (GOk.of hok)
    have HOK := Lib.hid hok
    rw [hok] at HCk
    clear hok
    have hN : g.nonterms.length ≤ 60 := by have := HC.out.size; omega
    have hr120 := HC.out.rules
    have hmk : ∀ W : World, (Instr.makeSlice 38 (.int .i64 ((g.nonterms.length : Nat) : Int)) (.int .i64 ((g.nonterms.length : Nat) : Int))).run Tryd.prog W = .ok (.slice (some ⟨W.heap.size, 0, none⟩) g.nonterms.length g.nonterms.length) (W.alloc (.cells (madeCells #[.int .i64 0] g.nonterms.length) 3)) :=
      print_make_of (P := Tryd.prog) 38 3 (.int .i64 0) 8 rfl infoInt rfl (by decide) g.nonterms.length (by omega)
    go_enter Tryd.func18, Tryd.ntmps18
    go_wp2_with (go_at_call 40; refine HCk.out.mono ?_; rintro e w2 ⟨rfl, hb2⟩; have HB2 := Lib.hid hb2; obtain ⟨d0, d1, d2, d3⟩ := blk_cells2 (gblk_keep' HK1.out hb2); clear hb2 c0 c1 c2 c3)
    obtain ⟨w3, hw3⟩ : ∃ w3, w2.alloc (.cells (madeCells #[.int .i64 0] g.nonterms.length) 3) = w3 := ⟨_, rfl⟩
    rw [hw3]
    have HRow3 := Aside0.mk (show Row w3 w2.heap.size g.nonterms.length (fun q => .int .i64 (if q < 0 then -1 else 0)) by rw [← hw3]; exact (Row.made w2 _ _ _).ext (fun q _ => by simp))
    have HB3 := Aside0.mk (show Below w1.heap.size w1 w3 by rw [← hw3]; exact below_next HB2.out (below_alloc (Below.refl _ _) _))
    obtain ⟨gm, hgm⟩ : ∃ gm, w2.heap.size = gm := ⟨_, rfl⟩
    rw [hgm] at HRow3 ⊢
    have HGm : Hid (w1.heap.size ≤ gm) := Lib.hid (by rw [← hgm]; exact HB2.out.size)
    clear hw3 hmk hgm d0 d1 d2 d3 hw1
    go_loopw [7] (fun x wr => ∃ i : Nat, i ≤ g.nonterms.length ∧ x = .int .i64 i ∧ Aside0 (Row wr gm g.nonterms.length (fun q => .int .i64 (if q < i then -1 else 0))) ∧ Aside0 (Below w1.heap.size w1 wr)) (fun x _ => g.nonterms.length - (intOf x).toNat)
    case atStart => exact ⟨0, by omega, rfl, HRow3, HB3⟩
    case round =>
      obtain ⟨i, hi, rfl, HA, HBx⟩ := hrel
      by_cases hlt : i < g.nonterms.length
      · have ha := HA.out.cell i hlt
        have hf := HA.out.free i
        go_wp2
        go_roundw
        case rel => exact ⟨i + 1, by omega, by go_num, ⟨(HA.out.set i hlt (.int .i64 (-1))).ext (fun q hq => by
          by_cases e : q = i
          · subst e; simp
          · rw [if_neg e]
            have : q < i + 1 ↔ q < i := by omega
            simp only [this])⟩, ⟨HBx.out.setCell HGm.out _⟩⟩
        case measure => simp [intOf]; omega
      · obtain rfl : i = g.nonterms.length := by omega
        have HRow := Aside0.mk (HA.out.ext (f' := fun q => .int .i64 ((fun _ => (-1 : Int)) q)) (fun q hq => by simp [hq]))
        clear hi hlt
        go_wp2
        clear HA
        go_loopg [8] (2 * lmeas g.nonterms.length (fun _ => -1) + 1) (fun m v wr => ∃ (again : Bool) (L : Nat → Int), v = .bool again ∧ Aside0 (Row wr gm g.nonterms.length (fun q => .int .i64 (L q))) ∧ Aside0 (SoundL g.rules g.nonterms.length L) ∧ Aside0 (again = false → ∀ i, i < g.rules.length → CRl g.rules L i) ∧ Aside0 (Below w1.heap.size w1 wr) ∧ Aside0 (m = 2 * lmeas g.nonterms.length L + (if again then 1 else 0)))
        case atStart => exact ⟨true, fun _ => -1, rfl, HRow, ⟨SoundL.start⟩, ⟨fun h => by cases h⟩, HBx, ⟨rfl⟩⟩
        case round =>
          obtain ⟨again, L0, rfl, HRow0, HS0, HX0, HB0, HM0⟩ := hrel
          obtain ⟨wo, rfl⟩ : ∃ wo : World, wo = wr := ⟨_, rfl⟩
          cases again
          · go_wp2
            go_ret2
            exact .inr ⟨gm, L0, rfl, HOK.out, HRow0.out, LenIs.of HS0.out (HX0.out trivial), Nat.le_trans HB1.out.size HGm.out, below_next HB1.out HB0.out⟩
          · go_wp2
            go_loopw [8, 9] (fun a x wr => ∃ (ag : Bool) (i : Nat) (L : Nat → Int), i ≤ g.rules.length ∧ a = .bool ag ∧ x = .int .i64 i ∧ Aside0 (Row wr gm g.nonterms.length (fun q => .int .i64 (L q))) ∧ Aside0 (SoundL g.rules g.nonterms.length L) ∧ Aside0 (ag = false → ∀ j, j < i → CRl g.rules L j) ∧ Aside0 (Below w1.heap.size w1 wr) ∧ Aside0 (lmeas g.nonterms.length L + (if ag then 1 else 0) ≤ lmeas g.nonterms.length L0)) (fun _ x _ => g.rules.length - (intOf x).toNat)
            case atStart => exact ⟨false, 0, L0, by omega, rfl, rfl, HRow0, HS0, ⟨fun _ j h => by omega⟩, HB0, ⟨by simp⟩⟩
            case round =>
              obtain ⟨ag, i, L, hi, rfl, rfl, HRowL, HSL, HXL, HBL, HML⟩ := hrel
              obtain ⟨wi, rfl⟩ : ∃ wo : World, wo = wr := ⟨_, rfl⟩
              obtain ⟨c0, c1, c2, c3⟩ := blk_cells2 (gblk_keep' HK1.out HBL.out)
              by_cases hlt : i < g.rules.length
              · obtain ⟨ad, x, B, c, r, rfl, k1, k2, hrc, hr, HD⟩ := at_rule (Kd.C_below HR.out HBL.out) i hlt
                have hRr : Hid ((x, r) ∈ g.rules) := Lib.hid (by rw [← HD.out]; exact getD_mem g.rules i _ hlt)
                have hx0 : 0 ≤ x := (HC.out.right.left hRr.out).1
                have hxN : x < g.nonterms.length := (HC.out.right.left hRr.out).2
                obtain ⟨w4, hw4⟩ : ∃ w4, wi.alloc (.cells #[.int .i64 x, .slice B r.length c] 56) = w4 := ⟨_, rfl⟩
                have hb4 : Below wi.heap.size wi w4 := by rw [← hw4]; exact below_alloc (Below.refl _ _) _
                have r0 : w4.cell? ⟨wi.heap.size, 0, none⟩ = some (.int .i64 x) := by rw [← hw4]; simp [go_sem]
                have r1 : w4.cell? ⟨wi.heap.size, 1, none⟩ = some (.slice B r.length c) := by rw [← hw4]; simp [go_sem]
                have HB4 := Aside0.mk (below_next HBL.out hb4)
                have HRow4 := Aside0.mk (HRowL.out.below hb4)
                have HR4 := Lib.hid (Kd.C_below hr hb4)
                have hlrr := hr.2.1
                have HSy := Lib.hid (fun s (hs : s ∈ r) => HC.out.right.sym hRr.out hs)
                have HT60 := Lib.hid HC.out.size
                have HCR : Hid (CRl g.rules L i ↔ (0 ≤ sumL L r → 0 ≤ L x.toNat ∧ L x.toNat ≤ sumL L r)) := Lib.hid (by unfold CRl; rw [HD.out])
                have hcl := HRow4.out.cell x.toNat (by omega)
                have hfl := HRow4.out.free x.toNat
                clear hr hb4
                go_wp2
                clear hw4 c0 c1 c2 c3
                go_loopw [11, 12] (fun a x' wr => ∃ (k : Nat) (s : Int), k ≤ r.length ∧ a = .int .i64 s ∧ x' = .int .i64 k ∧ Hid (0 ≤ s → s = sumL L (r.take k)) ∧ Hid (s < 0 → sumL L r < 0) ∧ -1 ≤ s ∧ s ≤ 65537 ∧ wr = w4) (fun _ x' _ => r.length - (intOf x').toNat)
                case atStart => exact ⟨0, 0, by omega, rfl, rfl, Lib.hid (fun _ => rfl), Lib.hid (fun h => by omega), by omega, by omega, by first | rfl | trivial⟩
                case round =>
                  obtain ⟨k, s, hk, rfl, rfl, HSum, HNeg, hs0, hs1, rfl⟩ := hrel
                  by_cases hsn : s < 0
                  · have hs2 : ¬ 0 ≤ s := by omega
                    have HE : Hid (sumL L r < 0) := Lib.hid (HNeg.out hsn)
                    by_cases hkt : k < r.length
                    all_goals
                      go_wp2
                      go_roundw
                      case rel => exact ⟨ag, i + 1, L, by omega, rfl, by go_num, HRow4, HSL, ⟨fun h j hj => by
                        rcases Nat.lt_or_ge j i with h' | h'
                        · exact HXL.out h j h'
                        · obtain rfl : j = i := by omega
                          exact HCR.out.2 (fun h => absurd h (by have := HE.out; omega))⟩, HB4, HML⟩
                      case measure => simp [intOf]; omega
                  · have hs2 : 0 ≤ s := by omega
                    have HSu : Hid (s = sumL L (r.take k)) := Lib.hid (HSum.out hs2)
                    by_cases hkt : k < r.length
                    · obtain ⟨ad2, y, rfl, hcy, HY⟩ := at_scalar HR4.out k hkt 0
                      have HYm : Hid (y ∈ r) := Lib.hid (by rw [← HY.out]; exact getD_mem r k 0 hkt)
                      have hy1 : -(g.nonterms.length : Int) ≤ y := (HSy.out y HYm.out).1
                      have hy2 : y < 4611686018427387904 := by have := (HSy.out y HYm.out).2; have := HT60.out; omega
                      have HSn : Hid (sumL L (r.take (k + 1)) = stepL L s y) := Lib.hid (by rw [take_snocD r k 0 hkt, HY.out, sumL_snoc, HSu.out])
                      by_cases h0 : y < 0
                      · have e1 : 0 ≤ -1 - y := by omega
                        have e2 : -1 - y < (g.nonterms.length : Int) := by omega
                        have hcm := HRow4.out.cell (-1 - y).toNat (by omega)
                        obtain ⟨n, hn⟩ : ∃ n, L (-1 - y).toNat = n := ⟨_, rfl⟩
                        rw [hn] at hcm
                        have hnb : n ≤ 65537 := by rw [← hn]; exact (HSL.out _ (by omega)).2.1
                        have HN := Lib.hid hn
                        clear hn
                        by_cases hneg : n < 0
                        · have HE : Hid (sumL L r < 0) := Lib.hid (sumL_split r (k + 1) (by rw [HSn.out]; unfold stepL; rw [if_neg (by omega), if_pos h0, HN.out, if_pos hneg]; omega))
                          go_wp2
                          go_roundw
                          case rel => exact ⟨k + 1, -1, by omega, rfl, by go_num, Lib.hid (fun h => by omega), Lib.hid (fun _ => HE.out), by omega, by omega, by first | rfl | trivial⟩
                          case measure => simp [intOf]; omega
                        · have HE : Hid (stepL L s y = if s + n < 65537 then s + n else 65537) := Lib.hid (stepL_ok hs2 (by rw [if_pos h0, HN.out]) (by omega))
                          have HE2 : Hid ((if 65537 < s + n then 65537 else s + n) = sumL L (r.take (k + 1))) := Lib.hid (by rw [HSn.out, HE.out]; split <;> split <;> omega)
                          go_wp2
                          go_roundw
                          case rel => exact ⟨k + 1, _, by omega, rfl, by go_num, Lib.hid (fun _ => HE2.out), Lib.hid (fun h => by split at h <;> omega), by split <;> omega, by split <;> omega, by first | rfl | trivial⟩
                          case measure => simp [intOf]; omega
                      · have HE : Hid (stepL L s y = if s + 1 < 65537 then s + 1 else 65537) := Lib.hid (stepL_ok hs2 (by rw [if_neg h0]) (by omega))
                        have HE2 : Hid ((if 65537 < s + 1 then 65537 else s + 1) = sumL L (r.take (k + 1))) := Lib.hid (by rw [HSn.out, HE.out]; split <;> split <;> omega)
                        go_wp2
                        go_roundw
                        case rel => exact ⟨k + 1, _, by omega, rfl, by go_num, Lib.hid (fun _ => HE2.out), Lib.hid (fun h => by split at h <;> omega), by split <;> omega, by split <;> omega, by first | rfl | trivial⟩
                        case measure => simp [intOf]; omega
                    · have HE : Hid (s = sumL L r) := Lib.hid (by rw [HSu.out, List.take_of_length_le (by omega)])
                      obtain ⟨n, hn⟩ : ∃ n, L x.toNat = n := ⟨_, rfl⟩
                      rw [hn] at hcl
                      have HN := Lib.hid hn
                      clear hn
                      by_cases hup : n < 0 ∨ s < n
                      · have hrow : Hid (∀ W : World, Row W gm g.nonterms.length (fun q => .int .i64 (L q)) → Row (W.setCell ⟨gm, x.toNat, none⟩ (.int .i64 s)) gm g.nonterms.length (fun q => .int .i64 (setL L x.toNat s q))) := Lib.hid (fun W hW => Row.setL hW (by omega) s)
                        have hfin : Hid (SoundL g.rules g.nonterms.length (setL L x.toNat s) ∧ lmeas g.nonterms.length (setL L x.toNat s) < lmeas g.nonterms.length L) := Lib.hid ⟨by
                          have := HSL.out.set (r := (x, r)) hRr.out (fun z hz => (HSy.out z hz).1) hx0 (by rw [← HE.out]; exact hs2)
                          rwa [← HE.out] at this, lmeas_lt (by omega) hs2 hs1 (by rw [HN.out]; exact hup)⟩
                        have hcase : n < 0 ∨ (¬ n < 0 ∧ s < n) := by omega
                        clear hup
                        rcases hcase with hcase | ⟨hcase, hcase2⟩
                        all_goals
                          go_wp2
                          go_roundw
                          case rel => exact ⟨true, i + 1, setL L x.toNat s, by omega, rfl, by go_num, ⟨hrow.out _ HRow4.out⟩, ⟨hfin.out.1⟩, ⟨fun h => by cases h⟩, ⟨HB4.out.setCell HGm.out _⟩, ⟨by have := HML.out; have := hfin.out.2; simp only [if_true]; omega⟩⟩
                          case measure => simp [intOf]; omega
                      · have h1 : ¬ n < 0 := by omega
                        have h2 : ¬ s < n := by omega
                        clear hup
                        go_wp2
                        go_roundw
                        case rel => exact ⟨ag, i + 1, L, by omega, rfl, by go_num, HRow4, HSL, ⟨fun h j hj => by
                          rcases Nat.lt_or_ge j i with h' | h'
                          · exact HXL.out h j h'
                          · obtain rfl : j = i := by omega
                            exact HCR.out.2 (fun _ => by rw [HN.out, ← HE.out]; omega)⟩, HB4, HML⟩
                        case measure => simp [intOf]; omega
              · obtain rfl : i = g.rules.length := by omega
                go_wp2
                go_roundg (2 * lmeas g.nonterms.length L + (if ag then 1 else 0))
                case rel => exact ⟨ag, L, rfl, HRowL, HSL, HXL, HBL, ⟨rfl⟩⟩
                case measure => have h1 := HML.out; have h2 := HM0.out; simp at h2; cases ag <;> simp at h1 ⊢ <;> omega
  · have HOK := Lib.hid hok
    have hk0 : (((checkN g).1 : Int) == 0) = false := by rw [beq_eq_false_iff_ne]; omega
    clear hok
    go_enter Tryd.func18, Tryd.ntmps18
    go_wp2_with (go_at_call 40; refine HCk.out.mono ?_; rintro e w2 ⟨rfl, hb2⟩; have HB2 := Lib.hid hb2; clear hb2)
    go_ret2
    exact .inl ⟨rfl, HOK.out, below_next HB1.out HB2.out⟩
end Go.Proofs.YtagcmhnanngfbaaDoor.Hand
