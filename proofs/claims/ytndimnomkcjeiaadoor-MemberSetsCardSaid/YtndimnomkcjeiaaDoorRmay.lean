/- Contract of dovetailref24.May. -/
import Derived.Test.YtndimnomkcjeiaaDoorMemC
import Derived.Test.YtndimnomkcjeiaaDoorRef03
namespace Go.Proofs.YtndimnomkcjeiaaDoor.Hand
open Go.RowKit Go.Proofs.YtndimnomkcjeiaaDoorW.PrintWords Go.Proofs.YtndimnomkcjeiaaDoorW.PrintMore Go.Proofs.YtndimnomkcjeiaaDoor.Math

set_option maxHeartbeats 1600000 in
set_option maxRecDepth 100000 in
theorem rmay_calls (v : Value) (g : Gr) (At : Option Addr) (ct : Nat) (tk : List Int) (w : World) (hv : GramAt w v g) (hlc : tk.length ≤ ct) (hr : Kd.C (Kd.int .i64) w At tk.length tk) :
    Calls Tryd.prog 33 #[v, .slice At tk.length ct] w fun e w' => e = .returned (.int .i64 ((mayN g tk).1 : Nat)) ∧ Below w.heap.size w w' := by
  have HV := Lib.hid hv
  obtain ⟨AT, cT, AN, cN, AR, cR, rfl, q1, q2, q3, q4, q5, q6⟩ := hv
  have l1 := q4.2.1
  have l3 := q6.2.1
  have hlen := hr.2.1
  obtain ⟨w1, hw1⟩ : ∃ w1, w.alloc (.cells #[.slice AT g.terms.length cT, .slice AN g.nonterms.length cN, .int .i64 g.ax, .slice AR g.rules.length cR] 25) = w1 := ⟨_, rfl⟩
  have hb1 : Below w.heap.size w w1 := by rw [← hw1]; exact below_alloc (Below.refl _ _) _
  have hk1 : w1.heap[w.heap.size]? = some (.cells #[.slice AT g.terms.length cT, .slice AN g.nonterms.length cN, .int .i64 g.ax, .slice AR g.rules.length cR] 25 (0, 0)) := by rw [← hw1]; exact heap_alloc_new w _
  obtain ⟨c0, c1, c2, c3⟩ := blk_cells2 hk1
  have HB1 := Lib.hid hb1
  have HK1 := Lib.hid hk1
  have HC := Lib.hid (rcheck_calls _ g w1 (HV.out.below hb1))
  have HR := Lib.hid (Kd.C_below q6 hb1)
  have HT := Lib.hid (Kd.C_below hr hb1)
  clear hb1 hk1 q4 q5 q6 hr
  by_cases h0 : (checkN g).1 = 0
  case neg =>
    have HM : Hid (mayN g tk = checkN g) := Lib.hid (by unfold mayN; rw [if_pos h0])
    have h0I : (((checkN g).1 : Int) == 0) = false := by rw [beq_eq_false_iff_ne]; omega
    have h0J : (((checkN g).1 : Int) != 0) = true := by simp; omega
    have HH := Lib.hid h0
    clear h0
    go_enter Tryd.func33, Tryd.ntmps33
    go_wp2_with (go_at_call 45; refine HC.out.mono ?_; rintro e w2 ⟨rfl, hb2⟩; have HB2 := Lib.hid hb2; clear hb2)
    go_ret
    exact ⟨by rw [HM.out]; rfl, below_next HB1.out HB2.out⟩
  obtain ⟨z1, z2, z3, z4, z5, z6, z7⟩ := checkN_zero h0
  have HZ := Lib.hid z7
  clear z3 z4 z7
  have hmk : ∀ r, r ∈ g.rules → r.2.length ≤ 32 := fun r hr => ruleN_len (HZ.out r hr)
  have HMk := Lib.hid hmk
  have HM : Hid (mayN g tk = if 40 < tk.length ∨ 512 < sizeN g.rules then (12, -1) else if tk.any (tokBad g.terms.length) = true then (1, -1) else (0, -1)) := Lib.hid (by unfold mayN; rw [if_neg (by simp [h0])])
  rw [h0] at HC
  clear hmk h0
  by_cases a1 : 40 < tk.length
  · have HF : Hid (mayN g tk = (12, -1)) := Lib.hid (by rw [HM.out, if_pos (.inl a1)])
    go_enter Tryd.func33, Tryd.ntmps33
    go_wp2_with (go_at_call 45; refine HC.out.mono ?_; rintro e w2 ⟨rfl, hb2⟩; have HB2 := Lib.hid hb2; clear hb2)
    go_ret
    exact ⟨by rw [HF.out]; rfl, below_next HB1.out HB2.out⟩
  · go_enter Tryd.func33, Tryd.ntmps33
    go_wp2_with (go_at_call 45; refine HC.out.mono ?_; rintro e w2 ⟨rfl, hb2⟩; have HB2 := Lib.hid hb2; have HK2 := Lib.hid (gblk_keep' HK1.out hb2); obtain ⟨d0, d1, d2, d3⟩ := blk_cells2 HK2.out; clear hb2)
    clear c0 c1 c2 c3
    have HB4 := Lib.hid (below_next HB1.out HB2.out)
    have HR2 := Lib.hid (Kd.C_below HR.out HB2.out)
    have HT2 := Lib.hid (Kd.C_below HT.out HB2.out)
    go_loopw [7, 8] (fun v x wr => ∃ k : Nat, k ≤ g.rules.length ∧ v = .int .i64 (sizeN (g.rules.take k) : Nat) ∧ x = .int .i64 k ∧ Hid (sizeN (g.rules.take k) ≤ 512) ∧ wr = w2) (fun _ x _ => g.rules.length - (intOf x).toNat)
    case atStart => exact ⟨0, by omega, by simp [sizeN], rfl, Lib.hid (by simp [sizeN]), rfl⟩
    case round =>
      obtain ⟨k, hk, rfl, rfl, HS, rfl⟩ := hrel
      have hs5 := HS.out
      by_cases hlt : k < g.rules.length
      · obtain ⟨ad, x, B, c, r, rfl, k1, k2, hrc, hr, HD⟩ := at_rule HR2.out k hlt
        have hr32 : r.length ≤ 32 := by have := HMk.out (g.rules.getD k (0, [])) (getD_mem _ _ _ hlt); rw [HD.out] at this; exact this
        have HSk : Hid (sizeN (g.rules.take (k + 1)) = sizeN (g.rules.take k) + r.length) := Lib.hid (by rw [take_snocD _ _ (0, []) hlt, sizeN_snoc, HD.out])
        have HTot : Hid (sizeN (g.rules.take (k + 1)) ≤ sizeN g.rules) := Lib.hid (sizeN_take _ _)
        clear hr
        obtain ⟨sk, hske⟩ : ∃ sk, sizeN (g.rules.take k) = sk := ⟨_, rfl⟩
        rw [hske] at hs5 HSk ⊢
        clear hske
        by_cases h5 : 512 < sk + r.length
        · have HF : Hid (mayN g tk = (12, -1)) := Lib.hid (by have h1 := HSk.out; have h2 := HTot.out; rw [HM.out, if_pos (.inr (by omega))])
          have h6 : (512 : Int) - sk < (r.length : Int) := by omega
          go_wp2
          go_ret
          exact ⟨by rw [HF.out]; rfl, HB4.out⟩
        · have h6 : ¬ (512 : Int) - sk < (r.length : Int) := by omega
          go_wp2
          go_roundw
          case rel => exact ⟨k + 1, by omega, by rw [HSk.out]; go_num, by go_num, Lib.hid (by rw [HSk.out]; omega), by first | rfl | trivial⟩
          case measure => simp [intOf]; omega
      · have hall : g.rules.take k = g.rules := List.take_of_length_le (by omega)
        rw [hall] at hs5
        have HF : Hid (mayN g tk = if tk.any (tokBad g.terms.length) = true then (1, -1) else (0, -1)) := Lib.hid (by rw [HM.out, if_neg (by omega)])
        clear hs5 hall
        obtain ⟨wo, rfl⟩ : ∃ wo : World, wo = wr := ⟨_, rfl⟩
        go_wp2
        clear d0 d1 d2 d3
        go_loopw [9] (fun x wr2 => ∃ j : Nat, j ≤ tk.length ∧ x = .int .i64 j ∧ Hid (∃ n, wr2 = wo.drewN n) ∧ Hid ((tk.take j).any (tokBad g.terms.length) = false)) (fun x _ => tk.length - (intOf x).toNat)
        case atStart => exact ⟨0, by omega, rfl, Lib.hid ⟨0, rfl⟩, Lib.hid (by simp)⟩
        case round =>
          obtain ⟨j, hj, rfl, HW, HY⟩ := hrel
          have HB5 : Hid (Below w.heap.size w wr) := Lib.hid (by obtain ⟨n, e⟩ := HW.out; rw [e]; exact pw_below_drewN HB4.out n)
          have HK5 := Lib.hid (show wr.heap[w.heap.size]? = some (.cells #[.slice AT g.terms.length cT, .slice AN g.nonterms.length cN, .int .i64 g.ax, .slice AR g.rules.length cR] 25 (0, 0)) by obtain ⟨n, e⟩ := HW.out; rw [e]; exact gblk_keep' HK2.out (pw_below_drewN (Below.refl _ _) n))
          have HT5 := Lib.hid (show Kd.C (Kd.int .i64) wr At tk.length tk by obtain ⟨n, e⟩ := HW.out; rw [e]; exact Kd.C_drewN HT2.out n)
          obtain ⟨f0, f1, f2, f3⟩ := blk_cells2 HK5.out
          by_cases hjt : j < tk.length
          · obtain ⟨ad2, y, rfl, hc2, HD2⟩ := at_scalar HT5.out j hjt 0
            by_cases b1 : y < 0
            · have HG : Hid (mayN g tk = (1, -1)) := Lib.hid (by
                rw [HF.out, if_pos (List.any_eq_true.2 ⟨y, by rw [← HD2.out]; exact getD_mem tk j 0 hjt, by simp [tokBad, b1]⟩)])
              have b1D : decide (y < 0) = true := by simp [b1]
              go_wp2
              go_quiet (fail)
              go_wp2
              go_ret
              exact ⟨by rw [HG.out]; rfl, pw_below_drewN HB5.out _⟩
            · by_cases b2 : (g.terms.length : Int) ≤ y
              · have HG : Hid (mayN g tk = (1, -1)) := Lib.hid (by
                  rw [HF.out, if_pos (List.any_eq_true.2 ⟨y, by rw [← HD2.out]; exact getD_mem tk j 0 hjt, by simp [tokBad, b2]⟩)])
                go_wp2
                go_quiet (fail)
                go_wp2
                go_ret
                exact ⟨by rw [HG.out]; rfl, pw_below_drewN HB5.out _⟩
              · have HG : Hid ((tk.take (j + 1)).any (tokBad g.terms.length) = false) := Lib.hid (by rw [tok_take_snoc tk _ j hjt, HY.out, HD2.out]; simp [tokBad]; omega)
                go_wp2
                go_quiet (fail)
                go_wp2
                go_roundw
                case rel => exact ⟨j + 1, by omega, by go_num, Lib.hid (by obtain ⟨n, e⟩ := HW.out; exact ⟨_, by rw [e, World.drewN_drewN]⟩), HG⟩
                case measure => simp [intOf]; omega
          · have HG : Hid (mayN g tk = (0, -1)) := Lib.hid (by
              have := HY.out
              rw [List.take_of_length_le (by omega)] at this
              rw [HF.out, if_neg (by simp [this])])
            go_wp2
            go_ret
            exact ⟨by rw [HG.out]; rfl, HB5.out⟩
end Go.Proofs.YtndimnomkcjeiaaDoor.Hand
