/- The texts that the statement's proof stands on, part 4: XMrules. -/
import Derived.Test.YtndimnomkcjeiaaDoorZMemberRules3
/- MemberRules: the walk. -/
namespace Go.Proofs.YtndimnomkcjeiaaDoor.Hand
open Go.RowKit Go.Proofs.YtndimnomkcjeiaaDoorW.PrintWords Go.Proofs.YtndimnomkcjeiaaDoorW.PrintMore Go.Proofs.YtndimnomkcjeiaaDoor.Math

theorem SetsRes.yes {w0 w' : World} {A : Nat → Addr} {g : Gr} {tk : List Int} {e : Ending} (h : SetsRes w0 A g tk e w') (hok : (mayN g tk).1 = 0) : ∃ O Bs Tn, e = .returned (.tuple #[.slice (some ⟨O, 0, none⟩) (tk.length + 1) (tk.length + 1), .nilIface]) ∧ SetsAt w0 g tk O Bs Tn w' := by
  rcases h with ⟨u, h1, h2, _⟩ | ⟨O, Bs, Tn, h1, _, h3⟩
  · exact absurd hok h2
  · exact ⟨O, Bs, Tn, h1, h3⟩
theorem SetsRes.no {w0 w' : World} {A : Nat → Addr} {g : Gr} {tk : List Int} {e : Ending} (h : SetsRes w0 A g tk e w') (hok : ¬ (mayN g tk).1 = 0) : ∃ u, e = .returned (.tuple #[.slice none 0 0, u]) ∧ ErrV w' A u (mayN g tk).1 (mayN g tk).2 ∧ Below w0.heap.size w0 w' := by
  rcases h with ⟨u, h1, h2, h3, h4⟩ | ⟨O, Bs, Tn, h1, h2, _⟩
  · exact ⟨u, h1, h3, h4⟩
  · exact absurd h2 hok
theorem may_okN {g : Gr} {tk : List Int} (hok : (mayN g tk).1 = 0) : (checkN g).1 = 0 ∧ tk.length ≤ 40 := by
  unfold mayN at hok
  split at hok
  · rename_i h; exact absurd hok h
  · rename_i h
    split at hok
    · cases hok
    · exact ⟨by omega, by omega⟩
set_option maxHeartbeats 4000000 in
set_option maxRecDepth 100000 in
theorem memberRules_walk {w : World} (g : Gr) (v : Value) (hg : GramAt w v g ∧ GramB g) (At : Option Addr) (ct : Nat) (tk : List Int)
    (ht : Kd.C (Kd.int .i64) w At tk.length tk ∧ tk.length * 8 ≤ 140737488351232 ∧ tk.length ≤ ct ∧ ∀ x ∈ tk, (Lit.int .i64 x).wf = true) (hE : ∃ A, Errs w A) :
    Calls Tryd.prog 8 #[v, .slice At tk.length ct] w fun e w' => e = .returned (.bool true) ∧ Below w.heap.size w w' := by
  obtain ⟨hv, hB⟩ := hg
  obtain ⟨hr, hl8, hlc, -⟩ := ht
  obtain ⟨A, hE⟩ := hE
  have HV := Lib.hid hv
  obtain ⟨AT, cT, AN, cN, AR, cR, rfl, q1, q2, q3, q4, q5, q6⟩ := hv
  have hlr := q6.2.1
  have hlt := hr.2.1
  obtain ⟨w1, hw1⟩ : ∃ w1, w.alloc (.cells #[.slice AT g.terms.length cT, .slice AN g.nonterms.length cN, .int .i64 g.ax, .slice AR g.rules.length cR] 25) = w1 := ⟨_, rfl⟩
  have hb1 : Below w.heap.size w w1 := by rw [← hw1]; exact below_alloc (Below.refl _ _) _
  have hk1 : w1.heap[w.heap.size]? = some (.cells #[.slice AT g.terms.length cT, .slice AN g.nonterms.length cN, .int .i64 g.ax, .slice AR g.rules.length cR] 25 (0, 0)) := by rw [← hw1]; exact heap_alloc_new w _
  have HB1 := Lib.hid hb1
  have HK1 := Lib.hid hk1
  have HG1 := Lib.hid (HV.out.below hb1)
  have HT1 := Lib.hid (Kd.C_below hr hb1)
  have HE1 := Lib.hid (hE.below hb1)
  have HR1 := Lib.hid (Kd.C_below q6 hb1)
  have HLG := Lib.hid (fun (W : World) (hW : Below w1.heap.size w1 W) => lentGrammar_calls _ g W (HG1.out.below hW) (by have := hB.terms; omega) (by have := hB.nonterms; omega) (by have := hB.rules; omega) (fun r hr => by have := hB.right r hr; omega))
  have HLI := Lib.hid (fun (W : World) (hW : Below w1.heap.size w1 W) => lentInts_calls At ct tk W (Kd.C_below HT1.out hW) (by omega))
  have HKn := Lib.hid (known_calls w1 A HE1.out)
  clear hb1 hk1 hE hB q4 q5 q6 hr hl8
  by_cases hok : (mayN g tk).1 = 0
  · have HOK := Lib.hid hok
    obtain ⟨hc0, hn40⟩ := may_okN hok
    obtain ⟨z1, z2, z3, z4, z5, z6, z7⟩ := checkN_zero hc0
    have HZ : Hid (RulesIn g.terms.length g.nonterms.length g.rules) := Lib.hid z7
    have hN60 : g.nonterms.length ≤ 60 := by omega
    have hax0 : (0 : Int) ≤ g.ax := z5
    have hax1 : g.ax < 60 := by omega
    have HAx : Hid (g.ax.toNat < g.nonterms.length) := Lib.hid (by omega)
    have hFK : fromK g tk g.ax = 0 := by unfold fromK; rw [if_neg (by simp [hok]), if_neg (by omega)]
    have HFK := Lib.hid hFK
    obtain ⟨n1, hn1⟩ : ∃ n1 : Nat, n1 = tk.length + 1 := ⟨_, rfl⟩
    have HN1 := Lib.hid hn1
    have hn1I : ((tk.length : Int) + 1) = (n1 : Int) := by omega
    have hn41 : n1 ≤ 41 := by omega
    clear z3 z4 z5 z6 z7 hc0 hok hn1 hFK
    go_enter Tryd.func8, Tryd.ntmps8
    go_upto_region 10 with (first
      | (go_at_call 22; refine HKn.out.mono ?_; rintro e w3 ⟨rfl, hb3⟩; have HB3 := Lib.hid hb3; obtain ⟨d0, d1, d2, d3⟩ := blk_cells2 (gblk_keep' HK1.out hb3); clear hb3)
      | (go_at_call 18; refine (mderives_calls _ g Al8 cl8 tk w8 A (HE1.out.below HB8.out) (HLt7.out.below Q8.out) (by omega) HRl8.out).mono ?_; rintro e w9 ⟨u9, r9, rfl, hu9, hb9⟩; rw [HFK.out] at hu9; obtain rfl := hu9.nil_of rfl; have HB9 := Lib.hid (below_next HB8.out hb9); have Q9 := Lib.hid (below_next R8.out hb9); clear d0 d1 d2 d3; obtain ⟨d0, d1, d2, d3⟩ := blk_cells2 (gblk_keep' HK1.out HB9.out); clear hu9 hb9)
      | (go_at_call 12; refine (msets_calls _ g Al5 cl5 tk w5 A (HE1.out.below HB5.out) (HLt4.out.below Q5.out) (by omega) HRl5.out).mono ?_; rintro e w6 h6; obtain ⟨O, Bs, Tn, rfl, hs6⟩ := h6.yes HOK.out; rw [← HN1.out]; have HS6 := Lib.hid hs6; have HB6 := Lib.hid (below_next HB5.out hs6.bel); clear d0 d1 d2 d3; obtain ⟨d0, d1, d2, d3⟩ := blk_cells2 (gblk_keep' HK1.out HB6.out); clear h6 hs6)
      | (go_at_call 11; refine (HLI.out w7 HB7.out).mono ?_; rintro e w8 ⟨Al8, cl8, rfl, hcl8, hrl8, hb8⟩; have HRl8 := Lib.hid (lent_C (a := Kd.int .i64) (by have := Kd.R_reads' hrl8; have h2 := this.2.2; rwa [← this.1] at h2)); have HB8 := Lib.hid (below_next HB7.out hb8); have Q8 := Lib.hid hb8; have R8 := Lib.hid (below_next Q7.out hb8); clear hrl8 hb8)
      | (go_at_call 10; refine (HLG.out w6 HB6.out).mono ?_; rintro e w7 ⟨u7, rfl, hu7, hb7⟩; have HLt7 := Lib.hid hu7.plain; have HB7 := Lib.hid (below_next HB6.out hb7); have Q7 := Lib.hid hb7; clear hu7 hb7)
      | (go_at_call 11; refine (HLI.out w4 HB4.out).mono ?_; rintro e w5 ⟨Al5, cl5, rfl, hcl5, hrl5, hb5⟩; have HRl5 := Lib.hid (lent_C (a := Kd.int .i64) (by have := Kd.R_reads' hrl5; have h2 := this.2.2; rwa [← this.1] at h2)); have HB5 := Lib.hid (below_next HB4.out hb5); have Q5 := Lib.hid hb5; clear hrl5 hb5)
      | (go_at_call 10; refine (HLG.out w3 HB3.out).mono ?_; rintro e w4 ⟨u4, rfl, hu4, hb4⟩; have HLt4 := Lib.hid hu4.plain; have HB4 := Lib.hid (below_next HB3.out hb4); clear hu4 hb4))
    obtain ⟨bx, hbx⟩ : ∃ b, fromB g tk g.ax = b := ⟨_, rfl⟩
    rw [hbx]
    have HO9 := Lib.hid (HS6.out.out.below Q9.out)
    have HI9 := Lib.hid (fun i (hi : i ≤ tk.length) => (HS6.out.inn i hi).below Q9.out)
    obtain ⟨x0, hx0⟩ : ∃ x, Tn 0 tk.length = x := ⟨_, rfl⟩
    have hx0l : x0 < 18446744073709551616 := by rw [← hx0]; exact lt_u64 (HS6.out.lim 0 tk.length) (by omega)
    have hbit : (bits BinOp.and IntKind.u64 ((x0 : Int) / 2 ^ g.ax.toNat) 1 == 1) = bx := by
      rw [bit_of hx0l, ← hbx]
      unfold fromB
      refine tb_bool ?_
      have h := HS6.out.is 0 tk.length g.ax.toNat (by omega) (Nat.le_refl _) HAx.out
      unfold tabOf at h
      rw [hasN_nat (by omega) (by omega), Int.toNat_natCast, hx0] at h
      exact h.trans ⟨fun h => ⟨HFK.out, h⟩, fun h => h.2⟩
    have hbb : (bx != bx) = false := bne_self_eq_false _
    have hq1 := HO9.out.cell 0 (by omega)
    have hq2 := (HI9.out 0 (by omega)).cell tk.length (by omega)
    rw [Nat.zero_add, hx0] at hq2
    rw [Nat.sub_zero] at hq1
    have HQ := Lib.hid (And.intro hq1 hq2)
    have HBit := Lib.hid hbit
    have HBb := Lib.hid hbb
    clear hx0 hx0l hbx hq1 hq2 hbit hbb
    go_wp2
    go_loop [10] (fun x => ∃ i : Nat, i ≤ n1 ∧ x = .int .i64 i) (fun x => n1 - (intOf x).toNat)
    case atStart => exact ⟨0, by omega, rfl⟩
    case round =>
      obtain ⟨i, hi, rfl⟩ := hrel
      by_cases hlt : i < n1
      · have hit : i ≤ tk.length := by have := HN1.out; omega
        have hc := HO9.out.cell i (by omega)
        obtain ⟨m, hm⟩ : ∃ m : Nat, m = tk.length - i + 1 := ⟨_, rfl⟩
        rw [← hm] at hc
        have hmI : (((m : Nat) : Int) != (tk.length : Int) - i + 1) = false := by rw [bne_eq_false_iff_eq]; omega
        have hm41 : m ≤ 41 := by omega
        clear hm
        go_wp2
        go_round
        case rel => exact ⟨i + 1, by omega, by go_num⟩
        case measure => simp [intOf]; omega
      · have hnle : ¬ (i : Int) ≤ (tk.length : Int) := by have := HN1.out; omega
        obtain ⟨hq1, hq2⟩ := HQ.out
        have hbit := HBit.out
        have hbb := HBb.out
        rw [← HN1.out] at hq1
        have hnn1 : (tk.length : Int) < (n1 : Int) := by have := HN1.out; omega
        have hnn0 : (0 : Int) < (n1 : Int) := by have := HN1.out; omega
        have HSm := Lib.hid (fun (W : World) (hW : Below w9.heap.size w9 W) => small_calls _ g At ct tk.length W (by omega) (HG1.out.below (below_next HB9.out hW)))
        cases hsb : smallB g tk.length
        · rw [hsb] at HSm
          clear hsb
          go_wp2
          go_quiet (fail)
          go_wp2_with (go_at_call 28; refine (HSm.out _ (by first | exact pw_below_drewN (Below.refl _ _) _ | exact below_drew1 (Below.refl _ _))).mono ?_; rintro e w10 ⟨rfl, hb10⟩; have HB10 := Lib.hid (show Below w9.heap.size w9 w10 from below_next (by first | exact pw_below_drewN (Below.refl _ _) _ | exact below_drew1 (Below.refl _ _)) hb10); clear hb10)
          go_ret
          exact ⟨rfl, below_next HB1.out (below_next HB9.out HB10.out)⟩
        · rw [hsb] at HSm
          clear hsb
          go_wp2
          go_quiet (fail)
          go_wp2_with (go_at_call 28; refine (HSm.out _ (by first | exact pw_below_drewN (Below.refl _ _) _ | exact below_drew1 (Below.refl _ _))).mono ?_; rintro e w10 ⟨rfl, hb10⟩; have HB10 := Lib.hid (show Below w9.heap.size w9 w10 from below_next (by first | exact pw_below_drewN (Below.refl _ _) _ | exact below_drew1 (Below.refl _ _)) hb10); clear hb10)
          clear hq1 hq2 hbit hbb d0 d1 d2 d3
          have HQB := Lib.hid (below_next Q9.out HB10.out)
          have HBB := Lib.hid (below_next HB9.out HB10.out)
          go_loopw [11, 12, 13, 14] (fun a _ _ _ wr => ∃ i d : Nat, i ≤ n1 ∧ a = .int .i64 i ∧ wr = w10.drewN d) (fun a _ _ _ _ => n1 - (intOf a).toNat)
          case atStart => exact ⟨0, 0, by omega, rfl, rfl⟩
          case round =>
            obtain ⟨i, d, hi, rfl, rfl⟩ := hrel
            by_cases hin : i < n1
            · have hit : i ≤ tk.length := by have := HN1.out; omega
              go_wp2
              go_loopw [12, 13, 14] (fun a _ _ wr => ∃ j d : Nat, i ≤ j ∧ j ≤ n1 ∧ a = .int .i64 j ∧ wr = w10.drewN d) (fun a _ _ _ => n1 - (intOf a).toNat)
              case atStart => exact ⟨i, d, by omega, by omega, rfl, rfl⟩
              case round =>
                obtain ⟨j, d, hij, hj, rfl, rfl⟩ := hrel
                by_cases hjn : j < n1
                · have hjt : j ≤ tk.length := by have := HN1.out; omega
                  go_wp2
                  go_loopw [13, 14] (fun c a wr => ∃ k want d : Nat, k ≤ g.rules.length ∧ a = .int .i64 k ∧ c = .int .u64 ((want : Nat) : Int) ∧ wr = w10.drewN d ∧ Hid (SetIs g.nonterms.length want (fun x => ∃ n, n < k ∧ (g.rules.getD n (0, [])).1 = (x : Int) ∧ Cut (tabOf Tn) tk (g.rules.getD n (0, [])).2 i j))) (fun _ a _ => g.rules.length - (intOf a).toNat)
                  case atStart => exact ⟨0, 0, d, by omega, rfl, rfl, rfl, Lib.hid ⟨Nat.two_pow_pos _, fun k _ => by simp⟩⟩
                  case round =>
                    obtain ⟨k, want, d, hk, rfl, rfl, rfl, HWt⟩ := hrel
                    obtain ⟨c0, c1, c2, c3⟩ := blk_cells2 (gblk_keep' HK1.out HBB.out)
                    by_cases hlt2 : k < g.rules.length
                    · obtain ⟨ad, x', B, c, r, rfl, k1, k2, hrc, hrr, HDr⟩ := at_rule (Kd.C_below HR1.out HBB.out) k hlt2
                      have hRr : Hid ((x', r) ∈ g.rules) := Lib.hid (by rw [← HDr.out]; exact getD_mem g.rules k _ hlt2)
                      have hx0 : 0 ≤ x' := (HZ.out.left hRr.out).1
                      have hxN : x' < g.nonterms.length := (HZ.out.left hRr.out).2
                      have HCt := Lib.hid (cuts24_calls HS6.out hN60 At ct (Kd.C_below HT1.out HB6.out) hn40 r B c i j (w10.drewN d) (pw_below_drewN HQB.out d) (Kd.C_drewN hrr d) (fun s hs => by have := HZ.out.sym hRr.out hs; omega) hrc hij hjt)
                      rw [← HN1.out] at HCt
                      have HXr := Lib.hid (show (g.rules.getD k (0, [])).1 = x' ∧ (g.rules.getD k (0, [])).2 = r by rw [HDr.out]; exact ⟨rfl, rfl⟩)
                      clear hrr
                      cases hcut : tb (Cut (tabOf Tn) tk r i j)
                      · rw [hcut] at HCt
                        have HW2 : Hid (SetIs g.nonterms.length want (fun x => ∃ n, n < k + 1 ∧ (g.rules.getD n (0, [])).1 = (x : Int) ∧ Cut (tabOf Tn) tk (g.rules.getD n (0, [])).2 i j)) := Lib.hid (HWt.out.imp (fun x hx => ⟨fun ⟨n, h1, h2⟩ => ⟨n, by omega, h2⟩, fun ⟨n, h1, h2⟩ => by
                          by_cases e : n = k
                          · subst e
                            rw [HXr.out.2] at h2
                            have := tb_yes h2.2
                            rw [hcut] at this; cases this
                          · exact ⟨n, by omega, h2⟩⟩))
                        clear hcut
                        go_wp2_with (go_at_call 29; refine HCt.out.mono ?_; rintro e w' ⟨rfl, n2, rfl⟩)
                        go_roundw
                        case rel => exact ⟨k + 1, want, d + n2, by omega, by go_num, rfl, by first | rfl | rw [World.drewN_drewN], HW2⟩
                        case measure => simp [intOf]; omega
                      · rw [hcut] at HCt
                        have hwl : want < 18446744073709551616 := lt_u64 HWt.out.lt (by omega)
                        have HO : Hid (bits .or .u64 ((want : Nat) : Int) (IntKind.u64.wrap (2 ^ x'.toNat)) = ((want ||| 2 ^ x'.toNat : Nat) : Int)) := Lib.hid (by
                          have e1 : IntKind.u64.wrap ((2 : Int) ^ x'.toNat) = ((2 ^ x'.toNat : Nat) : Int) := by
                            have h := shl_bit x' hx0 (by omega)
                            rw [show min x'.toNat 64 = x'.toNat by omega] at h
                            rw [h, bitN, (inR_iff x').2 ⟨hx0, by omega⟩]; simp
                          have hb : 2 ^ x'.toNat < 18446744073709551616 := Nat.lt_of_lt_of_le (Nat.pow_lt_pow_right (by decide : 1 < 2) (show x'.toNat < 64 by omega)) (by decide)
                          rw [e1, bits_or _ _ hwl hb])
                        have HW2 : Hid (SetIs g.nonterms.length (want ||| 2 ^ x'.toNat) (fun x => ∃ n, n < k + 1 ∧ (g.rules.getD n (0, [])).1 = (x : Int) ∧ Cut (tabOf Tn) tk (g.rules.getD n (0, [])).2 i j)) := Lib.hid (HWt.out.more (by omega) (by omega : x'.toNat < g.nonterms.length) (fun x hx => ⟨fun ⟨n, h1, h2, h3⟩ => by
                          by_cases e : n = k
                          · subst e
                            rw [HXr.out.1] at h2
                            exact .inr (by omega)
                          · exact .inl ⟨n, by omega, h2, h3⟩, fun h => h.elim (fun ⟨n, h1, h2⟩ => ⟨n, by omega, h2⟩) (fun e => ⟨k, by omega, by rw [HXr.out.1]; omega, by rw [HXr.out.2]; exact tb_iff.1 hcut⟩)⟩))
                        clear hcut hwl
                        go_wp2_with (go_at_call 29; refine HCt.out.mono ?_; rintro e w' ⟨rfl, n2, rfl⟩)
                        go_roundw
                        case rel => exact ⟨k + 1, want ||| 2 ^ x'.toNat, d + n2, by omega, by go_num, by rw [HO.out], by first | rfl | rw [World.drewN_drewN], HW2⟩
                        case measure => simp [intOf]; omega
                    · obtain rfl : k = g.rules.length := by omega
                      have HE2 : Hid (Tn i j = want) := Lib.hid (by
                        refine SetIs.eq (N := g.nonterms.length) (P := fun x => ∃ n, n < g.rules.length ∧ (g.rules.getD n (0, [])).1 = (x : Int) ∧ Cut (tabOf Tn) tk (g.rules.getD n (0, [])).2 i j) ⟨HS6.out.lim i j, fun x hx => ?_⟩ HWt.out
                        rw [← HS6.out.is.rule HZ.out hx hij hjt]
                        unfold tabOf
                        rw [hasN_nat (by omega) (by omega), Int.toNat_natCast])
                      have p1 := (HO9.out.below HB10.out).cell i (by omega)
                      have p2 := ((HI9.out i hit).below HB10.out).cell (j - i) (by omega)
                      rw [show i + (j - i) = j by omega, HE2.out] at p2
                      obtain ⟨m, hm⟩ : ∃ m : Nat, tk.length - i + 1 = m := ⟨_, rfl⟩
                      rw [hm] at p1
                      have hji : ((j : Int) - i) = ((j - i : Nat) : Int) := by omega
                      have hjm : ((j - i : Nat) : Int) < (m : Int) := by omega
                      have hj0 : (0 : Int) ≤ ((j - i : Nat) : Int) := by omega
                      have hww : ((want : Int) != (want : Int)) = false := bne_self_eq_false _
                      clear hm
                      go_wp2
                      go_roundw
                      case rel => exact ⟨j + 1, d, by omega, by omega, by go_num, rfl⟩
                      case measure => simp [intOf]; omega
                · have hjle : ¬ (j : Int) ≤ (tk.length : Int) := by have := HN1.out; omega
                  go_wp2
                  go_roundw
                  case rel => exact ⟨i + 1, d, by omega, by go_num, rfl⟩
                  case measure => simp [intOf]; omega
            · have hile : ¬ (i : Int) ≤ (tk.length : Int) := by have := HN1.out; omega
              go_wp2
              go_ret
              exact ⟨rfl, pw_below_drewN (below_next HB1.out HBB.out) _⟩
  · have HOK := Lib.hid hok
    have hFK : fromK g tk g.ax = (mayN g tk).1 := by unfold fromK; rw [if_pos hok]
    have hFB : fromB g tk g.ax = false := tb_no (fun h => hok (by rw [← hFK]; exact h.1))
    have HFK := Lib.hid hFK
    have HFB := Lib.hid hFB
    clear hok hFK hFB
    obtain ⟨k, hk⟩ : ∃ k, (mayN g tk).1 = k := ⟨_, rfl⟩
    have HKk := Lib.hid hk
    have f3 : ((k : Int) == (k : Int)) = true := beq_self_eq_true _
    clear hk
    go_enter Tryd.func8, Tryd.ntmps8
    go_wp2_with (first
      | (go_at_call 22; refine HKn.out.mono ?_; rintro e w3 ⟨rfl, hb3⟩; have HB3 := Lib.hid hb3; obtain ⟨d0, d1, d2, d3⟩ := blk_cells2 (gblk_keep' HK1.out hb3); clear hb3)
      | (go_at_call 14; refine (kind_calls (HE1.out.below HB10.out) (HU9.out.below R10.out)).mono ?_; rintro e w11 ⟨rfl, hb11⟩; have HB11 := Lib.hid (below_next HB10.out hb11); clear hb11)
      | (go_at_call 14; refine (kind_calls (HE1.out.below HB9.out) (HU6.out.below Q9.out)).mono ?_; rintro e w10 ⟨rfl, hb10⟩; have HB10 := Lib.hid (below_next HB9.out hb10); have R10 := Lib.hid hb10; clear hb10)
      | (go_at_call 18; refine (mderives_calls _ g Al8 cl8 tk w8 A (HE1.out.below HB8.out) (HLt7.out.below Q8.out) (by omega) HRl8.out).mono ?_; rintro e w9 ⟨u9, r9, rfl, hu9, hb9⟩; rw [HFB.out]; rw [HFK.out, HKk.out] at hu9; have HU9 := Lib.hid hu9; obtain ⟨T9, p9, hT9, rfl⟩ := hu9.iface_of (by rw [← HKk.out]; exact HOK.out); have HB9 := Lib.hid (below_next HB8.out hb9); have Q9 := Lib.hid (below_next R8.out hb9); clear d0 d1 d2 d3 hu9 hb9 hT9)
      | (go_at_call 12; refine (msets_calls _ g Al5 cl5 tk w5 A (HE1.out.below HB5.out) (HLt4.out.below Q5.out) (by omega) HRl5.out).mono ?_; rintro e w6 h6; obtain ⟨u6, rfl, hu6, hb6⟩ := h6.no HOK.out; rw [HKk.out] at hu6; have HU6 := Lib.hid hu6; obtain ⟨T6, p6, hT6, rfl⟩ := hu6.iface_of (by rw [← HKk.out]; exact HOK.out); have HB6 := Lib.hid (below_next HB5.out hb6); clear d0 d1 d2 d3; obtain ⟨d0, d1, d2, d3⟩ := blk_cells2 (gblk_keep' HK1.out HB6.out); clear h6 hu6 hb6 hT6)
      | (go_at_call 11; refine (HLI.out w7 HB7.out).mono ?_; rintro e w8 ⟨Al8, cl8, rfl, hcl8, hrl8, hb8⟩; have HRl8 := Lib.hid (lent_C (a := Kd.int .i64) (by have := Kd.R_reads' hrl8; have h2 := this.2.2; rwa [← this.1] at h2)); have HB8 := Lib.hid (below_next HB7.out hb8); have Q8 := Lib.hid hb8; have R8 := Lib.hid (below_next Q7.out hb8); clear hrl8 hb8)
      | (go_at_call 10; refine (HLG.out w6 HB6.out).mono ?_; rintro e w7 ⟨u7, rfl, hu7, hb7⟩; have HLt7 := Lib.hid hu7.plain; have HB7 := Lib.hid (below_next HB6.out hb7); have Q7 := Lib.hid hb7; clear hu7 hb7)
      | (go_at_call 11; refine (HLI.out w4 HB4.out).mono ?_; rintro e w5 ⟨Al5, cl5, rfl, hcl5, hrl5, hb5⟩; have HRl5 := Lib.hid (lent_C (a := Kd.int .i64) (by have := Kd.R_reads' hrl5; have h2 := this.2.2; rwa [← this.1] at h2)); have HB5 := Lib.hid (below_next HB4.out hb5); have Q5 := Lib.hid hb5; clear hrl5 hb5)
      | (go_at_call 10; refine (HLG.out w3 HB3.out).mono ?_; rintro e w4 ⟨u4, rfl, hu4, hb4⟩; have HLt4 := Lib.hid hu4.plain; have HB4 := Lib.hid (below_next HB3.out hb4); clear hu4 hb4))
    go_ret
    exact ⟨rfl, below_next HB1.out HB11.out⟩
end Go.Proofs.YtndimnomkcjeiaaDoor.Hand
