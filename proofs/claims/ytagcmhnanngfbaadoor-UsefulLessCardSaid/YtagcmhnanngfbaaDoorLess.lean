/- The walk of UsefulLess. -/
import Derived.Test.YtagcmhnanngfbaaDoorKnown
import Derived.Test.YtagcmhnanngfbaaDoorHead
namespace Go.Proofs.YtagcmhnanngfbaaDoor.Hand
open Go.RowKit Go.Proofs.YtagcmhnanngfbaaDoorW.PrintWords Go.Proofs.YtagcmhnanngfbaaDoorW.PrintMore Go.Proofs.YtagcmhnanngfbaaDoor.Math

theorem PD.more {R : List (Int × List Int)} (T : List (Int × List Int)) {k : Nat} (h : PD R k) : PD (R ++ T) k := by
  induction h with
  | mk r hr _ ih => exact .mk r (List.mem_append_left _ hr) ih
theorem RD.more {R : List (Int × List Int)} (T : List (Int × List Int)) {ax : Nat} {I : Nat → Prop} {k : Nat} (h : RD R ax I k) : RD (R ++ T) ax I k := by
  induction h with
  | base => exact .base
  | step r hr _ h2 s hs h0 ih => exact .step r (List.mem_append_left _ hr) ih h2 s hs h0
theorem setOf_within {N : Nat} (hN : N ≤ 64) {P Q : Nat → Prop} (h : ∀ k, P k → Q k) : minusN (setOf N P) (setOf N Q) = 0 := by
  refine (within_iff (setOf_lt hN P)).2 (fun i hi => ?_)
  rcases Nat.lt_or_ge i N with hlt | hge
  · exact ((setOf_is hN Q).is i hlt).2 (h i (((setOf_is hN P).is i hlt).1 hi))
  · exfalso
    have := Nat.testBit_lt_two_pow (Nat.lt_of_lt_of_le (setOf_is hN P).lt (Nat.pow_le_pow_right (by decide) hge))
    rw [this] at hi; cases hi
theorem two_at {w2 w' : World} {a0 a1 : Addr} {v0 v1 : Value} (h0 : w2.cell? a0 = some v0) (h1 : w2.cell? a1 = some v1) (hb : Below w2.heap.size w2 w') : w'.cell? a0 = some v0 ∧ w'.cell? a1 = some v1 ∧ Aside0 (Below w2.heap.size w2 w') :=
  ⟨(hb.cell (World.block_lt_of_cell? _ _ h0)).trans h0, (hb.cell (World.block_lt_of_cell? _ _ h1)).trans h1, ⟨hb⟩⟩
/-- The grammar with one rule more. -/
def moreG (g : Gr) (r : Int × List Int) : Gr := { g with rules := g.rules ++ [r] }
theorem us_within {g : Gr} (hc : (checkN g).1 = 0) {x y : Nat} (h : ∀ k, usP g x k → usP g y k) : minusN (usN g x) (usN g y) = 0 := by
  have := (GOk.of hc).size
  unfold usN
  rw [if_pos hc, if_pos hc]
  exact setOf_within (by omega) h
theorem us_more {g : Gr} {r : Int × List Int} (hc : (checkN g).1 = 0) (hm : (checkN (moreG g r)).1 = 0) {x : Nat} (hx : x < 2) : minusN (usN g x) (usN (moreG g r) x) = 0 := by
  have := (GOk.of hc).size
  unfold usN
  rw [if_pos hc, if_pos hm]
  refine setOf_within (by omega) (fun k hk => ?_)
  have : x = 0 ∨ x = 1 := by omega
  rcases this with rfl | rfl
  · exact PD.more _ hk
  · exact RD.more _ hk
theorem us_lt (g : Gr) (x : Nat) : usN g x < 18446744073709551616 := by
  unfold usN
  split
  · rename_i h
    have := (GOk.of h).size
    exact setOf_lt (by omega) _
  · decide
theorem us_none {g : Gr} (hc : ¬ (checkN g).1 = 0) (x : Nat) : usN g x = 0 := by unfold usN; rw [if_neg hc]
theorem us_ax {g : Gr} (hc : (checkN g).1 = 0) : (usN g 1).testBit g.ax.toNat = true := by
  have hg := GOk.of hc
  have := hg.size
  have h0 := hg.ax0
  have h1 := hg.ax1
  unfold usN
  rw [if_pos hc]
  exact ((setOf_is (by omega) (usP g 1)).is g.ax.toNat (by omega)).2 .base
theorem lwithin_calls (s t : Nat) (hs : s < 18446744073709551616) (ht : t < 18446744073709551616) (w : World) : Quiet 28 #[.int .u64 s, .int .u64 t] w (.bool (decide (minusN s t = 0))) := by
  unfold Quiet
  have H := Lib.hid (bits_andNot s t hs ht)
  clear hs ht
  go_enter Tryd.func28, Tryd.ntmps28
  go_wp2
  go_ret
  exact ⟨ret_bool (by rw [H.out, Bool.eq_iff_iff, beq_iff_eq, decide_eq_true_eq]; exact Int.natCast_eq_zero), 0, rfl⟩
set_option maxHeartbeats 4000000 in
set_option maxRecDepth 100000 in
theorem usefulLess_walk {w : World} (g : Gr) (v : Value) (hg : GramAt w v g ∧ GramB g) (x : Int) (B : Option Addr) (c : Nat) (l : List Int) (hl : Kd.C (Kd.int .i64) w B l.length l ∧ l.length * 8 ≤ 140737488351232 ∧ l.length ≤ c ∧ (Lit.int .i64 x).wf = true ∧ ∀ s ∈ l, (Lit.int .i64 s).wf = true) (hE : ∃ A, Errs w A) :
    Calls Tryd.prog 7 #[v, .agg #[.int .i64 x, .slice B l.length c]] w fun e w' => e = .returned (.bool true) ∧ Below w.heap.size w w' := by
  obtain ⟨hv, hB⟩ := hg
  obtain ⟨A, hE⟩ := hE
  obtain ⟨hlC, hlB, hlc, -, -⟩ := hl
  have HV := Lib.hid hv
  obtain ⟨AT, cT, AN, cN, AR, cR, rfl, q1, q2, q3, q4, q5, q6⟩ := hv
  clear q4 q5 q6
  obtain ⟨w1, hw1⟩ : ∃ w1, w.alloc (.cells #[.slice AT g.terms.length cT, .slice AN g.nonterms.length cN, .int .i64 g.ax, .slice AR g.rules.length cR] 25) = w1 := ⟨_, rfl⟩
  have hb1 : Below w.heap.size w w1 := by rw [← hw1]; exact below_alloc (Below.refl _ _) _
  have hk1 : w1.heap[w.heap.size]? = some (.cells #[.slice AT g.terms.length cT, .slice AN g.nonterms.length cN, .int .i64 g.ax, .slice AR g.rules.length cR] 25 (0, 0)) := by rw [← hw1]; exact heap_alloc_new w _
  have hs1 : w1.heap.size = w.heap.size + 1 := by rw [← hw1]; exact World.size_alloc _ _
  obtain ⟨w2, hw2⟩ : ∃ w2, w1.alloc (.cells #[.int .i64 x, .slice B l.length c] 56) = w2 := ⟨_, rfl⟩
  have hb2 : Below w1.heap.size w1 w2 := by rw [← hw2]; exact below_alloc (Below.refl _ _) _
  have r0 : w2.cell? ⟨w.heap.size + 1, 0, none⟩ = some (.int .i64 x) := by rw [← hs1, ← hw2]; simp [go_sem]
  have r1 : w2.cell? ⟨w.heap.size + 1, 1, none⟩ = some (.slice B l.length c) := by rw [← hs1, ← hw2]; simp [go_sem]
  have HB2 := Lib.hid (below_next hb1 hb2)
  have HK2 := Lib.hid (gblk_keep' hk1 hb2)
  have HG2 := Lib.hid (HV.out.below HB2.out)
  have HE2 := Lib.hid (hE.below HB2.out)
  have HL2 := Lib.hid (Kd.C_below hlC HB2.out)
  have HR0 := Lib.hid r0
  have HR1 := Lib.hid r1
  have HLB := Lib.hid (show (l.length + 1) * 8 ≤ 140737488355328 by omega)
  have HRB := Lib.hid (show (g.rules.length + 2) * 32 ≤ 140737488355328 by have := hB.rules; omega)
  have HLG := Lib.hid (fun (W : World) (hW : Below w2.heap.size w2 W) => lentGrammar_calls _ g W (HG2.out.below hW) (by have := hB.terms; omega) (by have := hB.nonterms; omega) (by have := hB.rules; omega) (fun r hr => by have := hB.right r hr; omega))
  have HKn := Lib.hid (known_calls w2 A HE2.out)
  clear hb1 hk1 hE hB hb2 hlC hlB
  by_cases hok : (checkN g).1 = 0
  · have HOK := Lib.hid hok
    have HC := Lib.hid (GOk.of hok)
    have hax := us_ax hok
    obtain ⟨n0, hn0⟩ : ∃ n, usN g 0 = n := ⟨_, rfl⟩
    obtain ⟨n1, hn1⟩ : ∃ n, usN g 1 = n := ⟨_, rfl⟩
    obtain ⟨n2, hn2⟩ : ∃ n, usN g 2 = n := ⟨_, rfl⟩
    have H20 : Hid (minusN n2 n0 = 0) := Lib.hid (by rw [← hn2, ← hn0]; exact us_within hok (fun k h => h.1))
    have H21 : Hid (minusN n2 n1 = 0) := Lib.hid (by rw [← hn2, ← hn1]; exact us_within hok (fun k h => RD.imp (fun r hr _ s hs h0 => trivial) h.2))
    have L0 := Lib.hid (show n0 < 18446744073709551616 by rw [← hn0]; exact us_lt g 0)
    have L1 := Lib.hid (show n1 < 18446744073709551616 by rw [← hn1]; exact us_lt g 1)
    have L2 := Lib.hid (show n2 < 18446744073709551616 by rw [← hn2]; exact us_lt g 2)
    rw [hn1] at hax
    have HAx := Lib.hid hax
    have hax0 : 0 ≤ g.ax := HC.out.ax0
    have hax1 : g.ax < 60 := by have := HC.out.ax1; have := HC.out.size; omega
    have HN0 := Lib.hid hn0
    have HN1 := Lib.hid hn1
    have HN2 := Lib.hid hn2
    have hsh : (bits BinOp.and IntKind.u64 ((n1 : Int) / 2 ^ g.ax.toNat) 1 != 1) = false := by
      have e : ((n1 : Int) / 2 ^ g.ax.toNat) = ((n1 / 2 ^ g.ax.toNat : Nat) : Int) := by push_cast; rfl
      have hb := hax
      rw [Nat.testBit_eq_decide_div_mod_eq] at hb
      have h3 := bits_and (n1 / 2 ^ g.ax.toNat) 1 (Nat.lt_of_le_of_lt (Nat.div_le_self _ _) L1.out) (by decide)
      rw [Nat.and_one_is_mod, of_decide_eq_true hb] at h3
      rw [e]
      exact bne_eq_false_iff_eq.2 h3
    clear hok hax hn0 hn1 hn2
    go_enter Tryd.func7, Tryd.ntmps7
    go_upto_region 11 with (first
      | (go_at_call 25; refine HKn.out.mono ?_; rintro e w3 ⟨rfl, hb3⟩; have HB3 := Lib.hid hb3; obtain ⟨d0, d1, d2, d3⟩ := blk_cells2 (gblk_keep' HK2.out hb3); clear hb3)
      | (go_at_call 10; refine (HLG.out w11 HB11.out).mono ?_; rintro e w12 ⟨u12, rfl, hu12, hb12⟩; obtain ⟨BT, dT, BN, dN, BR, dR, rfl, m1, m2, m3, m4, m5, m6⟩ := hu12; have HM1 := Lib.hid m1; have HM2 := Lib.hid m2; have HM3 := Lib.hid m3; have HT12 := Lib.hid (lent_C (a := Kd.string) m4); have HN12 := Lib.hid (lent_C (a := Kd.string) m5); have HR12 := Lib.hid (lentRules_C m6); clear m1 m2 m3 m4 m5 m6; have HB12 := Lib.hid (below_next HB11.out hb12); clear hb12 d0 d1 d2 d3)
      | (go_at_call 28; refine (lwithin_calls n2 n1 L2.out L1.out w10).mono ?_; rintro e w11 ⟨rfl, m2, hw⟩; rw [H21.out]; have HB11 := Lib.hid (show Below w2.heap.size w2 w11 by rw [hw]; exact pw_below_drewN HB10.out _); clear d0 d1 d2 d3; obtain ⟨d0, d1, d2, d3⟩ := blk_cells2 (gblk_keep' HK2.out HB11.out); clear hw)
      | (go_at_call 28; refine (lwithin_calls n2 n0 L2.out L0.out w9).mono ?_; rintro e w10 ⟨rfl, m1, hw⟩; rw [H20.out]; have HB10 := Lib.hid (show Below w2.heap.size w2 w10 by rw [hw]; exact pw_below_drewN HB9.out _); clear hw)
      | (go_at_call 13; refine (uUseful_calls _ g w8 A (HE2.out.below HB8.out) HLt8.out).mono ?_; rintro e w9 ⟨u9, r9, rfl, hu9, hb9⟩; rw [HN2.out]; have HB9 := Lib.hid (below_next HB8.out hb9); rw [HOK.out] at hu9; obtain rfl := hu9.nil_of rfl; clear d0 d1 d2 d3; obtain ⟨d0, d1, d2, d3⟩ := blk_cells2 (gblk_keep' HK2.out HB9.out); clear hu9 hb9)
      | (go_at_call 12; refine (uReached_calls _ g w6 A (HE2.out.below HB6.out) HLt6.out).mono ?_; rintro e w7 ⟨u7, r7, rfl, hu7, hb7⟩; rw [HN1.out]; have HB7 := Lib.hid (below_next HB6.out hb7); rw [HOK.out] at hu7; obtain rfl := hu7.nil_of rfl; clear d0 d1 d2 d3; obtain ⟨d0, d1, d2, d3⟩ := blk_cells2 (gblk_keep' HK2.out HB7.out); clear hu7 hb7)
      | (go_at_call 11; refine (uProductive_calls _ g w4 A (HE2.out.below HB4.out) HLt4.out).mono ?_; rintro e w5 ⟨u5, r5, rfl, hu5, hb5⟩; rw [HN0.out]; have HB5 := Lib.hid (below_next HB4.out hb5); rw [HOK.out] at hu5; obtain rfl := hu5.nil_of rfl; clear d0 d1 d2 d3; obtain ⟨d0, d1, d2, d3⟩ := blk_cells2 (gblk_keep' HK2.out HB5.out); clear hu5 hb5)
      | (go_at_call 10; refine (HLG.out w7 HB7.out).mono ?_; rintro e w8 ⟨u8, rfl, hu8, hb8⟩; have HLt8 := Lib.hid hu8.plain; have HB8 := Lib.hid (below_next HB7.out hb8); clear hu8 hb8)
      | (go_at_call 10; refine (HLG.out w5 HB5.out).mono ?_; rintro e w6 ⟨u6, rfl, hu6, hb6⟩; have HLt6 := Lib.hid hu6.plain; have HB6 := Lib.hid (below_next HB5.out hb6); clear hu6 hb6)
      | (go_at_call 10; refine (HLG.out w3 HB3.out).mono ?_; rintro e w4 ⟨u4, rfl, hu4, hb4⟩; have HLt4 := Lib.hid hu4.plain; have HB4 := Lib.hid (below_next HB3.out hb4); clear hu4 hb4))
    obtain ⟨hs, hhs, hha⟩ := heads_of HR12.out
    obtain ⟨w13, hw13⟩ : ∃ w13, w12.alloc (.cells #[.slice BT g.terms.length dT, .slice BN g.nonterms.length dN, .int .i64 g.ax, .slice BR g.rules.length dR] 25) = w13 := ⟨_, rfl⟩
    rw [hw13]
    have hb13 : Below w12.heap.size w12 w13 := by rw [← hw13]; exact below_alloc (Below.refl _ _) _
    have hk13 : w13.heap[w12.heap.size]? = some (.cells #[.slice BT g.terms.length dT, .slice BN g.nonterms.length dN, .int .i64 g.ax, .slice BR g.rules.length dR] 25 (0, 0)) := by rw [← hw13]; exact heap_alloc_new w12 _
    have hs13 : w13.heap.size = w12.heap.size + 1 := by rw [← hw13]; exact World.size_alloc _ _
    obtain ⟨e0, e1, e2, e3⟩ := blk_cells2 hk13
    have HHd := Lib.hid (Kd.C_below hhs hb13)
    have HHa := Lib.hid hha
    have HS13 := Lib.hid hs13
    have HK13 := Lib.hid hk13
    have HB13 := Lib.hid hb13
    have HBB13 := Lib.hid (below_next HB12.out hb13)
    have HX0 := Lib.hid ((HBB13.out.cell (World.block_lt_of_cell? _ _ HR0.out)).trans HR0.out)
    have HX1 := Lib.hid ((HBB13.out.cell (World.block_lt_of_cell? _ _ HR1.out)).trans HR1.out)
    have HHl : Hid (hs.length = g.rules.length) := Lib.hid hha.1
    clear hw13 hb13 hk13 hs13 hhs hha hw1 hw2 r0 r1 hs1
    obtain ⟨bM, hbM⟩ : ∃ b, w12.heap.size = b := ⟨_, rfl⟩
    rw [hbM] at e0 e1 e2 e3 ⊢
    have HBM := Lib.hid hbM
    clear hbM
    go_upto_region 13 with (first
      | ((with_reducible refine gate_builtin (b := .append) (xs := #[.tmp 86, .tmp 88]) rfl ?_); at_builtin; refine Kd.R_append_rows KHd (w0 := w13) w13.heap.size rfl (.tmp 86) (.tmp 88) 23 56 (.agg #[.int .i64 0, .slice none 0 0]) 32 rfl Tryd.underlying23 infoRule rfl (by decide) (by omega) (.slice none 0 0) [] hs _ _ _ (fun _ => True) (fun _ => False) rfl rfl (Kd.R_nil _ _ _ _ _) HHd.out (fun _ _ h => h) (fun _ h => h.elim) (fun _ _ => trivial) (Below.refl _ _) (Nat.le_refl _) (by have := HRB.out; simp only [List.length_nil]; omega) ?_; intro v14 w14 ho hb hg hat; have HO14 := Aside0.mk ho; have HB14 := Aside0.mk hb; clear ho hb hg hat))
    obtain ⟨br, hbr⟩ : ∃ b, w.heap.size + 1 = b := ⟨_, rfl⟩
    rw [hbr] at HX0 HX1 ⊢
    clear hbr
    have tok : True := trivial
    go_region_held3 (fun w' => w'.cell? ⟨br, 0, none⟩ = some (.int .i64 x) ∧ w'.cell? ⟨br, 1, none⟩ = some (.slice B l.length c) ∧ Aside0 (Below w13.heap.size w13 w'))
      (first
        | exact two_at HX0.out HX1.out HB16.out
        | exact two_at HX0.out HX1.out (below_alloc HB15.out _)
        | exact two_at HX0.out HX1.out HB15.out
        | exact two_at HX0.out HX1.out HB14.out.drew)
      (first
        | (go_at_call 29; have t_ := tok; have hS := Aside0.mk (by assumption : _ ∧ _ ∧ Aside0 (Below w13.heap.size w13 _)); refine (lentInts_calls B c l _ (Kd.C_below HL2.out (below_next HBB13.out hS.out.2.2.out)) HLB.out).mono ?_; rintro e w15 ⟨A2, c2, rfl, hq2, hR2, hb2⟩; have HR2 := Aside0.mk hR2; have HQ2 := Lib.hid hq2; have HB15 := Aside0.mk (below_next hS.out.2.2.out hb2); have HO15 := Aside0.mk (Kd.R_below (Kd.R_below HO14.out (pw_below_drewN (Below.refl _ _) 1)) hb2); clear tok t_ hR2 hb2)
        | (refine Kd.R_append_step KHd (w0 := w13) w13.heap.size rfl (.tmp 90) (.tmp 97) 23 56 (.agg #[.int .i64 0, .slice none 0 0]) 32 rfl Tryd.underlying23 infoRule rfl (by decide) (by omega) v14 ([] ++ hs) (x, ⟨A2, l.length, c2⟩) [.int .i64 x, .slice A2 l.length c2] (fun _ => True) (fun _ => False) rfl rfl ⟨[.int .i64 x], [.slice A2 l.length c2], rfl, rfl, rfl⟩ (fun _ h => h.elim) (fun _ _ => trivial) HO15.out HB15.out HB15.out.size (by have := HRB.out; have := HHl.out; simp only [List.nil_append]; omega) ?_; intro v16 w16 ho hb hg hat; have HO16 := Aside0.mk ho; have HB16 := Aside0.mk hb; have HG16 := Aside0.mk hg; clear ho hb hg hat))
    obtain ⟨A6, c6, hv6⟩ := Kd.R_slice HO16.out
    have hlen6 : (([] ++ hs) ++ [(x, (⟨A2, l.length, c2⟩ : Hd))]).length = (moreG g (x, l)).rules.length := by have := HHl.out; simp [moreG, this]
    have HK16 := Lib.hid (gblk_keep' HK13.out HB16.out)
    have hk16 := HK16.out
    rw [HBM.out] at hk16
    obtain ⟨⟨i0, i1, i2, i3⟩, j0, j1, j2, j3⟩ := blk_cells4 hk16
    clear hk16
    rw [hlen6] at hv6
    subst hv6
    obtain ⟨w17, hw17⟩ : ∃ w17, w16.setCell ⟨bM, 3, none⟩ (.slice A6 (moreG g (x, l)).rules.length c6) = w17 := ⟨_, rfl⟩
    have HM17 : Hid (GramAt w17 (.agg #[.slice BT g.terms.length dT, .slice BN g.nonterms.length dN, .int .i64 g.ax, .slice A6 (moreG g (x, l)).rules.length c6]) (moreG g (x, l)) ∧ w17.heap[bM]? = some (.cells #[.slice BT g.terms.length dT, .slice BN g.nonterms.length dN, .int .i64 g.ax, .slice A6 (moreG g (x, l)).rules.length c6] 25 (0, 0)) ∧ Below w12.heap.size w12 w17) := Lib.hid (by
      have hs13 := HS13.out
      have hbm := HBM.out
      have hb17 : Below w12.heap.size w12 w17 := by rw [← hw17]; exact (HB13.out.trans (HB16.out.mono (by omega))).setCell (by show w12.heap.size ≤ bM; omega) _
      have hk17 : w17.heap[bM]? = some (.cells #[.slice BT g.terms.length dT, .slice BN g.nonterms.length dN, .int .i64 g.ax, .slice A6 (moreG g (x, l)).rules.length c6] 25 (0, 0)) := by
        rw [← hw17]
        have := HK16.out
        rw [hbm] at this
        exact blk_set this 3 _
      have hlt14 := HB14.out.size
      have q1 := Kd.R_grown (Kd.R_bound HR2.out) HG16.out (fun k hk e => by
        have := Kd.R_lt HO14.out k e.symm
        have h2 := hk.2.1
        simp at h2
        omega)
      have q2 := Kd.R_far (p := ⟨bM, 3, none⟩) q1 (fun k hk e => by
        have h2 := hk.2.1
        simp at h2
        have : k = bM := e
        omega) (.slice A6 (moreG g (x, l)).rules.length c6)
      rw [hw17] at q2
      have q2' : KMInt.C w17 A2 (l.length + 1) (l.map some ++ [none]) := by simpa using (Kd.R_reads' q2).2.2
      have q3 := lent_C (a := Kd.int .i64) q2'
      have p1 := Kd.R_far (p := ⟨bM, 3, none⟩) (Kd.R_bound HO16.out) (fun k hk e => by
        have h2 := hk.2.1
        have : k = bM := e
        omega) (.slice A6 (moreG g (x, l)).rules.length c6)
      rw [hw17] at p1
      obtain ⟨_, p3, p4⟩ := Kd.R_reads' p1
      have hh := (HHa.out.below hb17).snoc (h := (x, ⟨A2, l.length, c2⟩)) (r := (x, l)) ⟨rfl, rfl, by have := HQ2.out; show l.length ≤ c2; omega, q3⟩
      have h3 : KRule.C w17 A6 (moreG g (x, l)).rules.length (moreG g (x, l)).rules := of_heads (hs := hs ++ [(x, ⟨A2, l.length, c2⟩)]) (by rw [← hlen6]; exact p4) hh
      exact ⟨⟨BT, dT, BN, dN, A6, c6, rfl, by have := HM1.out; show g.terms.length ≤ dT; omega, by have := HM2.out; show g.nonterms.length ≤ dN; omega, p3, Kd.C_below HT12.out hb17, Kd.C_below HN12.out hb17, h3⟩, hk17, hb17⟩)
    have HB17 := Lib.hid (below_next HB12.out HM17.out.2.2)
    go_upto_region 15 with fail
    clear i0 i1 i2 i3 j0 j1 j2 j3
    obtain ⟨d0, d1, d2, d3⟩ := blk_cells2 HM17.out.2.1
    have HE17 := Lib.hid (HE2.out.below HB17.out)
    have HG17 := Lib.hid HM17.out.1
    have HKm := Lib.hid HM17.out.2.1
    have HL6 := Lib.hid hlen6
    obtain ⟨n3, hn3⟩ : ∃ n, (moreG g (x, l)).rules.length = n := ⟨_, rfl⟩
    rw [hn3] at HG17 HKm d3 ⊢
    clear hn3 hlen6 hw17 e0 e1 e2 e3
    by_cases hm : (checkN (moreG g (x, l))).1 = 0
    · have HMK := Lib.hid hm
      have W0 : Hid (minusN n0 (usN (moreG g (x, l)) 0) = 0) := Lib.hid (by rw [← HN0.out]; exact us_more HOK.out hm (by decide))
      have W1 : Hid (minusN n1 (usN (moreG g (x, l)) 1) = 0) := Lib.hid (by rw [← HN1.out]; exact us_more HOK.out hm (by decide))
      have M0 := Lib.hid (us_lt (moreG g (x, l)) 0)
      have M1 := Lib.hid (us_lt (moreG g (x, l)) 1)
      clear hm
      go_wp2_with (first
        | (go_at_call 28; refine (lwithin_calls n1 (usN (moreG g (x, l)) 1) L1.out M1.out w20).mono ?_; rintro e w21 ⟨rfl, m4, hw⟩; rw [W1.out]; have HB21 := Lib.hid (show Below w17.heap.size w17 w21 by rw [hw]; exact pw_below_drewN HB20.out _); clear hw)
        | (go_at_call 28; refine (lwithin_calls n0 (usN (moreG g (x, l)) 0) L0.out M0.out w19).mono ?_; rintro e w20 ⟨rfl, m3, hw⟩; rw [W0.out]; have HB20 := Lib.hid (show Below w17.heap.size w17 w20 by rw [hw]; exact pw_below_drewN HB19.out _); clear hw)
        | (go_at_call 12; refine (uReached_calls _ (moreG g (x, l)) w18 A (HE17.out.below HB18.out) (HG17.out.below HB18.out)).mono ?_; rintro e w19 ⟨u19, r19, rfl, hu19, hb19⟩; have HB19 := Lib.hid (below_next HB18.out hb19); rw [HMK.out] at hu19; obtain rfl := hu19.nil_of rfl; clear hu19 hb19 d0 d1 d2 d3)
        | (go_at_call 11; refine (uProductive_calls _ (moreG g (x, l)) w17 A HE17.out HG17.out).mono ?_; rintro e w18 ⟨u18, r18, rfl, hu18, hb18⟩; have HB18 := Lib.hid hb18; rw [HMK.out] at hu18; obtain rfl := hu18.nil_of rfl; clear d0 d1 d2 d3; obtain ⟨d0, d1, d2, d3⟩ := blk_cells2 (gblk_keep' HKm.out hb18); clear hu18 hb18))
      go_ret
      exact ⟨rfl, below_next HB2.out (below_next HB17.out HB21.out)⟩
    · have HMK := Lib.hid hm
      clear hm
      go_wp2_with (first
        | (go_at_call 12; refine (uReached_calls _ (moreG g (x, l)) w18 A (HE17.out.below HB18.out) (HG17.out.below HB18.out)).mono ?_; rintro e w19 ⟨u19, r19, rfl, hu19, hb19⟩; have HB19 := Lib.hid (below_next HB18.out hb19); obtain ⟨T19, p19, hT19, rfl⟩ := hu19.iface_of HMK.out; clear hu19 hb19 hT19 d0 d1 d2 d3)
        | (go_at_call 11; refine (uProductive_calls _ (moreG g (x, l)) w17 A HE17.out HG17.out).mono ?_; rintro e w18 ⟨u18, r18, rfl, hu18, hb18⟩; have HB18 := Lib.hid hb18; obtain ⟨T18, p18, hT18, rfl⟩ := hu18.iface_of HMK.out; clear d0 d1 d2 d3; obtain ⟨d0, d1, d2, d3⟩ := blk_cells2 (gblk_keep' HKm.out hb18); clear hu18 hb18 hT18))
      go_ret
      exact ⟨rfl, below_next HB2.out (below_next HB17.out HB19.out)⟩
  · have HOK := Lib.hid hok
    have hu0 := us_none hok 0
    have hu1 := us_none hok 1
    have hu2 := us_none hok 2
    have HU0 := Lib.hid hu0
    have HU1 := Lib.hid hu1
    have HU2 := Lib.hid hu2
    clear hok hu0 hu1 hu2
    go_enter Tryd.func7, Tryd.ntmps7
    go_wp2_with (first
      | (go_at_call 25; refine HKn.out.mono ?_; rintro e w3 ⟨rfl, hb3⟩; have HB3 := Lib.hid hb3; obtain ⟨d0, d1, d2, d3⟩ := blk_cells2 (gblk_keep' HK2.out hb3); clear hb3)
      | (go_at_call 13; refine (uUseful_calls _ g w8 A (HE2.out.below HB8.out) HLt8.out).mono ?_; rintro e w9 ⟨u9, r9, rfl, hu9, hb9⟩; rw [HU2.out]; have HB9 := Lib.hid (below_next HB8.out hb9); obtain ⟨T9, p9, hT9, rfl⟩ := hu9.iface_of HOK.out; clear hu9 hb9 hT9 d0 d1 d2 d3)
      | (go_at_call 12; refine (uReached_calls _ g w6 A (HE2.out.below HB6.out) HLt6.out).mono ?_; rintro e w7 ⟨u7, r7, rfl, hu7, hb7⟩; rw [HU1.out]; have HB7 := Lib.hid (below_next HB6.out hb7); obtain ⟨T7, p7, hT7, rfl⟩ := hu7.iface_of HOK.out; clear d0 d1 d2 d3; obtain ⟨d0, d1, d2, d3⟩ := blk_cells2 (gblk_keep' HK2.out HB7.out); clear hu7 hb7 hT7)
      | (go_at_call 11; refine (uProductive_calls _ g w4 A (HE2.out.below HB4.out) HLt4.out).mono ?_; rintro e w5 ⟨u5, r5, rfl, hu5, hb5⟩; rw [HU0.out]; have HB5 := Lib.hid (below_next HB4.out hb5); obtain ⟨T5, p5, hT5, rfl⟩ := hu5.iface_of HOK.out; clear d0 d1 d2 d3; obtain ⟨d0, d1, d2, d3⟩ := blk_cells2 (gblk_keep' HK2.out HB5.out); clear hu5 hb5 hT5)
      | (go_at_call 10; refine (HLG.out w7 HB7.out).mono ?_; rintro e w8 ⟨u8, rfl, hu8, hb8⟩; have HLt8 := Lib.hid hu8.plain; have HB8 := Lib.hid (below_next HB7.out hb8); clear hu8 hb8)
      | (go_at_call 10; refine (HLG.out w5 HB5.out).mono ?_; rintro e w6 ⟨u6, rfl, hu6, hb6⟩; have HLt6 := Lib.hid hu6.plain; have HB6 := Lib.hid (below_next HB5.out hb6); clear hu6 hb6)
      | (go_at_call 10; refine (HLG.out w3 HB3.out).mono ?_; rintro e w4 ⟨u4, rfl, hu4, hb4⟩; have HLt4 := Lib.hid hu4.plain; have HB4 := Lib.hid (below_next HB3.out hb4); clear hu4 hb4))
    go_ret
    exact ⟨rfl, below_next HB2.out HB9.out⟩
end Go.Proofs.YtagcmhnanngfbaaDoor.Hand
