/- The texts that the statement's proof stands on, part 6: XOwn28. -/
import Derived.Test.YtapgglmdnggopaaDoorZ311018959
/- The walk of FoldOwn: it answers true and leaves the memory that it was given as it was, where the errors' variables stand. -/
namespace Go.Proofs.YtapgglmdnggopaaDoor.Hand
open Go.RowKit Go.Proofs.YtapgglmdnggopaaDoorW.PrintWords Go.Proofs.YtapgglmdnggopaaDoorW.PrintMore Go.Proofs.YtapgglmdnggopaaDoorW.PrintLast Go.Proofs.YtapgglmdnggopaaDoor.Math

/-- The kept kids and four lists more: they share no memory. -/
theorem own_pre {bK bN : Nat} {n : Int} {W w1 : World} {vk : Value} {H L : List Hd} {A : Option Addr} {m c : Nat} (h : OwnAt bK bN n W vk H) (hH : H.length ≤ 200000) (hL4 : L.length ≤ 1000) (hlo : ∀ k, OwnSet bK bN vk H k → bK ≤ k)
    (hL : ∀ x ∈ L, HdOk W x ∧ x.n ≤ 1000000000000 ∧ ∀ g, x.blk = some g → g < bK) (hdis : ∀ i j g, i < L.length → j < L.length → i < j → (hdD L i).blk = some g → (hdD L j).blk ≠ some g)
    (ho : KH.R 30 w1 0 (fun _ => True) (.slice A m c) (H ++ L)) (hg : W.grownBy w1 vk.ownBlock) (hat : (Value.slice A m c).ownBlock = vk.ownBlock ∨ ∃ b, (Value.slice A m c).ownBlock = some b ∧ W.heap.size ≤ b) (hA : ∀ ad, A = some ad → (Value.slice A m c).ownBlock = some ad.block) :
    ApPre (w1.setCell ⟨bK, 0, none⟩ (.slice A m c)) A (H ++ L) ∧ ∀ g, ApS (H ++ L) g → (∃ x ∈ L, x.blk = some g) ∨ bK ≤ g := by
  have ltK : bK < W.heap.size := h.low (.inl rfl)
  have kv : ∀ k, vk.ownBlock = some k → bK ≤ k := fun k q => hlo k (.inr (.inr (.inl q)))
  have hHlo : ∀ x ∈ H, ∀ g, x.blk = some g → bK ≤ g ∧ g < W.heap.size ∧ g ≠ bK ∧ vk.ownBlock ≠ some g := fun x hx g q => ⟨hlo g (.inr (.inr (.inr ⟨x, hx, q⟩))), (h.ok x hx).blk_lt q, (h.out x hx g q).1, (h.out x hx g q).2.2⟩
  have v1K : ∀ k, k < W.heap.size → vk.ownBlock ≠ some k → (Value.slice A m c).ownBlock ≠ some k := fun k hk hn e => by
    rcases hat with e2 | ⟨b, e2, hb⟩
    · exact hn (e2.symm.trans e)
    · rw [e2] at e; injection e with e; omega
  have hall : ∀ x ∈ H ++ L, HdOk W x ∧ x.n ≤ 1000000000000 ∧ ∀ g, x.blk = some g → g < W.heap.size ∧ g ≠ bK ∧ vk.ownBlock ≠ some g := fun x hx => by
    rcases List.mem_append.1 hx with hx | hx
    · exact ⟨h.ok x hx, by have := h.sh x hx; omega, fun g q => (hHlo x hx g q).2⟩
    · obtain ⟨a1, a2, a3⟩ := hL x hx
      exact ⟨a1, a2, fun g q => ⟨by have := a3 g q; omega, by have := a3 g q; omega, fun e => by have := kv g e; have := a3 g q; omega⟩⟩
  have kp : ∀ g, g < W.heap.size → g ≠ bK → vk.ownBlock ≠ some g → (w1.setCell ⟨bK, 0, none⟩ (.slice A m c)).heap[g]? = W.heap[g]? := fun g a1 a2 a3 => (Below.heap_setCell w1 ⟨bK, 0, none⟩ _ g a2).trans (hg.block g a1 (fun e => a3 e.symm))
  have hmem : ∀ i, i < (H ++ L).length → hdD (H ++ L) i ∈ H ++ L := fun i hi => by unfold hdD; exact getD_mem _ _ _ hi
  have hl1 : ∀ i, i < H.length → hdD (H ++ L) i = hdD H i := fun i hi => by unfold hdD; rw [List.getD_eq_getElem?_getD, List.getElem?_append_left hi, ← List.getD_eq_getElem?_getD]
  have hl2 : ∀ i, H.length ≤ i → hdD (H ++ L) i = hdD L (i - H.length) := fun i hi => by unfold hdD; rw [List.getD_eq_getElem?_getD, List.getElem?_append_right hi, ← List.getD_eq_getElem?_getD]
  have hm1 : ∀ i, i < H.length → hdD H i ∈ H := fun i hi => by unfold hdD; exact getD_mem _ _ _ hi
  have hm2 : ∀ i, i < L.length → hdD L i ∈ L := fun i hi => by unfold hdD; exact getD_mem _ _ _ hi
  have hsz : W.heap.size ≤ (w1.setCell ⟨bK, 0, none⟩ (.slice A m c)).heap.size := by rw [World.size_setCell]; exact hg.size
  refine ⟨⟨?_, ?_, fun j hj => ?_, fun j hj => (hall _ (hmem j hj)).2.1, fun i j g hi hj hne e1 => ?_, fun j ad hj ha e => ?_⟩, fun g ⟨j, hj, q⟩ => ?_⟩
  · exact (Kd.R_reads' (Kd.R_far (KH_tight ho) (p := ⟨bK, 0, none⟩) (fun k hk e => v1K _ ltK h.nK (by rw [← (show k = bK from e)]; exact hk)) _)).2.2
  · rw [List.length_append]; omega
  · obtain ⟨a1, -, a3⟩ := hall _ (hmem j hj)
    exact a1.keep hsz (fun g q => kp g (a3 g q).1 (a3 g q).2.1 (a3 g q).2.2)
  · rw [List.length_append] at hi hj
    by_cases hi2 : i < H.length
    · rw [hl1 i hi2] at e1
      by_cases hj2 : j < H.length
      · rw [hl1 j hj2]; exact h.dis i j g hi2 hj2 hne e1
      · rw [hl2 j (by omega)]
        intro e2
        have := (hHlo _ (hm1 i hi2) g e1).1
        have := (hL _ (hm2 (j - H.length) (by omega))).2.2 g e2
        omega
    · rw [hl2 i (by omega)] at e1
      by_cases hj2 : j < H.length
      · rw [hl1 j hj2]
        intro e2
        have := (hHlo _ (hm1 j hj2) g e2).1
        have := (hL _ (hm2 (i - H.length) (by omega))).2.2 g e1
        omega
      · rw [hl2 j (by omega)]
        rcases Nat.lt_or_gt_of_ne (show i - H.length ≠ j - H.length by omega) with q | q
        · exact hdis _ _ g (by omega) (by omega) q e1
        · exact fun e2 => hdis _ _ g (by omega) (by omega) q e2 e1
  · obtain ⟨-, -, a3⟩ := hall _ (hmem j hj)
    exact v1K _ (a3 _ e).1 (a3 _ e).2.2 (hA ad ha)
  · rw [List.length_append] at hj
    by_cases hj2 : j < H.length
    · rw [hl1 j hj2] at q; exact .inr (hHlo _ (hm1 j hj2) g q).1
    · rw [hl2 j (by omega)] at q; exact .inl ⟨_, hm2 (j - H.length) (by omega), q⟩
theorem walkF_cnt {σ α : Type} {lf : σ → Int → Int → σ × α} {nf : σ → Int → List α → σ × α} {cnt : σ → Nat} (hl : ∀ s p x, cnt (lf s p x).1 ≤ cnt s) (hN : ∀ s n ks, cnt (nf s n ks).1 ≤ cnt s + 1) {G : List (Int × List Int)} {rs : List Int} {any : Bool} {nt p : Int} {s : σ} {p' : Int} {s' : σ} {K' : List (List α)}
    (h : walkG (opsF lf nf) G rs any nt (p, s, [[]]) = some (p', s', K')) : cnt s' ≤ cnt s + rs.length := by
  unfold walkG at h
  cases h1 : nodeG (opsF lf nf) G rs rs.length any nt none 1 (0, p, s, [[]]) with
  | none => rw [h1] at h; cases h
  | some st =>
    rw [h1] at h
    simp only at h
    split at h
    · cases h
    · injection h with h
      obtain ⟨i', p2, s2, v, rfl, -, hi⟩ := foldG_top lf nf G rs _ _ _ _ _ _ _ _ _ _ _ h1
      have := foldG_cnt hl hN G rs _ _ _ _ _ _ _ _ _ _ _ _ _ _ h1
      simp only [Prod.mk.injEq] at h
      obtain ⟨-, rfl, -⟩ := h
      omega
theorem lent_plain {w : World} {v : Value} {g : Gr} (h : GramL w v g) : GramAt w v g := h.plain
set_option maxHeartbeats 4000000 in
set_option maxRecDepth 20000 in
theorem foldOwn_walk {w : World} (g : Gr) (v : Value) (hg : GramAt w v g ∧ GramB g) (tA : Option Addr) (tc : Nat) (t : List (Int × Int × Int))
    (ht : KStep.C w tA t.length t ∧ t.length * 24 ≤ 140737488351232 ∧ t.length ≤ tc ∧ ∀ x ∈ t, (Lit.int .i64 x.1).wf = true ∧ (Lit.int .i64 x.2.1).wf = true ∧ (Lit.int .i64 x.2.2).wf = true) (hE : ∃ A, Errs w A) :
    Calls Tryd.prog 3 #[v, .slice tA t.length tc] w fun e w' => e = .returned (.bool true) ∧ Below w.heap.size w w' := by
  obtain ⟨hv, hB⟩ := hg
  obtain ⟨htC, ht24, htc, -⟩ := ht
  obtain ⟨A, hE⟩ := hE
  have HV := Lib.hid hv
  obtain ⟨AT, cT, AN, cN, AR, cR, rfl, q1, q2, q3, q4, q5, q6⟩ := hv
  clear q4 q5 q6
  obtain ⟨w1, hw1⟩ : ∃ w1, w.alloc (.cells #[.slice AT g.terms.length cT, .slice AN g.nonterms.length cN, .int .i64 g.ax, .slice AR g.rules.length cR] 25) = w1 := ⟨_, rfl⟩
  have hb1 : Below w.heap.size w w1 := by rw [← hw1]; exact below_alloc (Below.refl _ _) _
  have hk1 : w1.heap[w.heap.size]? = some (.cells #[.slice AT g.terms.length cT, .slice AN g.nonterms.length cN, .int .i64 g.ax, .slice AR g.rules.length cR] 25 (0, 0)) := by rw [← hw1]; exact heap_alloc_new w _
  have HB1 := Lib.hid hb1
  have HK1 := Lib.hid hk1
  have HG1 := Lib.hid (HV.out.below hb1)
  have HT1 := Lib.hid (Kd.C_below htC hb1)
  have HE1 := Lib.hid (hE.below hb1)
  have HLG := Lib.hid (fun (W : World) (hW : Below w1.heap.size w1 W) => lentGrammar_calls _ g W (HG1.out.below hW) (by have := hB.terms; omega) (by have := hB.nonterms; omega) (by have := hB.rules; omega) (fun r hr => by have := hB.right r hr; omega))
  have HLS := Lib.hid (fun (W : World) (hW : Below w1.heap.size w1 W) => lentSteps_calls tA tc t W (Kd.C_below HT1.out hW) (by omega))
  have HKn := Lib.hid (lawKnown_calls w1 A HE1.out)
  clear hb1 hk1 htC hE hB ht24
  go_enter Tryd.func3, Tryd.ntmps3
  go_upto_region 4 with (first
    | (go_at_call 9; refine HKn.out.mono ?_; rintro e w2 ⟨rfl, hb2⟩; have HB2 := Lib.hid hb2; obtain ⟨c0, c1, c2, c3⟩ := gr_blk (blk_below HK1.out hb2); clear hb2)
    | (go_at_call 10; refine (HLG.out w2 HB2.out).mono ?_; rintro e w3 ⟨u, rfl, hu, hb3⟩; have HU := Lib.hid hu; have HB3 := Lib.hid hb3; obtain ⟨BT, dT, BN, dN, BR, dR, rfl, -⟩ := hu; clear hb3 c0 c1 c2 c3)
    | (go_at_call 11; refine (HLS.out w3 (below_next HB2.out HB3.out)).mono ?_; rintro e w4 ⟨As, cs, rfl, hcs, hrs, hb4⟩; have HRs := Lib.hid (Kd.R_reads' hrs); have HB4 := Lib.hid hb4; clear hrs hb4))
  obtain ⟨w5, hw5⟩ : ∃ w5, w4.alloc (.cells #[.slice BT g.terms.length dT, .slice BN g.nonterms.length dN, .int .i64 g.ax, .slice BR g.rules.length dR] 25) = w5 := ⟨_, rfl⟩
  rw [hw5]
  have hb5 : Below w4.heap.size w4 w5 := by rw [← hw5]; exact below_alloc (Below.refl _ _) _
  have hk5 : w5.heap[w4.heap.size]? = some (.cells #[.slice BT g.terms.length dT, .slice BN g.nonterms.length dN, .int .i64 g.ax, .slice BR g.rules.length dR] 25 (0, 0)) := by rw [← hw5]; exact heap_alloc_new w4 _
  have h15 : Below w1.heap.size w1 w5 := below_next (below_next (below_next HB2.out HB3.out) HB4.out) hb5
  have HE5 := Lib.hid (HE1.out.below h15)
  have HG5 := Lib.hid (HG1.out.below h15)
  have HT5 := Lib.hid (Kd.C_below HT1.out h15)
  have HU5 := Lib.hid (HU.out.below (below_next HB4.out hb5))
  have HS5 : Hid (KMStep.C w5 As (t.length + 1) (t.map some ++ [none])) := Lib.hid (by have := Kd.C_below HRs.out.2.2 hb5; rwa [← HRs.out.1] at this)
  have HKg := Lib.hid (blk_below HK1.out h15)
  have HKu := Lib.hid hk5
  have HB5 := Lib.hid (below_next HB1.out h15)
  obtain ⟨c0, c1, c2, c3⟩ := gr_blk HKu.out
  have HLs := Lib.hid (lent_C (a := KStep) HS5.out)
  have HGi := Lib.hid (lent_plain HU5.out)
  have hle : t.length ≤ cs := by omega
  have HSz : Hid (w4.heap.size < w5.heap.size) := Lib.hid (Array.getElem?_eq_some_iff.1 hk5).1
  have HPa := Lib.hid (fun (W : World) (hW : Below w5.heap.size w5 W) => parents_calls _ g As cs t W A (HE5.out.below hW) (HGi.out.below hW) (Kd.C_below HLs.out hW) hle)
  have HFd : Hid (∀ (ars : Array Value) (W : World), (callFunc 13 ars).run Tryd.prog W = .ok (.enter 13 ars) W) := Lib.hid (fun ars W => enters_ Tryd.func13 (by kernel_rfl) rfl ars W)
  have HFl : Hid (∀ (ars : Array Value) (W : World), (callFunc 16 ars).run Tryd.prog W = .ok (.enter 16 ars) W) := Lib.hid (fun ars W => enters_ Tryd.func16 (by kernel_rfl) rfl ars W)
  have HFn : Hid (∀ (ars : Array Value) (W : World), (callFunc 17 ars).run Tryd.prog W = .ok (.enter 17 ars) W) := Lib.hid (fun ars W => enters_ Tryd.func17 (by kernel_rfl) rfl ars W)
  have HIn : Hid (∀ (W : World), Below w5.heap.size w5 W → Calls Tryd.prog 14 #[.agg #[.slice BT g.terms.length dT, .slice BN g.nonterms.length dN, .int .i64 g.ax, .slice BR g.rules.length dR], .slice As t.length cs, .int .i64 0, .func (.func 13) #[] #[]] W (fun e w' => ∃ v u, e = .returned (.tuple #[v, u]) ∧ (knownE g t = (0, -1) → ∃ l : List Int, l.length ≤ 200000 ∧ (Kd.int .i64).R 3 w' W.heap.size (fun _ => True) v l) ∧ Below W.heap.size W w')) := Lib.hid (fun W hW => (inhInt_calls (wB := w5) (w := W) (s := ()) (own := fun _ => False) 0 A HFd (Lib.hid (own_inhIn HLs.out hW.size)) HE5.out HGi.out hle hW (fun _ h => h) (fun _ h => h.elim)).mono (by
    rintro e w' (⟨h, u, rfl, -, hb⟩ | ⟨hk, own', v, rfl, hr, -, hc, -⟩)
    · exact ⟨_, _, rfl, fun h2 => by rw [h2] at h; exact absurd rfl h, hb⟩
    · refine ⟨_, _, rfl, fun _ => ⟨_, ?_, Kd.R_mono hr (fun _ _ => trivial)⟩, hc.below (Nat.le_refl _) (fun _ _ h => h)⟩
      rw [inhG_length, List.length_drop, (kinD_yes hk).2.1]
      have := (knownE_yes hk).1.len
      simp
      omega))
  clear hw1 hw5 hb5 hk5 h15
  by_cases h0 : knownE g t = (0, -1)
  · have H0 := Lib.hid h0
    have hPO : ∀ (W : World), Below w5.heap.size w5 W → Calls Tryd.prog 12 #[.agg #[.slice BT g.terms.length dT, .slice BN g.nonterms.length dN, .int .i64 g.ax, .slice BR g.rules.length dR], .slice As t.length cs] W (fun e w' => ∃ hd : Hd, e = .returned (.tuple #[.slice hd.ad hd.n hd.c, .nilIface]) ∧ HdOk w' hd ∧ hd.n ≤ 200000 ∧ (∀ k, hd.blk = some k → W.heap.size ≤ k ∧ k < w'.heap.size) ∧ Below W.heap.size W w') := fun W hW => (HPa.out W hW).mono (by
      rintro e w' ⟨v, u, rfl, hr, hu, hb⟩
      rw [H0.out] at hu
      obtain ⟨-, rfl⟩ := hu.nil_iff.resolve_right (fun h => absurd h.1 (by decide))
      obtain ⟨hd, rfl, hn, hok, hbk⟩ := R_hd hr
      refine ⟨hd, rfl, hok, ?_, hbk, hb⟩
      rw [hn, List.length_map, (kinD_yes H0.out).2.1]
      have := (knownE_yes H0.out).1.len
      omega)
    have hIO : ∀ (W : World), Below w5.heap.size w5 W → Calls Tryd.prog 14 #[.agg #[.slice BT g.terms.length dT, .slice BN g.nonterms.length dN, .int .i64 g.ax, .slice BR g.rules.length dR], .slice As t.length cs, .int .i64 0, .func (.func 13) #[] #[]] W (fun e w' => ∃ (hd : Hd) (u : Value), e = .returned (.tuple #[.slice hd.ad hd.n hd.c, u]) ∧ HdOk w' hd ∧ hd.n ≤ 200000 ∧ (∀ k, hd.blk = some k → W.heap.size ≤ k ∧ k < w'.heap.size) ∧ Below W.heap.size W w') := fun W hW => (HIn.out W hW).mono (by
      rintro e w' ⟨v, u, rfl, h, hb⟩
      obtain ⟨l, hl, hr⟩ := h H0.out
      obtain ⟨hd, rfl, hn, hok, hbk⟩ := R_hd hr
      exact ⟨hd, u, rfl, hok, by omega, hbk, hb⟩)
    have HPO := Lib.hid hPO
    have HIO := Lib.hid hIO
    clear hPO hIO HPa HIn h0
    go_upto_region 13 with (first
      | (go_at_call 12; (with_reducible refine (HPO.out w5 (Below.refl _ _)).mono ?_); rintro e w6 ⟨h1, rfl, k1, n1, r1, hb6⟩; have K1 := Lib.hid k1; have N1 := Lib.hid n1; have R1 := Lib.hid r1; have HB6 := Lib.hid hb6; obtain ⟨d0, d1, d2, d3⟩ := gr_blk (blk_below HKu.out hb6); clear k1 n1 r1 hb6 c0 c1 c2 c3)
      | (go_at_call 12; (with_reducible refine (HPO.out w6 HB6.out).mono ?_); rintro e w7 ⟨h2, rfl, k1, n1, r1, hb7⟩; have K2 := Lib.hid k1; have N2 := Lib.hid n1; have R2 := Lib.hid r1; have HB7 := Lib.hid hb7; have HQ7 := Lib.hid (below_next HB6.out hb7); obtain ⟨c0, c1, c2, c3⟩ := gr_blk (blk_below HKu.out HQ7.out); clear k1 n1 r1 hb7 d0 d1 d2 d3)
      | (go_at_call 14; (with_reducible refine (HIO.out w7 HQ7.out).mono ?_); rintro e w8 ⟨h3, u3, rfl, k1, n1, r1, hb8⟩; have K3 := Lib.hid k1; have N3 := Lib.hid n1; have R3 := Lib.hid r1; have HB8 := Lib.hid hb8; have HQ8 := Lib.hid (below_next HQ7.out hb8); obtain ⟨d0, d1, d2, d3⟩ := gr_blk (blk_below HKu.out HQ8.out); clear k1 n1 r1 hb8 c0 c1 c2 c3)
      | (go_at_call 14; (with_reducible refine (HIO.out w8 HQ8.out).mono ?_); rintro e w9 ⟨h4, u4, rfl, k1, n1, r1, hb9⟩; have K4 := Lib.hid k1; have N4 := Lib.hid n1; have R4 := Lib.hid r1; have HB9 := Lib.hid hb9; have HQ9 := Lib.hid (below_next HQ8.out hb9); obtain ⟨c0, c1, c2, c3⟩ := gr_blk (blk_below HKu.out HQ9.out); clear k1 n1 r1 hb9 d0 d1 d2 d3))
    have hk10 := heap_alloc_new w9 (.cells #[.slice none 0 0] 37)
    have hk11 := heap_alloc_new (w9.alloc (.cells #[.slice none 0 0] 37)) (.cells #[.int .i64 0] 3)
    have hk10' := blk_below hk10 (below_alloc (Below.refl _ _) (.cells #[.int .i64 0] 3))
    have hb11 : Below w9.heap.size w9 ((w9.alloc (.cells #[.slice none 0 0] 37)).alloc (.cells #[.int .i64 0] 3)) := below_alloc (below_alloc (Below.refl _ _) _) _
    have hs11 : ((w9.alloc (.cells #[.slice none 0 0] 37)).alloc (.cells #[.int .i64 0] 3)).heap.size = w9.heap.size + 2 := by simp only [World.size_alloc]
    obtain ⟨w11, hw11⟩ : ∃ w11, (w9.alloc (.cells #[.slice none 0 0] 37)).alloc (.cells #[.int .i64 0] 3) = w11 := ⟨_, rfl⟩
    rw [World.size_alloc] at hk11
    rw [hw11] at hk10' hk11 hb11 hs11 ⊢
    clear hw11 hk10
    have HS11 := Lib.hid hs11
    have HQ11 := Lib.hid (below_next HQ9.out hb11)
    have HB11 := Lib.hid hb11
    have HOw : Hid (OwnAt w9.heap.size (w9.heap.size + 1) 0 w11 (.slice none 0 0) []) := Lib.hid ⟨hk10', hk11, Kd.R_nil _ _ _ _ _, fun _ h => absurd h (by simp), fun _ h => absurd h (by simp), fun i j g hi => absurd hi (by simp), fun _ h => absurd h (by simp), by simp [Value.ownBlock], by simp [Value.ownBlock], by omega⟩
    have hnl : ∀ k, OwnSet w9.heap.size (w9.heap.size + 1) (.slice none 0 0) [] k → w9.heap.size ≤ k ∧ k < w9.heap.size + 2 := fun k q => by
      rcases q with q | q | q | ⟨x, hx, -⟩
      · omega
      · omega
      · simp [Value.ownBlock] at q
      · simp at hx
    have HFo : Hid (Calls Tryd.prog 15 #[.agg #[.slice BT g.terms.length dT, .slice BN g.nonterms.length dN, .int .i64 g.ax, .slice BR g.rules.length dR], .slice As t.length cs, .func (.func 16) #[] #[.pointer (some ⟨w9.heap.size + 1, 0, none⟩)], .func (.func 17) #[] #[.pointer (some ⟨w9.heap.size, 0, none⟩), .pointer (some ⟨w9.heap.size + 1, 0, none⟩)]] w11 (fun e w' => ∃ v n vk H, e = .returned (.tuple #[.int .i64 v, .nilIface]) ∧ OwnAt w9.heap.size (w9.heap.size + 1) n w' vk H ∧ H.length ≤ 200000 ∧ (∀ k, OwnSet w9.heap.size (w9.heap.size + 1) vk H k → w9.heap.size ≤ k) ∧ Below w9.heap.size w11 w')) := Lib.hid ((foldInt_calls (wB := w5) (w := w11) (s := ((0 : Int), (0 : Nat))) (own := OwnSet w9.heap.size (w9.heap.size + 1) (.slice none 0 0) []) A HFl HFn (Lib.hid (fun hk => own_foldIn HLs.out (gram_rules HGi.out) HQ11.out.size (knownE_yes hk).1)) HE5.out HGi.out HLs.out hle HQ11.out ⟨_, [], rfl, HOw.out, rfl⟩ (Lib.hid rfl) (fun k q => Nat.le_trans HQ9.out.size (hnl k q).1)).mono (by
      rintro e w' (⟨h, -⟩ | ⟨-, p', s', v, own', hw, rfl, ⟨vk, H, hl, hown, rfl⟩, hc, hsub⟩)
      · rw [H0.out] at h; exact absurd rfl h
      · have hcnt := walkF_cnt (cnt := Prod.snd) (fun _ _ _ => Nat.le_refl _) (fun _ _ _ => Nat.le_refl _) hw
        have hlen := (knownE_yes H0.out).1.len
        refine ⟨v, s'.1, vk, H, rfl, hown, ?_, fun k q => ?_, hc.below (by rw [HS11.out]; omega) (fun k hk q => by have := (hnl k q).1; omega)⟩
        · rw [hl]; rw [List.length_map] at hcnt; simp only at hcnt; omega
        · rcases hsub k q with q | q
          · exact (hnl k q).1
          · have := HS11.out; omega))
    obtain ⟨c0, c1, c2, c3⟩ := gr_blk (blk_below HKu.out HQ11.out)
    clear hk10' hk11 hb11 hs11 hnl
    go_upto_region 14 with (go_at_call 15; refine HFo.out.mono ?_; rintro e w12 ⟨fv, n, vk, H, rfl, hown, hHl, hlo, hb12⟩; have HO12 := Lib.hid hown; have HHl := Lib.hid hHl; have HLo := Lib.hid hlo; have HB12 := Lib.hid hb12; clear hown hHl hlo hb12)
    have hcK : w12.cell? ⟨w9.heap.size, 0, none⟩ = some vk := by simp [World.cell?, HO12.out.hK]
    obtain ⟨Ak, ck, ek⟩ := Kd.R_slice HO12.out.row
    obtain ⟨nk, hnk⟩ : ∃ m, H.length = m := ⟨_, rfl⟩
    rw [hnk] at ek
    subst ek
    have HLt : Hid (KH.C (w12.alloc (.cells #[.slice h1.ad h1.n h1.c, .slice h2.ad h2.n h2.c, .slice h3.ad h3.n h3.c, .slice h4.ad h4.n h4.c] 30)) (some ⟨w12.heap.size, 0, none⟩) 4 [h1, h2, h3, h4]) := Lib.hid (Kd.R_reads' (R_lit (enc := Hd.v) (h1 := fun _ => rfl) 30 w12.heap.size w12 [h1, h2, h3, h4] (Nat.le_refl _) (by unfold maxLen; simp))).2.2
    have ha12 : Below w12.heap.size w12 (w12.alloc (.cells #[.slice h1.ad h1.n h1.c, .slice h2.ad h2.n h2.c, .slice h3.ad h3.n h3.c, .slice h4.ad h4.n h4.c] 30)) := below_alloc (Below.refl _ _) _
    have HA12 := Lib.hid ha12
    have HO13 := Lib.hid (HO12.out.stay ha12.size (fun k hk _ => ha12.block k hk))
    have HLn : Hid ((H.length + 4) * 24 ≤ 140737488355328) := Lib.hid (by have := HHl.out; omega)
    clear hnk ha12
    go_upto_region 15 with ((with_reducible refine gate_builtin (b := .append) (xs := #[.tmp 57, .tmp 62]) rfl ?_); at_builtin; refine Kd.R_append_rows KH (w0 := w12) 0 rfl (.tmp 57) (.tmp 62) 37 30 (.slice none 0 0) 24 rfl Tryd.underlying37 infoIntss rfl (by decide) (by omega) (.slice Ak nk ck) H [h1, h2, h3, h4] _ _ _ (fun _ => True) (fun _ => False) rfl rfl HO13.out.row HLt.out (fun _ _ h => h) (fun _ h => h.elim) (fun _ _ => trivial) (HA12.out.mono (Nat.zero_le _)) (Nat.zero_le _) HLn.out ?_; intro v13 w13 ho hb hg hat; have HR13 := Lib.hid ho; have HG13 := Lib.hid hg; have HT13 := Lib.hid hat; have hq : w13.cell? ⟨w9.heap.size, 0, none⟩ = some (.slice Ak nk ck) := (by have e := (hg.block w9.heap.size (HO13.out.low (.inl rfl)) (fun e => HO13.out.nK e.symm)).trans HO13.out.hK; simp [World.cell?, e]); have hz : w13.frozen? ⟨w9.heap.size, 0, none⟩ = false := (by have e := (hg.block w9.heap.size (HO13.out.low (.inl rfl)) (fun e => HO13.out.nK e.symm)).trans HO13.out.hK; simp [World.frozen?, e]); clear ho hb hg hat; obtain ⟨A5, c5, e5⟩ := Kd.R_slice HR13.out; obtain ⟨n5, hn5⟩ : ∃ m, (H ++ [h1, h2, h3, h4]).length = m := ⟨_, rfl⟩; rw [hn5] at e5; subst e5; have HN5 := Lib.hid hn5; clear hn5)
    have h69 := below_next (below_next HB7.out HB8.out) HB9.out
    have h79 := below_next HB8.out HB9.out
    have h9W : Below w9.heap.size w9 (w12.alloc (.cells #[.slice h1.ad h1.n h1.c, .slice h2.ad h2.n h2.c, .slice h3.ad h3.n h3.c, .slice h4.ad h4.n h4.c] 30)) := (HB11.out.trans HB12.out).trans (HA12.out.mono (by have := HB12.out.size; have := HB11.out.size; omega))
    have s69 := h69.size
    have s79 := h79.size
    have s89 := HB9.out.size
    have s56 := HB6.out.size
    have s67 := HB7.out.size
    have s78 := HB8.out.size
    have o1 : HdOk (w12.alloc (.cells #[.slice h1.ad h1.n h1.c, .slice h2.ad h2.n h2.c, .slice h3.ad h3.n h3.c, .slice h4.ad h4.n h4.c] 30)) h1 := K1.out.keep (h69.trans (h9W.mono s69)).size (fun g q => (h69.trans (h9W.mono s69)).block g (R1.out g q).2)
    have o2 : HdOk (w12.alloc (.cells #[.slice h1.ad h1.n h1.c, .slice h2.ad h2.n h2.c, .slice h3.ad h3.n h3.c, .slice h4.ad h4.n h4.c] 30)) h2 := K2.out.keep (h79.trans (h9W.mono s79)).size (fun g q => (h79.trans (h9W.mono s79)).block g (R2.out g q).2)
    have o3 : HdOk (w12.alloc (.cells #[.slice h1.ad h1.n h1.c, .slice h2.ad h2.n h2.c, .slice h3.ad h3.n h3.c, .slice h4.ad h4.n h4.c] 30)) h3 := K3.out.keep (HB9.out.trans (h9W.mono s89)).size (fun g q => (HB9.out.trans (h9W.mono s89)).block g (R3.out g q).2)
    have o4 : HdOk (w12.alloc (.cells #[.slice h1.ad h1.n h1.c, .slice h2.ad h2.n h2.c, .slice h3.ad h3.n h3.c, .slice h4.ad h4.n h4.c] 30)) h4 := K4.out.keep h9W.size (fun g q => h9W.block g (R4.out g q).2)
    have rng : ∀ j g, j < 4 → (hdD [h1, h2, h3, h4] j).blk = some g → (j = 0 → w5.heap.size ≤ g ∧ g < w6.heap.size) ∧ (j = 1 → w6.heap.size ≤ g ∧ g < w7.heap.size) ∧ (j = 2 → w7.heap.size ≤ g ∧ g < w8.heap.size) ∧ (j = 3 → w8.heap.size ≤ g ∧ g < w9.heap.size) := fun j g hj e => by
      obtain rfl | rfl | rfl | rfl : j = 0 ∨ j = 1 ∨ j = 2 ∨ j = 3 := by omega
      · have := R1.out g e; omega
      · have := R2.out g e; omega
      · have := R3.out g e; omega
      · have := R4.out g e; omega
    have hmm : ∀ x ∈ [h1, h2, h3, h4], HdOk (w12.alloc (.cells #[.slice h1.ad h1.n h1.c, .slice h2.ad h2.n h2.c, .slice h3.ad h3.n h3.c, .slice h4.ad h4.n h4.c] 30)) x ∧ x.n ≤ 1000000000000 ∧ ∀ g, x.blk = some g → w5.heap.size ≤ g ∧ g < w9.heap.size := fun x hx => by
      simp only [List.mem_cons, List.not_mem_nil, or_false] at hx
      rcases hx with rfl | rfl | rfl | rfl
      · exact ⟨o1, by have := N1.out; omega, fun g q => by have := R1.out g q; omega⟩
      · exact ⟨o2, by have := N2.out; omega, fun g q => by have := R2.out g q; omega⟩
      · exact ⟨o3, by have := N3.out; omega, fun g q => by have := R3.out g q; omega⟩
      · exact ⟨o4, by have := N4.out; omega, fun g q => by have := R4.out g q; omega⟩
    have hpre := own_pre HO13.out HHl.out (L := [h1, h2, h3, h4]) (by simp) HLo.out (fun x hx => ⟨(hmm x hx).1, (hmm x hx).2.1, fun g q => ((hmm x hx).2.2 g q).2⟩) (fun i j g hi hj hij e1 e2 => by
      have q1 := rng i g hi e1
      have q2 := rng j g hj e2
      simp only [List.length_cons, List.length_nil] at hi hj
      omega) HR13.out HG13.out HT13.out (fun ad ha => by
      obtain ⟨g5, c6, e6, -⟩ := Kd.R_form HR13.out (by simp)
      injection e6 with e6 e7 e8
      rw [ha] at e6
      injection e6 with e6
      subst e6
      rw [ha]
      simp [Value.ownBlock])
    have hbK : Below w5.heap.size w5 (w13.setCell ⟨w9.heap.size, 0, none⟩ (.slice A5 n5 c5)) := by
      refine Below.setCell ?_ (by show w5.heap.size ≤ w9.heap.size; omega) _
      refine (HQ9.out.trans (h9W.mono (by omega))).trans ((Chg.of_grown HG13.out).below (by have := h9W.size; omega) (fun k hk q => ?_))
      have := HLo.out k (.inr (.inr (.inl q)))
      omega
    obtain ⟨w14, hw14⟩ : ∃ w14, w13.setCell ⟨w9.heap.size, 0, none⟩ (.slice A5 n5 c5) = w14 := ⟨_, rfl⟩
    have hq14 : w14.cell? ⟨w9.heap.size, 0, none⟩ = some (.slice A5 n5 c5) := by rw [← hw14]; exact World.cell?_setCell_same _ _ _ hq
    rw [hw14] at hpre hbK ⊢
    have hap := apartInts_calls A5 c5 (H ++ [h1, h2, h3, h4]) w14 hpre.1
    rw [HN5.out] at hap
    have HAp := Lib.hid hap
    clear hap
    have HAl : Hid (∀ w', Chg (ApS (H ++ [h1, h2, h3, h4])) w14 w' → Below w5.heap.size w5 w') := Lib.hid (fun w' hc => hbK.trans (hc.below hbK.size (fun k hk q => by
      rcases hpre.2 k q with ⟨x, hx, e⟩ | e
      · have := (hmm x hx).2.2 k e; omega
      · omega)))
    clear hw14 hpre hbK hmm rng o1 o2 o3 o4 h69 h79 h9W s69 s79 s89 s56 s67 s78 hq hz hcK
    go_wp2_with (first
      | (go_at_call 18; refine HAp.out.mono ?_; rintro e w15 ⟨rfl, hc15⟩; have P15 := Lib.hid (HAl.out w15 hc15); obtain ⟨z0, z1, z2, z3⟩ := gr_blk (blk_below HKg.out P15.out); obtain ⟨y0, y1, y2, y3⟩ := gr_blk (blk_below HKu.out P15.out); clear hc15)
      | (go_at_call 19; refine (keptGrammar_calls _ _ g _ (HU5.out.below P15.out) (HG5.out.below P15.out)).mono ?_; rintro e w16 ⟨rfl, hb16⟩; have P16 := Lib.hid (below_next P15.out hb16); clear hb16)
      | (go_at_call 20; refine (keptSteps_calls As tA cs tc t _ (Kd.C_below HS5.out P16.out) hcs (Kd.C_below HT5.out P16.out)).mono ?_; rintro e w17 ⟨rfl, n17, rfl⟩))
    go_ret
    exact ⟨rfl, below_next HB5.out (pw_below_drewN P16.out _)⟩
  · have HN : Hid ((knownE g t).1 ≠ 0) := Lib.hid (fun h => h0 (knownE_zero h))
    have hPO : ∀ (W : World), Below w5.heap.size w5 W → Calls Tryd.prog 12 #[.agg #[.slice BT g.terms.length dT, .slice BN g.nonterms.length dN, .int .i64 g.ax, .slice BR g.rules.length dR], .slice As t.length cs] W (fun e w' => ∃ v T x, e = .returned (.tuple #[v, .iface T x]) ∧ Below W.heap.size W w') := fun W hW => (HPa.out W hW).mono (by
      rintro e w' ⟨v, u, rfl, hr, hu, hb⟩
      rcases hu.nil_iff with ⟨h, _⟩ | ⟨_, t1, x, rfl⟩
      · exact absurd h HN.out
      · exact ⟨v, t1, x, rfl, hb⟩)
    have HPO := Lib.hid hPO
    clear hPO HPa h0
    go_wp2_with (first
      | (go_at_call 12; (with_reducible refine (HPO.out w5 (Below.refl _ _)).mono ?_); rintro e w6 ⟨v1, T1, x1, rfl, hb6⟩; have HB6 := Lib.hid hb6; obtain ⟨d0, d1, d2, d3⟩ := gr_blk (blk_below HKu.out hb6); clear hb6 c0 c1 c2 c3)
      | (go_at_call 12; (with_reducible refine (HPO.out w6 HB6.out).mono ?_); rintro e w7 ⟨v2, T2, x2, rfl, hb7⟩; have HQ7 := Lib.hid (below_next HB6.out hb7); obtain ⟨c0, c1, c2, c3⟩ := gr_blk (blk_below HKu.out HQ7.out); clear hb7 d0 d1 d2 d3)
      | (go_at_call 14; (with_reducible refine (HIn.out w7 HQ7.out).mono ?_); rintro e w8 ⟨v3, u3, rfl, -, hb8⟩; have HQ8 := Lib.hid (below_next HQ7.out hb8); obtain ⟨d0, d1, d2, d3⟩ := gr_blk (blk_below HKu.out HQ8.out); clear hb8 c0 c1 c2 c3)
      | (go_at_call 14; (with_reducible refine (HIn.out w8 HQ8.out).mono ?_); rintro e w9 ⟨v4, u4, rfl, -, hb9⟩; have HQ9 := Lib.hid (below_next HQ8.out hb9); clear hb9 d0 d1 d2 d3))
    go_ret
    exact ⟨rfl, below_next HB5.out HQ9.out⟩
end Go.Proofs.YtapgglmdnggopaaDoor.Hand
