/- The texts that the statement's proof stands on, part 5: XFoS XFoF XInM XIn XApM XApart XHdR XOwC28 XKn28 XOpens XOpenS. -/
import Derived.Test.YtapgglmdnggopaaDoorZc7a6370c4
import Derived.Deep.RegionHeld3
import Derived.WalkLawsBesides
import Derived.Test.YtapgglmdnggopaaDoorWLast
import Derived.Deep.Slices
import Derived.ChangeSame
import Derived.SizedLaws
import Derived.Lib.SmallJoins
import Derived.Deep.Strs
/- Contracts: folder.step, for each kind of value. -/
namespace Go.Proofs.YtapgglmdnggopaaDoor.Hand
open Go.RowKit Go.Proofs.YtapgglmdnggopaaDoorW.PrintWords Go.Proofs.YtapgglmdnggopaaDoorW.PrintMore Go.Proofs.YtapgglmdnggopaaDoor.Math

theorem fint_make (n : Nat) (hn : n ≤ 100000) (w : World) : ∃ cs : Array Value, cs.size = n * 1 ∧ (Instr.makeSlice 30 (.int .i64 0) (.int .i64 (n : Int))).run Tryd.prog w = .ok (.slice (some ⟨w.heap.size, 0, none⟩) 0 n) (w.alloc (.cells cs 3)) := by
  obtain ⟨i, hi, hzz⟩ := Option.map_eq_some_iff.1 infoInt
  simp only [Prod.mk.injEq] at hzz
  obtain ⟨hz, hs, hb⟩ := hzz
  have h := run_make (P := Tryd.prog) w 30 3 i _ Tryd.underlying30 hi hz .i64 .i64 0 (n : Int) (by omega) (by omega) (by rw [hb]; omega) (by omega)
  rw [hs] at h
  exact ⟨_, by simp [size_madeCells], h⟩
theorem fint_made (n : Nat) (hn : n ≤ 100000) (w : World) (base : Nat) (ok : Nat → Prop) (cs : Array Value) (hc : cs.size = n * 1) (hb : base ≤ w.heap.size) (hok : ok w.heap.size) : ((Kd.int .i64)).R 3 (w.alloc (.cells cs 3)) base ok (.slice (some ⟨w.heap.size, 0, none⟩) 0 n) [] :=
  ⟨fun k hk => by simp [Value.ownBlock] at hk; subst hk; exact hok, [], ⟨by simp, .inr ⟨w.heap.size, n, cs, rfl, hb, heap_alloc_new w _, Nat.zero_le _, by have : maxLen = 9223372036854775807 := (by decide); omega, hc, by simp⟩⟩, Reps.none _ _⟩
set_option maxHeartbeats 4000000 in
set_option maxRecDepth 100000 in
theorem fint_step {σ : Type} {kl kn : FuncId} {capL capN : Array Value} {cnt : σ → Nat} {lf : σ → Int → Int → σ × _} {nf : σ → Int → List _ → σ × _} {Cl : σ → World → (Nat → Prop) → Prop} {wB w0 : World} {g : Gr} {AT AN AR tA : Option Addr} {cT cN cR tc : Nat} {t : List (Int × Int × Int)}
    (hfl : Hid (∀ (ars : Array Value) (W : World), (callFunc kl ars).run Tryd.prog W = .ok (.enter kl ars) W)) (hfn : Hid (∀ (ars : Array Value) (W : World), (callFunc kn ars).run Tryd.prog W = .ok (.enter kn ars) W))
    (hI : Hid (FoldIn Tryd.prog kl kn (fun a b => #[a, b] ++ capL) (fun a b => #[a, b] ++ capN) (Value.int .i64) (Kd.int .i64) 3 cnt lf nf Cl wB w0 g AR t tA)) (bF : Nat) (f : Nat)
    (ih : Hid (∀ (any : Bool) (nt : Int) (up : Option (Int × Nat)) (deep i : Nat) (p : Int) (s : σ) (ks : List _) (K : List (List _)) (own : Nat → Prop) (w : World) (i' : Nat) (p' : Int) (s' : σ) (v : _), nodeG (opsF lf nf) g.rules (t.map (·.1)) f any nt up deep (i, p, s, ks :: K) = some (i', p', s', (ks ++ [v]) :: K) → cnt s ≤ i →
      FInv Cl wB w0 103 bF (.slice AT g.terms.length cT) (.slice AN g.nonterms.length cN) (.slice AR g.rules.length cR) g.ax (.slice tA t.length tc) (.func (.func kl) #[] capL) (.func (.func kn) #[] capN) i p s own w →
      Calls Tryd.prog 56 #[.pointer (some ⟨bF, 0, none⟩)] w (FStepP Cl wB w0 103 bF (.slice AT g.terms.length cT) (.slice AN g.nonterms.length cN) (.slice AR g.rules.length cR) g.ax (.slice tA t.length tc) (.func (.func kl) #[] capL) (.func (.func kn) #[] capN) (Value.int .i64) i' p' s' v own w)))
    (any : Bool) (nt : Int) (up : Option (Int × Nat)) (deep i : Nat) (p : Int) (s : σ) (ks : List _) (K : List (List _)) (own : Nat → Prop) (w : World) (i' : Nat) (p' : Int) (s' : σ) (v : _) (hn : nodeG (opsF lf nf) g.rules (t.map (·.1)) (f + 1) any nt up deep (i, p, s, ks :: K) = some (i', p', s', (ks ++ [v]) :: K)) (hcn : cnt s ≤ i)
    (h : FInv Cl wB w0 103 bF (.slice AT g.terms.length cT) (.slice AN g.nonterms.length cN) (.slice AR g.rules.length cR) g.ax (.slice tA t.length tc) (.func (.func kl) #[] capL) (.func (.func kn) #[] capN) i p s own w) :
    Calls Tryd.prog 56 #[.pointer (some ⟨bF, 0, none⟩)] w (FStepP Cl wB w0 103 bF (.slice AT g.terms.length cT) (.slice AN g.nonterms.length cN) (.slice AR g.rules.length cR) g.ax (.slice tA t.length tc) (.func (.func kl) #[] capL) (.func (.func kn) #[] capN) (Value.int .i64) i' p' s' v own w) := by
  obtain ⟨j, ⟨i3, p3, s3, K3⟩, hj, hjG, hsy, hfin⟩ := foldG_ok hn
  have hlt : i < t.length := by
    have := (List.getElem?_eq_some_iff.1 hj).1
    simpa using this
  have HH := Lib.hid h
  have hlen := hI.out.len
  have hfew := hI.out.few
  obtain ⟨l3, l4, l5, l6, l7, l8, lz⟩ := h.cells rfl rfl rfl rfl
  have HTR := Lib.hid (And.intro (Kd.C_below hI.out.tree h.base) (Kd.C_below hI.out.rules h.base))
  have z5 := lz 5
  have hj2 : (t.getD i (0, 0, 0)).1 = (j : Int) := by
    have e := (List.getElem?_eq_some_iff.1 hj).2
    rw [List.getElem_map] at e
    rw [List.getD_eq_getElem?_getD, List.getElem?_eq_getElem hlt]
    exact e
  obtain ⟨ta, x0, y0, z0, rfl, k0, -, -, HX⟩ := at_step HTR.out.1 i hlt
  rw [HX.out] at hj2
  simp only at hj2
  subst hj2
  have HSy := Lib.hid hsy
  have HFin := Lib.hid hfin
  clear hn h hsy hfin hj lz l3 l6 l7 l8 HX HTR
  go_enter Tryd.func56, Tryd.ntmps56
  go_wp2
  go_quiet (fail)
  rename Nat => q1
  go_upto_region 3 with (fail)
  obtain ⟨w2, hw2⟩ : ∃ w2, (w.drewN q1).setCell ⟨bF, 5, none⟩ (.int .i64 ((i : Int) + 1)) = w2 := ⟨_, rfl⟩
  have f2 : FInv Cl wB w0 103 bF (.slice AT g.terms.length cT) (.slice AN g.nonterms.length cN) (.slice AR g.rules.length cR) g.ax (.slice (some ta) t.length tc) (.func (.func kl) #[] capL) (.func (.func kn) #[] capN) (i + 1) p s own w2 := by
    rw [← hw2]
    have := (HH.out.below hI.out (pw_below_drewN (Below.refl _ _) q1)).setI hI.out (i + 1)
    rwa [show ((i + 1 : Nat) : Int) = (i : Int) + 1 by omega] at this
  have c2' : Chg (fun k => k = bF ∨ own k) w w2 := by
    rw [← hw2]
    exact (Chg.of_below _ (pw_below_drewN (Below.refl _ _) q1)).trans ((Chg.set _ ⟨bF, 5, none⟩ _).mono (fun k _ hk => .inl hk))
  rw [hw2]
  clear hw2 l4 l5 z5 k0
  have F2 := Lib.hid f2
  have C2 := Lib.hid c2'
  have hru := Kd.C_below hI.out.rules f2.base
  obtain ⟨l3, -⟩ := f2.cells rfl rfl rfl rfl
  obtain ⟨adr, x, B, c, r, rfl, -, k20, hrc, hr, HD⟩ := at_rule hru j hjG
  have hrule : (ruleD g.rules (j : Int)).2 = r := by unfold ruleD; rw [Int.toNat_natCast, HD.out]
  have hl32 : r.length ≤ 32 := hI.out.short (x, r) (by rw [← HD.out]; exact getD_mem _ _ _ hjG)
  have HSym : Hid (∀ s ∈ r, -100 ≤ s ∧ s ≤ 100) := Lib.hid (hI.out.syms (x, r) (by rw [← HD.out]; exact getD_mem _ _ _ hjG))
  rw [hrule] at HSy
  have HRl := Lib.hid hrule
  have HRr : Hid (∀ W, Below wB.heap.size wB W → (Kd.int .i64).C W B r.length r) := Lib.hid (fun W hW => by
    obtain ⟨adr2, x2, B2, c2, r2, e1, -, k2, hrc2, hr2, HD2⟩ := at_rule (Kd.C_below hI.out.rules hW) j hjG
    obtain rfl := Option.some.inj e1
    have e3 := HD.out.symm.trans HD2.out
    simp only [Prod.mk.injEq] at e3
    obtain ⟨-, rfl⟩ := e3
    obtain ⟨adr3, x3, B3, c3, r3, e3, -, k3, -, -, -⟩ := at_rule hI.out.rules j hjG
    obtain rfl := Option.some.inj e3
    have hlt3 := World.block_lt_of_cell? _ _ k3
    have u6 := (f2.base.cell hlt3).trans k3
    have uW := (hW.cell hlt3).trans k3
    rw [k20] at u6
    rw [k2] at uW
    injection u6 with u6
    injection u6 with u6 u7 u8
    injection uW with uW
    injection uW with uW u9 u10
    rw [u6, ← uW]
    exact hr2)
  obtain ⟨cs, hcs, hmk⟩ := fint_make r.length (by omega) w2
  have f3 := f2.below hI.out (below_alloc (Below.refl _ _) (.cells cs 3))
  have HLo : Hid (w.heap.size ≤ w2.heap.size) := Lib.hid c2'.size
  have HM3 := Lib.hid (fint_made r.length (by omega) w2 w0.heap.size (fun k => ¬ own k ∧ k ≠ bF) cs hcs f2.size ⟨fun q => by have := hI.out.low s w2 own _ f2.cl q; omega, fun q => by have := f2.lt; omega⟩)
  have F3 := Lib.hid f3
  have C3 := Lib.hid (c2'.trans (Chg.of_below _ (below_alloc (Below.refl w2.heap.size w2) (.cells cs 3))))
  clear hru hr HD hrule f2 f3 c2' hcs
  go_upto_region 5 with (fail)
  obtain ⟨w3, hw3⟩ : ∃ w3, w2.alloc (.cells cs 3) = w3 := ⟨_, rfl⟩
  rw [hw3] at HM3 F3 C3 ⊢
  have HL : Hid (FLoop cnt Cl wB w0 103 bF (.slice AT g.terms.length cT) (.slice AN g.nonterms.length cN) (.slice (some adr) g.rules.length cR) g.ax (.slice (some ta) t.length tc) (.func (.func kl) #[] capL) (.func (.func kn) #[] capN) (Kd.int .i64) 3 lf nf g.rules (t.map (·.1)) f deep i j r ks K (i3, p3, s3, K3) own w 0 (i + 1) p s [] own (.slice (some ⟨w2.heap.size, 0, none⟩) 0 r.length) w3) := Lib.hid
    ⟨⟨F3.out, HM3.out, fun k hk => by simp [Value.ownBlock] at hk; have := HLo.out; omega, C3.out, fun k hk => .inl hk⟩, rfl, by omega, by rw [List.length_map]; exact hlt, by rw [List.drop_zero]; exact HSy.out⟩
  clear hw3 hmk l3 k20 HSy HH F2 C2 HLo HM3 C3 F3
  go_wp2
  go_loopw [5, 40] (fun vv k wr => ∃ (kk i2 : Nat) (p2 : Int) (s2 : σ) (kids : List _) (own2 : Nat → Prop) (v2 : Value), kk ≤ r.length ∧ k = .int .i64 (kk : Int) ∧ v2 = vv ∧ Hid (FLoop cnt Cl wB w0 103 bF (.slice AT g.terms.length cT) (.slice AN g.nonterms.length cN) (.slice (some adr) g.rules.length cR) g.ax (.slice (some ta) t.length tc) (.func (.func kl) #[] capL) (.func (.func kn) #[] capN) (Kd.int .i64) 3 lf nf g.rules (t.map (·.1)) f deep i j r ks K (i3, p3, s3, K3) own w kk i2 p2 s2 kids own2 v2 wr)) (fun _ k _ => r.length - (intOf k).toNat)
  case atStart => exact ⟨0, _, _, _, _, _, _, by omega, rfl, rfl, HL⟩
  case round =>
    obtain ⟨kk, i2, p2, s2, kids, own2, v2, hkk, rfl, rfl, HN⟩ := hrel
    obtain ⟨w8, rfl⟩ : ∃ w8, wr = w8 := ⟨_, rfl⟩
    clear HL
    by_cases hlk : kk < r.length
    · obtain ⟨adx, y, rfl, hy, HY⟩ := at_scalar (HRr.out _ HN.out.kid.inv.base) kk hlk 0
      have hdrop : r.drop kk = y :: r.drop (kk + 1) := by
        rw [List.drop_eq_getElem_cons hlk]
        have := HY.out
        rw [List.getD_eq_getElem?_getD, List.getElem?_eq_getElem hlk] at this
        rw [← this]
        rfl
      have hyb := HSym.out y (by rw [← HY.out]; exact getD_mem _ _ _ hlk)
      have HDr := Lib.hid hdrop
      have HKl : Hid ((kids.length + 1) * 8 ≤ 140737488355328) := Lib.hid (by have := HN.out.len; omega)
      clear hdrop
      by_cases hneg : y < 0
      · obtain ⟨i4, p4, s4, vv, hs4, hnext⟩ := HN.out.node hI.out.cntL hI.out.cntN HDr.out hneg
        have HNx := Lib.hid hnext
        have HC := Lib.hid (ih.out false (-1 - y) (some ((j : Int), kk)) (deep + 1) i2 p2 s2 kids (ks :: K) own2 wr i4 p4 s4 vv hs4 (by have := HN.out.cn; omega) HN.out.kid.inv)
        clear hnext hs4
        go_wp2_with (first
          | (go_at_call 56; (with_reducible refine HC.out.mono ?_); rintro e w9 ⟨rfl, own4, h9, hc9, ho9⟩; have K9 := Lib.hid (HN.out.kid.call h9 hc9 (fun k hk => hk) ho9); clear h9 hc9 ho9)
          | ((with_reducible refine gate_builtin (b := .append) (xs := #[.tmp 46, .tmp 49]) rfl ?_); at_builtin; go_loud (refine Kd.R_append (Kd.int .i64) (w0 := w9) w0.heap.size rfl (.tmp 46) (.tmp 49) 30 3 (.int .i64 0) 8 rfl Tryd.underlying30 infoInt rfl (by decide) (by omega) v2 kids vv [.int .i64 vv] (fun k => ¬ own4 k ∧ k ≠ bF) (fun _ => False) rfl rfl rfl (fun _ hk => hk.elim) (fun k hk => ⟨fun q => by have := hI.out.low _ _ _ _ K9.out.inv.cl q; omega, fun q => by have := K9.out.inv.lt; omega⟩) K9.out.row (Below.refl _ _) K9.out.inv.size HKl.out ?_); intro v10 w10 ho hb hg hat; (have K10 := Lib.hid (K9.out.grow hI.out ho hg hat); clear ho hb hg hat)))
        go_roundw
        case rel => exact ⟨kk + 1, i4, p4, s4, _, own4, v10, by omega, by go_num, rfl, HNx.out _ _ _ K10.out |> Lib.hid⟩
        case measure => simp [intOf]; omega
      · have K8 := Lib.hid (HN.out.kid.below hI.out (below_drew (Below.refl _ _)))
        have HLf := Lib.hid (hI.out.leaf s2 wr.drew own2 p2 y K8.out.inv.cl (by omega) (by omega) K8.out.inv.size K8.out.inv.base)
        have HNx := Lib.hid (HN.out.tok hI.out.cntL HDr.out hneg)
        obtain ⟨m7, m6⟩ := HN.out.kid.inv.two rfl
        have M8 := Lib.hid (K8.out.inv.two rfl)
        have hfl1 := hfl.out
        obtain ⟨vv, hvv⟩ : ∃ vv, (lf s2 p2 y).2 = vv := ⟨_, rfl⟩
        rw [hvv] at HLf HNx
        clear hvv
        go_upto_region 10 with (fail)
        go_region_held3 (fun w' => w'.cell? ⟨bF, 7, none⟩ = some (.func (.func kl) #[] capL) ∧ w'.cell? ⟨bF, 6, none⟩ = some (.int .i64 p2))
          (first
            | exact M10.out
            | exact (K9.out.inv.below hI.out (below_alloc (Below.refl _ _) _)).two rfl
            | exact M9.out
            | exact M8.out)
          (first
            | ((with_reducible refine HLf.out.mono ?_); rintro e w9 ⟨rfl, own4, h9, hc9, ho9⟩; have K9 := Lib.hid (K8.out.leaf hI.out.ord h9 hc9 ho9); have M9 := Lib.hid (K9.out.inv.two rfl); clear h9 hc9 ho9)
            | (refine Kd.R_append_step (Kd.int .i64) (w0 := w9) w0.heap.size rfl (.tmp 51) (.tmp 62) 30 3 (.int .i64 0) 8 rfl Tryd.underlying30 infoInt rfl (by decide) (by omega) v2 kids vv [.int .i64 vv] (fun k => ¬ own4 k ∧ k ≠ bF) (fun _ => False) rfl rfl rfl (fun _ hk => hk.elim) (fun k hk => ⟨fun q => by have := hI.out.low _ _ _ _ K9.out.inv.cl q; omega, fun q => by have := K9.out.inv.lt; omega⟩) K9.out.row (Below.refl _ _) K9.out.inv.size HKl.out ?_; intro v10 w10 ho hb hg hat; have K10 := Lib.hid (K9.out.grow hI.out ho hg hat); have M10 := Lib.hid (K10.out.inv.two rfl); clear ho hb hg hat))
        have m6' := M10.out.2
        have z6 := blk_free K10.out.inv.blk 6
        have HE := Lib.hid (HNx.out _ _ _ (K10.out.setP hI.out (inc64 p2)))
        clear hfl1 m6 m7 M8 M9 M10 K8 K9 K10 HNx
        go_wp2
        go_roundw
        case rel => exact ⟨kk + 1, i2, inc64 p2, _, _, own4, v10, by omega, by go_num, rfl, HE⟩
        case measure => simp [intOf]; omega
    · obtain rfl : kk = r.length := by omega
      have hf := HN.out.fin (Nat.le_refl _)
      simp only [Prod.mk.injEq] at hf
      obtain ⟨rfl, rfl, rfl, rfl⟩ := hf
      have hff := HFin.out
      simp only [opsF, pushV, Prod.mk.injEq, List.cons.injEq, List.append_cancel_left_eq, and_true] at hff
      obtain ⟨rfl, rfl, rfl, rfl⟩ := hff
      have HNd := Lib.hid (hI.out.node s3 wr own2 j kids v2 HN.out.kid.inv.cl (by have := HN.out.cn; have := HN.out.hi; rw [List.length_map] at this; omega) hjG (by rw [HRl.out]; exact HN.out.len) HN.out.kid.inv.size HN.out.kid.inv.base (Kd.R_mono HN.out.kid.row (fun k hk => hk.1)))
      have m8 := HN.out.kid.inv.nodeF rfl
      have hfn1 := hfn.out
      obtain ⟨rv, hrv⟩ : ∃ rv, (nf s3 (j : Int) kids).2 = rv := ⟨_, rfl⟩
      rw [hrv] at HNd
      have HRv := Lib.hid hrv
      clear hrv
      go_wp2_with ((with_reducible refine HNd.out.mono ?_); rintro e w9 ⟨rfl, own4, h9, hc9, ho9⟩; have K9 := Lib.hid (HN.out.kid.node hI.out.ord h9 hc9 ho9); clear h9 hc9 ho9)
      go_ret
      refine ⟨?_, own4, ?_⟩
      · rw [HRv.out]; rfl
      · exact K9.out
/-- folder.step on any steps that are a tree. -/
theorem fint_calls {σ : Type} {kl kn : FuncId} {capL capN : Array Value} {cnt : σ → Nat} {lf : σ → Int → Int → σ × _} {nf : σ → Int → List _ → σ × _} {Cl : σ → World → (Nat → Prop) → Prop} {wB w0 : World} {g : Gr} {AT AN AR tA : Option Addr} {cT cN cR tc : Nat} {t : List (Int × Int × Int)}
    (hfl : Hid (∀ (ars : Array Value) (W : World), (callFunc kl ars).run Tryd.prog W = .ok (.enter kl ars) W)) (hfn : Hid (∀ (ars : Array Value) (W : World), (callFunc kn ars).run Tryd.prog W = .ok (.enter kn ars) W))
    (hI : Hid (FoldIn Tryd.prog kl kn (fun a b => #[a, b] ++ capL) (fun a b => #[a, b] ++ capN) (Value.int .i64) (Kd.int .i64) 3 cnt lf nf Cl wB w0 g AR t tA)) (bF : Nat) : ∀ (f : Nat) (any : Bool) (nt : Int) (up : Option (Int × Nat)) (deep i : Nat) (p : Int) (s : σ) (ks : List _) (K : List (List _)) (own : Nat → Prop) (w : World) (i' : Nat) (p' : Int) (s' : σ) (v : _), nodeG (opsF lf nf) g.rules (t.map (·.1)) f any nt up deep (i, p, s, ks :: K) = some (i', p', s', (ks ++ [v]) :: K) → cnt s ≤ i →
      FInv Cl wB w0 103 bF (.slice AT g.terms.length cT) (.slice AN g.nonterms.length cN) (.slice AR g.rules.length cR) g.ax (.slice tA t.length tc) (.func (.func kl) #[] capL) (.func (.func kn) #[] capN) i p s own w →
      Calls Tryd.prog 56 #[.pointer (some ⟨bF, 0, none⟩)] w (FStepP Cl wB w0 103 bF (.slice AT g.terms.length cT) (.slice AN g.nonterms.length cN) (.slice AR g.rules.length cR) g.ax (.slice tA t.length tc) (.func (.func kl) #[] capL) (.func (.func kn) #[] capN) (Value.int .i64) i' p' s' v own w)
  | 0, any, nt, up, deep, i, p, s, ks, K, own, w, i', p', s', v, hn, _, _ => by rw [nodeG] at hn; cases hn
  | f + 1, any, nt, up, deep, i, p, s, ks, K, own, w, i', p', s', v, hn, hcn, h =>
    fint_step hfl hfn hI bF f (Lib.hid (fun any nt up deep i p s ks K own w i' p' s' v => fint_calls hfl hfn hI bF f any nt up deep i p s ks K own w i' p' s' v)) any nt up deep i p s ks K own w i' p' s' v hn hcn h
end Go.Proofs.YtapgglmdnggopaaDoor.Hand
/- Contracts: fold.Fold, for each kind of value. -/
namespace Go.Proofs.YtapgglmdnggopaaDoor.Hand
open Go.RowKit Go.Proofs.YtapgglmdnggopaaDoorW.PrintWords Go.Proofs.YtapgglmdnggopaaDoorW.PrintMore Go.Proofs.YtapgglmdnggopaaDoor.Math

/-- What Fold leaves. -/
def foldInt_P {σ : Type} (A : Nat → Addr) (lf : σ → Int → Int → σ × Int) (nf : σ → Int → List Int → σ × Int) (Cl : σ → World → (Nat → Prop) → Prop) (g : Gr) (t : List (Int × Int × Int)) (s : σ) (own : Nat → Prop) (w : World) (e : Ending) (w' : World) : Prop :=
  ((knownE g t).1 ≠ 0 ∧ ∃ u, e = .returned (.tuple #[(.int .i64 0), u]) ∧ ErrV w' A u (knownE g t).1 (knownE g t).2 ∧ Below w.heap.size w w') ∨
  (knownE g t = (0, -1) ∧ ∃ p' s' v own', walkG (opsF lf nf) g.rules (t.map (·.1)) true 0 ((t.getD 0 (0, 0, 0)).2.1, s, [[]]) = some (p', s', [[v]]) ∧ e = .returned (.tuple #[(Value.int .i64) v, .nilIface]) ∧ Cl s' w' own' ∧ Chg own w w' ∧ ∀ k, own' k → own k ∨ w.heap.size ≤ k)
set_option maxHeartbeats 2000000 in
set_option maxRecDepth 20000 in
theorem foldInt_calls {σ : Type} {kl kn : FuncId} {capL capN : Array Value} {cnt : σ → Nat} {lf : σ → Int → Int → σ × _} {nf : σ → Int → List Int → σ × _} {Cl : σ → World → (Nat → Prop) → Prop} {wB w : World} {g : Gr} {AT AN AR tA : Option Addr} {cT cN cR tc : Nat} {t : List (Int × Int × Int)} {s : σ} {own : Nat → Prop} (A : Nat → Addr)
    (hfl : Hid (∀ (ars : Array Value) (W : World), (callFunc kl ars).run Tryd.prog W = .ok (.enter kl ars) W)) (hfn : Hid (∀ (ars : Array Value) (W : World), (callFunc kn ars).run Tryd.prog W = .ok (.enter kn ars) W))
    (hI : Hid (knownE g t = (0, -1) → FoldIn Tryd.prog kl kn (fun a b => #[a, b] ++ capL) (fun a b => #[a, b] ++ capN) (Value.int .i64) (Kd.int .i64) 3 cnt lf nf Cl wB w g AR t tA)) (hE : Errs wB A) (hv : GramAt wB (.agg #[.slice AT g.terms.length cT, .slice AN g.nonterms.length cN, .int .i64 g.ax, .slice AR g.rules.length cR]) g) (ht : KStep.C wB tA t.length t) (htc : t.length ≤ tc)
    (hb : Below wB.heap.size wB w) (hC : Cl s w own) (hcn : Hid (cnt s = 0)) (hup : ∀ k, own k → wB.heap.size ≤ k) :
    Calls Tryd.prog 15 #[.agg #[.slice AT g.terms.length cT, .slice AN g.nonterms.length cN, .int .i64 g.ax, .slice AR g.rules.length cR], .slice tA t.length tc, .func (.func kl) #[] capL, .func (.func kn) #[] capN] w (foldInt_P A lf nf Cl g t s own w) := by
  have hnl : ∀ (fn : Fn) (first cap : Array Value) (W : World), (binOp .eql 40 (.func fn first cap) .nilFunc).run Tryd.prog W = .ok (.bool false) W := fun _ _ _ _ => by kernel_rfl
  have hnn : ∀ (fn : Fn) (first cap : Array Value) (W : World), (binOp .eql 41 (.func fn first cap) .nilFunc).run Tryd.prog W = .ok (.bool false) W := fun _ _ _ _ => by kernel_rfl
  obtain ⟨w1, hw1⟩ : ∃ w1, w.alloc (.cells #[.slice AT g.terms.length cT, .slice AN g.nonterms.length cN, .int .i64 g.ax, .slice AR g.rules.length cR] 25) = w1 := ⟨_, rfl⟩
  have hb1 : Below w.heap.size w w1 := by rw [← hw1]; exact below_alloc (Below.refl _ _) _
  have hk1 : w1.heap[w.heap.size]? = some (.cells #[.slice AT g.terms.length cT, .slice AN g.nonterms.length cN, .int .i64 g.ax, .slice AR g.rules.length cR] 25 (0, 0)) := by rw [← hw1]; exact heap_alloc_new w _
  obtain ⟨c0, c1, c2, c3⟩ := gr_blk hk1
  have hbb := below_next hb hb1
  have HB := Lib.hid hb
  have HB1 := Lib.hid hb1
  have HBB := Lib.hid hbb
  have HK1 := Lib.hid hk1
  have HT := Lib.hid ht
  have HC := Lib.hid (drules_calls _ g tA tc t w1 A (hE.below hbb) (hv.below hbb) (Kd.C_below ht hbb) htc)
  have HCl := Lib.hid hC
  have HUp := Lib.hid hup
  clear hb1 hk1 hE hv ht hb hbb hC hup
  by_cases h0 : knownE g t = (0, -1)
  · have hy := knownE_yes h0
    have hI2 := Lib.hid (hI.out h0)
    obtain ⟨d0, hd0, -⟩ := hy.2.2
    obtain ⟨i', p', s', v, hn, hw⟩ := foldG_walk (lf := lf) (nf := nf) (t.getD 0 (0, 0, 0)).2.1 s (show walkG (opsD inc64) g.rules (t.map (·.1)) true 0 _ = some d0 from hd0)
    have hpos : 0 < t.length := List.length_pos_iff.2 hy.2.1
    have HN := Lib.hid hn
    have HW := Lib.hid hw
    have H0 := Lib.hid h0
    clear hn hw h0 hd0 hy
    obtain ⟨ta, x0, y0, z0, rfl, -, k1, -, HX⟩ := at_step HT.out 0 hpos
    simp only [Nat.zero_mul, addr_zero] at k1
    rw [HX.out] at HN HW
    simp only at HN HW
    go_enter Tryd.func15, Tryd.ntmps15
    go_upto_region 7 with (go_at_call 54; refine HC.out.mono ?_; rintro e w2 ⟨v1, u, rfl, -, hu, hb2⟩; rw [H0.out] at hu; obtain ⟨-, rfl⟩ := hu.nil_iff.resolve_right (fun h => absurd h.1 (by decide)); have HB2 := Lib.hid hb2; obtain ⟨b0, b1, b2, b3⟩ := gr_blk (blk_below HK1.out hb2); have j1 := (((below_next HBB.out hb2).cell (World.block_lt_of_cell? _ _ k1))).trans k1; clear hu hb2 c0 c1 c2 c3)
    go_region
    obtain ⟨w3, hw3⟩ : ∃ w3, (w2.alloc (.cells #[.slice AT g.terms.length cT, .slice AN g.nonterms.length cN, .int .i64 g.ax, .slice AR g.rules.length cR, .slice (some ta) t.length tc, .int .i64 0, .int .i64 y0, .func (.func kl) #[] capL, .func (.func kn) #[] capN] 103)).drew = w3 := ⟨_, rfl⟩
    have hb3 : Below w2.heap.size w2 w3 := by rw [← hw3]; exact below_drew (below_alloc (Below.refl _ _) _)
    have hblk : w3.heap[w2.heap.size]? = some (.cells #[.slice AT g.terms.length cT, .slice AN g.nonterms.length cN, .int .i64 g.ax, .slice AR g.rules.length cR, .slice (some ta) t.length tc, .int .i64 ((0 : Nat) : Int), .int .i64 y0, .func (.func kl) #[] capL, .func (.func kn) #[] capN] 103 (0, 0)) := by
      rw [← hw3]
      exact heap_alloc_new w2 _
    rw [hw3]
    have hb23 := below_next HB1.out (below_next HB2.out hb3)
    have hF : FInv Cl wB w 103 w2.heap.size (.slice AT g.terms.length cT) (.slice AN g.nonterms.length cN) (.slice AR g.rules.length cR) g.ax (.slice (some ta) t.length tc) (.func (.func kl) #[] capL) (.func (.func kn) #[] capN) 0 y0 s own w3 :=
      ⟨hblk, hI2.out.stay s w own w3 HCl.out hb23.size (fun k hk _ => hb23.block k hk), fun q => by have := hI2.out.low s w own _ HCl.out q; have := (below_next HB1.out HB2.out).size; omega, (below_next HB1.out HB2.out).size, HUp.out, below_next HB.out hb23⟩
    have HS := Lib.hid (fint_calls hfl hfn hI2 w2.heap.size (t.map (·.1)).length true 0 none 1 0 y0 s [] [] own w3 i' p' s' v HN.out (by rw [hcn.out]; exact Nat.le_refl _) hF)
    have HB23 := Lib.hid hb23
    clear hw3 hb3 hblk hb23 hF b0 b1 b2 b3 j1 k1
    go_wp2_with (go_at_call 56; refine HS.out.mono ?_; rintro e w4 ⟨rfl, own4, h4, hc4, ho4⟩; have H4 := Lib.hid h4; have HC4 := Lib.hid hc4; have HO4 := Lib.hid ho4; clear h4 hc4 ho4)
    go_ret2
    exact .inr ⟨H0.out, p', s', v, own4, by rw [HX.out]; exact HW.out, rfl, H4.out.cl, (Chg.of_below own HB23.out).next HC4.out (fun k hk q => by rcases q with q | q; exact absurd q (by have := (below_next HB1.out HB2.out).size; omega); exact q), fun k q => (HO4.out k q).imp id (fun e => Nat.le_trans HB23.out.size e)⟩
  · have HN : Hid ((knownE g t).1 ≠ 0) := Lib.hid (fun h => h0 (knownE_zero h))
    clear h0
    go_enter Tryd.func15, Tryd.ntmps15
    go_wp2_with (go_at_call 54; refine HC.out.mono ?_; rintro e w2 ⟨v1, u, rfl, -, hu, hb2⟩; rcases hu.nil_iff with ⟨h, _⟩ | ⟨_, t1, x, rfl⟩; exact absurd h HN.out; have HU := Lib.hid hu; have HB2 := Lib.hid hb2; clear hu hb2)
    go_ret2
    exact .inl ⟨HN.out, _, rfl, HU.out, below_next HB1.out HB2.out⟩
end Go.Proofs.YtapgglmdnggopaaDoor.Hand
/- Values handed down: what is kept, one by one. -/
namespace Go.Proofs.YtapgglmdnggopaaDoor.Hand
open Go.RowKit Go.Proofs.YtapgglmdnggopaaDoorW.PrintWords Go.Proofs.YtapgglmdnggopaaDoorW.PrintMore Go.Proofs.YtapgglmdnggopaaDoor.Math

section
variable {σ α : Type}
/-- Values from the root down, with what the function keeps. -/
def inhG (z : α) (lf : σ → α → Int → Int → σ × α) (t : List (Int × Int × Int)) : List (Int × Int) → σ × List α → σ × List α
  | [], st => st
  | x :: r, st => inhG z lf t r ((lf st.1 (st.2.getD x.1.toNat z) (t.getD x.1.toNat (0, 0, 0)).1 x.2).1, st.2 ++ [(lf st.1 (st.2.getD x.1.toNat z) (t.getD x.1.toNat (0, 0, 0)).1 x.2).2])
theorem inhG_length (z : α) (lf : σ → α → Int → Int → σ × α) (t : List (Int × Int × Int)) : ∀ (r : List (Int × Int)) (st : σ × List α), (inhG z lf t r st).2.length = st.2.length + r.length
  | [], _ => rfl
  | x :: r, st => by rw [inhG, inhG_length z lf t r]; simp; omega
/-- How far they are handed down. -/
structure InhGo (z : α) (lf : σ → α → Int → Int → σ × α) (t : List (Int × Int × Int)) (K : List (Int × Int)) (s : σ) (root : α) (j : Nat) (s2 : σ) (out : List α) : Prop where
  len : out.length = j + 1
  eq : inhG z lf t (K.drop (j + 1)) (s2, out) = inhG z lf t (K.drop 1) (s, [root])
/-- The function. -/
structure InhIn (P : Program) (kd : FuncId) (argsD : Value → Value → Value → Array Value) (val : α → Value) (lf : σ → α → Int → Int → σ × α) (Cl : σ → World → (Nat → Prop) → Prop) (wB w0 : World) (t : List (Int × Int × Int)) (tA : Option Addr) : Prop where
  tree : KStep.C wB tA t.length t
  ord : wB.heap.size ≤ w0.heap.size
  stay : ∀ s W own W', Cl s W own → W.heap.size ≤ W'.heap.size → (∀ k, k < W.heap.size → own k ∨ k < w0.heap.size → W'.heap[k]? = W.heap[k]?) → Cl s W' own
  low : ∀ s W own k, Cl s W own → own k → k < W.heap.size
  call : ∀ s W own a (n m : Int), Cl s W own → w0.heap.size ≤ W.heap.size → Below wB.heap.size wB W → Calls P kd (argsD (val a) (.int .i64 n) (.int .i64 m)) W fun e W' => e = .returned (val (lf s a n m).2) ∧ ∃ own', Cl (lf s a n m).1 W' own' ∧ Chg own W W' ∧ ∀ k, own' k → own k ∨ W.heap.size ≤ k
/-- The three rows and the function's memory. -/
structure InhAt (Cl : σ → World → (Nat → Prop) → Prop) (wB w0 : World) (d : Kd α) (E : TypeId) (K : List (Int × Int)) (own : Nat → Prop) (vp vs : Value) (s2 : σ) (out : List α) (own2 : Nat → Prop) (vo : Value) (wr : World) : Prop where
  cl : Cl s2 wr own2
  up : ∀ k, own2 k → wB.heap.size ≤ k
  base : Below wB.heap.size wB wr
  out : d.R E wr w0.heap.size (fun k => ¬ own2 k ∧ some k ≠ vp.ownBlock ∧ some k ≠ vs.ownBlock) vo out
  rp : (Kd.int .i64).R 3 wr w0.heap.size (fun k => ¬ own2 k ∧ some k ≠ vo.ownBlock) vp (K.map (·.1))
  rs : (Kd.int .i64).R 3 wr w0.heap.size (fun k => ¬ own2 k ∧ some k ≠ vo.ownBlock) vs (K.map (·.2))
  chg : Chg own w0 wr
  sub : ∀ k, own2 k → own k ∨ w0.heap.size ≤ k
variable {P : Program} {kd : FuncId} {argsD : Value → Value → Value → Array Value} {val : α → Value} {lf : σ → α → Int → Int → σ × α} {Cl : σ → World → (Nat → Prop) → Prop} {wB w0 : World} {t : List (Int × Int × Int)} {tA : Option Addr} {d : Kd α} {E : TypeId} {K : List (Int × Int)} {own own2 own4 : Nat → Prop} {vp vs vo v1 : Value} {s2 s4 : σ} {out : List α} {wr w1 : World} {x : α}
theorem InhAt.below (hI : InhIn P kd argsD val lf Cl wB w0 t tA) (h : InhAt Cl wB w0 d E K own vp vs s2 out own2 vo wr) (hb : Below wr.heap.size wr w1) : InhAt Cl wB w0 d E K own vp vs s2 out own2 vo w1 :=
  ⟨hI.stay _ _ _ _ h.cl hb.size (fun k hk _ => hb.block k hk), h.up, below_next h.base hb, Kd.R_below h.out hb, Kd.R_below h.rp hb, Kd.R_below h.rs hb, h.chg.trans (Chg.of_below _ hb), h.sub⟩
theorem InhAt.call (ord : wB.heap.size ≤ w0.heap.size) (h : InhAt Cl wB w0 d E K own vp vs s2 out own2 vo wr) (hC : Cl s4 w1 own4) (hc : Chg own2 wr w1) (ho : ∀ k, own4 k → own2 k ∨ wr.heap.size ≤ k) : InhAt Cl wB w0 d E K own vp vs s4 out own4 vo w1 := by
  have hsz := Nat.le_trans ord h.chg.size
  have key : ∀ k, k < wr.heap.size → ¬ own2 k → ¬ own4 k := fun k hk hn q => by
    rcases ho k q with e | e
    · exact hn e
    · omega
  refine ⟨hC, fun k q => ?_, h.base.trans (hc.below hsz (fun k hk q => by have := h.up k q; omega)), ?_, ?_, ?_, h.chg.next hc (fun k hk q => ?_), fun k q => ?_⟩
  · rcases ho k q with e | e
    · exact h.up k e
    · omega
  · exact Kd.R_mono (Kd.R_step (Kd.R_bound h.out) (fun k hk hlt => hc.block k hlt hk.1.1)) (fun k hk => ⟨key k hk.2.2.1 hk.1.1, hk.1.2⟩)
  · exact Kd.R_mono (Kd.R_step (Kd.R_bound h.rp) (fun k hk hlt => hc.block k hlt hk.1.1)) (fun k hk => ⟨key k hk.2.2.1 hk.1.1, hk.1.2⟩)
  · exact Kd.R_mono (Kd.R_step (Kd.R_bound h.rs) (fun k hk hlt => hc.block k hlt hk.1.1)) (fun k hk => ⟨key k hk.2.2.1 hk.1.1, hk.1.2⟩)
  · rcases h.sub k q with e | e
    · exact e
    · omega
  · rcases ho k q with e | e
    · exact h.sub k e
    · exact .inr (Nat.le_trans h.chg.size e)
theorem InhAt.grow (hI : InhIn P kd argsD val lf Cl wB w0 t tA) (h : InhAt Cl wB w0 d E K own vp vs s2 out own2 vo wr) (ho : d.R E w1 w0.heap.size (fun k => ¬ own2 k ∧ some k ≠ vp.ownBlock ∧ some k ≠ vs.ownBlock) v1 (out ++ [x])) (hg : wr.grownBy w1 vo.ownBlock) (hat : v1.ownBlock = vo.ownBlock ∨ ∃ b, v1.ownBlock = some b ∧ wr.heap.size ≤ b) : InhAt Cl wB w0 d E K own vp vs s2 (out ++ [x]) own2 v1 w1 := by
  have hsz := Nat.le_trans hI.ord h.chg.size
  have hvb : ∀ k, vo.ownBlock = some k → w0.heap.size ≤ k := Kd.R_base h.out
  have key : ∀ k, k < wr.heap.size → some k ≠ vo.ownBlock → some k ≠ v1.ownBlock := fun k hk hn e => by
    rcases hat with e2 | ⟨b, e2, hb⟩
    · exact hn (e.trans e2)
    · have e3 : some k = some b := e.trans e2
      injection e3 with e3
      omega
  refine ⟨hI.stay _ _ _ _ h.cl hg.size (fun k hk q => hg.block k hk (fun e => ?_)), h.up, h.base.trans ((Chg.of_grown hg).below hsz (fun k hk q => by have := hvb k q; have := hI.ord; omega)), ho, ?_, ?_, h.chg.next (Chg.of_grown hg) (fun k hk q => ?_), h.sub⟩
  · have h2 := h.out.1 k e.symm
    rcases q with q | q
    · exact h2.1 q
    · have := hvb k e.symm; omega
  · exact Kd.R_mono (Kd.R_step (Kd.R_bound h.rp) (fun k hk hlt => hg.block k hlt hk.1.2)) (fun k hk => ⟨hk.1.1, key k hk.2.2.1 hk.1.2⟩)
  · exact Kd.R_mono (Kd.R_step (Kd.R_bound h.rs) (fun k hk hlt => hg.block k hlt hk.1.2)) (fun k hk => ⟨hk.1.1, key k hk.2.2.1 hk.1.2⟩)
  · have := hvb k q; omega
end
end Go.Proofs.YtapgglmdnggopaaDoor.Hand
/- Contracts: fold.Inherit, for each kind of value. -/
namespace Go.Proofs.YtapgglmdnggopaaDoor.Hand
open Go.RowKit Go.Proofs.YtapgglmdnggopaaDoorW.PrintWords Go.Proofs.YtapgglmdnggopaaDoorW.PrintMore Go.Proofs.YtapgglmdnggopaaDoorW.PrintLast Go.Proofs.YtapgglmdnggopaaDoor.Math

theorem inhInt_lit (W : World) (base : Nat) (ok : Nat → Prop) (a : Int) (hb : base ≤ W.heap.size) (hok : ok W.heap.size) : ((Kd.int .i64)).R 3 (W.alloc (.cells #[(Value.int .i64) a] 3)) base ok (.slice (some ⟨W.heap.size, 0, none⟩) 1 1) [a] :=
  ⟨fun k hk => by simp [Value.ownBlock] at hk; subst hk; exact hok, [(Value.int .i64) a], ⟨rfl, .inr ⟨W.heap.size, 1, #[(Value.int .i64) a], rfl, hb, heap_alloc_new W _, Nat.le_refl _, by have : maxLen = 9223372036854775807 := (by decide); omega, rfl, rfl⟩⟩, Kd.reps_scalar [a]⟩
/-- What Inherit leaves. -/
def inhInt_P {σ : Type} (A : Nat → Addr) (lf : σ → Int → Int → Int → σ × Int) (Cl : σ → World → (Nat → Prop) → Prop) (g : Gr) (t : List (Int × Int × Int)) (s : σ) (root : Int) (own : Nat → Prop) (w : World) (e : Ending) (w' : World) : Prop :=
  ((knownE g t).1 ≠ 0 ∧ ∃ u, e = .returned (.tuple #[.slice none 0 0, u]) ∧ ErrV w' A u (knownE g t).1 (knownE g t).2 ∧ Below w.heap.size w w') ∨
  (knownE g t = (0, -1) ∧ ∃ own' v, e = .returned (.tuple #[v, .nilIface]) ∧ ((Kd.int .i64)).R 3 w' w.heap.size (fun k => ¬ own' k) v (inhG 0 lf t ((kinD g t).drop 1) (s, [root])).2 ∧ Cl (inhG 0 lf t ((kinD g t).drop 1) (s, [root])).1 w' own' ∧ Chg own w w' ∧ ∀ k, own' k → own k ∨ w.heap.size ≤ k)
set_option maxHeartbeats 2000000 in
set_option maxRecDepth 20000 in
theorem inhInt_calls {σ : Type} {kd : FuncId} {capD : Array Value} {lf : σ → Int → Int → Int → σ × Int} {Cl : σ → World → (Nat → Prop) → Prop} {wB w : World} {g : Gr} {AT AN AR tA : Option Addr} {cT cN cR tc : Nat} {t : List (Int × Int × Int)} {s : σ} {own : Nat → Prop} (root : Int) (A : Nat → Addr)
    (hfd : Hid (∀ (ars : Array Value) (W : World), (callFunc kd ars).run Tryd.prog W = .ok (.enter kd ars) W))
    (hI : Hid (InhIn Tryd.prog kd (fun a b c => #[a, b, c] ++ capD) (Value.int .i64) lf Cl wB w t tA)) (hE : Errs wB A) (hv : GramAt wB (.agg #[.slice AT g.terms.length cT, .slice AN g.nonterms.length cN, .int .i64 g.ax, .slice AR g.rules.length cR]) g) (htc : t.length ≤ tc)
    (hb : Below wB.heap.size wB w) (hC : Cl s w own) (hup : ∀ k, own k → wB.heap.size ≤ k) :
    Calls Tryd.prog 14 #[.agg #[.slice AT g.terms.length cT, .slice AN g.nonterms.length cN, .int .i64 g.ax, .slice AR g.rules.length cR], .slice tA t.length tc, (Value.int .i64) root, .func (.func kd) #[] capD] w (inhInt_P A lf Cl g t s root own w) := by
  have hnl : ∀ (fn : Fn) (first cap : Array Value) (W : World), (binOp .eql 35 (.func fn first cap) .nilFunc).run Tryd.prog W = .ok (.bool false) W := fun _ _ _ _ => by kernel_rfl
  obtain ⟨w1, hw1⟩ : ∃ w1, w.alloc (.cells #[.slice AT g.terms.length cT, .slice AN g.nonterms.length cN, .int .i64 g.ax, .slice AR g.rules.length cR] 25) = w1 := ⟨_, rfl⟩
  have hb1 : Below w.heap.size w w1 := by rw [← hw1]; exact below_alloc (Below.refl _ _) _
  have hk1 : w1.heap[w.heap.size]? = some (.cells #[.slice AT g.terms.length cT, .slice AN g.nonterms.length cN, .int .i64 g.ax, .slice AR g.rules.length cR] 25 (0, 0)) := by rw [← hw1]; exact heap_alloc_new w _
  obtain ⟨c0, c1, c2, c3⟩ := gr_blk hk1
  have hbb := below_next hb hb1
  have HB := Lib.hid hb
  have HB1 := Lib.hid hb1
  have HBB := Lib.hid hbb
  have HK1 := Lib.hid hk1
  have HV := Lib.hid hv
  have HC := Lib.hid (drules_calls _ g tA tc t w1 A (hE.below hbb) (hv.below hbb) (Kd.C_below hI.out.tree hbb) htc)
  have HCl := Lib.hid hC
  have HUp := Lib.hid hup
  clear hb1 hk1 hE hv hb hbb hC hup
  by_cases h0 : knownE g t = (0, -1)
  · have HM := Lib.hid (knownE_yes h0)
    have HY := Lib.hid (kinD_yes h0)
    have H0 := Lib.hid h0
    have hpos : 0 < t.length := List.length_pos_iff.2 HM.out.2.1
    clear h0
    go_enter Tryd.func14, Tryd.ntmps14
    go_upto_region 8 with (first
      | (go_at_call 55; refine (HKc.out).mono ?_; rintro e w3 ⟨vp, vs, rfl, h1, h2, hb3⟩; have HP := Lib.hid h1; have HS := Lib.hid h2; have HB3 := Lib.hid hb3; clear h1 h2 hb3)
      | (go_at_call 54; refine HC.out.mono ?_; rintro e w2 ⟨v1, u, rfl, -, hu, hb2⟩; rw [H0.out] at hu; obtain ⟨-, rfl⟩ := hu.nil_iff.resolve_right (fun h => absurd h.1 (by decide)); have HB2 := Lib.hid hb2; obtain ⟨d0, d1, d2, d3⟩ := gr_blk (blk_below HK1.out hb2); have HKc := Lib.hid (kin_calls g _ t tA tc w2 (HV.out.below (below_next HBB.out hb2)) (Kd.C_below hI.out.tree (below_next HBB.out hb2)) (by have := HM.out.1.len; omega) HM.out.1.right.rules (fun r hr => ruleN_len (HM.out.1.right.ruleN r hr)) true 0 _ HY.out.1); clear hu hb2 c0 c1 c2 c3))
    have hplen : 0 < ((kinD g t).map (·.1)).length := by rw [List.length_map, HY.out.2.1]; exact hpos
    have hslen : 0 < ((kinD g t).map (·.2)).length := by rw [List.length_map, HY.out.2.1]; exact hpos
    obtain ⟨gp, cp, ep, -, hgp, -⟩ := Kd.R_form HP.out hplen
    obtain ⟨gs, cs, es, -, hgs, -⟩ := Kd.R_form HS.out hslen
    rw [List.length_map, HY.out.2.1] at ep es
    subst ep es
    have hcp : t.length ≤ cp := by have := (Kd.R_reads' HP.out).2.1; exact this
    obtain ⟨w4, hw4⟩ : ∃ w4, w3.alloc (.cells #[(Value.int .i64) root] 3) = w4 := ⟨_, rfl⟩
    have hb4 : Below w3.heap.size w3 w4 := by rw [← hw4]; exact below_alloc (Below.refl _ _) _
    have hb13 := below_next HB1.out (below_next HB2.out HB3.out)
    have hb14 := below_next hb13 hb4
    have hsz2 : w.heap.size ≤ w2.heap.size := (below_next HB1.out HB2.out).size
    have hlow : ∀ k, own k → k < w.heap.size := fun k q => hI.out.low s w own k HCl.out q
    have HA : Hid (InhAt Cl wB w (Kd.int .i64) 3 (kinD g t) own (.slice (some ⟨gp, 0, none⟩) t.length cp) (.slice (some ⟨gs, 0, none⟩) t.length cs) s [root] own (.slice (some ⟨w3.heap.size, 0, none⟩) 1 1) w4) := Lib.hid (by
      refine ⟨hI.out.stay s w own w4 HCl.out hb14.size (fun k hk _ => hb14.block k hk), HUp.out, below_next HB.out hb14, ?_, ?_, ?_, Chg.of_below _ hb14, fun k q => .inl q⟩
      · rw [← hw4]
        exact inhInt_lit w3 w.heap.size _ root hb13.size ⟨fun q => by have := hlow _ q; have := hb13.size; omega, fun e => by simp [Value.ownBlock] at e; omega, fun e => by simp [Value.ownBlock] at e; omega⟩
      · exact Kd.R_mono (Kd.R_lower (Kd.R_below (Kd.R_bound HP.out) hb4) hsz2) (fun k hk => ⟨fun q => by have := hlow _ q; have := hk.2.1; omega, fun e => by simp [Value.ownBlock] at e; have := hk.2.2.1; omega⟩)
      · exact Kd.R_mono (Kd.R_lower (Kd.R_below (Kd.R_bound HS.out) hb4) hsz2) (fun k hk => ⟨fun q => by have := hlow _ q; have := hk.2.1; omega, fun e => by simp [Value.ownBlock] at e; have := hk.2.2.1; omega⟩))
    have hl1 : ¬ t.length < 1 := by omega
    have hl2 : ((t.length : Int) - 1) = ((t.length - 1 : Nat) : Int) := by omega
    rw [hw4]
    clear hw4 hb4 hb13 hb14 hsz2 hlow hplen hslen hgp hgs d0 d1 d2 d3
    have HKl : Hid ((kinD g t).length = t.length) := Lib.hid HY.out.2.1
    have HKo : Hid (KinOk (kinD g t)) := Lib.hid HY.out.2.2
    have HTl : Hid (t.length ≤ 200000) := Lib.hid (by have := HM.out.1.len; omega)
    clear HY HKc HP HS HCl HUp HM HC HV
    by_cases hc1 : cp = 1
    · have ht1 : t.length = 1 := by omega
      rw [ht1] at hl2
      have hlt0 : ¬ (0 : Int) < ((0 : Nat) : Int) := by omega
      have HD1 : Hid ((kinD g t).drop 1 = []) := Lib.hid (List.drop_eq_nil_of_le (by rw [HKl.out]; omega))
      go_wp2
      go_loopw [14, 40] (fun vv k wr => k = .int .i64 0 ∧ vv = .slice (some ⟨w3.heap.size, 0, none⟩) 1 1 ∧ w4 = wr) (fun _ _ _ => 0)
      case atStart => exact ⟨rfl, rfl, rfl⟩
      case round =>
        obtain ⟨rfl, rfl, rfl⟩ := hrel
        go_wp2
        go_ret2
        exact .inr ⟨H0.out, own, _, rfl, by rw [HD1.out]; exact Kd.R_mono HA.out.out (fun k hk => hk.1), by rw [HD1.out]; exact HA.out.cl, HA.out.chg, HA.out.sub⟩
    · have HL : Hid (InhAt Cl wB w (Kd.int .i64) 3 (kinD g t) own (.slice (some ⟨gp, 0, none⟩) t.length cp) (.slice (some ⟨gs, 0, none⟩) t.length cs) s [root] own (.slice (some ⟨w3.heap.size, 0, none⟩) 1 1) w4 ∧ InhGo 0 lf t (kinD g t) s root 0 s [root]) := Lib.hid ⟨HA.out, rfl, rfl⟩
      clear HA
      go_wp2
      go_loopw [14, 40] (fun vv k wr => ∃ (j : Nat) (s2 : σ) (out : List Int) (own2 : Nat → Prop) (vo : Value), j ≤ t.length - 1 ∧ k = .int .i64 (j : Int) ∧ vo = vv ∧ Hid (InhAt Cl wB w (Kd.int .i64) 3 (kinD g t) own (.slice (some ⟨gp, 0, none⟩) t.length cp) (.slice (some ⟨gs, 0, none⟩) t.length cs) s2 out own2 vo wr ∧ InhGo 0 lf t (kinD g t) s root j s2 out)) (fun _ k _ => t.length - 1 - (intOf k).toNat)
      case atStart => exact ⟨0, _, _, _, _, by omega, rfl, rfl, HL⟩
      case round =>
        obtain ⟨j, s2, out, own2, vo, hj, rfl, rfl, HR⟩ := hrel
        obtain ⟨w8, rfl⟩ : ∃ w8, wr = w8 := ⟨_, rfl⟩
        clear HL
        by_cases hlt : j < t.length - 1
        · have hjk : j + 1 < (kinD g t).length := by rw [HKl.out]; omega
          obtain ⟨pm, hpm⟩ : ∃ pm, (kinD g t)[j + 1] = pm := ⟨_, rfl⟩
          have hko := HKo.out (j + 1) hjk
          rw [hpm] at hko
          obtain ⟨p, m⟩ := pm
          simp only at hko
          have hp0 : 0 ≤ p ∧ p < ((j + 1 : Nat) : Int) := by
            rcases hko with ⟨h, _⟩ | ⟨_, h1, h2⟩
            · omega
            · exact ⟨h1, h2⟩
          obtain ⟨q, rfl⟩ : ∃ q : Nat, p = (q : Int) := ⟨p.toNat, by omega⟩
          have hq : q < j + 1 := by omega
          have HDr : Hid ((kinD g t).drop (j + 1) = ((q : Int), m) :: (kinD g t).drop (j + 1 + 1)) := Lib.hid (by rw [List.drop_eq_getElem_cons hjk, hpm])
          clear hko hp0
          have e1 := (Kd.R_reads' HR.out.1.rp).2.2
          have e2 := (Kd.R_reads' HR.out.1.rs).2.2
          obtain ⟨a1, y1, h1, k1, HY1⟩ := at_scalar e1 (j + 1) (by rw [List.length_map]; exact hjk) 0
          obtain ⟨a2, y2, h2, k2, HY2⟩ := at_scalar e2 (j + 1) (by rw [List.length_map]; exact hjk) 0
          obtain rfl := Option.some.inj h1
          obtain rfl := Option.some.inj h2
          have hy1 : y1 = (q : Int) := by
            rw [← HY1.out, List.getD_eq_getElem?_getD, List.getElem?_map, List.getElem?_eq_getElem hjk, hpm]; rfl
          have hy2 : y2 = m := by
            rw [← HY2.out, List.getD_eq_getElem?_getD, List.getElem?_map, List.getElem?_eq_getElem hjk, hpm]; rfl
          subst hy1 hy2
          obtain ⟨Ao, co, eo⟩ := Kd.R_slice HR.out.1.out
          rw [HR.out.2.len] at eo
          subst eo
          have e3 := (Kd.R_reads' HR.out.1.out).2.2
          obtain ⟨a3, y3, h3, k3, HY3⟩ := at_scalar e3 q (by rw [HR.out.2.len]; omega) 0
          subst h3
          obtain ⟨ta, x0, y0, z0, rfl, k4, -, -, HX⟩ := at_step (Kd.C_below hI.out.tree HR.out.1.base) q (by omega)
          clear e1 e2 e3 h1 h2
          rw [add_blk] at k1 k2
          rw [Nat.add_comm j 1] at k1
          go_upto_region 11 with (fail)
          have hqi : (q : Int) < (j : Int) + 1 := by omega
          have hqt : q < t.length := by omega
          have hjt : (j : Int) + 1 < (t.length : Int) := by omega
          have hjn : j + 1 < t.length := by omega
          have hwr : IntKind.i64.wrap ((j : Int) + 1) = (j : Int) + 1 := by
            have := HTl.out
            unfold IntKind.wrap
            simp [IntKind.bits, IntKind.signed]
            omega
          have hj0 : (0 : Int) ≤ (j : Int) + 1 := by omega
          have htn : ((j : Int) + 1).toNat = j + 1 := by omega
          have D2 : wr.drew.cell? ⟨gs, j + 1, none⟩ = some (.int .i64 y2) := by rw [World.cell?_drew]; exact k2
          have D3 : wr.drew.cell? (a3.add q) = some ((Value.int .i64) y3) := by rw [World.cell?_drew]; exact k3
          have D4 : wr.drew.cell? (ta.add (q * 3)) = some (.int .i64 x0) := by rw [World.cell?_drew]; exact k4
          have K8 := Lib.hid (HR.out.1.below hI.out (below_drew (Below.refl _ _)))
          have HCd := Lib.hid (hI.out.call s2 wr.drew own2 y3 x0 y2 K8.out.cl K8.out.chg.size K8.out.base)
          have HGo := Lib.hid HR.out.2
          have HOl : Hid ((out.length + 1) * 8 ≤ 140737488355328) := Lib.hid (by have := HGo.out.len; have := (Kd.R_reads' HR.out.1.out).2.1; have := HTl.out; omega)
          have hfd1 := hfd.out
          obtain ⟨vv, hvv⟩ : ∃ vv, (lf s2 y3 x0 y2).2 = vv := ⟨_, rfl⟩
          rw [hvv] at HCd
          have HVV := Lib.hid hvv
          clear hvv
          refine start_ (n := 20) (S := fun w' => w'.cell? (a3.add q) = some ((Value.int .i64) y3) ∧ w'.cell? (ta.add (q * 3)) = some (.int .i64 x0) ∧ w'.cell? ⟨gs, j + 1, none⟩ = some (.int .i64 y2)) (ds := [16, 17, 18]) #[false, false, false, false, false, false, false, false, false, false, false, false, false, false, false, false, false, false, false, false] (by kernel_rfl) rfl rfl ⟨D3, D4, D2⟩ (fun hHeld => ?_)
          refine pure_ (i := 0) (N := some 45) (v := ?_) (a' := ?_) #[true, false, false, false, false, false, false, false, false, false, false, false, false, false, false, false, false, false, false, false] rfl rfl (by kernel_rfl) (fun _ _ _ h => h) (Or.inl ⟨by rfl, ?_⟩) ?_ ?_
          rotate_left
          · intro w'
            go_simp
            with_reducible rfl
          rotate_left
          · simp only [Act.put, List.setIfInBounds_toArray, List.set_cons_zero, List.set_cons_succ]
            rfl
          refine pure_ (i := 1) (N := some 46) (v := ?_) (a' := ?_) #[true, true, false, false, false, false, false, false, false, false, false, false, false, false, false, false, false, false, false, false] rfl rfl (by kernel_rfl) (fun _ _ _ h => h) (Or.inl ⟨by rfl, ?_⟩) ?_ ?_
          rotate_left
          · intro w'
            go_simp
            with_reducible rfl
          rotate_left
          · simp only [Act.put, List.setIfInBounds_toArray, List.set_cons_zero, List.set_cons_succ]
            rfl
          refine pure_ (i := 2) (N := some 47) (v := ?_) (a' := ?_) #[true, true, true, false, false, false, false, false, false, false, false, false, false, false, false, false, false, false, false, false] rfl rfl (by kernel_rfl) (fun _ _ _ h => h) (Or.inl ⟨by rfl, ?_⟩) ?_ ?_
          rotate_left
          · intro w'
            go_simp
            with_reducible rfl
          rotate_left
          · simp only [Act.put, List.setIfInBounds_toArray, List.set_cons_zero, List.set_cons_succ]
            rfl
          refine pure_ (i := 3) (N := some 48) (v := ?_) (a' := ?_) #[true, true, true, true, false, false, false, false, false, false, false, false, false, false, false, false, false, false, false, false] rfl rfl (by kernel_rfl) (fun _ _ _ h => h) (Or.inl ⟨by rfl, ?_⟩) ?_ ?_
          rotate_left
          · intro w'
            go_simp
            with_reducible rfl
          rotate_left
          · simp only [Act.put, List.setIfInBounds_toArray, List.set_cons_zero, List.set_cons_succ]
            rfl
          refine pure_ (i := 4) (N := some 49) (v := ?_) (a' := ?_) #[true, true, true, true, true, false, false, false, false, false, false, false, false, false, false, false, false, false, false, false] rfl rfl (by kernel_rfl) (fun _ _ _ h => h) (Or.inl ⟨by rfl, ?_⟩) ?_ ?_
          rotate_left
          · intro w'
            go_simp
            with_reducible rfl
          rotate_left
          · simp only [Act.put, List.setIfInBounds_toArray, List.set_cons_zero, List.set_cons_succ]
            rfl
          refine pure_ (i := 6) (N := some 51) (v := ?_) (a' := ?_) #[true, true, true, true, true, false, true, false, false, false, false, false, false, false, false, false, false, false, false, false] rfl rfl (by kernel_rfl) (fun _ _ _ h => h) (Or.inl ⟨by rfl, ?_⟩) ?_ ?_
          rotate_left
          · intro w'
            go_simp
            with_reducible rfl
          rotate_left
          · simp only [Act.put, List.setIfInBounds_toArray, List.set_cons_zero, List.set_cons_succ]
            rfl
          refine pure_ (i := 7) (N := some 52) (v := ?_) (a' := ?_) #[true, true, true, true, true, false, true, true, false, false, false, false, false, false, false, false, false, false, false, false] rfl rfl (by kernel_rfl) (fun _ _ _ h => h) (Or.inl ⟨by rfl, ?_⟩) ?_ ?_
          rotate_left
          · intro w'
            go_simp
            with_reducible rfl
          rotate_left
          · simp only [Act.put, List.setIfInBounds_toArray, List.set_cons_zero, List.set_cons_succ]
            rfl
          refine pure_ (i := 8) (N := some 53) (v := ?_) (a' := ?_) #[true, true, true, true, true, false, true, true, true, false, false, false, false, false, false, false, false, false, false, false] rfl rfl (by kernel_rfl) (fun _ _ _ h => h) (Or.inl ⟨by rfl, ?_⟩) ?_ ?_
          rotate_left
          · intro w'
            go_simp
            with_reducible rfl
          rotate_left
          · simp only [Act.put, List.setIfInBounds_toArray, List.set_cons_zero, List.set_cons_succ]
            rfl
          refine pure_ (i := 9) (N := some 54) (v := ?_) (a' := ?_) #[true, true, true, true, true, false, true, true, true, true, false, false, false, false, false, false, false, false, false, false] rfl rfl (by kernel_rfl) (fun _ _ _ h => h) (Or.inl ⟨by rfl, ?_⟩) ?_ ?_
          rotate_left
          · intro w'
            go_simp
            with_reducible rfl
          rotate_left
          · simp only [Act.put, List.setIfInBounds_toArray, List.set_cons_zero, List.set_cons_succ]
            rfl
          refine pure_ (i := 11) (N := some 56) (v := ?_) (a' := ?_) #[true, true, true, true, true, false, true, true, true, true, false, true, false, false, false, false, false, false, false, false] rfl rfl (by kernel_rfl) (fun _ _ _ h => h) (Or.inl ⟨by rfl, ?_⟩) ?_ ?_
          rotate_left
          · intro w'
            go_simp
            with_reducible rfl
          rotate_left
          · simp only [Act.put, List.setIfInBounds_toArray, List.set_cons_zero, List.set_cons_succ]
            rfl
          refine pure_ (i := 12) (N := some 57) (v := ?_) (a' := ?_) #[true, true, true, true, true, false, true, true, true, true, false, true, true, false, false, false, false, false, false, false] rfl rfl (by kernel_rfl) (fun _ _ _ h => h) (Or.inl ⟨by rfl, ?_⟩) ?_ ?_
          rotate_left
          · intro w'
            go_simp
            with_reducible rfl
          rotate_left
          · simp only [Act.put, List.setIfInBounds_toArray, List.set_cons_zero, List.set_cons_succ]
            rfl
          refine pure_ (i := 13) (N := some 58) (v := ?_) (a' := ?_) #[true, true, true, true, true, false, true, true, true, true, false, true, true, true, false, false, false, false, false, false] rfl rfl (by kernel_rfl) (fun _ _ _ h => h) (Or.inl ⟨by rfl, ?_⟩) ?_ ?_
          rotate_left
          · intro w'
            go_simp
            with_reducible rfl
          rotate_left
          · simp only [Act.put, List.setIfInBounds_toArray, List.set_cons_zero, List.set_cons_succ]
            rfl
          refine pure_ (i := 14) (N := some 59) (v := ?_) (a' := ?_) #[true, true, true, true, true, false, true, true, true, true, false, true, true, true, true, false, false, false, false, false] rfl rfl (by kernel_rfl) (fun _ _ _ h => h) (Or.inl ⟨by rfl, ?_⟩) ?_ ?_
          rotate_left
          · intro w'
            go_simp
            with_reducible rfl
          rotate_left
          · simp only [Act.put, List.setIfInBounds_toArray, List.set_cons_zero, List.set_cons_succ]
            rfl
          refine take_ (i := 5) (N := some 50) (v := ?_) (a' := ?_) #[true, true, true, true, true, true, true, true, true, true, false, true, true, true, true, false, false, false, false, false] rfl rfl (by kernel_rfl) (fun _ _ _ h => h) (Or.inl ⟨by rfl, ?_⟩) hHeld ?_ ?_
          rotate_left
          · rintro w' ⟨s0, s1, s2⟩
            go_simp
            with_reducible rfl
          rotate_left
          · simp only [Act.put, List.setIfInBounds_toArray, List.set_cons_zero, List.set_cons_succ]
            rfl
          refine take_ (i := 10) (N := some 55) (v := ?_) (a' := ?_) #[true, true, true, true, true, true, true, true, true, true, true, true, true, true, true, false, false, false, false, false] rfl rfl (by kernel_rfl) (fun _ _ _ h => h) (Or.inl ⟨by rfl, ?_⟩) hHeld ?_ ?_
          rotate_left
          · rintro w' ⟨s0, s1, s2⟩
            go_simp
            with_reducible rfl
          rotate_left
          · simp only [Act.put, List.setIfInBounds_toArray, List.set_cons_zero, List.set_cons_succ]
            rfl
          refine take_ (i := 15) (N := some 60) (v := ?_) (a' := ?_) #[true, true, true, true, true, true, true, true, true, true, true, true, true, true, true, true, false, false, false, false] rfl rfl (by kernel_rfl) (fun _ _ _ h => h) (Or.inl ⟨by rfl, ?_⟩) hHeld ?_ ?_
          rotate_left
          · rintro w' ⟨s0, s1, s2⟩
            go_simp
            with_reducible rfl
          rotate_left
          · simp only [Act.put, List.setIfInBounds_toArray, List.set_cons_zero, List.set_cons_succ]
            rfl
          refine last_ (i := 16) (N := some 61) #[true, true, true, true, true, true, true, true, true, true, true, true, true, true, true, true, true, false, false, false] rfl rfl (by kernel_rfl) (by decide) (fun K hK => ?_)
          refine call_ kd (#[(Value.int .i64) y3, .int .i64 x0, .int .i64 y2] ++ capD) (by rfl) rfl (by unfold execOp; simp [resolve, Deferred.ofValue, invoke, Act.eval, hfd1]) ?_
          with_reducible refine HCd.out.mono ?_
          rintro e w9 ⟨rfl, own4, h9, hc9, ho9⟩
          refine ⟨_, rfl, ?_⟩
          have K9 := Lib.hid (K8.out.call hI.out.ord h9 hc9 ho9)
          clear h9 hc9 ho9
          refine hK.out _ _ ?_
          clear hK K
          refine norm_ (a' := ?_) ?_ ?_
          rotate_left
          · show Act.put _ (some 61) _ = _
            simp only [Act.put, List.setIfInBounds_toArray, List.set_cons_zero, List.set_cons_succ]
            rfl
          refine last_ (i := 17) (N := some 62) #[true, true, true, true, true, true, true, true, true, true, true, true, true, true, true, true, true, true, false, false] rfl rfl (by kernel_rfl) (by decide) (fun K hK => ?_)
          refine value_ (w1 := ?_) (v := ?_) (by rfl) rfl ?_ ?_
          rotate_left 2
          · go_simp
            constructor
            · rfl
            · rfl
          refine hK.out _ _ ?_
          clear hK K
          refine norm_ (a' := ?_) ?_ ?_
          rotate_left
          · show Act.put _ (some 62) _ = _
            simp only [Act.put, List.setIfInBounds_toArray, List.set_cons_zero, List.set_cons_succ]
            rfl
          refine last_ (i := 18) (N := some 63) #[true, true, true, true, true, true, true, true, true, true, true, true, true, true, true, true, true, true, true, false] rfl rfl (by kernel_rfl) (by decide) (fun K hK => ?_)
          refine Kd.R_append_step (Kd.int .i64) (w0 := w9) w.heap.size (by rfl) (.tmp 45) (.tmp 62) 30 3 (.int .i64 0) 8 rfl Tryd.underlying30 infoInt rfl (by decide) (by omega) (.slice (some a3) (j + 1) co) out vv [(Value.int .i64) vv] (fun k => ¬ own4 k ∧ some k ≠ (Value.slice (some ⟨gp, 0, none⟩) t.length cp).ownBlock ∧ some k ≠ (Value.slice (some ⟨gs, 0, none⟩) t.length cs).ownBlock) (fun _ => False) rfl rfl rfl (fun _ hk => hk.elim) (fun k hk => ⟨fun e => by have := hI.out.low _ _ _ _ K9.out.cl e; omega, fun e => by have := Kd.R_lt K9.out.rp k e.symm; omega, fun e => by have := Kd.R_lt K9.out.rs k e.symm; omega⟩) K9.out.out (Below.refl _ _) K9.out.chg.size HOl.out ?_
          intro v10 w10 ho hb hg hat
          have K10 := Lib.hid (K9.out.grow hI.out ho hg hat)
          clear ho hb hg hat
          refine hK.out _ _ ?_
          clear hK K
          refine norm_ (a' := ?_) ?_ ?_
          rotate_left
          · show Act.put _ (some 63) _ = _
            simp only [Act.put, List.setIfInBounds_toArray, List.set_cons_zero, List.set_cons_succ]
            rfl
          refine pure_ (i := 19) (N := some 14) (v := ?_) (a' := ?_) #[true, true, true, true, true, true, true, true, true, true, true, true, true, true, true, true, true, true, true, true] rfl rfl (by kernel_rfl) (fun _ _ _ h => h) (Or.inl ⟨by rfl, ?_⟩) ?_ ?_
          rotate_left
          · intro w'
            go_simp
            with_reducible rfl
          rotate_left
          · simp only [Act.put, List.setIfInBounds_toArray, List.set_cons_zero, List.set_cons_succ]
            rfl
          refine done_ (by kernel_rfl) ?_
          have HNX : Hid (InhGo 0 lf t (kinD g t) s root (j + 1) (lf s2 y3 x0 y2).1 (out ++ [vv])) := Lib.hid ⟨by have := HGo.out.len; simp; omega, by
            have e := HGo.out.eq
            rw [HDr.out, inhG] at e
            simp only [Int.toNat_natCast] at e
            rw [HY3.out, HX.out] at e
            rw [← HVV.out]
            exact e⟩
          clear hfd1 K8 K9 HGo
          go_wp2
          go_roundw
          case rel => exact ⟨j + 1, _, _, own4, v10, by omega, by go_num, rfl, Lib.hid ⟨K10.out, HNX.out⟩⟩
          case measure => simp [intOf]; omega
        · obtain rfl : j = t.length - 1 := by omega
          have HF : Hid (inhG 0 lf t ((kinD g t).drop 1) (s, [root]) = (s2, out)) := Lib.hid (by
            rw [← HR.out.2.eq, List.drop_eq_nil_of_le (by rw [HKl.out]; omega), inhG])
          go_wp2
          go_ret2
          exact .inr ⟨H0.out, own2, _, rfl, by rw [HF.out]; exact Kd.R_mono HR.out.1.out (fun k hk => hk.1), by rw [HF.out]; exact HR.out.1.cl, HR.out.1.chg, HR.out.1.sub⟩
  · have HN : Hid ((knownE g t).1 ≠ 0) := Lib.hid (fun h => h0 (knownE_zero h))
    clear h0
    go_enter Tryd.func14, Tryd.ntmps14
    go_wp2_with (go_at_call 54; refine HC.out.mono ?_; rintro e w2 ⟨v1, u, rfl, -, hu, hb2⟩; rcases hu.nil_iff with ⟨h, _⟩ | ⟨_, t1, x, rfl⟩; exact absurd h HN.out; have HU := Lib.hid hu; have HB2 := Lib.hid hb2; clear hu hb2)
    go_ret2
    exact .inl ⟨HN.out, _, rfl, HU.out, below_next HB1.out HB2.out⟩
end Go.Proofs.YtapgglmdnggopaaDoor.Hand
/- What dovetailkit's Apart.. looks at, told of memory: lists written full, gone on with, looked at. -/
namespace Go.Proofs.YtapgglmdnggopaaDoor.Hand
open Go.RowKit Go.Proofs.YtapgglmdnggopaaDoorW.PrintWords Go.Proofs.YtapgglmdnggopaaDoorW.PrintMore Go.Proofs.YtapgglmdnggopaaDoor.Math

def mkA (K : IntKind) (j k : Nat) : Value := .int K (1000 * (j : Int) + (k : Int))
def fullA (K : IntKind) (j n k : Nat) : Value := if k < n then mkA K j k else .int K (500000 + 1000 * (j : Int) + ((k - n : Nat) : Int))
abbrev hdD (H : List Hd) (j : Nat) : Hd := H.getD j hd0
def ApS (H : List Hd) (g : Nat) : Prop := ∃ j, j < H.length ∧ (hdD H j).blk = some g
/-- What is asked of the lists: each has memory of its own, and none lies in the row of lists. -/
structure ApPre (w : World) (A : Option Addr) (H : List Hd) : Prop where
  all : KH.C w A H.length H
  len : H.length ≤ 1000000000000
  ok : ∀ j, j < H.length → HdOk w (hdD H j)
  short : ∀ j, j < H.length → (hdD H j).n ≤ 1000000000000
  dis : ∀ i j g, i < H.length → j < H.length → i ≠ j → (hdD H i).blk = some g → (hdD H j).blk ≠ some g
  out : ∀ j ad, j < H.length → A = some ad → (hdD H j).blk ≠ some ad.block
structure Ap1 (K : IntKind) (w : World) (H : List Hd) (i k : Nat) (wr : World) : Prop where
  chg : Chg (ApS H) w wr
  ok : ∀ j, j < H.length → HdOk wr (hdD H j)
  rd : ∀ j, j < i → HdRead wr (hdD H j) (hdD H j).n (mkA K j)
  cur : HdRead wr (hdD H i) k (mkA K i)
theorem HdRead.none {w : World} {h : Hd} {n : Nat} {f : Nat → Value} (hh : h.ad = none) : HdRead w h n f := fun g o e => by rw [hh] at e; cases e
theorem HdRead.zero (w : World) (h : Hd) (f : Nat → Value) : HdRead w h 0 f := fun g o e k hk => by omega
theorem Ap1.start (K : IntKind) {w : World} {A : Option Addr} {H : List Hd} (h : ApPre w A H) : Ap1 K w H 0 0 w := ⟨Chg.refl _ _, h.ok, fun j hj => by omega, HdRead.zero _ _ _⟩
theorem Ap1.next {K : IntKind} {w wr : World} {H : List Hd} {i : Nat} (h : Ap1 K w H i (hdD H i).n wr) : Ap1 K w H (i + 1) 0 wr :=
  ⟨h.chg, h.ok, fun j hj => (by
    rcases Nat.lt_or_ge j i with h' | h'
    · exact h.rd j h'
    · obtain rfl : j = i := by omega
      exact h.cur), HdRead.zero _ _ _⟩
theorem hd_blk {h : Hd} {g o : Nat} (e : h.ad = some ⟨g, o, none⟩) : h.blk = some g := by unfold Hd.blk; rw [e]; rfl
theorem Ap1.put {K : IntKind} {w wr : World} {A : Option Addr} {H : List Hd} {i k g o : Nat} (hp : ApPre w A H) (h : Ap1 K w H i k wr) (hi : i < H.length) (hk : k < (hdD H i).n) (he : (hdD H i).ad = some ⟨g, o, none⟩) : Ap1 K w H i (k + 1) (wr.setCell ⟨g, o + k, none⟩ (mkA K i k)) := by
  refine ⟨h.chg.next (Chg.set wr ⟨g, o + k, none⟩ _) (fun x _ hx => ⟨i, hi, by rw [hd_blk he, hx]⟩), fun j hj => (h.ok j hj).set _ _, fun j hj g2 o2 e2 q hq => ?_, fun g2 o2 e2 q hq => ?_⟩
  · rw [World.cell?_setCell_other _ _ _ _ (fun e => by injection e with e1 _; exact hp.dis i j g hi (by omega) (by omega) (hd_blk he) (by rw [hd_blk e2, e1]))]
    exact h.rd j hj g2 o2 e2 q hq
  · rw [he] at e2
    have e12 : g = g2 ∧ o = o2 := by simpa using e2
    obtain ⟨rfl, rfl⟩ := e12
    by_cases e : q = k
    · subst e
      rcases h.ok i hi with ⟨e3, _⟩ | ⟨g3, o3, e3, e4, e5, e6, e7, e8⟩
      · rw [he] at e3; cases e3
      · rw [he] at e3
        have e12 : g = g3 ∧ o = o3 := by simpa using e3
        obtain ⟨rfl, rfl⟩ := e12
        obtain ⟨y, hy⟩ := Option.isSome_iff_exists.1 (e7 q (by omega))
        exact World.cell?_setCell_same _ _ _ hy
    · rw [World.cell?_setCell_other _ _ _ _ (fun e' => by injection e' with _ e'; omega)]
      exact h.cur g o he q (by omega)
structure Ap2 (K : IntKind) (T : TypeId) (w : World) (A : Option Addr) (H : List Hd) (i : Nat) (M : List Hd) (u : Value) (wr : World) : Prop where
  chg : Chg (ApS H) w wr
  ok : ∀ j, j < H.length → HdOk wr (hdD H j)
  rd : ∀ j, j < H.length → HdRead wr (hdD H j) (hdD H j).n (mkA K j)
  len : M.length = i
  mn : ∀ j, j < i → (hdD M j).n = (hdD H j).n + 30 ∧ (hdD M j).ad ≠ none
  mok : ∀ j, j < i → HdOk wr (hdD M j)
  mrd : ∀ j, j < i → HdRead wr (hdD M j) ((hdD H j).n + 30) (fullA K j (hdD H j).n)
  mblk : ∀ j j', j < i → j' < H.length → j' ≠ j → (hdD H j').blk ≠ (hdD M j).blk
  mown : ∀ j g, j < i → (hdD M j).blk = some g → u.ownBlock ≠ some g ∧ ∀ ad, A = some ad → ad.block ≠ g
  more : KH.R T wr w.heap.size (fun _ => True) u M
theorem Ap2.start {K : IntKind} {T : TypeId} {w wr : World} {A : Option Addr} {H : List Hd} (h : Ap1 K w H H.length 0 wr) : Ap2 K T w A H 0 [] (.slice none 0 0) wr :=
  ⟨h.chg, h.ok, h.rd, rfl, fun j hj => by omega, fun j hj => by omega, fun j hj => by omega, fun j j' hj => by omega, fun j g hj => by omega, Kd.R_nil _ _ _ _ _⟩
structure ApI (K : IntKind) (wi : World) (H : List Hd) (i k : Nat) (l : Hd) (wr : World) : Prop where
  chg : Chg (fun g => (hdD H i).blk = some g) wi wr
  n : l.n = (hdD H i).n + k
  ok : HdOk wr l
  rd : HdRead wr l ((hdD H i).n + k) (fullA K i (hdD H i).n)
  hok : ∀ j, j < H.length → HdOk wr (hdD H j)
  hrd : ∀ j, j < H.length → HdRead wr (hdD H j) (hdD H j).n (mkA K j)
  own : l.ad = (hdD H i).ad ∨ ∃ g, l.blk = some g ∧ wi.heap.size ≤ g
  got : 0 < k → l.ad ≠ none
theorem ApI.start {K : IntKind} {T : TypeId} {w wi : World} {A : Option Addr} {H M : List Hd} {i : Nat} {u : Value} (h : Ap2 K T w A H i M u wi) (hi : i < H.length) : ApI K wi H i 0 (hdD H i) wi :=
  ⟨Chg.refl _ _, rfl, h.ok i hi, (h.rd i hi).ext (fun k hk => by unfold fullA; rw [if_pos (by omega)]), h.ok, h.rd, .inl rfl, fun h => by omega⟩
theorem hd_none {h : Hd} (e : h.blk = none) : h.ad = none := by
  unfold Hd.blk at e
  cases hh : h.ad with
  | none => rfl
  | some a => rw [hh] at e; cases e
theorem ApPre.blk_lt {w : World} {A : Option Addr} {H : List Hd} (hp : ApPre w A H) {j g : Nat} (hj : j < H.length) (hg : (hdD H j).blk = some g) : g < w.heap.size := (hp.ok j hj).blk_lt hg
theorem ApI.step {K : IntKind} {w wi wr w1 : World} {A : Option Addr} {H : List Hd} {i k : Nat} {l l1 : Hd} (hp : ApPre w A H) (hs : w.heap.size ≤ wi.heap.size) (hi : i < H.length) (h : ApI K wi H i k l wr) (r : AppRel wr l (.int K (500000 + 1000 * (i : Int) + (k : Int))) l1 w1) : ApI K wi H i (k + 1) l1 w1 := by
  refine ⟨h.chg.next r.chg (fun x hx hl => ?_), by rw [r.n, h.n]; omega, r.ok, ?_, fun j hj => r.old _ (h.hok j hj), fun j hj => ?_, ?_, fun _ => r.some⟩
  · rcases h.own with e | ⟨g, e, hg⟩
    · unfold Hd.blk at hl ⊢; rw [← e]; exact hl
    · have : some g = some x := e.symm.trans hl
      have : g = x := by simpa using this
      omega
  · have q := r.rd (fullA K i (hdD H i).n) (by rw [h.n]; exact h.rd)
    rw [h.n] at q
    refine HdRead.ext (n := (hdD H i).n + (k + 1)) q (fun x hx => ?_)
    by_cases e : x < (hdD H i).n + k
    · rw [if_pos e]
    · rw [if_neg e]
      obtain rfl : x = (hdD H i).n + k := by omega
      unfold fullA
      rw [if_neg (by omega), Nat.add_sub_cancel_left]
  · cases hb : (hdD H j).blk with
    | none => exact HdRead.none (hd_none hb)
    | some g =>
      refine r.reads (h.hok j hj) ?_ (h.hrd j hj)
      by_cases e : j = i
      · subst e
        rcases h.own with e | ⟨g', e, hg⟩
        · exact .inr ⟨e.symm, by rw [h.n]; omega⟩
        · left
          rw [hb, e]
          intro e3
          have e3 : g = g' := by simpa using e3
          have := hp.blk_lt hj hb
          omega
      · left
        rcases h.own with e2 | ⟨g', e2, hg⟩
        · have : l.blk = (hdD H i).blk := by unfold Hd.blk; rw [e2]
          rw [this]
          intro e3
          exact hp.dis j i g hj hi e hb (e3.symm.trans hb)
        · rw [hb, e2]
          intro e3
          have e3 : g = g' := by simpa using e3
          have := hp.blk_lt hj hb
          omega
  · rcases r.own with ⟨e, _⟩ | ⟨⟨g, e, hg⟩, _⟩
    · rcases h.own with e2 | ⟨g, e2, hg⟩
      · exact .inl (e.trans e2)
      · exact .inr ⟨g, by unfold Hd.blk at e2 ⊢; rw [e]; exact e2, hg⟩
    · exact .inr ⟨g, e, Nat.le_trans h.chg.size hg⟩
theorem R_chg {α : Type} {d : Kd α} {e : Nat} {S : Nat → Prop} {w w2 : World} {base : Nat} {v : Value} {xs : List α} (h : d.R e w base (fun _ => True) v xs) (hc : Chg S w w2) (hs : ∀ k, base ≤ k → ¬ S k) : d.R e w2 base (fun _ => True) v xs :=
  Kd.R_mono (Kd.R_step (Kd.R_bound h) (fun k hk hlt => hc.block k hlt (hs k hk.2.1))) (fun _ _ => trivial)
theorem ApI.more {K : IntKind} {T : TypeId} {w wi wr : World} {A : Option Addr} {H M : List Hd} {i k : Nat} {l : Hd} {u : Value} (hp : ApPre w A H) (hi : i < H.length) (h2 : Ap2 K T w A H i M u wi) (h : ApI K wi H i k l wr) : KH.R T wr w.heap.size (fun _ => True) u M :=
  R_chg h2.more h.chg (fun x hx e => by have := hp.blk_lt hi e; omega)
theorem getD_snoc {α : Type} (M : List α) (x d : α) (j : Nat) : (M ++ [x]).getD j d = if j < M.length then M.getD j d else if j = M.length then x else d := by
  split
  · rename_i h; simp [List.getD_eq_getElem?_getD, List.getElem?_append_left h]
  · split
    · rename_i h h2; subst h2; simp [List.getD_eq_getElem?_getD]
    · simp [List.getD_eq_getElem?_getD, List.getElem?_eq_none (show (M ++ [x]).length ≤ j by simp; omega)]
theorem Ap2.next {K : IntKind} {T : TypeId} {w wi wr w2 : World} {A : Option Addr} {H M : List Hd} {i : Nat} {l : Hd} {u v1 : Value} (hp : ApPre w A H) (hi : i < H.length) (h2 : Ap2 K T w A H i M u wi) (h : ApI K wi H i 30 l wr)
    (hR : KH.R T w2 w.heap.size (fun _ => True) v1 (M ++ [l])) (hg : wr.grownBy w2 u.ownBlock) (hat : v1.ownBlock = u.ownBlock ∨ ∃ b, v1.ownBlock = some b ∧ wr.heap.size ≤ b) : Ap2 K T w A H (i + 1) (M ++ [l]) v1 w2 := by
  have hown : ∀ k, u.ownBlock = some k → w.heap.size ≤ k ∧ k < wi.heap.size := fun k hk => by
    have hb := Kd.R_bound h2.more
    have := hb.1 k hk
    exact ⟨this.2.1, this.2.2.1⟩
  have hws : w.heap.size ≤ wi.heap.size := h2.chg.size
  have hwr : wi.heap.size ≤ wr.heap.size := h.chg.size
  have kH : ∀ j, j < H.length → ∀ g, (hdD H j).blk = some g → w2.heap[g]? = wr.heap[g]? := fun j hj g hb => by
    have := hp.blk_lt hj hb
    exact hg.block g (by omega) (fun e => by have := hown g e.symm; omega)
  have hl2 : ∀ g, l.blk = some g → (hdD H i).blk = some g ∨ wi.heap.size ≤ g := fun g e => by
    rcases h.own with q | ⟨g', q, hq⟩
    · left; unfold Hd.blk at e ⊢; rw [← q]; exact e
    · right
      have : some g' = some g := q.symm.trans e
      have : g' = g := by simpa using this
      omega
  have hlr : ∀ g, l.blk = some g → g < wr.heap.size := fun g e => h.ok.blk_lt e
  have kl : ∀ g, l.blk = some g → w2.heap[g]? = wr.heap[g]? := fun g e => by
    have h3 := hlr g e
    refine hg.block g h3 (fun q => ?_)
    have h4 := hown g q.symm
    rcases hl2 g e with h5 | h5
    · have := hp.blk_lt hi h5; omega
    · omega
  have kM : ∀ j, j < i → ∀ g, (hdD M j).blk = some g → w2.heap[g]? = wi.heap[g]? := fun j hj g e => by
    have h3 := (h2.mok j hj).blk_lt e
    have h4 := (h2.mown j g hj e).1
    have h5 : ¬ (hdD H i).blk = some g := fun q => h2.mblk j i hj hi (by omega) (q.trans e.symm)
    exact (hg.block g (by omega) (fun q => h4 q.symm)).trans (h.chg.block g h3 h5)
  have hsz : wi.heap.size ≤ w2.heap.size := Nat.le_trans hwr hg.size
  have hlen := h2.len
  have cM : ∀ j, j < i → hdD (M ++ [l]) j = hdD M j := fun j hj => by unfold hdD; rw [getD_snoc, if_pos (by omega)]
  have cl : hdD (M ++ [l]) i = l := by unfold hdD; rw [getD_snoc, if_neg (by omega), if_pos hlen.symm]
  have lt : ∀ j, j < i + 1 → j < i ∨ j = i := fun j hj => by omega
  refine ⟨(h2.chg.next h.chg (fun x _ e => ⟨i, hi, e⟩)).next (Chg.of_grown hg) (fun x hx e => by have := hown x e; omega), fun j hj => (h.hok j hj).keep hg.size (kH j hj), fun j hj => (h.hrd j hj).keep (kH j hj), by simp [hlen], fun j hj => ?_, fun j hj => ?_, fun j hj => ?_, fun j j' hj hj' hne => ?_, fun j g hj e => ?_, hR⟩
  · rcases lt j hj with hj | rfl
    · rw [cM j hj]; exact h2.mn j hj
    · rw [cl]; exact ⟨h.n, h.got (by decide)⟩
  · rcases lt j hj with hj | rfl
    · rw [cM j hj]; exact (h2.mok j hj).keep hsz (kM j hj)
    · rw [cl]; exact h.ok.keep hg.size kl
  · rcases lt j hj with hj | rfl
    · rw [cM j hj]; exact (h2.mrd j hj).keep (kM j hj)
    · rw [cl]; exact h.rd.keep kl
  · rcases lt j hj with hj | rfl
    · rw [cM j hj]; exact h2.mblk j j' hj hj' hne
    · rw [cl]
      intro e
      cases hb : l.blk with
      | none => exact h.got (by decide) (hd_none hb)
      | some g =>
        rw [hb] at e
        rcases hl2 g hb with h5 | h5
        · exact hp.dis j' j g hj' hi hne e h5
        · have := hp.blk_lt hj' e; omega
  · rcases lt j hj with hj | rfl
    · rw [cM j hj] at e
      have h3 := (h2.mok j hj).blk_lt e
      refine ⟨fun q => ?_, (h2.mown j g hj e).2⟩
      rcases hat with hat | ⟨b, hat, hb⟩
      · exact (h2.mown j g hj e).1 (hat.symm.trans q)
      · have : some b = some g := hat.symm.trans q
        have : b = g := by simpa using this
        omega
    · rw [cl] at e
      refine ⟨fun q => ?_, fun ad ha q => ?_⟩
      · rcases hat with hat | ⟨b, hat, hb⟩
        · have h4 := hown g (hat.symm.trans q)
          rcases hl2 g e with h5 | h5
          · have := hp.blk_lt hi h5; omega
          · omega
        · have : some b = some g := hat.symm.trans q
          have : b = g := by simpa using this
          have := hlr g e
          omega
      · rcases hl2 g e with h5 | h5
        · exact hp.out j ad hi ha (by rw [h5, q])
        · have hA : ad.block < w.heap.size := by
            obtain ⟨e1, e2, e3⟩ := hp.all
            obtain ⟨ad', ha', hc⟩ := e3 (by omega)
            rw [ha] at ha'
            obtain rfl := Option.some.inj ha'
            obtain ⟨cs, q1, q2, q3⟩ := hc j H[j] (List.getElem?_eq_getElem hi)
            have q2' : cs = [H[j].v] := q2
            subst q2'
            have := World.block_lt_of_cell? _ _ (q3 0 _ rfl)
            rwa [blk_add] at this
          omega
/-- The row of lists stays. -/
theorem ApPre.stay {w wr : World} {A : Option Addr} {H : List Hd} (hp : ApPre w A H) (hc : Chg (ApS H) w wr) : KH.C wr A H.length H := by
  rcases Nat.eq_zero_or_pos H.length with h0 | h0
  · have : H = [] := List.eq_nil_of_length_eq_zero h0
    subst this
    exact ⟨rfl, by simp, fun h => absurd h (by simp)⟩
  · refine C_blk hp.all (fun ad ha => hc.block _ ?_ ?_)
    · obtain ⟨e1, e2, e3⟩ := hp.all
      obtain ⟨ad', ha', hc⟩ := e3 (by omega)
      rw [ha] at ha'
      obtain rfl := Option.some.inj ha'
      obtain ⟨cs, q1, q2, q3⟩ := hc 0 H[0] (List.getElem?_eq_getElem h0)
      have q2' : cs = [H[0].v] := q2
      subst q2'
      have := World.block_lt_of_cell? _ _ (q3 0 _ rfl)
      rwa [blk_add] at this
    · rintro ⟨j, hj, e⟩
      exact hp.out j ad hj ha e
theorem ApPre.head {w wr : World} {A : Option Addr} {H : List Hd} (hp : ApPre w A H) (hc : Chg (ApS H) w wr) {j : Nat} (hj : j < H.length) : ∃ ad, A = some ad ∧ wr.cell? (ad.add j) = some (hdD H j).v := by
  obtain ⟨ad, y, h1, h2, h3⟩ := at_scalar (hp.stay hc) j hj hd0
  exact ⟨ad, h1, by rw [h2, ← h3.out]⟩
theorem KH_head {w : World} {A : Option Addr} {H : List Hd} (hp : KH.C w A H.length H) {j : Nat} (hj : j < H.length) : ∃ ad, A = some ad ∧ w.cell? (ad.add j) = some (hdD H j).v := by
  obtain ⟨ad, y, h1, h2, h3⟩ := at_scalar hp j hj hd0
  exact ⟨ad, h1, by rw [h2, ← h3.out]⟩
theorem HdOk.form {w : World} {h : Hd} (hh : HdOk w h) : (h = hd0) ∨ ∃ g o n c, h = ⟨some ⟨g, o, none⟩, n, c⟩ ∧ n ≤ c ∧ (∀ j, j < c → ∃ y, w.cell? ⟨g, o + j, none⟩ = some y) ∧ ∀ j, w.frozen? ⟨g, j, none⟩ = false := by
  obtain ⟨ad, n, c⟩ := h
  rcases hh with ⟨h1, h2, h3⟩ | ⟨g, o, h1, h2, h3, h4, h5, h6⟩
  · simp only at h1 h2 h3
    subst h1 h2 h3
    exact .inl rfl
  · simp only at h1 h2 h3 h5
    subst h1
    exact .inr ⟨g, o, n, c, rfl, h2, fun j hj => Option.isSome_iff_exists.1 (h5 j hj), h6⟩
end Go.Proofs.YtapgglmdnggopaaDoor.Hand
/- dovetailkit.ApartInts, ApartSets: lists with memory of their own share none. -/
namespace Go.Proofs.YtapgglmdnggopaaDoor.Hand
open Go.RowKit Go.Proofs.YtapgglmdnggopaaDoorW.PrintWords Go.Proofs.YtapgglmdnggopaaDoorW.PrintMore Go.Proofs.YtapgglmdnggopaaDoor.Math

theorem infoIntss : (Tryd.prog.info? 30).map (fun i => (i.zero, i.size, i.bytes)) = some (some (.slice none 0 0), 1, 24) := by kernel_rfl
set_option maxHeartbeats 4000000 in
set_option maxRecDepth 100000 in
theorem apartInts_calls (A : Option Addr) (c : Nat) (H : List Hd) (w : World) (hp : ApPre w A H) :
    Calls Tryd.prog 18 #[.slice A H.length c] w fun e w' => e = .returned (.bool true) ∧ Chg (ApS H) w w' := by
  have HP := Lib.hid hp
  have hlen := hp.len
  clear hp
  go_enter Tryd.func18, Tryd.ntmps18
  go_wp2
  go_loopw [3, 4] (fun a _ wr => ∃ (j : Nat), j ≤ H.length ∧ a = .int .i64 j ∧ Hid (Ap1 .i64 w H j 0 wr)) (fun a _ _ => H.length - (intOf a).toNat)
  case atStart => exact ⟨0, by omega, rfl, Lib.hid (Ap1.start _ HP.out)⟩
  case round =>
    obtain ⟨j, hj, rfl, HS⟩ := hrel
    obtain ⟨wo, rfl⟩ : ∃ wo : World, wo = wr := ⟨_, rfl⟩
    by_cases hlt : j < H.length
    · obtain ⟨ad, rfl, hc⟩ := HP.out.head HS.out.chg hlt
      have hsh := HP.out.short j hlt
      obtain ⟨hd, hhd⟩ : ∃ h, hdD H j = h := ⟨_, rfl⟩
      have hok0 := HP.out.ok j hlt
      rw [hhd] at hc hsh hok0
      have HD := Lib.hid hhd
      clear hhd
      obtain ⟨yad, n, cc⟩ := hd
      have HOK0 := Lib.hid hok0
      simp only [Hd.v] at hc
      simp only at hsh
      clear hok0
      go_wp2
      clear hc
      go_loopw [4] (fun a wr => ∃ (q : Nat), q ≤ n ∧ a = .int .i64 q ∧ Hid (Ap1 .i64 w H j q wr)) (fun a _ => n - (intOf a).toNat)
      case atStart => exact ⟨0, by omega, rfl, HS⟩
      case round =>
        obtain ⟨q, hq, rfl, HS1⟩ := hrel
        obtain ⟨ad', ha', hc⟩ := HP.out.head HS1.out.chg hlt
        obtain rfl := Option.some.inj ha'
        rw [HD.out] at hc
        simp only [Hd.v] at hc
        by_cases hql : q < n
        · have hok := HS1.out.ok j hlt
          rw [HD.out] at hok
          rcases hok.form with e | ⟨g, o, n', c', e, hnc, hcell, hfr⟩
          · injection e with _ e _; omega
          · injection e with e1 e2 e3
            subst e1 e2 e3
            obtain ⟨y0, hy0⟩ := hcell q (by omega)
            have hf0 := hfr (o + q)
            have HNX := Lib.hid (HS1.out.put HP.out hlt (by rw [HD.out]; exact hql) (by rw [HD.out]))
            clear hok hcell hfr ha'
            go_wp2
            go_roundw
            case rel => exact ⟨q + 1, by omega, by go_num, HNX⟩
            case measure => simp [intOf]; omega
        · obtain rfl : q = n := by omega
          clear ha'
          go_wp2
          go_roundw
          case rel => exact ⟨j + 1, by omega, by go_num, Lib.hid (Ap1.next (by rw [HD.out]; exact HS1.out))⟩
          case measure => simp [intOf]; omega
    · obtain rfl : j = H.length := by omega
      have HS3 := Lib.hid (Ap2.start (T := 30) (A := A) HS.out)
      clear HS
      go_wp2
      go_loopw [5, 6, 7, 8] (fun uu a _ _ wr => ∃ (j : Nat) (M : List Hd) (u : Value), j ≤ H.length ∧ a = .int .i64 j ∧ u = uu ∧ Hid (Ap2 .i64 30 w A H j M u wr)) (fun _ a _ _ _ => H.length - (intOf a).toNat)
      case atStart => exact ⟨0, [], _, by omega, rfl, rfl, HS3⟩
      case round =>
        obtain ⟨j, M, u, hj, rfl, rfl, HS⟩ := hrel
        obtain ⟨wo, rfl⟩ : ∃ wo : World, wo = wr := ⟨_, rfl⟩
        by_cases hlt : j < H.length
        · obtain ⟨ad, rfl, hc⟩ := HP.out.head HS.out.chg hlt
          have hsh := HP.out.short j hlt
          have hi0 := ApI.start HS.out hlt
          obtain ⟨h0, hh0⟩ : ∃ h, hdD H j = h := ⟨_, rfl⟩
          rw [hh0] at hi0 hc hsh
          have HI0 := Lib.hid hi0
          have HH0 := Lib.hid hh0
          clear hi0 hh0
          simp only [Hd.v] at hc
          have hML := HS.out.len
          have HML := Lib.hid hML
          clear hML
          go_wp2
          go_loopw [7, 8] (fun lv a wr => ∃ (q : Nat) (l : Hd), q ≤ 30 ∧ a = .int .i64 q ∧ lv = .slice l.ad l.n l.c ∧ Hid (ApI .i64 wo H j q l wr)) (fun _ a _ => 30 - (intOf a).toNat)
          case atStart => exact ⟨0, _, by omega, rfl, rfl, HI0⟩
          case round =>
            obtain ⟨q, l, hq, rfl, rfl, HI⟩ := hrel
            have hln := HI.out.n
            rw [HH0.out] at hln
            have hln1 : (l.n + 1) * 8 ≤ 140737488355328 := by omega
            have HLN := Lib.hid hln1
            have HWS := Lib.hid (Nat.le_trans HS.out.chg.size HI.out.chg.size)
            clear hln hln1
            by_cases hql : q < 30
            · go_wp2_with ((with_reducible refine gate_builtin (b := .append) (xs := #[.tmp 52, .tmp 58]) rfl ?_); at_builtin; refine wp_app rfl (.tmp 52) (.tmp 58) 30 3 (.int .i64 0) 8 rfl Tryd.underlying30 infoInt rfl (by decide) l _ rfl rfl rfl HI.out.ok HLN.out ?_; intro l1 w1 hr; have HR := Lib.hid (HI.out.step HP.out HS.out.chg.size hlt hr); clear hr)
              go_roundw
              case rel => exact ⟨q + 1, l1, by omega, by go_num, rfl, HR⟩
              case measure => simp [intOf]; omega
            · obtain rfl : q = 30 := by omega
              have HMo := Lib.hid (HI.out.more HP.out hlt HS.out)
              go_wp2_with ((with_reducible refine gate_builtin (b := .append) (xs := #[.tmp 60, .tmp 62]) rfl ?_); at_builtin; go_loud (refine Kd.R_append KH (w0 := wr) w.heap.size rfl (.tmp 60) (.tmp 62) 37 30 (.slice none 0 0) 24 rfl Tryd.underlying37 infoIntss rfl (by decide) (by omega) u M l [.slice l.ad l.n l.c] (fun _ => True) (fun _ => False) rfl rfl rfl (fun _ hk => hk.elim) (fun _ _ => trivial) HMo.out (Below.refl _ _) HWS.out (by have := HML.out; omega) ?_); intro v1 w1 ho hb hg hat; (have HR := Lib.hid (Ap2.next HP.out hlt HS.out HI.out ho hg hat); clear ho hb hg hat))
              go_roundw
              case rel => exact ⟨j + 1, _, _, by omega, by go_num, rfl, HR⟩
              case measure => simp [intOf]; omega
        · obtain rfl : j = H.length := by omega
          obtain ⟨B, c2, rfl⟩ := Kd.R_slice HS.out.more
          have hML := HS.out.len
          obtain ⟨-, -, hMC⟩ := Kd.R_reads' HS.out.more
          have HMC := Lib.hid hMC
          have HCH := Lib.hid (HP.out.stay HS.out.chg)
          have HML := Lib.hid hML
          clear hMC hML
          go_wp2
          go_loopw [9, 10, 11, 12] (fun a _ _ _ wx => ∃ (i : Nat), i ≤ H.length ∧ a = .int .i64 i ∧ wo = wx) (fun a _ _ _ _ => H.length - (intOf a).toNat)
          case atStart => exact ⟨0, by omega, rfl, rfl⟩
          case round =>
            obtain ⟨i, hi, rfl, rfl⟩ := hrel
            by_cases hlt2 : i < H.length
            · obtain ⟨ad, rfl, hc⟩ := KH_head HCH.out hlt2
              have hmi : i < M.length := by have := HML.out; omega
              obtain ⟨ad2, rfl, hc2⟩ := KH_head HMC.out hmi
              obtain ⟨hmn, hma⟩ := HS.out.mn i hlt2
              have hsh := HP.out.short i hlt2
              have ho1 := HS.out.ok i hlt2
              have ho2 := HS.out.mok i hlt2
              have hr1 := HS.out.rd i hlt2
              have hr2 := HS.out.mrd i hlt2
              obtain ⟨x1, hx1⟩ : ∃ h, hdD H i = h := ⟨_, rfl⟩
              obtain ⟨x2, hx2⟩ : ∃ h, hdD M i = h := ⟨_, rfl⟩
              rw [hx1] at hc hmn hsh ho1 hr1 hr2
              rw [hx2] at hc2 hmn hma ho2 hr2
              rcases ho2.form with rfl | ⟨g2, o2, n2, c4, rfl, -, -, -⟩
              · exact absurd rfl hma
              obtain ⟨a1, n, c3⟩ := x1
              simp only at hmn hsh hr1 hr2
              simp only [Hd.v] at hc hc2
              subst hmn
              have HR1 := Lib.hid hr1
              have HR2 := Lib.hid hr2
              have HO1 := Lib.hid ho1
              clear hx1 hx2 ho1 ho2 hr1 hr2 hma
              go_wp2
              go_loopw [11] (fun a wx => ∃ (k : Nat), k ≤ n ∧ a = .int .i64 k ∧ wo = wx) (fun a _ => n - (intOf a).toNat)
              case atStart => exact ⟨0, by omega, rfl, rfl⟩
              case round =>
                obtain ⟨k, hk, rfl, rfl⟩ := hrel
                by_cases hkl : k < n
                · rcases HO1.out.form with e | ⟨g, o, n', c', e, -, -, -⟩
                  · injection e with _ e _; omega
                  · injection e with e1 e2 e3
                    subst e1 e2 e3
                    have hv1 : wo.cell? ⟨g, o + k, none⟩ = some (.int .i64 (1000 * (i : Int) + (k : Int))) := HR1.out g o rfl k hkl
                    have hv2 : wo.cell? ⟨g2, o2 + k, none⟩ = some (.int .i64 (1000 * (i : Int) + (k : Int))) := by
                      have := HR2.out g2 o2 rfl k (by omega)
                      rw [this]; unfold fullA; rw [if_pos hkl]; rfl
                    go_wp2
                    go_roundw
                    case rel => exact ⟨k + 1, by omega, by go_num, by trivial⟩
                    case measure => simp [intOf]; omega
                · obtain rfl : k = n := by omega
                  go_wp2
                  go_loopw [12] (fun a wx => ∃ (q : Nat), q ≤ 30 ∧ a = .int .i64 q ∧ wo = wx) (fun a _ => 30 - (intOf a).toNat)
                  case atStart => exact ⟨0, by omega, rfl, rfl⟩
                  case round =>
                    obtain ⟨q, hq, rfl, rfl⟩ := hrel
                    by_cases hql : q < 30
                    · have hv2 : wo.cell? ⟨g2, o2 + (k + q), none⟩ = some (.int .i64 (500000 + 1000 * (i : Int) + (q : Int))) := by
                        have := HR2.out g2 o2 rfl (k + q) (by omega)
                        rw [this]; unfold fullA; rw [if_neg (by omega), Nat.add_sub_cancel_left]
                      go_wp2
                      go_roundw
                      case rel => exact ⟨q + 1, by omega, by go_num, by trivial⟩
                      case measure => simp [intOf]; omega
                    · obtain rfl : q = 30 := by omega
                      go_wp2
                      go_roundw
                      case rel => exact ⟨i + 1, by omega, by go_num, by trivial⟩
                      case measure => simp [intOf]; omega
            · go_wp2
              go_ret
              exact ⟨rfl, HS.out.chg⟩
end Go.Proofs.YtapgglmdnggopaaDoor.Hand
/- Lists that own their memory, by their heads; some of them in a row of new memory. -/
namespace Go.Proofs.YtapgglmdnggopaaDoor.Hand
open Go.RowKit Go.Proofs.YtapgglmdnggopaaDoorW.PrintWords Go.Proofs.YtapgglmdnggopaaDoorW.PrintMore Go.Proofs.YtapgglmdnggopaaDoor.Math

/-- A list that owns its memory, by its head. -/
theorem R_hd {w : World} {e base : Nat} {v : Value} {xs : List Int} (h : (Kd.int .i64).R e w base (fun _ => True) v xs) : ∃ hd : Hd, v = .slice hd.ad hd.n hd.c ∧ hd.n = xs.length ∧ HdOk w hd ∧ ∀ g, hd.blk = some g → base ≤ g ∧ g < w.heap.size := by
  have ho := Kd.own_of_R (enc := Value.int .i64) (h1 := fun _ => rfl) h
  obtain ⟨h1, h2⟩ := ho
  rcases h2 with ⟨rfl, h0⟩ | ⟨g, cap, cur, rfl, hb, hg, hn', hc, hs, ht⟩
  · exact ⟨hd0, rfl, h0.symm, .inl ⟨rfl, rfl, rfl⟩, fun g hg => by cases hg⟩
  · have hlt := (Array.getElem?_eq_some_iff.1 hg).1
    refine ⟨⟨some ⟨g, 0, none⟩, xs.length, cap⟩, rfl, rfl, .inr ⟨g, 0, rfl, hn', hc, hlt, fun j hj => ?_, fun j => ?_⟩, fun g' hg' => ?_⟩
    · have hj' : j < cap := hj
      rw [Nat.zero_add, cell_of_row w g j cur e (0, 0) hg, Array.getElem?_eq_getElem (by omega)]; rfl
    · simp [World.frozen?, hg]
    · have : g = g' := by simpa [Hd.blk] using hg'
      omega
/-- Lists, each in memory of its own, in a row of new memory. -/
theorem hds_pre {W W' : World} {H : List Hd} (hW' : W' = W.alloc (.cells (H.map Hd.v).toArray 30)) (hl : H.length ≤ 1000000)
    (hok : ∀ h ∈ H, HdOk W h ∧ h.n ≤ 1000000000000) (hdis : ∀ i j g, i < H.length → j < H.length → i < j → (hdD H i).blk = some g → (hdD H j).blk ≠ some g) :
    ApPre W' (some ⟨W.heap.size, 0, none⟩) H := by
  subst hW'
  have hb : Below W.heap.size W (W.alloc (.cells (H.map Hd.v).toArray 30)) := below_alloc (Below.refl _ _) _
  have hm : ∀ j, j < H.length → hdD H j ∈ H := fun j hj => by
    show H.getD j hd0 ∈ H
    exact getD_mem H j hd0 hj
  refine ⟨(Kd.R_reads' (R_lit (enc := Hd.v) (h1 := fun _ => rfl) 30 W.heap.size W H (Nat.le_refl _) (by unfold maxLen; omega))).2.2, by omega, fun j hj => ?_, fun j hj => (hok _ (hm j hj)).2, fun i j g hi hj hne e1 e2 => ?_, fun j ad hj ha e => ?_⟩
  · have hh := (hok _ (hm j hj)).1
    exact hh.keep hb.size (fun g hg => hb.block g (hh.blk_lt hg))
  · rcases Nat.lt_or_gt_of_ne hne with h | h
    · exact hdis i j g hi hj h e1 e2
    · exact hdis j i g hj hi h e2 e1
  · have := (hok _ (hm j hj)).1.blk_lt e
    have e2 : ad = ⟨W.heap.size, 0, none⟩ := by simpa using ha.symm
    subst e2
    exact Nat.lt_irrefl _ this
/-- Two of them. -/
theorem two_pre {W W' : World} {h1 h2 : Hd} {b1 : Nat} (hW' : W' = W.alloc (.cells #[h1.v, h2.v] 30)) (k1 : HdOk W h1) (k2 : HdOk W h2) (n1 : h1.n ≤ 1000000000000) (n2 : h2.n ≤ 1000000000000)
    (r1 : ∀ g, h1.blk = some g → g < b1) (r2 : ∀ g, h2.blk = some g → b1 ≤ g) : ApPre W' (some ⟨W.heap.size, 0, none⟩) [h1, h2] := by
  refine hds_pre hW' (by simp) (fun h hh => ?_) (fun i j g hi hj hij e1 e2 => ?_)
  · simp only [List.mem_cons, List.not_mem_nil, or_false] at hh
    rcases hh with rfl | rfl
    · exact ⟨k1, n1⟩
    · exact ⟨k2, n2⟩
  · simp only [List.length_cons, List.length_nil] at hi hj
    obtain ⟨rfl, rfl⟩ : i = 0 ∧ j = 1 := by omega
    have := r1 g e1
    have := r2 g e2
    omega
/-- Four of them. -/
theorem four_pre {W W' : World} {h1 h2 h3 h4 : Hd} {b1 b2 b3 : Nat} (hW' : W' = W.alloc (.cells #[h1.v, h2.v, h3.v, h4.v] 30))
    (k1 : HdOk W h1) (k2 : HdOk W h2) (k3 : HdOk W h3) (k4 : HdOk W h4) (n1 : h1.n ≤ 1000000000000) (n2 : h2.n ≤ 1000000000000) (n3 : h3.n ≤ 1000000000000) (n4 : h4.n ≤ 1000000000000)
    (r1 : ∀ g, h1.blk = some g → g < b1) (r2 : ∀ g, h2.blk = some g → b1 ≤ g ∧ g < b2) (r3 : ∀ g, h3.blk = some g → b2 ≤ g ∧ g < b3) (r4 : ∀ g, h4.blk = some g → b3 ≤ g) (hs : b1 ≤ b2 ∧ b2 ≤ b3) :
    ApPre W' (some ⟨W.heap.size, 0, none⟩) [h1, h2, h3, h4] := by
  refine hds_pre hW' (by simp) (fun h hh => ?_) (fun i j g hi hj hij e1 e2 => ?_)
  · simp only [List.mem_cons, List.not_mem_nil, or_false] at hh
    rcases hh with rfl | rfl | rfl | rfl
    · exact ⟨k1, n1⟩
    · exact ⟨k2, n2⟩
    · exact ⟨k3, n3⟩
    · exact ⟨k4, n4⟩
  · simp only [List.length_cons, List.length_nil] at hi hj
    have rng : ∀ j g, j < 4 → (hdD [h1, h2, h3, h4] j).blk = some g → (j = 0 → g < b1) ∧ (j = 1 → b1 ≤ g ∧ g < b2) ∧ (j = 2 → b2 ≤ g ∧ g < b3) ∧ (j = 3 → b3 ≤ g) := fun j g hj e => by
      obtain rfl | rfl | rfl | rfl : j = 0 ∨ j = 1 ∨ j = 2 ∨ j = 3 := by omega
      · have := r1 g e; omega
      · have := r2 g e; omega
      · have := r3 g e; omega
      · have := r4 g e; omega
    have q1 := rng i g (by omega) e1
    have q2 := rng j g (by omega) e2
    obtain rfl | rfl | rfl | rfl : i = 0 ∨ i = 1 ∨ i = 2 ∨ i = 3 := by omega
    all_goals obtain rfl | rfl | rfl | rfl : j = 0 ∨ j = 1 ∨ j = 2 ∨ j = 3 := by omega
    all_goals simp at q1 q2 hij
    all_goals omega
theorem apS_ge {H : List Hd} {b g : Nat} (h : ∀ x ∈ H, ∀ g, x.blk = some g → b ≤ g) (hg : ApS H g) : b ≤ g := by
  obtain ⟨j, hj, e⟩ := hg
  exact h _ (getD_mem H j hd0 hj) g e
end Go.Proofs.YtapgglmdnggopaaDoor.Hand
/- FoldOwn's three functions: values from above; a count; kids that are kept. -/
namespace Go.Proofs.YtapgglmdnggopaaDoor.Hand
open Go.RowKit Go.Proofs.YtapgglmdnggopaaDoorW.PrintWords Go.Proofs.YtapgglmdnggopaaDoorW.PrintMore Go.Proofs.YtapgglmdnggopaaDoor.Math

theorem own1_calls (a n m : Int) (W : World) : Calls Tryd.prog 13 (#[.int .i64 a, .int .i64 n, .int .i64 m] ++ #[]) W fun e W' => e = .returned (.int .i64 (wrap64 (a + 1))) ∧ Below W.heap.size W W' := by
  show Calls Tryd.prog 13 #[.int .i64 a, .int .i64 n, .int .i64 m] W _
  go_enter Tryd.func13, Tryd.ntmps13
  go_wp2
  go_ret
  exact ⟨rfl, Below.refl _ _⟩
theorem own_inhIn {wB w0 : World} {tA : Option Addr} {t : List (Int × Int × Int)} (ht : KStep.C wB tA t.length t) (ho : wB.heap.size ≤ w0.heap.size) :
    InhIn Tryd.prog 13 (fun a b c => #[a, b, c] ++ #[]) (Value.int .i64) (fun (s : Unit) a _ _ => (s, wrap64 (a + 1))) (fun _ _ own => ∀ k, ¬ own k) wB w0 t tA where
  tree := ht
  ord := ho
  stay := fun _ _ _ _ h _ _ => h
  low := fun _ _ _ k h q => absurd q (h k)
  call := fun s W own a n m h _ _ => (own1_calls a n m W).mono (by
    rintro e W' ⟨rfl, hb⟩
    exact ⟨rfl, own, h, Chg.of_below _ hb, fun k q => .inl q⟩)
/-- What the two functions own. -/
def OwnSet (bK bN : Nat) (vk : Value) (H : List Hd) (k : Nat) : Prop := k = bK ∨ k = bN ∨ vk.ownBlock = some k ∨ ∃ h ∈ H, h.blk = some k
/-- Kids that are kept, and the count. -/
structure OwnAt (bK bN : Nat) (n : Int) (W : World) (vk : Value) (H : List Hd) : Prop where
  hK : W.heap[bK]? = some (.cells #[vk] 37 (0, 0))
  hN : W.heap[bN]? = some (.cells #[.int .i64 n] 3 (0, 0))
  row : KH.R 30 W 0 (fun _ => True) vk H
  ok : ∀ h ∈ H, HdOk W h
  sh : ∀ h ∈ H, h.n ≤ 32
  dis : ∀ i j g, i < H.length → j < H.length → i ≠ j → (hdD H i).blk = some g → (hdD H j).blk ≠ some g
  out : ∀ h ∈ H, ∀ g, h.blk = some g → g ≠ bK ∧ g ≠ bN ∧ vk.ownBlock ≠ some g
  nK : vk.ownBlock ≠ some bK
  nN : vk.ownBlock ≠ some bN
  ne : bK ≠ bN
def OwnCl (bK bN : Nat) (s : Int × Nat) (W : World) (own : Nat → Prop) : Prop := ∃ vk H, H.length = s.2 ∧ OwnAt bK bN s.1 W vk H ∧ own = OwnSet bK bN vk H
theorem KH_tight {e b : Nat} {w : World} {ok : Nat → Prop} {v : Value} {xs : List Hd} (h : KH.R e w b ok v xs) : KH.R e w b (fun k => v.ownBlock = some k) v xs := ⟨fun _ hk => hk, h.2.imp_ (fun _ _ hp => hp)⟩
section
variable {bK bN : Nat} {n : Int} {W W' w1 : World} {vk v1 : Value} {H : List Hd} {hd : Hd}
theorem OwnAt.low (h : OwnAt bK bN n W vk H) {k : Nat} (hk : OwnSet bK bN vk H k) : k < W.heap.size := by
  rcases hk with rfl | rfl | hk | ⟨x, hx, hk⟩
  · exact (Array.getElem?_eq_some_iff.1 h.hK).1
  · exact (Array.getElem?_eq_some_iff.1 h.hN).1
  · exact Kd.R_lt h.row k hk
  · exact (h.ok x hx).blk_lt hk
theorem OwnAt.stay (h : OwnAt bK bN n W vk H) (hs : W.heap.size ≤ W'.heap.size) (hk : ∀ k, k < W.heap.size → OwnSet bK bN vk H k → W'.heap[k]? = W.heap[k]?) : OwnAt bK bN n W' vk H := by
  have hh : ∀ k, OwnSet bK bN vk H k → W'.heap[k]? = W.heap[k]? := fun k q => hk k (h.low q) q
  exact ⟨(hh _ (.inl rfl)).trans h.hK, (hh _ (.inr (.inl rfl))).trans h.hN, Kd.R_mono (Kd.R_step (KH_tight h.row) (fun k q _ => hh k (.inr (.inr (.inl q))))) (fun _ _ => trivial), fun x hx => (h.ok x hx).keep hs (fun g hg => hh g (.inr (.inr (.inr ⟨x, hx, hg⟩)))), h.sh, h.dis, h.out, h.nK, h.nN, h.ne⟩
theorem OwnAt.count (h : OwnAt bK bN n W vk H) (m : Int) : OwnAt bK bN m (W.setCell ⟨bN, 0, none⟩ (.int .i64 m)) vk H ∧ Chg (OwnSet bK bN vk H) W (W.setCell ⟨bN, 0, none⟩ (.int .i64 m)) := by
  have hf : ∀ k, k ≠ bN → (W.setCell ⟨bN, 0, none⟩ (.int .i64 m)).heap[k]? = W.heap[k]? := fun k hk => Below.heap_setCell W ⟨bN, 0, none⟩ _ k hk
  refine ⟨⟨(hf _ h.ne).trans h.hK, by rw [blk_put h.hN]; rfl, Kd.R_mono (Kd.R_far (KH_tight h.row) (p := ⟨bN, 0, none⟩) (fun k hk e => h.nN (by rw [← (show k = bN from e)]; exact hk)) _) (fun _ _ => trivial), fun x hx => (h.ok x hx).set _ _, h.sh, h.dis, h.out, h.nK, h.nN, h.ne⟩, (Chg.set W ⟨bN, 0, none⟩ _).mono (fun k _ hk => .inr (.inl hk))⟩
/-- One more is kept. -/
theorem OwnAt.keepOne (h : OwnAt bK bN n W vk H) (ho : KH.R 30 w1 0 (fun _ => True) v1 (H ++ [hd])) (hg : W.grownBy w1 vk.ownBlock) (hat : v1.ownBlock = vk.ownBlock ∨ ∃ b, v1.ownBlock = some b ∧ W.heap.size ≤ b)
    (hok : HdOk W hd) (hsh : hd.n ≤ 32) (hnew : ∀ g, hd.blk = some g → ¬ OwnSet bK bN vk H g) :
    OwnAt bK bN n (w1.setCell ⟨bK, 0, none⟩ v1) v1 (H ++ [hd]) ∧ Chg (OwnSet bK bN vk H) W (w1.setCell ⟨bK, 0, none⟩ v1) ∧ (∀ k, OwnSet bK bN v1 (H ++ [hd]) k → OwnSet bK bN vk H k ∨ hd.blk = some k ∨ W.heap.size ≤ k) := by
  have hf : ∀ k, k ≠ bK → (w1.setCell ⟨bK, 0, none⟩ v1).heap[k]? = w1.heap[k]? := fun k hk => Below.heap_setCell w1 ⟨bK, 0, none⟩ _ k hk
  have ltK : bK < W.heap.size := h.low (.inl rfl)
  have ltN : bN < W.heap.size := h.low (.inr (.inl rfl))
  have v1K : ∀ k, k < W.heap.size → vk.ownBlock ≠ some k → v1.ownBlock ≠ some k := fun k hk hn e => by
    rcases hat with e2 | ⟨b, e2, hb⟩
    · exact hn (e2.symm.trans e)
    · rw [e2] at e; injection e with e; omega
  have hgb : ∀ k, k < W.heap.size → vk.ownBlock ≠ some k → w1.heap[k]? = W.heap[k]? := fun k hk hn => hg.block k hk (fun e => hn e.symm)
  have hhd : ∀ g, hd.blk = some g → g < W.heap.size ∧ g ≠ bK ∧ g ≠ bN ∧ vk.ownBlock ≠ some g := fun g q => ⟨hok.blk_lt q, fun e => hnew g q (.inl e), fun e => hnew g q (.inr (.inl e)), fun e => hnew g q (.inr (.inr (.inl e)))⟩
  have hold : ∀ x ∈ H, ∀ g, x.blk = some g → g < W.heap.size := fun x hx g q => (h.ok x hx).blk_lt q
  have kp : ∀ g, g < W.heap.size → g ≠ bK → vk.ownBlock ≠ some g → (w1.setCell ⟨bK, 0, none⟩ v1).heap[g]? = W.heap[g]? := fun g h1 h2 h3 => (hf g h2).trans (hgb g h1 h3)
  have hsz : W.heap.size ≤ (w1.setCell ⟨bK, 0, none⟩ v1).heap.size := by rw [World.size_setCell]; exact hg.size
  have hl : ∀ i, i < H.length → hdD (H ++ [hd]) i = hdD H i := fun i hi => by unfold hdD; rw [List.getD_eq_getElem?_getD, List.getElem?_append_left hi, ← List.getD_eq_getElem?_getD]
  have hlast : hdD (H ++ [hd]) H.length = hd := by unfold hdD; rw [List.getD_eq_getElem?_getD, List.getElem?_append_right (Nat.le_refl _)]; simp
  have hmem : ∀ i, i < H.length → hdD H i ∈ H := fun i hi => by unfold hdD; exact getD_mem _ _ _ hi
  refine ⟨⟨?_, ?_, ?_, fun x hx => ?_, fun x hx => ?_, fun i j g hi hj hne hb => ?_, fun x hx g q => ?_, v1K _ ltK h.nK, v1K _ ltN h.nN, h.ne⟩, ?_, fun k q => ?_⟩
  · rw [blk_put ((hgb _ ltK h.nK).trans h.hK)]; rfl
  · exact (kp _ ltN (fun e => h.ne e.symm) h.nN).trans h.hN
  · exact Kd.R_mono (Kd.R_far (KH_tight ho) (p := ⟨bK, 0, none⟩) (fun k hk e => v1K _ ltK h.nK (by rw [← (show k = bK from e)]; exact hk)) _) (fun _ _ => trivial)
  · rcases List.mem_append.1 hx with hx | hx
    · exact (h.ok x hx).keep hsz (fun g q => kp g (hold x hx g q) (h.out x hx g q).1 (h.out x hx g q).2.2)
    · obtain rfl := List.mem_singleton.1 hx
      exact hok.keep hsz (fun g q => kp g (hhd g q).1 (hhd g q).2.1 (hhd g q).2.2.2)
  · rcases List.mem_append.1 hx with hx | hx
    · exact h.sh x hx
    · obtain rfl := List.mem_singleton.1 hx
      exact hsh
  · simp only [List.length_append, List.length_cons, List.length_nil] at hi hj
    by_cases hi2 : i < H.length
    · rw [hl i hi2] at hb
      by_cases hj2 : j < H.length
      · rw [hl j hj2]
        exact h.dis i j g hi2 hj2 hne hb
      · obtain rfl : j = H.length := by omega
        rw [hlast]
        exact fun e => hnew g e (.inr (.inr (.inr ⟨_, hmem i hi2, hb⟩)))
    · obtain rfl : i = H.length := by omega
      rw [hlast] at hb
      rw [hl j (by omega)]
      exact fun e => hnew g hb (.inr (.inr (.inr ⟨_, hmem j (by omega), e⟩)))
  · rcases List.mem_append.1 hx with hx | hx
    · obtain ⟨a1, a2, a3⟩ := h.out x hx g q
      exact ⟨a1, a2, v1K g (hold x hx g q) a3⟩
    · obtain rfl := List.mem_singleton.1 hx
      obtain ⟨a0, a1, a2, a3⟩ := hhd g q
      exact ⟨a1, a2, v1K g a0 a3⟩
  · exact (Chg.of_grown hg).mono (fun k _ q => .inr (.inr (.inl q))) |>.trans ((Chg.set w1 ⟨bK, 0, none⟩ v1).mono (fun k _ q => .inl q))
  · rcases q with q | q | q | ⟨x, hx, q⟩
    · exact .inl (.inl q)
    · exact .inl (.inr (.inl q))
    · rcases hat with e2 | ⟨b, e2, hb⟩
      · exact .inl (.inr (.inr (.inl (e2.symm.trans q))))
      · rw [e2] at q; injection q with q; exact .inr (.inr (by omega))
    · rcases List.mem_append.1 hx with hx | hx
      · exact .inl (.inr (.inr (.inr ⟨x, hx, q⟩)))
      · obtain rfl := List.mem_singleton.1 hx
        exact .inr (.inl q)
end
theorem own2_calls {bK bN : Nat} {n : Int} {vk : Value} {H : List Hd} (p x : Int) (W : World) (h : OwnAt bK bN n W vk H) :
    Calls Tryd.prog 16 (#[.int .i64 p, .int .i64 x] ++ #[.pointer (some ⟨bN, 0, none⟩)]) W fun e W' => e = .returned (.int .i64 (wrap64 (n + 1))) ∧ OwnAt bK bN (wrap64 (n + 1)) W' vk H ∧ Chg (OwnSet bK bN vk H) W W' := by
  show Calls Tryd.prog 16 #[.int .i64 p, .int .i64 x, .pointer (some ⟨bN, 0, none⟩)] W _
  have hc : W.cell? ⟨bN, 0, none⟩ = some (.int .i64 n) := by simp [World.cell?, h.hN]
  have hz : W.frozen? ⟨bN, 0, none⟩ = false := by simp [World.frozen?, h.hN]
  have HC := Lib.hid (h.count (wrap64 (n + 1)))
  have hc2 : (W.setCell ⟨bN, 0, none⟩ (.int .i64 (wrap64 (n + 1)))).cell? ⟨bN, 0, none⟩ = some (.int .i64 (wrap64 (n + 1))) := by simp [World.cell?, HC.out.1.hN]
  clear h
  go_enter Tryd.func16, Tryd.ntmps16
  go_wp2
  go_ret
  exact ⟨rfl, HC.out.1, HC.out.2⟩
set_option maxHeartbeats 1000000 in
theorem own3_calls {bK bN : Nat} {n : Int} {vk : Value} {H : List Hd} (j : Int) (hd : Hd) (W : World) (h : OwnAt bK bN n W vk H) (hok : HdOk W hd) (hsh : hd.n ≤ 32) (hnew : ∀ g, hd.blk = some g → ¬ OwnSet bK bN vk H g) (hl : H.length ≤ 200000) :
    Calls Tryd.prog 17 (#[.int .i64 j, .slice hd.ad hd.n hd.c] ++ #[.pointer (some ⟨bK, 0, none⟩), .pointer (some ⟨bN, 0, none⟩)]) W fun e W' => e = .returned (.int .i64 (wrap64 (n + 1))) ∧ ∃ v1, OwnAt bK bN (wrap64 (n + 1)) W' v1 (H ++ [hd]) ∧ Chg (OwnSet bK bN vk H) W W' ∧ ∀ k, OwnSet bK bN v1 (H ++ [hd]) k → OwnSet bK bN vk H k ∨ hd.blk = some k ∨ W.heap.size ≤ k := by
  show Calls Tryd.prog 17 #[.int .i64 j, .slice hd.ad hd.n hd.c, .pointer (some ⟨bK, 0, none⟩), .pointer (some ⟨bN, 0, none⟩)] W _
  have ltK : bK < W.heap.size := h.low (.inl rfl)
  have hc : W.cell? ⟨bK, 0, none⟩ = some vk := by simp [World.cell?, h.hK]
  obtain ⟨Ak, ck, ek⟩ := Kd.R_slice h.row
  obtain ⟨nk, hnk⟩ : ∃ m, H.length = m := ⟨_, rfl⟩
  rw [hnk] at ek
  subst ek
  have HH := Lib.hid h
  have HOK := Lib.hid hok
  have HNw := Lib.hid hnew
  have HL : Hid ((H.length + 1) * 24 ≤ 140737488355328) := Lib.hid (by omega)
  clear h hok hnew hnk hl
  go_enter Tryd.func17, Tryd.ntmps17
  go_upto_region 2 with ((with_reducible refine gate_builtin (b := .append) (xs := #[.tmp 7, .tmp 9]) rfl ?_); at_builtin; go_loud (refine Kd.R_append KH (w0 := W) 0 rfl (.tmp 7) (.tmp 9) 37 30 (.slice none 0 0) 24 rfl Tryd.underlying37 infoIntss rfl (by decide) (by omega) (.slice Ak nk ck) H hd [.slice hd.ad hd.n hd.c] (fun _ => True) (fun _ => False) rfl rfl rfl (fun _ hk => hk.elim) (fun _ _ => trivial) HH.out.row ((Below.refl W.heap.size W).mono (Nat.zero_le _)) (Nat.zero_le _) HL.out ?_); intro v10 w10 ho hb hg hat; (have HA := Lib.hid ho; have HG := Lib.hid hg; have HT := Lib.hid hat; have hq : w10.cell? ⟨bK, 0, none⟩ = some (.slice Ak nk ck) := (by have e := (hg.block bK ltK (fun e => HH.out.nK e.symm)).trans HH.out.hK; simp [World.cell?, e]); have hz : w10.frozen? ⟨bK, 0, none⟩ = false := (by have e := (hg.block bK ltK (fun e => HH.out.nK e.symm)).trans HH.out.hK; simp [World.frozen?, e]); clear ho hb hg hat; obtain ⟨A5, c5, e5⟩ := Kd.R_slice HA.out; obtain ⟨n5, hn5⟩ : ∃ m, (H ++ [hd]).length = m := ⟨_, rfl⟩; rw [hn5] at e5; subst e5; clear hn5))
  have HK := Lib.hid (HH.out.keepOne HA.out HG.out HT.out HOK.out hsh HNw.out)
  obtain ⟨w11, hw11⟩ : ∃ w11, w10.setCell ⟨bK, 0, none⟩ (.slice A5 n5 c5) = w11 := ⟨_, rfl⟩
  rw [hw11] at HK ⊢
  clear hw11 hq hz
  have HC := Lib.hid (HK.out.1.count (wrap64 (n + 1)))
  have k1 : w11.cell? ⟨bN, 0, none⟩ = some (.int .i64 n) := by simp [World.cell?, HK.out.1.hN]
  have k2 : w11.frozen? ⟨bN, 0, none⟩ = false := by simp [World.frozen?, HK.out.1.hN]
  have k3 : (w11.setCell ⟨bN, 0, none⟩ (.int .i64 (wrap64 (n + 1)))).cell? ⟨bN, 0, none⟩ = some (.int .i64 (wrap64 (n + 1))) := by simp [World.cell?, HC.out.1.hN]
  go_wp2
  go_ret
  have hlow := fun k (q : OwnSet bK bN (.slice Ak nk ck) H k) => HH.out.low q
  refine ⟨rfl, _, HC.out.1, HK.out.2.1.next ((Chg.set w11 ⟨bN, 0, none⟩ _)) (fun k hk q => .inr (.inl q)), HK.out.2.2⟩
theorem R_hd2 {w : World} {e base : Nat} {v : Value} {xs : List Int} (h : (Kd.int .i64).R e w base (fun _ => True) v xs) : ∃ hd : Hd, v = .slice hd.ad hd.n hd.c ∧ hd.n = xs.length ∧ HdOk w hd ∧ ∀ g, hd.blk = some g → v.ownBlock = some g := by
  have ho := Kd.own_of_R (enc := Value.int .i64) (h1 := fun _ => rfl) h
  obtain ⟨h1, h2⟩ := ho
  rcases h2 with ⟨rfl, h0⟩ | ⟨g, cap, cur, rfl, hb, hg, hn', hc, hs, ht⟩
  · exact ⟨hd0, rfl, h0.symm, .inl ⟨rfl, rfl, rfl⟩, fun g hg => by cases hg⟩
  · have hlt := (Array.getElem?_eq_some_iff.1 hg).1
    refine ⟨⟨some ⟨g, 0, none⟩, xs.length, cap⟩, rfl, rfl, .inr ⟨g, 0, rfl, hn', hc, hlt, fun j hj => ?_, fun j => ?_⟩, fun g' hg' => ?_⟩
    · have hj' : j < cap := hj
      rw [Nat.zero_add, cell_of_row w g j cur e (0, 0) hg, Array.getElem?_eq_getElem (by omega)]; rfl
    · simp [World.frozen?, hg]
    · have : g = g' := by simpa [Hd.blk] using hg'
      subst this
      simp [Value.ownBlock]
/-- FoldOwn's fold. -/
def ownLf (s : Int × Nat) (_ _ : Int) : (Int × Nat) × Int := ((wrap64 (s.1 + 1), s.2), wrap64 (s.1 + 1))
def ownNf (s : Int × Nat) (_ : Int) (_ : List Int) : (Int × Nat) × Int := ((wrap64 (s.1 + 1), s.2 + 1), wrap64 (s.1 + 1))
theorem own_foldIn {bK bN : Nat} {wB w0 : World} {g : Gr} {AR tA : Option Addr} {t : List (Int × Int × Int)} (ht : KStep.C wB tA t.length t) (hr : KRule.C wB AR g.rules.length g.rules) (ho : wB.heap.size ≤ w0.heap.size) (hm : MayIs g t.length) :
    FoldIn Tryd.prog 16 17 (fun a b => #[a, b] ++ #[.pointer (some ⟨bN, 0, none⟩)]) (fun a b => #[a, b] ++ #[.pointer (some ⟨bK, 0, none⟩), .pointer (some ⟨bN, 0, none⟩)]) (Value.int .i64) (Kd.int .i64) 3 Prod.snd ownLf ownNf (OwnCl bK bN) wB w0 g AR t tA where
  tree := ht
  rules := hr
  ord := ho
  stay := fun s W own W' ⟨vk, H, h1, h2, h3⟩ hs hk => ⟨vk, H, h1, h2.stay hs (fun k h4 q => hk k h4 (.inl (by rw [h3]; exact q))), h3⟩
  low := fun s W own k ⟨vk, H, h1, h2, h3⟩ q => h2.low (by rw [h3] at q; exact q)
  leaf := fun s W own p x ⟨vk, H, h1, h2, h3⟩ _ _ _ _ => (own2_calls p x W h2).mono (by
    rintro e W' ⟨rfl, h4, h5⟩
    exact ⟨rfl, own, ⟨vk, H, h1, h4, h3⟩, by rw [h3]; exact h5, fun k q => .inl q⟩)
  cntL := fun _ _ _ => Nat.le_refl _
  cntN := fun _ _ _ => Nat.le_refl _
  node := fun s W own j ks v ⟨vk, H, h1, h2, h3⟩ hc hj hl _ _ hR => by
    obtain ⟨hd, rfl, hn, hok, hvb⟩ := R_hd2 (Kd.R_mono hR (fun _ _ => trivial))
    have hsh : hd.n ≤ 32 := by
      rw [hn, hl]
      unfold ruleD
      rw [Int.toNat_natCast]
      exact ruleN_len (hm.right.ruleN _ (getD_mem _ _ _ hj))
    have hnew : ∀ g, hd.blk = some g → ¬ OwnSet bK bN vk H g := fun g q q2 => by
      have := hR.1 g (hvb g q)
      rw [h3] at this
      exact this q2
    refine (own3_calls (j : Int) hd W h2 hok hsh hnew (by have := hm.len; omega)).mono ?_
    rintro e W' ⟨rfl, v1, h4, h5, h6⟩
    exact ⟨rfl, OwnSet bK bN v1 (H ++ [hd]), ⟨v1, H ++ [hd], by simp [h1, ownNf], h4, rfl⟩, h5.mono (fun k _ q => .inl (by rw [h3]; exact q)), fun k q => (h6 k q).imp (fun q => by rw [h3]; exact q) (fun q => q.imp (hvb k) id)⟩
  len := by have := hm.len; omega
  few := hm.right.rules
  short := fun r hr => ruleN_len (hm.right.ruleN r hr)
  syms := fun r hr => sym_bound (hm.right.ruleN r hr) hm.right.size
end Go.Proofs.YtapgglmdnggopaaDoor.Hand
/- The walk of the law file's known (dovetaillaw28). -/
namespace Go.Proofs.YtapgglmdnggopaaDoor.Hand
open Go.RowKit Go.Proofs.YtapgglmdnggopaaDoorW.PrintWords Go.Proofs.YtapgglmdnggopaaDoorW.PrintMore Go.Proofs.YtapgglmdnggopaaDoorW.PrintLast Go.Proofs.YtapgglmdnggopaaDoor.Math

theorem gram_rules {w : World} {a1 a2 a3 : Option Addr} {n1 n2 n3 c1 c2 c3 : Nat} {x : Int} {g : Gr} (h : GramAt w (.agg #[.slice a1 n1 c1, .slice a2 n2 c2, .int .i64 x, .slice a3 n3 c3]) g) : KRule.C w a3 g.rules.length g.rules := by
  obtain ⟨_, _, _, _, _, _, e, _, _, _, _, _, q⟩ := h
  injection e with e
  simp only [Array.mk.injEq, List.cons.injEq, Value.slice.injEq] at e
  rw [e.2.2.2.1.1]
  exact q
theorem known1_calls (p x : Int) (W : World) : Calls Tryd.prog 50 (#[.int .i64 p, .int .i64 x] ++ #[]) W fun e W' => e = .returned (.int .i64 1) ∧ Below W.heap.size W W' := by
  show Calls Tryd.prog 50 #[.int .i64 p, .int .i64 x] W _
  go_enter Tryd.func50, Tryd.ntmps50
  go_wp2
  go_ret
  exact ⟨rfl, Below.refl _ _⟩
theorem sum64_snoc : ∀ (l : List Int) (a x : Int), sum64 (l ++ [x]) a = wrap64 (sum64 l a + x)
  | [], _, _ => rfl
  | y :: r, a, x => by rw [List.cons_append, sum64, sum64, sum64_snoc r]
theorem known2_calls (j : Int) (A : Option Addr) (c : Nat) (ks : List Int) (W : World) (h : (Kd.int .i64).C W A ks.length ks) : Calls Tryd.prog 51 (#[.int .i64 j, .slice A ks.length c] ++ #[]) W fun e W' => e = .returned (.int .i64 (sum64 ks 0)) ∧ Below W.heap.size W W' := by
  show Calls Tryd.prog 51 #[.int .i64 j, .slice A ks.length c] W _
  have H := Lib.hid h
  have hl := h.2.1
  clear h
  go_enter Tryd.func51, Tryd.ntmps51
  go_wp2
  go_loopw [5, 6] (fun a k wr => ∃ (i : Nat) (a' : Int), i ≤ ks.length ∧ k = .int .i64 (i : Int) ∧ a = .int .i64 a' ∧ W = wr ∧ Hid (sum64 (ks.take i) 0 = a')) (fun _ k _ => ks.length - (intOf k).toNat)
  case atStart => exact ⟨0, 0, by omega, rfl, rfl, rfl, Lib.hid rfl⟩
  case round =>
    obtain ⟨i, a', hi, rfl, rfl, rfl, HT⟩ := hrel
    by_cases hlt : i < ks.length
    · obtain ⟨ad, y, rfl, hc, HY⟩ := at_scalar H.out i hlt 0
      go_wp2
      go_roundw
      case rel => exact ⟨i + 1, wrap64 (a' + y), by omega, by go_num, by first | rfl | trivial, by first | rfl | trivial, Lib.hid (by rw [take_snocD ks i 0 hlt, HY.out, sum64_snoc, HT.out])⟩
      case measure => simp [intOf]; omega
    · have HF : Hid (sum64 ks 0 = a') := Lib.hid (by rw [← HT.out, List.take_of_length_le (by omega)])
      go_wp2
      go_ret
      exact ⟨by rw [HF.out]; rfl, Below.refl _ _⟩
theorem known_foldIn {wB w0 : World} {g : Gr} {AR tA : Option Addr} {t : List (Int × Int × Int)} (ht : KStep.C wB tA t.length t) (hr : KRule.C wB AR g.rules.length g.rules) (ho : wB.heap.size ≤ w0.heap.size) (hm : MayIs g t.length) :
    FoldIn Tryd.prog 50 51 (fun a b => #[a, b] ++ #[]) (fun a b => #[a, b] ++ #[]) (Value.int .i64) (Kd.int .i64) 3 (fun _ => 0) (fun (s : Unit) _ _ => (s, (1 : Int))) (fun s _ ks => (s, sum64 ks 0)) (fun _ _ own => ∀ k, ¬ own k) wB w0 g AR t tA where
  tree := ht
  rules := hr
  ord := ho
  stay := fun _ _ _ _ h _ _ => h
  low := fun _ _ _ k h q => absurd q (h k)
  leaf := fun s W own p x h _ _ _ _ => (known1_calls p x W).mono (by
    rintro e W' ⟨rfl, hb⟩
    exact ⟨rfl, own, h, Chg.of_below _ hb, fun k q => .inl q⟩)
  node := fun s W own j ks v h _ _ _ _ _ hR => by
    obtain ⟨A, c, rfl⟩ := Kd.R_slice hR
    refine (known2_calls (j : Int) A c ks W (Kd.R_reads' hR).2.2).mono ?_
    rintro e W' ⟨rfl, hb⟩
    exact ⟨rfl, own, h, Chg.of_below _ hb, fun k q => .inl q⟩
  cntL := fun _ _ _ => Nat.le_refl _
  cntN := fun _ _ _ => Nat.zero_le _
  len := by have := hm.len; omega
  few := hm.right.rules
  short := fun r hr => ruleN_len (hm.right.ruleN r hr)
  syms := fun r hr => sym_bound (hm.right.ruleN r hr) hm.right.size
set_option maxHeartbeats 1000000 in
set_option maxRecDepth 20000 in
theorem lawKnown_calls (w : World) (A : Nat → Addr) (hE : Errs w A) :
    Calls Tryd.prog 9 #[] w fun e w' => e = .returned (.bool true) ∧ Below w.heap.size w w' := by
  have HE := Lib.hid hE
  clear hE
  have HF1 : Hid (∀ (ars : Array Value) (W : World), (callFunc 50 ars).run Tryd.prog W = .ok (.enter 50 ars) W) := Lib.hid (fun ars W => enters_ Tryd.func50 (by kernel_rfl) rfl ars W)
  have HF2 : Hid (∀ (ars : Array Value) (W : World), (callFunc 51 ars).run Tryd.prog W = .ok (.enter 51 ars) W) := Lib.hid (fun ars W => enters_ Tryd.func51 (by kernel_rfl) rfl ars W)
  go_enter Tryd.func9, Tryd.ntmps9
  go_upto_region 3 with (fail)
  generalize hw1 : World.alloc _ _ = w1
  have hB1 : Below w.heap.size w w1 := by rw [← hw1]; exact allocs_below w [_, _, _, _, _, _, _, _]
  have b0 : w1.heap[w.heap.size + 0]? = some (.cells #[.string ⟨#[43]⟩, .string ⟨#[105]⟩] 9 (0, 0)) := by rw [← hw1]; exact allocs_get w [_, _, _, _, _, _, _, _] 0 rfl
  have b1 : w1.heap[w.heap.size + 1]? = some (.cells #[.string ⟨#[69]⟩, .string ⟨#[84]⟩] 9 (0, 0)) := by rw [← hw1]; exact allocs_get w [_, _, _, _, _, _, _, _] 1 rfl
  have b2 : w1.heap[w.heap.size + 2]? = some (.cells #[.int .i64 (-1), .int .i64 0, .int .i64 (-2)] 3 (0, 0)) := by rw [← hw1]; exact allocs_get w [_, _, _, _, _, _, _, _] 2 rfl
  have b3 : w1.heap[w.heap.size + 3]? = some (.cells #[.int .i64 (-2)] 3 (0, 0)) := by rw [← hw1]; exact allocs_get w [_, _, _, _, _, _, _, _] 3 rfl
  have b4 : w1.heap[w.heap.size + 4]? = some (.cells #[.int .i64 1] 3 (0, 0)) := by rw [← hw1]; exact allocs_get w [_, _, _, _, _, _, _, _] 4 rfl
  have b5 : w1.heap[w.heap.size + 5]? = some (.cells #[.int .i64 0, .slice (some ⟨w.heap.size + 2, 0, none⟩) 3 3, .int .i64 0, .slice (some ⟨w.heap.size + 3, 0, none⟩) 1 1, .int .i64 1, .slice (some ⟨w.heap.size + 4, 0, none⟩) 1 1] 59 (0, 0)) := by rw [← hw1]; exact allocs_get w [_, _, _, _, _, _, _, _] 5 rfl
  have b6 : w1.heap[w.heap.size + 6]? = some (.cells #[.slice (some ⟨w.heap.size, 0, none⟩) 2 2, .slice (some ⟨w.heap.size + 1, 0, none⟩) 2 2, .int .i64 0, .slice (some ⟨w.heap.size + 5, 0, none⟩) 3 3] 25 (0, 0)) := by rw [← hw1]; exact allocs_get w [_, _, _, _, _, _, _, _] 6 rfl
  have b7 : w1.heap[w.heap.size + 7]? = some (.cells #[.int .i64 0, .int .i64 0, .int .i64 3, .int .i64 1, .int .i64 0, .int .i64 1, .int .i64 2, .int .i64 0, .int .i64 1, .int .i64 2, .int .i64 2, .int .i64 3] 50 (0, 0)) := by rw [← hw1]; exact allocs_get w [_, _, _, _, _, _, _, _] 7 rfl
  have HG : Hid (GramAt w1 (.agg #[.slice (some ⟨w.heap.size, 0, none⟩) 2 2, .slice (some ⟨w.heap.size + 1, 0, none⟩) 2 2, .int .i64 0, .slice (some ⟨w.heap.size + 1 + 1 + 1 + 1 + 1, 0, none⟩) 3 3]) knG) := Lib.hid (by
    have d2 : Kd.C (Kd.int .i64) w1 (some ⟨w.heap.size + 2, 0, none⟩) 3 [-1, 0, -2] := blk_C (enc := Value.int .i64) (fun _ => rfl) b2 (by decide)
    have d3 : Kd.C (Kd.int .i64) w1 (some ⟨w.heap.size + 3, 0, none⟩) 1 [-2] := blk_C (enc := Value.int .i64) (fun _ => rfl) b3 (by decide)
    have d4 : Kd.C (Kd.int .i64) w1 (some ⟨w.heap.size + 4, 0, none⟩) 1 [1] := blk_C (enc := Value.int .i64) (fun _ => rfl) b4 (by decide)
    refine ⟨_, 2, _, 2, _, 3, rfl, by decide, by decide, by decide, blk_C (enc := Value.string) (fun _ => rfl) b0 (by decide), blk_C (enc := Value.string) (fun _ => rfl) b1 (by decide), ?_⟩
    refine blk_rules (l := knG.rules) (by decide) (fun j r hj => ?_)
    match j, hj with
    | 0, hj => obtain rfl : (0, [-1, 0, -2]) = r := Option.some.inj hj; exact ⟨blk_cell b5 0 rfl rfl, _, blk_cell b5 1 rfl rfl, d2⟩
    | 1, hj => obtain rfl : (0, [-2]) = r := Option.some.inj hj; exact ⟨blk_cell b5 2 rfl rfl, _, blk_cell b5 3 rfl rfl, d3⟩
    | 2, hj => obtain rfl : (1, [1]) = r := Option.some.inj hj; exact ⟨blk_cell b5 4 rfl rfl, _, blk_cell b5 5 rfl rfl, d4⟩
    | j + 3, hj => simp [knG] at hj)
  have HT : Hid (KStep.C w1 (some ⟨w.heap.size + 1 + 1 + 1 + 1 + 1 + 1 + 1, 0, none⟩) 4 knT) := Lib.hid (blk_steps (l := knT) (by decide) (fun j r hj => by
    match j, hj with
    | 0, hj => obtain rfl : (0, 0, 3) = r := Option.some.inj hj; exact ⟨blk_cell b7 0 rfl rfl, blk_cell b7 1 rfl rfl, blk_cell b7 2 rfl rfl⟩
    | 1, hj => obtain rfl : (1, 0, 1) = r := Option.some.inj hj; exact ⟨blk_cell b7 3 rfl rfl, blk_cell b7 4 rfl rfl, blk_cell b7 5 rfl rfl⟩
    | 2, hj => obtain rfl : (2, 0, 1) = r := Option.some.inj hj; exact ⟨blk_cell b7 6 rfl rfl, blk_cell b7 7 rfl rfl, blk_cell b7 8 rfl rfl⟩
    | 3, hj => obtain rfl : (2, 2, 3) = r := Option.some.inj hj; exact ⟨blk_cell b7 9 rfl rfl, blk_cell b7 10 rfl rfl, blk_cell b7 11 rfl rfl⟩
    | j + 4, hj => simp [knT] at hj))
  have HB1 := Lib.hid hB1
  have HK : Hid (w1.heap[w.heap.size + 1 + 1 + 1 + 1 + 1 + 1]? = some (.cells #[.slice (some ⟨w.heap.size, 0, none⟩) 2 2, .slice (some ⟨w.heap.size + 1, 0, none⟩) 2 2, .int .i64 0, .slice (some ⟨w.heap.size + 1 + 1 + 1 + 1 + 1, 0, none⟩) 3 3] 25 (0, 0))) := Lib.hid b6
  have HE1 := Lib.hid (HE.out.below hB1)
  clear b0 b1 b2 b3 b4 b5 b6 b7 hw1 hB1
  obtain ⟨b5, h5⟩ : ∃ b, w.heap.size + 1 + 1 + 1 + 1 + 1 = b := ⟨_, rfl⟩
  rw [h5] at HG HT HK ⊢
  clear h5
  obtain ⟨c0, c1, c2, c3⟩ := gr_blk HK.out
  have HFo : Hid (Calls Tryd.prog 15 #[.agg #[.slice (some ⟨w.heap.size, 0, none⟩) 2 2, .slice (some ⟨w.heap.size + 1, 0, none⟩) 2 2, .int .i64 0, .slice (some ⟨b5, 0, none⟩) 3 3], .slice (some ⟨b5 + 1 + 1, 0, none⟩) 4 4, .func (.func 50) #[] #[], .func (.func 51) #[] #[]] w1 fun e w' => e = .returned (.tuple #[.int .i64 3, .nilIface]) ∧ Below w1.heap.size w1 w') := Lib.hid ((foldInt_calls (wB := w1) (w := w1) (g := knG) (t := knT) (tc := 4) (s := ()) (own := fun _ => False) A HF1 HF2 (Lib.hid (fun hk => known_foldIn HT.out (gram_rules HG.out) (Nat.le_refl _) (knownE_yes hk).1)) HE1.out HG.out HT.out (by decide) (Below.refl _ _) (fun _ h => h) (Lib.hid rfl) (fun _ h => h.elim)).mono (by
    rintro e w' (⟨h, -⟩ | ⟨-, p', s', v, own', hw, rfl, -, hc, -⟩)
    · rw [kn_known] at h; exact absurd rfl h
    · have e1 := hw.symm.trans kn_fold
      simp only [Option.some.injEq, Prod.mk.injEq, List.cons.injEq, and_true] at e1
      rw [e1.2.2]
      exact ⟨rfl, hc.below (Nat.le_refl _) (fun _ _ h => h)⟩))
  have HPa : Hid (∀ W, Below w1.heap.size w1 W → Calls Tryd.prog 12 #[.agg #[.slice (some ⟨w.heap.size, 0, none⟩) 2 2, .slice (some ⟨w.heap.size + 1, 0, none⟩) 2 2, .int .i64 0, .slice (some ⟨b5, 0, none⟩) 3 3], .slice (some ⟨b5 + 1 + 1, 0, none⟩) 4 4] W fun e w' => ∃ B c, e = .returned (.tuple #[.slice B 4 c, .nilIface]) ∧ (Kd.int .i64).C w' B 4 [-1, 0, 1, 0] ∧ Below w1.heap.size w1 w') := Lib.hid (fun W hW => (parents_calls _ knG (some ⟨b5 + 1 + 1, 0, none⟩) 4 knT W A (HE1.out.below hW) (HG.out.below hW) (Kd.C_below HT.out hW) (by decide)).mono (by
    rintro e w' ⟨v, u, rfl, hr, hu, hb⟩
    rw [kn_known] at hu
    obtain ⟨-, rfl⟩ := hu.nil_iff.resolve_right (fun h => absurd h.1 (by decide))
    rw [kn_kin] at hr
    obtain ⟨B, c, rfl⟩ := Kd.R_slice hr
    exact ⟨B, c, rfl, (Kd.R_reads' hr).2.2, below_next hW hb⟩))
  have HPn : Hid (∀ W, Below w1.heap.size w1 W → Calls Tryd.prog 12 #[.agg #[.slice (some ⟨w.heap.size, 0, none⟩) 2 2, .slice (some ⟨w.heap.size + 1, 0, none⟩) 2 2, .int .i64 0, .slice (some ⟨b5, 0, none⟩) 3 3], .slice none 0 0] W fun e w' => ∃ v t x, e = .returned (.tuple #[v, .iface t x]) ∧ ErrV w' A (.iface t x) 11 (-1) ∧ Below w1.heap.size w1 w' ∧ Below W.heap.size W w') := Lib.hid (fun W hW => (parents_calls _ knG none 0 [] W A (HE1.out.below hW) (HG.out.below hW) ⟨rfl, by decide, fun h => absurd h (by simp)⟩ (by decide)).mono (by
    rintro e w' ⟨v, u, rfl, -, hu, hb⟩
    rw [kn_nil] at hu
    rcases hu.nil_iff with ⟨h, _⟩ | ⟨_, t1, x, rfl⟩
    · cases h
    · exact ⟨v, t1, x, rfl, hu, below_next hW hb, hb⟩))
  go_upto_region 6 with (first
    | (go_at_call 15; refine HFo.out.mono ?_; rintro e w2 ⟨rfl, hb2⟩; have HB2 := Lib.hid hb2; obtain ⟨d0, d1, d2, d3⟩ := gr_blk (blk_below HK.out hb2); clear hb2 c0 c1 c2 c3)
    | (go_at_call 12; (with_reducible refine (HPa.out w2 HB2.out).mono ?_); rintro e w3 ⟨B, c, rfl, hC, hb3⟩; have HB3 := Lib.hid hb3; have HC3 := Lib.hid hC; obtain ⟨c0, c1, c2, c3⟩ := gr_blk (blk_below HK.out hb3); clear hb3 hC d0 d1 d2 d3)
    | (go_at_call 12; (with_reducible refine (HPn.out w3 HB3.out).mono ?_); rintro e w4 ⟨v4, t4, x4, rfl, hu, hb4, hb34⟩; have HU := Lib.hid hu; have HB34 := Lib.hid hb34; have HB4 := Lib.hid hb4; clear hu hb4 hb34))
  go_wp2_with (first
    | (go_at_call 25; refine (ints_calls B (some ⟨w4.heap.size, 0, none⟩) c 4 [-1, 0, 1, 0] [-1, 0, 1, 0] _ (Kd.C_below (Kd.C_below HC3.out HB34.out) (below_alloc (Below.refl _ _) _)) (blk_C (enc := Value.int .i64) (xs := [-1, 0, 1, 0]) (fun _ => rfl) (heap_alloc_new w4 _) (by decide))).mono ?_; rw [decide_eq_true (show ([-1, 0, 1, 0] : List Int) = [-1, 0, 1, 0] from rfl)]; rintro e w5 ⟨rfl, n5, hw5⟩; have HB5 : Hid (Below w1.heap.size w1 w5) := Lib.hid (by rw [hw5]; exact pw_below_drewN (below_alloc HB4.out _) n5); have HU5 := Lib.hid (HU.out.below (show Below w4.heap.size w4 w5 by rw [hw5]; exact pw_below_drewN (below_alloc (Below.refl _ _) _) n5)); clear hw5)
    | (go_at_call 27; refine (kind_calls (HE1.out.below HB5.out) HU5.out).mono ?_; rintro e w6 ⟨rfl, hb6⟩; have HB6 := Lib.hid (below_next HB5.out hb6); clear hb6))
  go_ret
  exact ⟨rfl, below_next HB1.out HB6.out⟩
end Go.Proofs.YtapgglmdnggopaaDoor.Hand
/- Arguments of whatever kind, opened: the reading of memory gives the plain datum that it spells. -/
namespace Go.Proofs.YtapgglmdnggopaaDoor.Hand
open Go.ChangeShapes Go.WideShapes Go.ChangeAt
open Go.RowKit Go.Proofs.YtapgglmdnggopaaDoorW.PrintWords Go.Proofs.YtapgglmdnggopaaDoorW.PrintMore Go.Proofs.YtapgglmdnggopaaDoor.Math

/-- Whatever reads by this type spells a datum of this kind. -/
def Opens {α : Type} (t : TypeId) (d : Kd α) (good : α → Prop) : Prop :=
  ∀ (H : Type) (enc : TypeId × Value → H) (W : World) (base : Nat) (spare : Nat → Bool) (held : Bool) (fuel : Nat) (cs : List Value) (x : DataW H × List MemPlace), DataW.trod enc Tryd.prog W base spare held fuel t cs = some x →
    (∀ n ∈ x.1.weights Tryd.prog t, n ≤ reachBytes) → ∃ a, d.K W a cs ∧ good a
theorem Opens.int {t : TypeId} {k : IntKind} (ht : Tryd.prog.underlying t = some (.int k)) : Opens t (Kd.int k) (fun a => (Lit.int k a).wf = true) := by
  intro H enc W base spare held fuel cs x h _
  obtain ⟨n, rfl, _, hw⟩ := DataW.trod_int ht h
  exact ⟨n, rfl, hw⟩
theorem Opens.string {t : TypeId} (ht : Tryd.prog.underlying t = some .string) : Opens t Kd.string (fun s => s.size ≤ 140737488351232) := by
  intro H enc W base spare held fuel cs x h hw
  obtain ⟨s, rfl, rfl, _⟩ := DataW.trod_string ht h
  refine ⟨s, rfl, ?_⟩
  have := hw s.data.toList.length (by simp [DataW.weights])
  simpa [reachBytes] using this
theorem weightsAll_mem {H : Type} {P : Program} {e : TypeId} {d : DataW H} {n : Nat} : ∀ {l : List (DataW H)}, d ∈ l → n ∈ d.weights P e → n ∈ DataW.weightsAll P e l
  | [], h, _ => by cases h
  | a :: r, h, hn => by
    simp only [DataW.weightsAll, List.mem_append]
    rcases List.mem_cons.1 h with rfl | h
    · exact .inl hn
    · exact .inr (weightsAll_mem h hn)
theorem Opens.slice {α : Type} {t e : TypeId} {B : Nat} {d : Kd α} {good : α → Prop} (ht : Tryd.prog.underlying t = some (.slice e)) (he : Opens e d good) (hc : Tryd.prog.cellsOf e = d.sz) (hB : Tryd.prog.bytesOf e = B) :
    Opens t (Kd.slice e d) (fun l => l.length * B ≤ 140737488351232 ∧ ∀ x ∈ l, good x) := by
  intro H enc W base spare held fuel cs x h hw
  rcases Deep.open_slice ht h with ⟨rfl, rfl⟩ | ⟨a, len, cap, m, n, D, Pl, rfl, hb, hl, hm, hmm, rfl, hx⟩
  · exact ⟨[], ⟨none, 0, rfl, Nat.le_refl _, Kd.C_nil d W⟩, by simp, fun x hx => absurd hx (List.not_mem_nil)⟩
  · have hlm : len ≤ m := by rw [hmm]; split <;> omega
    simp only [DataW.weights, ht] at hw
    have hw1 := hw _ (List.mem_cons_self ..)
    simp only [List.length_map, List.length_range] at hw1
    have hw2 : ∀ i, i < len → ∀ k ∈ (D i).weights Tryd.prog e, k ≤ reachBytes := fun i hi k hk =>
      hw k (List.mem_cons_of_mem _ (List.mem_append_left _ (weightsAll_mem (List.mem_map.2 ⟨i, List.mem_range.2 hi, rfl⟩) hk)))
    obtain ⟨l, hll, hp⟩ := list_of (n := len) (p := fun i p => good p ∧ ∃ cs', d.K W p cs' ∧ ∀ j u, cs'[j]? = some u → W.cell? (a.add (i * d.sz + j)) = some u) (fun i hi => by
      obtain ⟨cs', h1, h2⟩ := hx i (by omega)
      obtain ⟨p, hk, hg⟩ := he H enc W base spare held n cs' _ h2 (hw2 i hi)
      obtain ⟨_, hlen, hcell⟩ := World.cells?_some h1
      refine ⟨p, hg, cs', hk, fun j u hu => ?_⟩
      have hj : j < Tryd.prog.cellsOf e := by rw [← hlen]; exact (List.getElem?_eq_some_iff.1 hu).1
      have := hcell j hj
      rw [Deep.add_add, hu, hc] at this
      exact this)
    subst hll
    refine ⟨l, ⟨some a, cap, rfl, hl, rfl, ?_, fun _ => ⟨a, rfl, fun j p hj => ?_⟩⟩, ?_, fun x hx => ?_⟩
    · have : maxLen = 9223372036854775807 := by decide
      omega
    · obtain ⟨_, cs', hk, hcell⟩ := hp j p hj
      exact ⟨cs', d.K_len hk, hk, hcell⟩
    · rw [hB] at hw1
      have h3 : l.length * B ≤ (l.length + (m - l.length)) * B := Nat.mul_le_mul_right _ (by omega)
      have h4 : (reachBytes : Nat) = 140737488351232 := by decide
      omega
    · obtain ⟨i, hi⟩ := List.getElem?_of_mem hx
      exact (hp i x hi).1
theorem Opens.pair {α β : Type} {t : TypeId} {f0 f1 : Field} {a : Kd α} {b : Kd β} {ga : α → Prop} {gb : β → Prop} (ht : Tryd.prog.underlying t = some (.struct #[f0, f1])) (o0 : f0.offset = 0) (o1 : f1.offset = a.sz) (c0 : Tryd.prog.cellsOf f0.type = a.sz) (c1 : Tryd.prog.cellsOf f1.type = b.sz) (ct : Tryd.prog.cellsOf t = a.sz + b.sz)
    (h0 : Opens f0.type a ga) (h1 : Opens f1.type b gb) : Opens t (Kd.pair a b) (fun x => ga x.1 ∧ gb x.2) := by
  intro H enc W base spare held fuel cs x h hw
  obtain ⟨y0, y1, n, rfl, hl, k0, k1⟩ := trod_struct2 ht h
  simp only [DataW.weights, ht, List.map_cons, List.map_nil, DataW.weightsEach, List.append_nil] at hw
  rw [o0, c0, List.drop_zero] at k0
  rw [o1, c1] at k1
  obtain ⟨x0, q0, g0⟩ := h0 H enc W base spare held n _ _ k0 (fun n hn => hw n (List.mem_append_left _ hn))
  obtain ⟨x1, q1, g1⟩ := h1 H enc W base spare held n _ _ k1 (fun n hn => hw n (List.mem_append_right _ hn))
  refine ⟨(x0, x1), ⟨cs.take a.sz, (cs.drop a.sz).take b.sz, ?_, q0, q1⟩, g0, g1⟩
  rw [List.take_of_length_le (show (cs.drop a.sz).length ≤ b.sz by rw [List.length_drop, hl, ct]; omega), List.take_append_drop]
section
set_option maxRecDepth 20000
variable {H : Type} {enc : TypeId × Value → H} {W : World} {base : Nat} {r : Reach} {b0 : Nat} {spare : Nat → Bool} {held : Bool} {v : Value} {d : DataW H} {ps : List MemPlace} {ts : List TypeId} {ds : List (DataW H)} {j : Nat}

theorem openSlice {α : Type} {t e : TypeId} {B : Nat} {k : Kd α} {good : α → Prop} (hu : Tryd.prog.underlying t = some (.slice e)) (he : Opens e k good) (hc : Tryd.prog.cellsOf e = k.sz) (hB : Tryd.prog.bytesOf e = B)
    (hsz : (DataW.weightsEach Tryd.prog ts ds).all (· ≤ reachBytes) = true) (ht : ts[j]? = some t) (hd : ds[j]? = some d) (hv : Value.okWide Tryd.prog W r b0 t v) (h : DataW.Trod enc Tryd.prog W base spare held t v d ps) :
    ∃ (A : Option Addr) (c : Nat) (l : List α), v = .slice A l.length c ∧ k.C W A l.length l ∧ l.length * B ≤ 140737488351232 ∧ l.length ≤ c ∧ ∀ x ∈ l, good x := by
  obtain ⟨a, len, cap, rfl⟩ := okWide_slice hu hv
  obtain ⟨fuel, hf⟩ := h
  obtain ⟨l, ⟨A, c, hcs, hlc, hC⟩, hb, hg⟩ := (Opens.slice hu he hc hB) H enc W base spare held fuel _ _ hf (fun n hn => by
    have := List.all_eq_true.1 hsz n (DataW.weights_mem_each ht hd n hn)
    simpa using this)
  simp [Value.cells] at hcs
  obtain ⟨rfl, rfl, rfl⟩ := hcs
  exact ⟨_, _, l, rfl, hC, hb, hlc, hg⟩
theorem opens_i64 : Opens 3 (Kd.int .i64) (fun a => (Lit.int .i64 a).wf = true) := Opens.int Tryd.underlying3
theorem opens_ints : Opens 30 (Kd.slice 3 (Kd.int .i64)) (fun l => l.length * 8 ≤ 140737488351232 ∧ ∀ x ∈ l, (Lit.int .i64 x).wf = true) := Opens.slice Tryd.underlying30 opens_i64 (by kernel_rfl) (by kernel_rfl)
theorem openInts (hsz : (DataW.weightsEach Tryd.prog ts ds).all (· ≤ reachBytes) = true) (ht : ts[j]? = some 30) (hd : ds[j]? = some d) (hv : Value.okWide Tryd.prog W r b0 30 v) (h : DataW.Trod enc Tryd.prog W base spare held 30 v d ps) :
    ∃ (A : Option Addr) (c : Nat) (l : List Int), v = .slice A l.length c ∧ Kd.C (Kd.int .i64) W A l.length l ∧ l.length * 8 ≤ 140737488351232 ∧ l.length ≤ c ∧ ∀ x ∈ l, (Lit.int .i64 x).wf = true :=
  openSlice Tryd.underlying30 opens_i64 (by kernel_rfl) (by kernel_rfl) hsz ht hd hv h
theorem opens_strings : Opens 22 (Kd.slice 9 Kd.string) (fun l => l.length * 16 ≤ 140737488351232 ∧ ∀ x ∈ l, x.size ≤ 140737488351232) := Opens.slice Tryd.underlying22 (Opens.string Tryd.underlying9) (by kernel_rfl) (by kernel_rfl)
theorem openStrings (hsz : (DataW.weightsEach Tryd.prog ts ds).all (· ≤ reachBytes) = true) (ht : ts[j]? = some 22) (hd : ds[j]? = some d) (hv : Value.okWide Tryd.prog W r b0 22 v) (h : DataW.Trod enc Tryd.prog W base spare held 22 v d ps) :
    ∃ (A : Option Addr) (c : Nat) (l : List ByteArray), v = .slice A l.length c ∧ Kd.C Kd.string W A l.length l ∧ l.length * 16 ≤ 140737488351232 ∧ l.length ≤ c ∧ ∀ x ∈ l, x.size ≤ 140737488351232 :=
  openSlice Tryd.underlying22 (Opens.string Tryd.underlying9) (by kernel_rfl) (by kernel_rfl) hsz ht hd hv h
theorem opens_rule : Opens 59 KRule (fun x => (Lit.int .i64 x.1).wf = true ∧ x.2.length * 8 ≤ 140737488351232 ∧ ∀ s ∈ x.2, (Lit.int .i64 s).wf = true) := Opens.pair Tryd.underlying59 rfl rfl (by kernel_rfl) (by kernel_rfl) (by kernel_rfl) opens_i64 opens_ints
theorem openRules (hsz : (DataW.weightsEach Tryd.prog ts ds).all (· ≤ reachBytes) = true) (ht : ts[j]? = some 23) (hd : ds[j]? = some d) (hv : Value.okWide Tryd.prog W r b0 23 v) (h : DataW.Trod enc Tryd.prog W base spare held 23 v d ps) :
    ∃ (A : Option Addr) (c : Nat) (l : List (Int × List Int)), v = .slice A l.length c ∧ KRule.C W A l.length l ∧ l.length * 32 ≤ 140737488351232 ∧ l.length ≤ c ∧ ∀ x ∈ l, (Lit.int .i64 x.1).wf = true ∧ x.2.length * 8 ≤ 140737488351232 ∧ ∀ s ∈ x.2, (Lit.int .i64 s).wf = true :=
  openSlice Tryd.underlying23 opens_rule (by kernel_rfl) (by kernel_rfl) hsz ht hd hv h
/-- What the weights allow. -/
structure GramB (g : Gr) : Prop where
  terms : g.terms.length * 16 ≤ 140737488351232
  nonterms : g.nonterms.length * 16 ≤ 140737488351232
  rules : g.rules.length * 32 ≤ 140737488351232
  right : ∀ r ∈ g.rules, r.2.length * 8 ≤ 140737488351232
  ax : (Lit.int .i64 g.ax).wf = true
  nums : ∀ r ∈ g.rules, (Lit.int .i64 r.1).wf = true ∧ ∀ s ∈ r.2, (Lit.int .i64 s).wf = true
  names : (∀ s ∈ g.terms, s.size ≤ 140737488351232) ∧ ∀ s ∈ g.nonterms, s.size ≤ 140737488351232
theorem openGrammar (hsz : (DataW.weightsEach Tryd.prog ts ds).all (· ≤ reachBytes) = true) (ht : ts[j]? = some 25) (hd : ds[j]? = some d) (hv : Value.okWide Tryd.prog W r b0 25 v) (h : DataW.Trod enc Tryd.prog W base spare held 25 v d ps) :
    ∃ (g : Gr) (u : Value), v = u ∧ GramAt W u g ∧ GramB g := by
  obtain ⟨v0, v1, v2, v3, y0, y1, y2, y3, n, rfl, rfl, rfl, h0, h1, h2, h3⟩ := Joins.open_agg4 Tryd.underlying25 (by kernel_rfl) (by kernel_rfl) hv h
  have hw : ∀ k ∈ (DataW.agg [y0.1, y1.1, y2.1, y3.1]).weights Tryd.prog 25, k ≤ reachBytes := fun k hk => by
    have := List.all_eq_true.1 hsz k (DataW.weights_mem_each ht hd k hk)
    simpa using this
  simp only [DataW.weights, Tryd.underlying25, List.map_cons, List.map_nil, DataW.weightsEach, List.append_nil, List.mem_append] at hw
  obtain ⟨lT, ⟨AT, cT, e0, p0, q0⟩, b0, g0⟩ := opens_strings H enc W base spare held n _ _ h0 (fun k hk => hw k (.inl hk))
  obtain ⟨lN, ⟨AN, cN, e1, p1, q1⟩, b1, g1⟩ := opens_strings H enc W base spare held n _ _ h1 (fun k hk => hw k (.inr (.inl hk)))
  obtain ⟨ax, e2, _, b2⟩ := DataW.trod_int Tryd.underlying3 h2
  obtain ⟨lR, ⟨AR, cR, e3, p3, q3⟩, b3, g3⟩ := (Opens.slice Tryd.underlying23 opens_rule (by kernel_rfl) (by kernel_rfl) : Opens _ (Kd.slice 59 KRule) (fun l => l.length * 32 ≤ 140737488351232 ∧ _)) H enc W base spare held n _ _ h3 (fun k hk => hw k (.inr (.inr (.inr hk))))
  simp only [List.cons.injEq, and_true] at e0 e1 e2 e3
  subst e0 e1 e2 e3
  exact ⟨⟨lT, lN, ax, lR⟩, _, rfl, ⟨AT, cT, AN, cN, AR, cR, rfl, p0, p1, p3, q0, q1, q3⟩, ⟨b0, b1, b3, fun r hr => (g3 r hr).2.1, b2, fun r hr => ⟨(g3 r hr).1, (g3 r hr).2.2⟩, g0, g1⟩⟩
end
end Go.Proofs.YtapgglmdnggopaaDoor.Hand
/- A list of steps, opened. -/
namespace Go.Proofs.YtapgglmdnggopaaDoor.Hand
open Go.ChangeShapes Go.WideShapes Go.ChangeAt
open Go.RowKit Go.Proofs.YtapgglmdnggopaaDoorW.PrintWords Go.Proofs.YtapgglmdnggopaaDoorW.PrintMore Go.Proofs.YtapgglmdnggopaaDoor.Math

theorem Opens.triple {α β γ : Type} {t : TypeId} {f0 f1 f2 : Field} {a : Kd α} {b : Kd β} {c : Kd γ} {ga : α → Prop} {gb : β → Prop} {gc : γ → Prop} (ht : Tryd.prog.underlying t = some (.struct #[f0, f1, f2])) (o0 : f0.offset = 0) (o1 : f1.offset = a.sz) (o2 : f2.offset = a.sz + b.sz)
    (c0 : Tryd.prog.cellsOf f0.type = a.sz) (c1 : Tryd.prog.cellsOf f1.type = b.sz) (c2 : Tryd.prog.cellsOf f2.type = c.sz) (ct : Tryd.prog.cellsOf t = a.sz + (b.sz + c.sz))
    (h0 : Opens f0.type a ga) (h1 : Opens f1.type b gb) (h2 : Opens f2.type c gc) : Opens t (Kd.pair a (Kd.pair b c)) (fun x => ga x.1 ∧ gb x.2.1 ∧ gc x.2.2) := by
  intro H enc W base spare held fuel cs x h hw
  obtain ⟨y0, y1, y2, n, rfl, hl, k0, k1, k2⟩ := Deep.trod_struct3 ht h
  simp only [DataW.weights, ht, List.map_cons, List.map_nil, DataW.weightsEach, List.append_nil] at hw
  rw [o0, c0, List.drop_zero] at k0
  rw [o1, c1] at k1
  rw [o2, c2] at k2
  obtain ⟨x0, q0, g0⟩ := h0 H enc W base spare held n _ _ k0 (fun n hn => hw n (List.mem_append_left _ hn))
  obtain ⟨x1, q1, g1⟩ := h1 H enc W base spare held n _ _ k1 (fun n hn => hw n (List.mem_append_right _ (List.mem_append_left _ hn)))
  obtain ⟨x2, q2, g2⟩ := h2 H enc W base spare held n _ _ k2 (fun n hn => hw n (List.mem_append_right _ (List.mem_append_right _ hn)))
  refine ⟨(x0, x1, x2), ⟨cs.take a.sz, (cs.drop a.sz).take b.sz ++ (cs.drop (a.sz + b.sz)).take c.sz, ?_, q0, _, _, rfl, q1, q2⟩, g0, g1, g2⟩
  rw [List.take_of_length_le (show (cs.drop (a.sz + b.sz)).length ≤ c.sz by rw [List.length_drop, hl, ct]; omega), ← List.drop_drop, List.take_append_drop, List.take_append_drop]
section
set_option maxRecDepth 20000
variable {H : Type} {enc : TypeId × Value → H} {W : World} {base : Nat} {r : Reach} {b0 : Nat} {spare : Nat → Bool} {held : Bool} {v : Value} {d : DataW H} {ps : List MemPlace} {ts : List TypeId} {ds : List (DataW H)} {j : Nat}
theorem opens_step : Opens 50 KStep (fun x => (Lit.int .i64 x.1).wf = true ∧ (Lit.int .i64 x.2.1).wf = true ∧ (Lit.int .i64 x.2.2).wf = true) := Opens.triple Tryd.underlying50 rfl rfl rfl (by kernel_rfl) (by kernel_rfl) (by kernel_rfl) (by kernel_rfl) opens_i64 opens_i64 opens_i64
theorem openSteps (hsz : (DataW.weightsEach Tryd.prog ts ds).all (· ≤ reachBytes) = true) (ht : ts[j]? = some 26) (hd : ds[j]? = some d) (hv : Value.okWide Tryd.prog W r b0 26 v) (h : DataW.Trod enc Tryd.prog W base spare held 26 v d ps) :
    ∃ (A : Option Addr) (c : Nat) (l : List (Int × Int × Int)), v = .slice A l.length c ∧ KStep.C W A l.length l ∧ l.length * 24 ≤ 140737488351232 ∧ l.length ≤ c ∧ ∀ x ∈ l, (Lit.int .i64 x.1).wf = true ∧ (Lit.int .i64 x.2.1).wf = true ∧ (Lit.int .i64 x.2.2).wf = true :=
  openSlice Tryd.underlying26 opens_step (by kernel_rfl) (by kernel_rfl) hsz ht hd hv h
end
end Go.Proofs.YtapgglmdnggopaaDoor.Hand
