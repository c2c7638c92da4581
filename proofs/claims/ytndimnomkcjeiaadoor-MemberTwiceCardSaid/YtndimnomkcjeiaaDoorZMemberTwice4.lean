/- The texts that the statement's proof stands on, part 4: XTwice. -/
import Derived.Test.YtndimnomkcjeiaaDoorZMemberTwice3
/- MemberTwice: the rules of terminals alone, gathered. -/
namespace Go.Proofs.YtndimnomkcjeiaaDoor.Hand
open Go.RowKit Go.Proofs.YtndimnomkcjeiaaDoorW.PrintWords Go.Proofs.YtndimnomkcjeiaaDoorW.PrintMore Go.Proofs.YtndimnomkcjeiaaDoorW.PrintLast Go.Proofs.YtndimnomkcjeiaaDoor.Math

def plainB (r : Int × List Int) : Bool := r.2.all (fun s => decide (0 ≤ s))
def flatR (R : List (Int × List Int)) (i : Nat) : List (Int × List Int) := (R.take i).filter plainB
theorem flatR_step {R : List (Int × List Int)} {i : Nat} (hi : i < R.length) : flatR R (i + 1) = flatR R i ++ (if plainB (R.getD i (0, [])) = true then [R.getD i (0, [])] else []) := by
  unfold flatR
  rw [take_snocD R i (0, []) hi, List.filter_append]
  congr 1
  simp only [List.filter_cons, List.filter_nil]
theorem flatR_len {R : List (Int × List Int)} {i : Nat} (hi : i ≤ R.length) : (flatR R i).length ≤ i := by
  unfold flatR
  have := List.length_filter_le plainB (R.take i)
  rw [List.length_take] at this
  omega
/-- The flat grammar's box, its rules so far, the lent lists. -/
structure TwSt (w3 w5 : World) (g : Gr) (bF : Nat) (AT : Option Addr) (cT : Nat) (AN : Option Addr) (cN : Nat) (i : Nat) (A : Option Addr) (n c : Nat) (w : World) : Prop where
  bel : Below w3.heap.size w3 w
  box : w3.heap.size = bF
  big : bF < w5.heap.size
  size : w5.heap.size ≤ w.heap.size
  keep : ∀ k, bF < k → k < w5.heap.size → w.heap[k]? = w5.heap[k]?
  len : n = (flatR g.rules i).length
  blk : w.heap[bF]? = some (.cells #[.slice AT g.terms.length cT, .slice AN g.nonterms.length cN, .int .i64 g.ax, .slice A n c] 25 (0, 0))
  own : KLRule.R 51 w w5.heap.size (fun _ => True) (.slice A n c) (flatR g.rules i)
theorem lent_made' {α : Type} {d : Kd α} {w1 w2 : World} {base e1 : Nat} {A2 : Option Addr} {c2 : Nat} {r : List Int} {u : Value} {xs : List α} (hR : KMInt.R 3 w2 w1.heap.size (fun _ => True) (.slice A2 (r.length + 1) c2) (r.map some ++ [none])) (hq : r.length + 1 ≤ c2) (ho : d.R e1 w1 base (fun _ => True) u xs) (hb : base ≤ w1.heap.size) :
    KLInts.M w2 base (fun k => True ∧ some k ≠ u.ownBlock) r [.slice A2 r.length c2] := by
  obtain ⟨inner, hown⟩ := Kd.R_own ho
  exact KLInts.M_lower hb (Kd.M_new (d := KLInts) ⟨A2, c2, rfl, hq, hR⟩ hown)
theorem GramO.box {bF : Nat} {w : World} {v : Value} {g : Gr} (h : GramO (bF + 1) w v g) (j : Nat) (u : Value) : GramO (bF + 1) (w.setCell ⟨bF, j, none⟩ u) v g :=
  h.same (fun k hk _ => Below.heap_setCell w ⟨bF, j, none⟩ u k (by show k ≠ bF; omega))
theorem R_box {α : Type} {d : Kd α} {e bF b : Nat} {w : World} {v : Value} {xs : List α} (h : d.R e w b (fun _ => True) v xs) (hb : bF < b) (j : Nat) (u : Value) : d.R e (w.setCell ⟨bF, j, none⟩ u) b (fun _ => True) v xs :=
  R_same h (fun k hk _ => Below.heap_setCell w ⟨bF, j, none⟩ u k (by show k ≠ bF; omega))
theorem plain_take (l : List Int) (k : Nat) (hk : k < l.length) : (l.take (k + 1)).all (fun s => decide (0 ≤ s)) = ((l.take k).all (fun s => decide (0 ≤ s)) && decide (0 ≤ l.getD k 0)) := by
  rw [take_snocD l k 0 hk, List.all_append]
  simp
def flatG (g : Gr) : Gr := { g with rules := flatR g.rules g.rules.length }
theorem TwSt.gram {w3 w5 w : World} {g : Gr} {bF : Nat} {AT : Option Addr} {cT : Nat} {AN : Option Addr} {cN : Nat} {A AR : Option Addr} {n c nR cR : Nat} (h : TwSt w3 w5 g bF AT cT AN cN g.rules.length A n c w) (hu : GramO (bF + 1) w5 (.agg #[.slice AT g.terms.length cT, .slice AN g.nonterms.length cN, .int .i64 g.ax, .slice AR nR cR]) g) :
    GramAt w (.agg #[.slice AT g.terms.length cT, .slice AN g.nonterms.length cN, .int .i64 g.ax, .slice A n c]) (flatG g) := by
  obtain ⟨AT', cT', AN', cN', AR', cR', e', r1, r2, _, r4, r5, _⟩ := (hu.same (fun k h1 h2 => h.keep k (by omega) h2)).lent.plain
  simp at e'
  obtain ⟨⟨rfl, rfl⟩, ⟨rfl, rfl⟩, -⟩ := e'
  obtain ⟨e1, e2, e3⟩ := Kd.R_reads' h.own
  have hl := h.len
  refine ⟨AT, cT, AN, cN, A, c, by rw [hl]; rfl, r1, r2, (show (flatR g.rules g.rules.length).length ≤ c by omega), r4, r5, ?_⟩
  have hf : (flatG g).rules = flatR g.rules g.rules.length := rfl
  rw [hf]
  exact C_imp (a := KLRule) (b := KRule) rfl e3 rfl (fun j x y cs hx hy hk => by rw [hx] at hy; cases hy; exact KLRule_plain hk)
theorem GramAt.row {w : World} {AT AN A : Option Addr} {nT cT nN cN n c : Nat} {x : Int} {g : Gr} (h : GramAt w (.agg #[.slice AT nT cT, .slice AN nN cN, .int .i64 x, .slice A n c]) g) : n = g.rules.length ∧ KRule.C w A n g.rules := by
  obtain ⟨_, _, _, _, _, _, e', _, _, _, _, _, q⟩ := h
  simp at e'
  obtain ⟨-, -, -, rfl, rfl, -⟩ := e'
  exact ⟨rfl, q⟩
theorem four_at {w w' : World} {b t : Nat} {a0 a1 a2 a3 : Value} (h : w.heap[b]? = some (.cells #[a0, a1, a2, a3] t (0, 0))) (hb : Below w.heap.size w w') : w'.cell? ⟨b, 0, none⟩ = some a0 ∧ w'.cell? ⟨b, 1, none⟩ = some a1 ∧ w'.cell? ⟨b, 2, none⟩ = some a2 ∧ w'.cell? ⟨b, 3, none⟩ = some a3 ∧ Aside0 (Below w.heap.size w w') := by
  obtain ⟨⟨h0, h1, h2, h3⟩, -⟩ := blk_cells4 (gblk_keep' h hb)
  exact ⟨h0, h1, h2, h3, ⟨hb⟩⟩
theorem flat_plain {R : List (Int × List Int)} {i : Nat} : ∀ r ∈ flatR R i, PlainL r.2 := fun r hr s hs => by
  have := (List.mem_filter.1 hr).2
  unfold plainB at this
  rw [List.all_eq_true] at this
  exact of_decide_eq_true (this s hs)
/-- How many of the rules are the tokens. -/
def matchN (R : List (Int × List Int)) (tk : List Int) (k : Int) : Nat := R.countP (hitB tk k)
theorem may_okN'' {g : Gr} {tk : List Int} (hok : (mayN g tk).1 = 0) : (checkN g).1 = 0 ∧ tk.length ≤ 40 := by
  unfold mayN at hok
  split at hok
  · rename_i h; exact absurd hok h
  · rename_i h
    split at hok
    · cases hok
    · exact ⟨by omega, by omega⟩
theorem match_step {R : List (Int × List Int)} {j : Nat} (tk : List Int) (k : Int) (hj : j < R.length) : matchN (R.take (j + 1)) tk k = matchN (R.take j) tk k + (if hitB tk k (R.getD j (0, [])) = true then 1 else 0) := by
  unfold matchN
  rw [take_snocD R j (0, []) hj, List.countP_append, List.countP_singleton]
theorem cnt_plain {g : Gr} {tk : List Int} (hp : ∀ r ∈ g.rules, PlainL r.2) (hl : g.rules.length ≤ 18446744073709551615) (hok : (mayN g tk).1 = 0) : cntV g tk = matchN g.rules tk g.ax ∧ cntX g tk = false := by
  have hc0 : (checkN g).1 = 0 := by
    unfold mayN at hok
    split at hok
    · rename_i h; exact absurd hok h
    · rename_i h; omega
  obtain ⟨z1, z2, z3, z4, z5, z6, z7⟩ := checkN_zero hc0
  have hT : cntT g tk = some (matchN g.rules tk g.ax) := by
    have h := treeN_plain (T := tabD g.rules tk) (tk := tk) hp g.ax.toNat
    rw [show ((g.ax.toNat : Nat) : Int) = g.ax from Int.toNat_of_nonneg z5] at h
    exact h
  have hle : matchN g.rules tk g.ax ≤ g.rules.length := List.countP_le_length
  exact ⟨by unfold cntV; rw [if_pos hok, hT]; exact sat_id (by omega), by unfold cntX; rw [if_pos hok, hT]; rfl⟩
theorem HdsAre.append {w : World} {hs hs2 : List (Int × Hd)} {l l2 : List (Int × List Int)} (h : HdsAre w hs l) (h2 : HdsAre w hs2 l2) : HdsAre w (hs ++ hs2) (l ++ l2) := by
  refine ⟨by simp [h.1, h2.1], fun j a b ha hb => ?_⟩
  rcases Nat.lt_or_ge j hs.length with hj | hj
  · rw [List.getElem?_append_left hj] at ha
    rw [List.getElem?_append_left (by rw [← h.1]; exact hj)] at hb
    exact h.2 j a b ha hb
  · rw [List.getElem?_append_right hj] at ha
    rw [List.getElem?_append_right (by rw [← h.1]; exact hj), ← h.1] at hb
    exact h2.2 _ a b ha hb
theorem KLheads {b n c : Nat} {w : World} {A : Option Addr} {l : List (Int × List Int)} (h : KLRule.R 51 w b (fun _ => True) (.slice A n c) l) :
    ∃ hs, KHd.C w A n hs ∧ ∀ w2 : World, (∀ k, b ≤ k → k < w.heap.size → w2.heap[k]? = w.heap[k]?) → HdsAre w2 hs l := by
  have hrow : ∀ {w : World}, KLRule.R 51 w b (fun _ => True) (.slice A n c) l → n = l.length ∧ ∃ hs, KHd.C w A n hs ∧ HdsAre w hs l := fun h => by
    obtain ⟨e1, _, e3⟩ := Kd.R_reads' h
    have := heads_of (C_imp (a := KLRule) (b := KRule) rfl e3 rfl (fun j x y cs hx hy hk => by rw [hx] at hy; cases hy; exact KLRule_plain hk))
    rw [e1]
    exact ⟨rfl, this⟩
  obtain ⟨_, hs, h1, _⟩ := hrow h
  refine ⟨hs, h1, fun w2 hm => ?_⟩
  obtain ⟨_, hs2, h3, h4⟩ := hrow (R_same h hm)
  have hb := Kd.R_bound h
  rw [heads_same h1 h3 (fun ad ha => by
    obtain ⟨_, b1, b2, _⟩ := hb.1 ad.block (by rw [ha]; rfl)
    exact hm _ b1 b2)] at h4
  exact h4
theorem KMheads {b c : Nat} {w : World} {A : Option Addr} {l : List (Int × List Int)} (h : KMRule.R 51 w b (fun _ => True) (.slice A (l.length + 1) c) (l.map some ++ [none])) :
    ∃ hs, KHd.C w A l.length hs ∧ ∀ w2 : World, (∀ k, b ≤ k → k < w.heap.size → w2.heap[k]? = w.heap[k]?) → HdsAre w2 hs l := by
  have hrow : ∀ {w : World}, KMRule.R 51 w b (fun _ => True) (.slice A (l.length + 1) c) (l.map some ++ [none]) → ∃ hs, KHd.C w A l.length hs ∧ HdsAre w hs l := fun h => by
    have e3 := (Kd.R_reads' h).2.2
    exact heads_of (lentRules_C (by simpa using e3))
  obtain ⟨hs, h1, _⟩ := hrow h
  refine ⟨hs, h1, fun w2 hm => ?_⟩
  obtain ⟨hs2, h3, h4⟩ := hrow (R_same h hm)
  have hb := Kd.R_bound h
  rw [heads_same h1 h3 (fun ad ha => by
    obtain ⟨_, b1, b2, _⟩ := hb.1 ad.block (by rw [ha]; rfl)
    exact hm _ b1 b2)] at h4
  exact h4
def twiceG (g : Gr) : Gr := { g with rules := (flatG g).rules ++ (flatG g).rules }
theorem match_twice (R : List (Int × List Int)) (tk : List Int) (k : Int) : matchN (R ++ R) tk k = matchN R tk k + matchN R tk k := by
  unfold matchN
  rw [List.countP_append]
set_option maxHeartbeats 8000000 in
set_option maxRecDepth 100000 in
theorem memberTwice_walk {w : World} (g : Gr) (v : Value) (hg : GramAt w v g ∧ GramB g) (At : Option Addr) (ct : Nat) (tk : List Int)
    (ht : Kd.C (Kd.int .i64) w At tk.length tk ∧ tk.length * 8 ≤ 140737488351232 ∧ tk.length ≤ ct ∧ ∀ x ∈ tk, (Lit.int .i64 x).wf = true) (hE : ∃ A, ErrsW w A) :
    Calls Tryd.prog 5 #[v, .slice At tk.length ct] w fun e w' => e = .returned (.bool true) ∧ Below w.heap.size w w' := by
  obtain ⟨hv, hB⟩ := hg
  obtain ⟨hr, hl8, hlc, -⟩ := ht
  obtain ⟨A, hE⟩ := hE
  have HV := Lib.hid hv
  obtain ⟨AT, cT, AN, cN, AR, cR, rfl, q1, q2, q3, q4, q5, q6⟩ := hv
  have hlr := q6.2.1
  obtain ⟨w1, hw1⟩ : ∃ w1, w.alloc (.cells #[.slice AT g.terms.length cT, .slice AN g.nonterms.length cN, .int .i64 g.ax, .slice AR g.rules.length cR] 25) = w1 := ⟨_, rfl⟩
  have hb1 : Below w.heap.size w w1 := by rw [← hw1]; exact below_alloc (Below.refl _ _) _
  have hk1 : w1.heap[w.heap.size]? = some (.cells #[.slice AT g.terms.length cT, .slice AN g.nonterms.length cN, .int .i64 g.ax, .slice AR g.rules.length cR] 25 (0, 0)) := by rw [← hw1]; exact heap_alloc_new w _
  have HB1 := Lib.hid hb1
  have HK1 := Lib.hid hk1
  have HG1 := Lib.hid (HV.out.below hb1)
  have HT1 := Lib.hid (Kd.C_below hr hb1)
  have HE1 := Lib.hid (hE.below hb1)
  have HR1 := Lib.hid (Kd.C_below q6 hb1)
  have HGB := Lib.hid hB
  have HLG := Lib.hid (fun (W : World) (hW : Below w1.heap.size w1 W) => lentGrammarO_calls _ g W (HG1.out.below hW) (by have := hB.terms; omega) (by have := hB.nonterms; omega) (by have := hB.rules; omega) (fun r hr => by have := hB.right r hr; omega))
  have HLI := Lib.hid (fun (W : World) (hW : Below w1.heap.size w1 W) => lentInts_calls At ct tk W (Kd.C_below HT1.out hW) (by omega))
  have HKn := Lib.hid (known_calls w1 A HE1.out)
  have hgl : g.rules.length ≤ 4398046510976 := by have := hB.rules; omega
  clear hb1 hk1 hE hB q4 q5 q6 hr hl8
  go_enter Tryd.func5, Tryd.ntmps5
  go_upto_region 4 with (go_at_call 22; refine HKn.out.mono ?_; rintro e w3 ⟨rfl, hb3⟩; have HB3 := Lib.hid hb3; obtain ⟨d0, d1, d2, d3⟩ := blk_cells2 (gblk_keep' HK1.out hb3); clear hb3)
  obtain ⟨bF, hbF⟩ : ∃ b, w3.heap.size = b := ⟨_, rfl⟩
  obtain ⟨w4, hw4⟩ : ∃ w4, w3.alloc (.cells #[.slice none 0 0, .slice none 0 0, .int .i64 0, .slice none 0 0] 25) = w4 := ⟨_, rfl⟩
  have hb4 : Below w3.heap.size w3 w4 := by rw [← hw4]; exact below_alloc (Below.refl _ _) _
  have hk4 : w4.heap[bF]? = some (.cells #[.slice none 0 0, .slice none 0 0, .int .i64 0, .slice none 0 0] 25 (0, 0)) := by rw [← hw4, ← hbF]; exact heap_alloc_new w3 _
  have hs4 : w4.heap.size = bF + 1 := by rw [← hw4, ← hbF]; exact World.size_alloc _ _
  rw [hw4, hbF]
  have HB4 := Lib.hid hb4
  have HK4 := Lib.hid hk4
  have HS4 := Lib.hid (And.intro hbF hs4)
  have HLG4 := Lib.hid (HLG.out w4 (below_next HB3.out hb4))
  clear d0 d1 d2 d3
  obtain ⟨d0, d1, d2, d3⟩ := blk_cells2 (gblk_keep' HK1.out (below_next HB3.out hb4))
  clear hw4 hb4 hk4 hs4 hbF
  go_upto_region 5 with (go_at_call 10; refine HLG4.out.mono ?_; rintro e w5 ⟨u5, rfl, hu5, hb5⟩; have HU5 := Lib.hid hu5; obtain ⟨BT, dT, BN, dN, BR, dR, rfl, m1, m2, m3, -⟩ := hu5; have HM5 := Lib.hid (And.intro m1 (And.intro m2 m3)); clear m1 m2 m3; have HB5 := Lib.hid hb5; have HK5 := Lib.hid (gblk_keep' HK4.out hb5); obtain ⟨⟨z0, z1, z2, z3⟩, y0, y1, y2, y3⟩ := blk_cells4 HK5.out; clear hb5 d0 d1 d2 d3)
  obtain ⟨w6, hw6⟩ : ∃ w6, ((((w5.setCell ⟨bF, 0, none⟩ (.slice BT g.terms.length dT)).setCell ⟨bF, 1, none⟩ (.slice BN g.nonterms.length dN)).setCell ⟨bF, 2, none⟩ (.int .i64 g.ax)).setCell ⟨bF, 3, none⟩ (.slice BR g.rules.length dR)) = w6 := ⟨_, rfl⟩
  rw [hw6]
  have HK6 := Lib.hid (show w6.heap[bF]? = some (.cells #[.slice BT g.terms.length dT, .slice BN g.nonterms.length dN, .int .i64 g.ax, .slice BR g.rules.length dR] 25 (0, 0)) by rw [← hw6]; exact blk_sets4 HK5.out _ _ _ _)
  have HU6 := Lib.hid (show GramO (bF + 1) w6 (.agg #[.slice BT g.terms.length dT, .slice BN g.nonterms.length dN, .int .i64 g.ax, .slice BR g.rules.length dR]) g by
    have h := HU5.out
    rw [HS4.out.2] at h
    rw [← hw6]
    exact (((h.box 0 _).box 1 _).box 2 _).box 3 _)
  have HB6 := Lib.hid (show Below w3.heap.size w3 w6 by
    have h0 := HS4.out.1
    rw [← hw6]
    exact ((((below_next HB4.out HB5.out).setCell (p := ⟨bF, 0, none⟩) (by show _ ≤ bF; omega) _).setCell (p := ⟨bF, 1, none⟩) (by show _ ≤ bF; omega) _).setCell (p := ⟨bF, 2, none⟩) (by show _ ≤ bF; omega) _).setCell (p := ⟨bF, 3, none⟩) (by show _ ≤ bF; omega) _)
  have HA6 : Hid (∀ k, k ≠ bF → w6.heap[k]? = w5.heap[k]?) := Lib.hid (fun k hk => by
    rw [← hw6]
    exact ((Below.heap_setCell _ ⟨bF, 3, none⟩ _ k hk).trans (Below.heap_setCell _ ⟨bF, 2, none⟩ _ k hk)).trans ((Below.heap_setCell _ ⟨bF, 1, none⟩ _ k hk).trans (Below.heap_setCell _ ⟨bF, 0, none⟩ _ k hk)))
  have HZ6 : Hid (w6.heap.size = w5.heap.size) := Lib.hid (by rw [← hw6]; simp [go_sem])
  clear hw6 z0 z1 z2 z3 y0 y1 y2 y3
  obtain ⟨⟨z0, z1, z2, z3⟩, y0, y1, y2, y3⟩ := blk_cells4 HK6.out
  obtain ⟨w7, hw7⟩ : ∃ w7, w6.setCell ⟨bF, 3, none⟩ (.slice none 0 0) = w7 := ⟨_, rfl⟩
  have HSt : Hid (TwSt w3 w5 g bF BT dT BN dN 0 none 0 0 w7) := Lib.hid (by
    have hbig : bF < w5.heap.size := (Array.getElem?_eq_some_iff.1 HK5.out).1
    rw [← hw7]
    refine ⟨HB6.out.setCell (p := ⟨bF, 3, none⟩) (by have := HS4.out.1; show _ ≤ bF; omega) _, HS4.out.1, hbig, ?_, fun k h1 _ => (Below.heap_setCell w6 ⟨bF, 3, none⟩ _ k (by show k ≠ bF; omega)).trans (HA6.out k (by omega)), rfl, blk_set HK6.out 3 _, Kd.R_nil _ _ _ _ _⟩
    have := HZ6.out
    simp [go_sem]
    omega)
  go_upto_region 6 with fail
  clear z0 z1 z2 z3 y0 y1 y2 y3 hw7
  go_wp2
  go_loopw [6, 7, 8] (fun a _ _ wr => ∃ (i n c : Nat) (AF : Option Addr), i ≤ g.rules.length ∧ a = .int .i64 i ∧ Hid (TwSt w3 w5 g bF BT dT BN dN i AF n c wr)) (fun a _ _ _ => g.rules.length - (intOf a).toNat)
  case atStart => exact ⟨0, 0, 0, none, by omega, rfl, HSt⟩
  case round =>
    obtain ⟨i, n, c, AF, hi, rfl, HSi⟩ := hrel
    obtain ⟨wo, rfl⟩ : ∃ wo : World, wo = wr := ⟨_, rfl⟩
    have HBo := Lib.hid (below_next HB3.out HSi.out.bel)
    obtain ⟨d0, d1, d2, d3⟩ := blk_cells2 (gblk_keep' HK1.out HBo.out)
    by_cases hlt : i < g.rules.length
    · obtain ⟨ad, x', B, cr, r, rfl, k1, k2, hrc, hrr, HDr⟩ := at_rule (Kd.C_below HR1.out HBo.out) i hlt
      have HRr := Lib.hid hrr
      have hrl := hrr.2.1
      have HIr : Hid ((r.length + 1) * 8 ≤ 140737488355328) := Lib.hid (by
        have := HGB.out.right (x', r) (by rw [← HDr.out]; exact getD_mem g.rules i (0, []) hlt)
        simp at this
        omega)
      clear hrr
      go_wp2
      go_loopw [7, 8] (fun p a wr => ∃ (k : Nat) (b : Bool), k ≤ r.length ∧ a = .int .i64 k ∧ p = .bool b ∧ wo = wr ∧ Hid ((r.take k).all (fun s => decide (0 ≤ s)) = b)) (fun _ a _ => r.length - (intOf a).toNat)
      case atStart => exact ⟨0, true, by omega, rfl, rfl, rfl, Lib.hid rfl⟩
      case round =>
        obtain ⟨k, b, hk, rfl, rfl, rfl, HP⟩ := hrel
        by_cases hkl : k < r.length
        · obtain ⟨ad2, s, rfl, hc2, HY2⟩ := at_scalar HRr.out k hkl 0
          have HT := Lib.hid (plain_take r k hkl)
          cases b
          · go_wp2
            go_roundw
            case rel => exact ⟨k + 1, false, by omega, by go_num, rfl, trivial, Lib.hid (by rw [HT.out, HP.out]; rfl)⟩
            case measure => simp [intOf]; omega
          · by_cases hs : 0 ≤ s
            · go_wp2
              go_roundw
              case rel => exact ⟨k + 1, true, by omega, by go_num, rfl, trivial, Lib.hid (by rw [HT.out, HP.out, HY2.out, decide_eq_true hs]; rfl)⟩
              case measure => simp [intOf]; omega
            · go_wp2
              go_roundw
              case rel => exact ⟨k + 1, false, by omega, by go_num, rfl, trivial, Lib.hid (by rw [HT.out, HP.out, HY2.out, decide_eq_false hs]; rfl)⟩
              case measure => simp [intOf]; omega
        · obtain rfl : k = r.length := by omega
          have HPl : Hid (plainB (x', r) = b) := Lib.hid (by have := HP.out; rw [List.take_length] at this; exact this)
          cases b
          · go_wp2
            go_roundw
            case rel => exact ⟨i + 1, n, c, AF, by omega, by go_num, Lib.hid (by
              have h := HSi.out
              have e : flatR g.rules (i + 1) = flatR g.rules i := by rw [flatR_step hlt, HDr.out, HPl.out]; simp
              exact ⟨h.bel, h.box, h.big, h.size, h.keep, by rw [e]; exact h.len, h.blk, by rw [e]; exact h.own⟩)⟩
            case measure => simp [intOf]; omega
          · obtain ⟨⟨z0, z1, z2, z3⟩, y0, y1, y2, y3⟩ := blk_cells4 HSi.out.blk
            go_wp2
            refine start_ (n := 20) (S := fun w' => w'.cell? ⟨bF, 3, none⟩ = some (.slice AF n c) ∧ w'.cell? ⟨w.heap.size, 3, none⟩ = some (.slice (some ad) g.rules.length cR) ∧ w'.cell? (ad.add (i * 2)) = some (.int .i64 x') ∧ w'.cell? ⟨(ad.add (i * 2)).block, (ad.add (i * 2)).off + 1, none⟩ = some (.slice B r.length cr)) (ds := [17, 19]) #[false, false, false, false, false, false, false, false, false, false, false, false, false, false, false, false, false, false, false, false] (by kernel_rfl) rfl rfl ⟨z3, d3, k1, k2⟩ (fun hHeld => ?_)
            refine pure_ (i := 0) (N := some 55) (v := ?_) (a' := ?_) #[true, false, false, false, false, false, false, false, false, false, false, false, false, false, false, false, false, false, false, false] rfl rfl (by kernel_rfl) (fun _ _ _ h => h) (Or.inl ⟨by rfl, ?_⟩) ?_ ?_
            rotate_left
            · intro w'
              go_simp
              with_reducible rfl
            rotate_left
            · simp only [Act.put, List.setIfInBounds_toArray, List.set_cons_zero, List.set_cons_succ]
              rfl
            refine pure_ (i := 2) (N := some 57) (v := ?_) (a' := ?_) #[true, false, true, false, false, false, false, false, false, false, false, false, false, false, false, false, false, false, false, false] rfl rfl (by kernel_rfl) (fun _ _ _ h => h) (Or.inl ⟨by rfl, ?_⟩) ?_ ?_
            rotate_left
            · intro w'
              go_simp
              with_reducible rfl
            rotate_left
            · simp only [Act.put, List.setIfInBounds_toArray, List.set_cons_zero, List.set_cons_succ]
              rfl
            refine pure_ (i := 4) (N := some 59) (v := ?_) (a' := ?_) #[true, false, true, false, true, false, false, false, false, false, false, false, false, false, false, false, false, false, false, false] rfl rfl (by kernel_rfl) (fun _ _ _ h => h) (Or.inl ⟨by rfl, ?_⟩) ?_ ?_
            rotate_left
            · intro w'
              go_simp
              with_reducible rfl
            rotate_left
            · simp only [Act.put, List.setIfInBounds_toArray, List.set_cons_zero, List.set_cons_succ]
              rfl
            refine pure_ (i := 8) (N := some 63) (v := ?_) (a' := ?_) #[true, false, true, false, true, false, false, false, true, false, false, false, false, false, false, false, false, false, false, false] rfl rfl (by kernel_rfl) (fun _ _ _ h => h) (Or.inl ⟨by rfl, ?_⟩) ?_ ?_
            rotate_left
            · intro w'
              go_simp
              with_reducible rfl
            rotate_left
            · simp only [Act.put, List.setIfInBounds_toArray, List.set_cons_zero, List.set_cons_succ]
              rfl
            refine pure_ (i := 10) (N := some 65) (v := ?_) (a' := ?_) #[true, false, true, false, true, false, false, false, true, false, true, false, false, false, false, false, false, false, false, false] rfl rfl (by kernel_rfl) (fun _ _ _ h => h) (Or.inl ⟨by rfl, ?_⟩) ?_ ?_
            rotate_left
            · intro w'
              go_simp
              with_reducible rfl
            rotate_left
            · simp only [Act.put, List.setIfInBounds_toArray, List.set_cons_zero, List.set_cons_succ]
              rfl
            refine take_ (i := 1) (N := some 56) (v := ?_) (a' := ?_) #[true, true, true, false, true, false, false, false, true, false, true, false, false, false, false, false, false, false, false, false] rfl rfl (by kernel_rfl) (fun _ _ _ h => h) (Or.inl ⟨by rfl, ?_⟩) hHeld ?_ ?_
            rotate_left
            · rintro w' ⟨s0, s1, s2, s3⟩
              go_simp
              with_reducible rfl
            rotate_left
            · simp only [Act.put, List.setIfInBounds_toArray, List.set_cons_zero, List.set_cons_succ]
              rfl
            refine take_ (i := 3) (N := some 58) (v := ?_) (a' := ?_) #[true, true, true, true, true, false, false, false, true, false, true, false, false, false, false, false, false, false, false, false] rfl rfl (by kernel_rfl) (fun _ _ _ h => h) (Or.inl ⟨by rfl, ?_⟩) hHeld ?_ ?_
            rotate_left
            · rintro w' ⟨s0, s1, s2, s3⟩
              go_simp
              with_reducible rfl
            rotate_left
            · simp only [Act.put, List.setIfInBounds_toArray, List.set_cons_zero, List.set_cons_succ]
              rfl
            refine pure_ (i := 5) (N := some 60) (v := ?_) (a' := ?_) #[true, true, true, true, true, true, false, false, true, false, true, false, false, false, false, false, false, false, false, false] rfl rfl (by kernel_rfl) (fun _ _ _ h => h) (Or.inl ⟨by rfl, ?_⟩) ?_ ?_
            rotate_left
            · intro w'
              go_simp
              with_reducible rfl
            rotate_left
            · simp only [Act.put, List.setIfInBounds_toArray, List.set_cons_zero, List.set_cons_succ]
              rfl
            refine pure_ (i := 6) (N := some 61) (v := ?_) (a' := ?_) #[true, true, true, true, true, true, true, false, true, false, true, false, false, false, false, false, false, false, false, false] rfl rfl (by kernel_rfl) (fun _ _ _ h => h) (Or.inl ⟨by rfl, ?_⟩) ?_ ?_
            rotate_left
            · intro w'
              go_simp
              with_reducible rfl
            rotate_left
            · simp only [Act.put, List.setIfInBounds_toArray, List.set_cons_zero, List.set_cons_succ]
              rfl
            refine take_ (i := 7) (N := some 62) (v := ?_) (a' := ?_) #[true, true, true, true, true, true, true, true, true, false, true, false, false, false, false, false, false, false, false, false] rfl rfl (by kernel_rfl) (fun _ _ _ h => h) (Or.inl ⟨by rfl, ?_⟩) hHeld ?_ ?_
            rotate_left
            · rintro w' ⟨s0, s1, s2, s3⟩
              go_simp
              with_reducible rfl
            rotate_left
            · simp only [Act.put, List.setIfInBounds_toArray, List.set_cons_zero, List.set_cons_succ]
              rfl
            refine take_ (i := 9) (N := some 64) (v := ?_) (a' := ?_) #[true, true, true, true, true, true, true, true, true, true, true, false, false, false, false, false, false, false, false, false] rfl rfl (by kernel_rfl) (fun _ _ _ h => h) (Or.inl ⟨by rfl, ?_⟩) hHeld ?_ ?_
            rotate_left
            · rintro w' ⟨s0, s1, s2, s3⟩
              go_simp
              with_reducible rfl
            rotate_left
            · simp only [Act.put, List.setIfInBounds_toArray, List.set_cons_zero, List.set_cons_succ]
              rfl
            refine pure_ (i := 11) (N := some 66) (v := ?_) (a' := ?_) #[true, true, true, true, true, true, true, true, true, true, true, true, false, false, false, false, false, false, false, false] rfl rfl (by kernel_rfl) (fun _ _ _ h => h) (Or.inl ⟨by rfl, ?_⟩) ?_ ?_
            rotate_left
            · intro w'
              go_simp
              with_reducible rfl
            rotate_left
            · simp only [Act.put, List.setIfInBounds_toArray, List.set_cons_zero, List.set_cons_succ]
              rfl
            refine pure_ (i := 12) (N := some 67) (v := ?_) (a' := ?_) #[true, true, true, true, true, true, true, true, true, true, true, true, true, false, false, false, false, false, false, false] rfl rfl (by kernel_rfl) (fun _ _ _ h => h) (Or.inl ⟨by rfl, ?_⟩) ?_ ?_
            rotate_left
            · intro w'
              go_simp
              with_reducible rfl
            rotate_left
            · simp only [Act.put, List.setIfInBounds_toArray, List.set_cons_zero, List.set_cons_succ]
              rfl
            refine take_ (i := 13) (N := some 68) (v := ?_) (a' := ?_) #[true, true, true, true, true, true, true, true, true, true, true, true, true, true, false, false, false, false, false, false] rfl rfl (by kernel_rfl) (fun _ _ _ h => h) (Or.inl ⟨by rfl, ?_⟩) hHeld ?_ ?_
            rotate_left
            · rintro w' ⟨s0, s1, s2, s3⟩
              go_simp
              with_reducible rfl
            rotate_left
            · simp only [Act.put, List.setIfInBounds_toArray, List.set_cons_zero, List.set_cons_succ]
              rfl
            refine one_ (i := 14) (N := some 69) #[true, true, true, true, true, true, true, true, true, true, true, true, true, true, true, false, false, false, false, false] rfl rfl (by kernel_rfl) (by decide) (fun K hK => ?_)
            refine goes_ Tryd.func11 (by kernel_rfl) rfl #[.slice B r.length cr] (by rfl) rfl rfl (by simp only [List.map_toArray, List.map_cons, List.map_nil]; rfl) ?_
            with_reducible refine (lentInts_calls B cr r _ (Kd.C_below HRr.out (below_drew1 (Below.refl _ _))) HIr.out).mono ?_
            rintro e w2 ⟨A2, c2, rfl, hq2, hR2, hb2⟩
            refine ⟨_, rfl, ?_⟩
            have HB2 := Lib.hid (below_next (below_drew1 (Below.refl wo.heap.size wo)) hb2)
            have HM2 := Lib.hid (lent_made' hR2 hq2 (Kd.R_below HSi.out.own (below_drew1 (Below.refl _ _))) HSi.out.size)
            have HO2 := Lib.hid (Kd.R_below (Kd.R_below HSi.out.own (below_drew1 (Below.refl _ _))) hb2)
            clear hR2 hq2 hb2
            refine hK.out _ _ ⟨(HB2.out.cell (World.block_lt_of_cell? _ _ z3)).trans z3, (HB2.out.cell (World.block_lt_of_cell? _ _ d3)).trans d3, (HB2.out.cell (World.block_lt_of_cell? _ _ k1)).trans k1, (HB2.out.cell (World.block_lt_of_cell? _ _ k2)).trans k2⟩ (fun hHeld => ?_)
            clear hK K
            refine norm_ (a' := ?_) ?_ ?_
            rotate_left
            · show Act.put _ (some 69) _ = _
              simp only [Act.put, List.setIfInBounds_toArray, List.set_cons_zero, List.set_cons_succ]
              rfl
            refine pure_ (i := 15) (N := some 70) (v := ?_) (a' := ?_) #[true, true, true, true, true, true, true, true, true, true, true, true, true, true, true, true, false, false, false, false] rfl rfl (by kernel_rfl) (fun _ _ _ h => h) (Or.inl ⟨by rfl, ?_⟩) ?_ ?_
            rotate_left
            · intro w'
              go_simp
              with_reducible rfl
            rotate_left
            · simp only [Act.put, List.setIfInBounds_toArray, List.set_cons_zero, List.set_cons_succ]
              rfl
            refine one_ (i := 16) (N := some 71) #[true, true, true, true, true, true, true, true, true, true, true, true, true, true, true, true, true, false, false, false] rfl rfl (by kernel_rfl) (by decide) (fun K hK => ?_)
            refine value_ (w1 := ?_) (v := ?_) (by rfl) rfl ?_ ?_
            rotate_left 2
            · go_simp
              constructor
              · rfl
              · rfl
            refine hK.out _ _ ⟨((below_alloc HB2.out _).cell (World.block_lt_of_cell? _ _ z3)).trans z3, ((below_alloc HB2.out _).cell (World.block_lt_of_cell? _ _ d3)).trans d3, ((below_alloc HB2.out _).cell (World.block_lt_of_cell? _ _ k1)).trans k1, ((below_alloc HB2.out _).cell (World.block_lt_of_cell? _ _ k2)).trans k2⟩ (fun hHeld => ?_)
            clear hK K
            refine norm_ (a' := ?_) ?_ ?_
            rotate_left
            · show Act.put _ (some 71) _ = _
              simp only [Act.put, List.setIfInBounds_toArray, List.set_cons_zero, List.set_cons_succ]
              rfl
            refine last_ (i := 17) (N := some 72) #[true, true, true, true, true, true, true, true, true, true, true, true, true, true, true, true, true, true, false, false] rfl rfl (by kernel_rfl) (by decide) (fun K hK => ?_)
            refine Kd.R_append_step KLRule (w0 := wo) w5.heap.size (by rfl) (.tmp 56) (.tmp 71) 23 51 (.agg #[.int .i64 0, .slice none 0 0]) 32 rfl Tryd.underlying23 infoRule rfl (by decide) (by omega) (.slice AF n c) (flatR g.rules i) (x', r) [.int .i64 x', .slice A2 r.length c2] (fun _ => True) (fun k => True ∧ some k ≠ Value.ownBlock (.slice AF n c)) rfl rfl ⟨[.int .i64 x'], [.slice A2 r.length c2], rfl, rfl, HM2.out⟩ (fun _ h => h) (fun _ _ => trivial) HO2.out (HB2.out.mono HSi.out.size) (Nat.le_trans HSi.out.size HB2.out.size) (by have := flatR_len (R := g.rules) (Nat.le_of_lt hlt); omega) ?_
            intro v9 w9 ho hb hg hat
            obtain ⟨A9, c9, e9⟩ := Kd.R_slice ho
            obtain ⟨n9, hn9⟩ : ∃ n9, (flatR g.rules i ++ [(x', r)]).length = n9 := ⟨_, rfl⟩
            rw [hn9] at e9
            subst e9
            have HO9 := Lib.hid ho
            have HB9 := Lib.hid hb
            have HN9 := Lib.hid hn9
            have HK9 := Lib.hid ((hb.block bF HSi.out.big).trans HSi.out.blk)
            clear ho hb hg hat hn9
            obtain ⟨⟨t0, t1, t2, t3⟩, s0, s1, s2, s3⟩ := blk_cells4 HK9.out
            refine hK.out _ _ ?_
            clear hK K
            refine norm_ (a' := ?_) ?_ ?_
            rotate_left
            · show Act.put _ (some 72) _ = _
              simp only [Act.put, List.setIfInBounds_toArray, List.set_cons_zero, List.set_cons_succ]
              rfl
            refine pure_ (i := 18) (N := some 73) (v := ?_) (a' := ?_) #[true, true, true, true, true, true, true, true, true, true, true, true, true, true, true, true, true, true, true, false] rfl rfl (by kernel_rfl) (fun _ _ _ h => h) (Or.inl ⟨by rfl, ?_⟩) ?_ ?_
            rotate_left
            · intro w'
              go_simp
              with_reducible rfl
            rotate_left
            · simp only [Act.put, List.setIfInBounds_toArray, List.set_cons_zero, List.set_cons_succ]
              rfl
            refine last_ (i := 19) (N := none) #[true, true, true, true, true, true, true, true, true, true, true, true, true, true, true, true, true, true, true, true] rfl rfl (by kernel_rfl) (by decide) (fun K hK => ?_)
            refine skip_ (w1 := ?_) (by rfl) rfl ?_ ?_
            rotate_left
            · go_simp
              rfl
            refine hK.out _ _ ?_
            clear hK K
            refine done_ (by kernel_rfl) ?_
            go_wp2
            go_roundw
            case rel => exact ⟨i + 1, n9, c9, A9, by omega, by go_num, Lib.hid (by
              have h := HSi.out
              have hbx := h.box
              have hbg := h.big
              have e : flatR g.rules (i + 1) = flatR g.rules i ++ [(x', r)] := by rw [flatR_step hlt, HDr.out, HPl.out]; simp
              refine ⟨(h.bel.trans (HB9.out.mono (by omega))).setCell (p := ⟨bF, 3, none⟩) (by show w3.heap.size ≤ bF; omega) _, hbx, hbg, ?_, fun k h1 h2 => (Below.heap_setCell w9 ⟨bF, 3, none⟩ _ k (by show k ≠ bF; omega)).trans ((HB9.out.block k h2).trans (h.keep k h1 h2)), by rw [e]; exact HN9.out.symm, blk_set HK9.out 3 _, by rw [e]; exact R_box HO9.out hbg 3 _⟩
              have := h.size
              have := HB9.out.size
              simp [go_sem]
              omega)⟩
            case measure => simp [intOf]; omega
    · obtain rfl : i = g.rules.length := by omega
      have HU5' : Hid (GramO (bF + 1) w5 (.agg #[.slice BT g.terms.length dT, .slice BN g.nonterms.length dN, .int .i64 g.ax, .slice BR g.rules.length dR]) g) := Lib.hid (by have h := HU5.out; rw [HS4.out.2] at h; exact h)
      have HGo := Lib.hid (HSi.out.gram HU5'.out)
      have HKo := Lib.hid HSi.out.blk
      have HEo := Lib.hid (HE1.out.below HBo.out)
      obtain ⟨⟨z0, z1, z2, z3⟩, -⟩ := blk_cells4 HKo.out
      have tok : True := trivial
      by_cases hok : (mayN (flatG g) tk).1 = 0
      · have HOK := Lib.hid hok
        have hfl : (flatG g).rules.length ≤ 4398046510976 := by have := flatR_len (R := g.rules) (Nat.le_refl g.rules.length); show (flatR g.rules g.rules.length).length ≤ _; omega
        have hnl : n = (flatG g).rules.length := HSi.out.len
        obtain ⟨M, hM⟩ : ∃ M, matchN (flatG g).rules tk g.ax = M := ⟨_, rfl⟩
        have HCV : Hid (cntV (flatG g) tk = M ∧ cntX (flatG g) tk = false) := Lib.hid (by rw [← hM]; exact cnt_plain (g := flatG g) flat_plain (by omega) hok)
        have HM := Lib.hid hM
        have HFl := Lib.hid hfl
        have hMle : M ≤ 4398046510976 := by rw [← hM]; exact Nat.le_trans List.countP_le_length hfl
        have hnle : n ≤ 4398046510976 := by omega
        have HNl := Lib.hid hnl
        have HRow : Hid (KRule.C wo AF n (flatG g).rules) := Lib.hid (by
          exact HGo.out.row.2)
        clear hok hM hfl hnl
        go_upto_region 16 with fail
        go_region_held3 (fun w' => w'.cell? ⟨bF, 0, none⟩ = some (.slice BT g.terms.length dT) ∧ w'.cell? ⟨bF, 1, none⟩ = some (.slice BN g.nonterms.length dN) ∧ w'.cell? ⟨bF, 2, none⟩ = some (.int .i64 g.ax) ∧ w'.cell? ⟨bF, 3, none⟩ = some (.slice AF n c) ∧ Aside0 (Below wo.heap.size wo w'))
          (first
            | with_reducible exact four_at HKo.out HB17.out
            | with_reducible exact four_at HKo.out HB16.out
            | with_reducible exact four_at HKo.out (below_drew1 (Below.refl _ _)))
          (first
            | (go_at_call 11; have t_ := tok; refine (HLI.out _ (below_next HBo.out (below_drew1 (Below.refl _ _)))).mono ?_; rintro e w16 ⟨A16, c16, rfl, hq16, hR16, hb16⟩; have HRl16 := Lib.hid (lent_C (a := Kd.int .i64) (by have := Kd.R_reads' hR16; have h2 := this.2.2; rwa [← this.1] at h2)); have HB16 := Aside0.mk (below_next (below_drew1 (Below.refl wo.heap.size wo)) hb16); have HC16 : Hid (tk.length ≤ c16) := Lib.hid (by omega); clear tok t_ hR16 hb16 hq16)
            | (go_at_call 23; refine (count_calls _ (flatG g) A16 c16 tk w16 A (HEo.out.below HB16.out) (HGo.out.below HB16.out) HC16.out HRl16.out).mono ?_; rintro e w17 ⟨u17, r17, rfl, hu17, hb17⟩; rw [HCV.out.1, HCV.out.2]; rw [HOK.out] at hu17; obtain rfl := hu17.nil_of rfl; have HB17 := Aside0.mk (below_next HB16.out hb17); clear hu17 hb17))
        have HK17 := Lib.hid (gblk_keep' HKo.out HB17.out)
        have HRow17 := Lib.hid (Kd.C_below HRow.out HB17.out)
        have HT17 := Lib.hid (Kd.C_below HT1.out (below_next HBo.out HB17.out))
        go_wp2
        go_loopw [12, 13] (fun q a wr => ∃ j : Nat, j ≤ n ∧ a = .int .i64 j ∧ q = .int .u64 ((matchN ((flatG g).rules.take j) tk g.ax : Nat) : Int) ∧ Hid (∃ d, wr = w17.drewN d)) (fun _ a _ => n - (intOf a).toNat)
        case atStart => exact ⟨0, by omega, rfl, rfl, Lib.hid ⟨0, rfl⟩⟩
        case round =>
          obtain ⟨j, hj, rfl, rfl, HD⟩ := hrel
          obtain ⟨w18, rfl⟩ : ∃ w18 : World, w18 = wr := ⟨_, rfl⟩
          have HB18 := Lib.hid (show Below w17.heap.size w17 w18 by obtain ⟨d, e⟩ := HD.out; rw [e]; exact pw_below_drewN (Below.refl _ _) _)
          obtain ⟨e0, e1, e2, e3⟩ := blk_cells2 (gblk_keep' HK17.out HB18.out)
          by_cases hjn : j < n
          · have hjl : j < (flatG g).rules.length := by have := HNl.out; omega
            obtain ⟨ad, x', B, cr, r, rfl, k1, k2, hrc, hrr, HDr⟩ := at_rule (by have h := Kd.C_below HRow17.out HB18.out; rw [HNl.out] at h; exact h) j hjl
            have HStep := Lib.hid (match_step tk g.ax hjl)
            have hmj : matchN ((flatG g).rules.take j) tk g.ax ≤ 4398046510976 := Nat.le_trans List.countP_le_length (by rw [List.length_take]; omega)
            obtain ⟨q, hq⟩ : ∃ q, matchN ((flatG g).rules.take j) tk g.ax = q := ⟨_, rfl⟩
            rw [hq] at hmj HStep ⊢
            have HInt := Lib.hid (fun (W : World) (hW : Below w18.heap.size w18 W) => ints_calls B At cr ct r tk W (Kd.C_below hrr hW) (Kd.C_below HT17.out (below_next HB18.out hW)))
            have hrl := hrr.2.1
            clear hrr hq
            by_cases hx : x' = g.ax
            · have hxb : ((x' : Int) == g.ax) = true := by simp [hx]
              cases hd : decide (r = tk)
              · rw [hd] at HInt
                have HS2 : Hid (matchN ((flatG g).rules.take (j + 1)) tk g.ax = q) := Lib.hid (by rw [HStep.out, HDr.out]; unfold hitB; simp only [hd, Bool.and_false]; simp)
                clear hd hx
                go_wp2
                go_quiet ((go_at_call 24; exact Calls.quiet_of (HInt.out _ (pw_below_drewN (Below.refl _ _) _))))
                go_wp2
                go_roundw
                case rel => exact ⟨j + 1, by omega, by go_num, by rw [HS2.out], Lib.hid (by obtain ⟨d, e⟩ := HD.out; exact ⟨_, by rw [e, World.drewN_drewN]⟩)⟩
                case measure => simp [intOf]; omega
              · rw [hd] at HInt
                have HS2 : Hid (matchN ((flatG g).rules.take (j + 1)) tk g.ax = q + 1) := Lib.hid (by rw [HStep.out, HDr.out]; unfold hitB; simp only [hd, hx]; simp)
                clear hd hx
                go_wp2
                go_quiet ((go_at_call 24; exact Calls.quiet_of (HInt.out _ (pw_below_drewN (Below.refl _ _) _))))
                go_wp2
                go_roundw
                case rel => exact ⟨j + 1, by omega, by go_num, by rw [HS2.out]; go_num, Lib.hid (by obtain ⟨d, e⟩ := HD.out; exact ⟨_, by rw [e, World.drewN_drewN]⟩)⟩
                case measure => simp [intOf]; omega
            · have hxb : ((x' : Int) == g.ax) = false := by simp [hx]
              have HS2 : Hid (matchN ((flatG g).rules.take (j + 1)) tk g.ax = q) := Lib.hid (by rw [HStep.out, HDr.out]; unfold hitB; simp [hx])
              clear hx
              go_wp2
              go_quiet (fail)
              go_wp2
              go_roundw
              case rel => exact ⟨j + 1, by omega, by go_num, by rw [HS2.out], Lib.hid (by obtain ⟨d, e⟩ := HD.out; exact ⟨_, by rw [e, World.drewN_drewN]⟩)⟩
              case measure => simp [intOf]; omega
          · obtain rfl : j = n := by omega
            have HMj : Hid (matchN ((flatG g).rules.take j) tk g.ax = M) := Lib.hid (by rw [HNl.out, List.take_length]; exact HM.out)
            rw [HMj.out]
            clear HMj
            have HR120 : Hid (RightIs (flatG g)) := Lib.hid (checkN_zero (may_okN'' HOK.out).1)
            have hnl := HNl.out
            have hj120 : j ≤ 120 := by have := HR120.out.rules; omega
            have hMM : ((M : Int) != (M : Int)) = false := bne_self_eq_false _
            have HB18' := Lib.hid (below_next HB17.out HB18.out)
            have HOw18 := Lib.hid (Kd.R_below HSi.out.own HB18'.out)
            have HRow18 := Lib.hid (Kd.C_below HRow17.out HB18.out)
            obtain ⟨hs, hhs, hha⟩ := KLheads HOw18.out
            have HHd := Lib.hid hhs
            have HHa := Lib.hid hha
            have HHl : Hid (hs.length = j) := Lib.hid hhs.1
            have HK18 := Lib.hid (gblk_keep' HK17.out HB18.out)
            have HLR := Lib.hid (fun (W : World) (hW : Below w18.heap.size w18 W) => lentRules_calls AF c (flatG g).rules W (by have h := Kd.C_below HRow18.out hW; rw [hnl] at h; exact h) (by have := HR120.out.rules; omega) (fun r hr => by have := ruleN_len (HR120.out.ruleN r hr); omega))
            rw [← hnl] at HLR
            clear hhs hha hnl
            go_upto_region 29 with (first
              | ((with_reducible refine gate_builtin (b := .append) (xs := #[.tmp 128, .tmp 130]) rfl ?_); at_builtin; refine Kd.R_append_rows KHd (w0 := w18) w18.heap.size rfl (.tmp 128) (.tmp 130) 23 51 (.agg #[.int .i64 0, .slice none 0 0]) 32 rfl Tryd.underlying23 infoRule rfl (by decide) (by omega) (.slice none 0 0) [] hs _ _ _ (fun _ => True) (fun _ => False) rfl rfl (Kd.R_nil _ _ _ _ _) HHd.out (fun _ _ h => h) (fun _ h => h.elim) (fun _ _ => trivial) (Below.refl _ _) (Nat.le_refl _) (by simp only [List.length_nil]; omega) ?_; intro v28 w28 ho hb hg hat; have HO28 := Aside0.mk ho; have HB28 := Aside0.mk hb; clear e0 e1 e2 e3; obtain ⟨e0, e1, e2, e3⟩ := blk_cells2 (gblk_keep' HK18.out hb); clear ho hb hg hat))
            go_upto_region 30 with (first
              | (go_at_call 25; refine (HLR.out w28 HB28.out).mono ?_; rintro e w29 ⟨A29, c29, rfl, hq29, hR29, hb29⟩; have HB29 := Lib.hid hb29; rw [HNl.out] at hR29; obtain ⟨hs2, hh2, hha2⟩ := KMheads hR29; rw [← HNl.out] at hh2; have HH2 := Lib.hid hh2; have HHa2 := Lib.hid hha2; have HHl2 : Hid (hs2.length = j) := Lib.hid hh2.1; have HB29' := Lib.hid (below_next HB28.out hb29); clear hq29 hR29 hb29 hh2 hha2)
              | ((with_reducible refine gate_builtin (b := .append) (xs := #[.tmp 132, .tmp 135]) rfl ?_); at_builtin; refine Kd.R_append_rows KHd (w0 := w18) w18.heap.size rfl (.tmp 132) (.tmp 135) 23 51 (.agg #[.int .i64 0, .slice none 0 0]) 32 rfl Tryd.underlying23 infoRule rfl (by decide) (by omega) v28 ([] ++ hs) hs2 _ _ _ (fun _ => True) (fun _ => False) rfl rfl (Kd.R_below HO28.out HB29.out) HH2.out (fun _ _ h => h) (fun _ h => h.elim) (fun _ _ => trivial) HB29'.out HB29'.out.size (by have := HHl.out; simp only [List.nil_append]; omega) ?_; intro v30 w30 ho hb hg hat; have HO30 := Aside0.mk ho; have HB30 := Aside0.mk hb; have HG30 := Aside0.mk hg; clear ho hb hg hat))
            obtain ⟨A30, c30, hv30⟩ := Kd.R_slice HO30.out
            obtain ⟨n30, hn30⟩ : ∃ n30, (([] ++ hs) ++ hs2).length = n30 := ⟨_, rfl⟩
            rw [hn30] at hv30
            subst hv30
            have HN30 := Lib.hid hn30
            have HK30 := Lib.hid (gblk_keep' HK18.out HB30.out)
            clear hn30 e0 e1 e2 e3
            obtain ⟨⟨t0, t1, t2, t3⟩, s0, s1, s2, s3⟩ := blk_cells4 HK30.out
            obtain ⟨w31, hw31⟩ : ∃ w31, w30.setCell ⟨bF, 3, none⟩ (.slice A30 n30 c30) = w31 := ⟨_, rfl⟩
            have HF : Hid (w31.heap[bF]? = some (.cells #[.slice BT g.terms.length dT, .slice BN g.nonterms.length dN, .int .i64 g.ax, .slice A30 n30 c30] 25 (0, 0)) ∧ Below w1.heap.size w1 w31 ∧ GramAt w31 (.agg #[.slice BT g.terms.length dT, .slice BN g.nonterms.length dN, .int .i64 g.ax, .slice A30 n30 c30]) (twiceG g)) := Lib.hid (by
              have hbg := HSi.out.big
              have hsz := HSi.out.size
              have hbx := HSi.out.box
              have h18 := HB18'.out.size
              have h3 := HB3.out.size
              have h28 := HB28.out.size
              have hn := HNl.out
              have hag : ∀ k, k ≠ bF → w31.heap[k]? = w30.heap[k]? := fun k hk => by rw [← hw31]; exact Below.heap_setCell w30 ⟨bF, 3, none⟩ _ k hk
              have hag18 : ∀ k, k ≠ bF → k < w18.heap.size → w31.heap[k]? = w18.heap[k]? := fun k h1 h2 => (hag k h1).trans (HB30.out.block k h2)
              refine ⟨by rw [← hw31]; exact blk_set HK30.out 3 _, ?_, ?_⟩
              · rw [← hw31]
                exact (below_next HBo.out (below_next HB18'.out HB30.out)).setCell (p := ⟨bF, 3, none⟩) (by show _ ≤ bF; omega) _
              · obtain ⟨AT', cT', AN', cN', AR', cR', e', r1, r2, _, r4, r5, _⟩ := (HU5'.out.same (w2 := w31) (fun k h1 h2 => (hag18 k (by omega) (by omega)).trans ((HB18'.out.block k (by omega)).trans (HSi.out.keep k (by omega) h2)))).lent.plain
                simp at e'
                obtain ⟨⟨rfl, rfl⟩, ⟨rfl, rfl⟩, -⟩ := e'
                have p1 := Kd.R_step (w1 := w31) (Kd.R_bound HO30.out) (fun k hk _ => hag k (by have := hk.2.1; omega))
                obtain ⟨p2, p3, p4⟩ := Kd.R_reads' p1
                have q1 := HHa.out w31 (fun k h1 h2 => hag18 k (by omega) h2)
                have q2 := HHa2.out w31 (fun k h1 h2 => (hag k (by omega)).trans (HG30.out.block k h2 (fun e => by have := Kd.R_lt HO28.out k e.symm; omega)))
                have hl2 : n30 = (twiceG g).rules.length := by
                  have h1 := HN30.out
                  have h2 := HHl.out
                  have h4 := HHl2.out
                  show n30 = ((flatG g).rules ++ (flatG g).rules).length
                  rw [List.length_append, ← hn, ← h1]
                  simp
                  omega
                refine ⟨_, dT, _, dN, A30, c30, by rw [hl2]; rfl, r1, r2, by rw [← hl2]; exact p3, r4, r5, ?_⟩
                rw [← hl2]
                refine of_heads (hs := ([] ++ hs) ++ hs2) (by rw [← p2] at p4; exact p4) ?_
                exact HdsAre.append (show HdsAre w31 ([] ++ hs) (flatG g).rules from q1) q2)
            go_upto_region 31 with fail
            clear t0 t1 t2 t3 s0 s1 s2 s3 hw31
            obtain ⟨⟨z0, z1, z2, z3⟩, -⟩ := blk_cells4 HF.out.1
            have tok2 : True := trivial
            have hmul : (((M : Int) + (M : Int)) == 2 * (M : Int)) = true := by
              rw [beq_iff_eq]
              omega
            by_cases hok2 : (mayN (twiceG g) tk).1 = 0
            · have HOK2 := Lib.hid hok2
              have HCW : Hid (cntV (twiceG g) tk = M + M ∧ cntX (twiceG g) tk = false) := Lib.hid (by
                have h := cnt_plain (g := twiceG g) (fun r hr => (List.mem_append.1 hr).elim (fun h => flat_plain r h) (fun h => flat_plain r h)) (by show ((flatG g).rules ++ (flatG g).rules).length ≤ _; rw [List.length_append]; have := HNl.out; omega) hok2
                rw [show (twiceG g).rules = (flatG g).rules ++ (flatG g).rules from rfl, match_twice, show (twiceG g).ax = g.ax from rfl, HM.out] at h
                exact h)
              clear hok2
              go_region_held3 (fun w' => w'.cell? ⟨bF, 0, none⟩ = some (.slice BT g.terms.length dT) ∧ w'.cell? ⟨bF, 1, none⟩ = some (.slice BN g.nonterms.length dN) ∧ w'.cell? ⟨bF, 2, none⟩ = some (.int .i64 g.ax) ∧ w'.cell? ⟨bF, 3, none⟩ = some (.slice A30 n30 c30) ∧ Aside0 (Below w31.heap.size w31 w'))
                (first
                  | with_reducible exact four_at HF.out.1 HB33.out
                  | with_reducible exact four_at HF.out.1 HB32.out
                  | with_reducible exact four_at HF.out.1 (below_drew1 (Below.refl _ _)))
                (first
                  | (go_at_call 11; have t_ := tok2; refine (HLI.out _ (below_next HF.out.2.1 (below_drew1 (Below.refl _ _)))).mono ?_; rintro e w32 ⟨A32, c32, rfl, hq32, hR32, hb32⟩; have HRl32 := Lib.hid (lent_C (a := Kd.int .i64) (by have := Kd.R_reads' hR32; have h2 := this.2.2; rwa [← this.1] at h2)); have HB32 := Aside0.mk (below_next (below_drew1 (Below.refl w31.heap.size w31)) hb32); have HC32 : Hid (tk.length ≤ c32) := Lib.hid (by omega); clear tok2 t_ hR32 hb32 hq32)
                  | (go_at_call 23; refine (count_calls _ (twiceG g) A32 c32 tk w32 A ((HE1.out.below HF.out.2.1).below HB32.out) (HF.out.2.2.below HB32.out) HC32.out HRl32.out).mono ?_; rintro e w33 ⟨u33, r33, rfl, hu33, hb33⟩; rw [HCW.out.1, HCW.out.2]; rw [HOK2.out] at hu33; obtain rfl := hu33.nil_of rfl; have HB33 := Aside0.mk (below_next HB32.out hb33); clear hu33 hb33))
              go_wp2
              go_ret
              exact ⟨rfl, below_next HB1.out (below_next HF.out.2.1 HB33.out)⟩
            · have HOK2 := Lib.hid hok2
              have HCW : Hid (cntV (twiceG g) tk = 0 ∧ cntX (twiceG g) tk = false) := Lib.hid ⟨by unfold cntV; rw [if_neg hok2], by unfold cntX; rw [if_neg hok2]⟩
              clear hok2
              go_region_held3 (fun w' => w'.cell? ⟨bF, 0, none⟩ = some (.slice BT g.terms.length dT) ∧ w'.cell? ⟨bF, 1, none⟩ = some (.slice BN g.nonterms.length dN) ∧ w'.cell? ⟨bF, 2, none⟩ = some (.int .i64 g.ax) ∧ w'.cell? ⟨bF, 3, none⟩ = some (.slice A30 n30 c30) ∧ Aside0 (Below w31.heap.size w31 w'))
                (first
                  | with_reducible exact four_at HF.out.1 HB33.out
                  | with_reducible exact four_at HF.out.1 HB32.out
                  | with_reducible exact four_at HF.out.1 (below_drew1 (Below.refl _ _)))
                (first
                  | (go_at_call 11; have t_ := tok2; refine (HLI.out _ (below_next HF.out.2.1 (below_drew1 (Below.refl _ _)))).mono ?_; rintro e w32 ⟨A32, c32, rfl, hq32, hR32, hb32⟩; have HRl32 := Lib.hid (lent_C (a := Kd.int .i64) (by have := Kd.R_reads' hR32; have h2 := this.2.2; rwa [← this.1] at h2)); have HB32 := Aside0.mk (below_next (below_drew1 (Below.refl w31.heap.size w31)) hb32); have HC32 : Hid (tk.length ≤ c32) := Lib.hid (by omega); clear tok2 t_ hR32 hb32 hq32)
                  | (go_at_call 23; refine (count_calls _ (twiceG g) A32 c32 tk w32 A ((HE1.out.below HF.out.2.1).below HB32.out) (HF.out.2.2.below HB32.out) HC32.out HRl32.out).mono ?_; rintro e w33 ⟨u33, r33, rfl, hu33, hb33⟩; rw [HCW.out.1, HCW.out.2]; obtain ⟨T33, p33, hT33, rfl⟩ := hu33.iface_of HOK2.out; clear hT33; have HB33 := Aside0.mk (below_next HB32.out hb33); clear hu33 hb33))
              go_wp2
              go_ret
              exact ⟨rfl, below_next HB1.out (below_next HF.out.2.1 HB33.out)⟩
      · have HOK := Lib.hid hok
        have HCV : Hid (cntV (flatG g) tk = 0 ∧ cntX (flatG g) tk = false) := Lib.hid ⟨by unfold cntV; rw [if_neg hok], by unfold cntX; rw [if_neg hok]⟩
        clear hok
        go_upto_region 16 with fail
        go_region_held3 (fun w' => w'.cell? ⟨bF, 0, none⟩ = some (.slice BT g.terms.length dT) ∧ w'.cell? ⟨bF, 1, none⟩ = some (.slice BN g.nonterms.length dN) ∧ w'.cell? ⟨bF, 2, none⟩ = some (.int .i64 g.ax) ∧ w'.cell? ⟨bF, 3, none⟩ = some (.slice AF n c) ∧ Aside0 (Below wo.heap.size wo w'))
          (first
            | with_reducible exact four_at HKo.out HB17.out
            | with_reducible exact four_at HKo.out HB16.out
            | with_reducible exact four_at HKo.out (below_drew1 (Below.refl _ _)))
          (first
            | (go_at_call 11; have t_ := tok; refine (HLI.out _ (below_next HBo.out (below_drew1 (Below.refl _ _)))).mono ?_; rintro e w16 ⟨A16, c16, rfl, hq16, hR16, hb16⟩; have HRl16 := Lib.hid (lent_C (a := Kd.int .i64) (by have := Kd.R_reads' hR16; have h2 := this.2.2; rwa [← this.1] at h2)); have HB16 := Aside0.mk (below_next (below_drew1 (Below.refl wo.heap.size wo)) hb16); have HC16 : Hid (tk.length ≤ c16) := Lib.hid (by omega); clear tok t_ hR16 hb16 hq16)
            | (go_at_call 23; refine (count_calls _ (flatG g) A16 c16 tk w16 A (HEo.out.below HB16.out) (HGo.out.below HB16.out) HC16.out HRl16.out).mono ?_; rintro e w17 ⟨u17, r17, rfl, hu17, hb17⟩; rw [HCV.out.1, HCV.out.2]; obtain ⟨T17, p17, hT17, rfl⟩ := hu17.iface_of HOK.out; have HB17 := Aside0.mk (below_next HB16.out hb17); clear hu17 hb17 hT17))
        go_wp2
        go_ret
        exact ⟨rfl, below_next HB1.out (below_next HBo.out HB17.out)⟩
end Go.Proofs.YtndimnomkcjeiaaDoor.Hand
