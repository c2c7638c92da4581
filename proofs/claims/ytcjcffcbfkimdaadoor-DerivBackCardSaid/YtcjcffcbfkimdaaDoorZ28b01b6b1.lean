/- The texts that the statement's proof stands on, part 4: XTree XGrow XRKn XChk XAsR. -/
import Derived.Test.YtcjcffcbfkimdaaDoorZ55f423000
import Derived.LaidEql
import Derived.Stop.Asserts
import Derived.RowKitTokens
/- Contract: the document's tree of rules (dovetailref18.Tree). -/
namespace Go.Proofs.YtcjcffcbfkimdaaDoor.Hand
open Go.RowKit Go.Proofs.YtcjcffcbfkimdaaDoorW.PrintWords Go.Proofs.YtcjcffcbfkimdaaDoorW.PrintMore Go.Proofs.YtcjcffcbfkimdaaDoorW.PrintLast Go.Proofs.YtcjcffcbfkimdaaDoor.Math

def lenOf : Value → Nat
  | .slice _ n _ => n
  | _ => 0
theorem infoFrame : (Tryd.prog.info? 109).map (fun i => (i.zero, i.size, i.bytes)) = some (some (.agg #[.int .i64 0, .int .i64 0]), 2, 16) := by kernel_rfl
/-- The outer loop. -/
structure TrOut (G : List (Int × List Int)) (rs : List Int) (any : Bool) (nt : Int) (res : Option DS) (w0 w : World) (k : Nat) (v1 v2 v3 : Value) (O : Stk) (d : DS) : Prop where
  mem : TrAt w0 w v1 v2 v3 O d
  len : d.tree.length = k
  tok : d.tokens.length + remS O ≤ 32 * k
  stk : StkOk G d.tree O
  pop : Popped O
  res : restG (opsD inc64) G rs any nt k O d = res
  ol : O.length ≤ k
  z : k = 0 → O = []
/-- The inner loop. -/
structure TrInn (G : List (Int × List Int)) (tgt : Stk × DS) (S k m : Nat) (w0 w : World) (v1 v2 v3 : Value) (O : Stk) (d : DS) : Prop where
  mem : TrAt w0 w v1 v2 v3 O d
  len : d.tree.length = k + 1
  tok : d.tokens.length + remS O = S
  stk : StkOk G d.tree O
  eq : popG (opsD inc64) O d = tgt
  ol : O.length ≤ k + 1
  dep : d.depth = m
section
variable {G : List (Int × List Int)} {rs : List Int} {any : Bool} {nt : Int} {res : Option DS} {tgt : Stk × DS} {S k m : Nat} {w0 w w' : World} {v1 v2 v3 u : Value} {O : Stk} {d : DS}
theorem TrInn.out (h : TrInn G tgt S k m w0 w v1 v2 v3 O d) (hp : Popped O) (hS : S ≤ 32 * (k + 1)) (hN : restG (opsD inc64) G rs any nt (k + 1) tgt.1 tgt.2 = res) : TrOut G rs any nt res w0 w (k + 1) v1 v2 v3 O d := by
  have h1 := h.tok
  have h2 := h.eq
  rw [popG_popped _ _ hp] at h2
  rw [← h2] at hN
  exact ⟨h.mem, h.len, by omega, h.stk, hp, hN, h.ol, fun h => by omega⟩
theorem TrInn.pop1 {φ q : Nat} (h : TrInn G tgt S k m w0 w v1 v2 v3 ((φ, q, []) :: O) d) (hm : TrAt w0 w' v1 v2 u O ((opsD inc64).lv d φ)) : TrInn G tgt S k m w0 w' v1 v2 u O ((opsD inc64).lv d φ) := by
  have h1 := h.tok
  have h2 := h.eq
  have h3 := h.ol
  rw [popG_done] at h2
  simp only [remS, List.length_nil, Nat.zero_add] at h1
  simp only [List.length_cons] at h3
  exact ⟨hm, by show (List.set _ _ _).length = _; rw [List.length_set]; exact h.len, h1, h.stk.tail.put φ _ _, h2, by omega, h.dep⟩
theorem TrInn.tok1 {φ q : Nat} {y : Int} {l : List Int} (h : TrInn G tgt S k m w0 w v1 v2 v3 ((φ, q, y :: l) :: O) d) (hy : ¬ y < 0) (hm : TrAt w0 w' v1 u v3 ((φ, q + 1, l) :: O) ⟨inc64 d.place, d.tree, d.tokens ++ [y], d.depth⟩) :
    TrInn G tgt S k m w0 w' v1 u v3 ((φ, q + 1, l) :: O) ⟨inc64 d.place, d.tree, d.tokens ++ [y], d.depth⟩ := by
  have h1 := h.tok
  have h2 := h.eq
  have h3 := h.ol
  rw [popG_tok _ _ _ _ _ _ _ hy] at h2
  simp only [remS, List.length_cons] at h1
  simp only [List.length_cons] at h3
  exact ⟨hm, h.len, by simp only [remS, List.length_append, List.length_cons, List.length_nil]; omega, h.stk.next, h2, by simp only [List.length_cons]; omega, h.dep⟩
end
/-- What the document's Tree answers. -/
def TreeP (w : World) (res : Option DS) (e : Ending) (w' : World) : Prop :=
  ∃ v1 v2 dp ok, e = .returned (.tuple #[v1, v2, .int .i64 dp, .bool ok]) ∧ Below w.heap.size w w' ∧ (res = none → ok = false) ∧
    ∀ d, res = some d → ok = true ∧ KStep.R 55 w' w.heap.size (fun _ => True) v1 d.tree ∧ (Kd.int .i64).R 3 w' w.heap.size (fun _ => True) v2 d.tokens ∧ dp = (d.depth : Int)
theorem treeP_no {w : World} {res : Option DS} {w' : World} {v1 v2 : Value} {dp : Int} (h : res = none) (hb : Below w.heap.size w w') : TreeP w res (.returned (.tuple #[v1, v2, .int .i64 dp, .bool false])) w' :=
  ⟨v1, v2, dp, false, rfl, hb, fun _ => rfl, fun d hd => by rw [h] at hd; cases hd⟩
theorem treeP_yes {w : World} {res : Option DS} {w' : World} {v1 v2 : Value} {d : DS} (h : res = some d) (hb : Below w.heap.size w w') (h1 : KStep.R 55 w' w.heap.size (fun _ => True) v1 d.tree) (h2 : (Kd.int .i64).R 3 w' w.heap.size (fun _ => True) v2 d.tokens) :
    TreeP w res (.returned (.tuple #[v1, v2, .int .i64 (d.depth : Int), .bool true])) w' := by
  refine ⟨v1, v2, _, true, rfl, hb, fun h' => (by rw [h] at h'; cases h'), fun d' hd => ?_⟩
  rw [h] at hd
  obtain rfl := Option.some.inj hd
  exact ⟨rfl, h1, h2, rfl⟩
set_option maxHeartbeats 4000000 in
set_option maxRecDepth 100000 in
theorem rtree_calls (g : Gr) (AT AN AR Ar : Option Addr) (cT cN cR cr : Nat) (rs : List Int) (any : Bool) (nt fr : Int) (root : Int) (hroot : root < 0 ∧ any = true ∨ 0 ≤ root ∧ any = false ∧ root = nt) (w : World) (A : Nat → Addr) (hI : WkIn w g AR rs Ar A) (hgr : ∀ r ∈ g.rules, 0 ≤ r.1 ∧ r.1 ≤ 100) (_hlr : rs.length ≤ cr) :
    Calls Tryd.prog 37 #[.agg #[.slice AT g.terms.length cT, .slice AN g.nonterms.length cN, .int .i64 g.ax, .slice AR g.rules.length cR], .slice Ar rs.length cr, .int .i64 root, .int .i64 fr] w (TreeP w (walkG (opsD inc64) g.rules rs any nt ⟨fr, [], [], 0⟩)) := by
  obtain ⟨res, hres⟩ : ∃ r, walkG (opsD inc64) g.rules rs any nt ⟨fr, [], [], 0⟩ = r := ⟨_, rfl⟩
  rw [hres]
  rw [walk_is] at hres
  obtain ⟨w1, hw1⟩ : ∃ w1, w.alloc (.cells #[.slice AT g.terms.length cT, .slice AN g.nonterms.length cN, .int .i64 g.ax, .slice AR g.rules.length cR] 25) = w1 := ⟨_, rfl⟩
  have hb1 : Below w.heap.size w w1 := by rw [← hw1]; exact below_alloc (Below.refl _ _) _
  have hk1 : w1.heap[w.heap.size]? = some (.cells #[.slice AT g.terms.length cT, .slice AN g.nonterms.length cN, .int .i64 g.ax, .slice AR g.rules.length cR] 25 (0, 0)) := by rw [← hw1]; exact heap_alloc_new w _
  have HB1 := Lib.hid hb1
  have HK1 := Lib.hid hk1
  have HI := Lib.hid hI
  have HRu := Lib.hid (Kd.C_below hI.rules hb1)
  have HRs := Lib.hid (Kd.C_below hI.row hb1)
  have hll := hI.len
  have hfew := hI.few
  have HGr := Lib.hid hgr
  have HRes := Lib.hid hres
  clear hb1 hk1 hI hgr hres
  go_enter Tryd.func37, Tryd.ntmps37
  go_wp2
  go_loopw [12, 13, 14, 15, 16, 17] (fun v1 v2 v3 dp pl i wr => ∃ (k : Nat) (O : Stk) (d : DS), k ≤ rs.length ∧ i = .int .i64 (k : Int) ∧ dp = .int .i64 (d.depth : Int) ∧ pl = .int .i64 d.place ∧ Hid (TrOut g.rules rs any nt res w1 wr k v1 v2 v3 O d)) (fun _ _ _ _ _ i _ => rs.length - (intOf i).toNat)
  case atStart => exact ⟨0, [], ⟨fr, [], [], 0⟩, by omega, rfl, rfl, rfl, Lib.hid ⟨⟨Kd.R_nil _ _ _ _ _, Kd.R_nil _ _ _ _ _, Kd.R_nil _ _ _ _ _, Below.refl _ _⟩, rfl, by simp [remS], fun x hx => by simp at hx, fun φ k l O' h => by simp at h, by unfold restG; rw [if_pos rfl]; exact HRes.out, by simp, fun _ => rfl⟩⟩
  case round =>
    obtain ⟨k, O, ⟨pl, T, K, m0⟩, hk, rfl, rfl, rfl, HO⟩ := hrel
    obtain ⟨w2, rfl⟩ : ∃ wo : World, wo = wr := ⟨_, rfl⟩
    obtain ⟨b0, b1, b2, b3⟩ := gr_blk (blk_below HK1.out HO.out.mem.bel)
    by_cases hlt : k < rs.length
    · obtain ⟨ad, n, rfl, hn, HN⟩ := at_scalar (Kd.C_below HRs.out HO.out.mem.bel) k hlt 0
      have hdrop : rs.drop k = n :: rs.drop (k + 1) := by
        rw [List.drop_eq_getElem_cons hlt]
        have := HN.out
        rw [List.getD_eq_getElem?_getD, List.getElem?_eq_getElem hlt] at this
        rw [← this]
        rfl
      have HD := Lib.hid hdrop
      clear hdrop
      by_cases h0 : n < 0
      · have HF : Hid (res = none) := Lib.hid (by rw [← HO.out.res]; exact restG_bad HD.out HO.out.pop (.inl h0))
        go_wp2
        ((try simp only [Exit.inBlock, Exit.then]); refine bodyPost_ret (results4_tmp rfl _ _ _) rfl ?_)
        exact treeP_no HF.out (below_next HB1.out HO.out.mem.bel)
      · by_cases h1 : (g.rules.length : Int) ≤ n
        · have HF : Hid (res = none) := Lib.hid (by rw [← HO.out.res]; exact restG_bad HD.out HO.out.pop (.inr h1))
          go_wp2
          ((try simp only [Exit.inBlock, Exit.then]); refine bodyPost_ret (results4_tmp rfl _ _ _) rfl ?_)
          exact treeP_no HF.out (below_next HB1.out HO.out.mem.bel)
        · obtain ⟨j, rfl⟩ : ∃ j : Nat, n = (j : Int) := ⟨n.toNat, by omega⟩
          have hj : j < g.rules.length := by omega
          obtain ⟨adr, x, B, c, r, rfl, k10, k20, hrc, hr, HX⟩ := at_rule HRu.out j hj
          have HK2 : Hid (∀ W, Below w1.heap.size w1 W → W.cell? (adr.add (j * 2)) = some (.int .i64 x) ∧ W.cell? ⟨(adr.add (j * 2)).block, (adr.add (j * 2)).off + 1, none⟩ = some (.slice B r.length c)) := Lib.hid (fun W hW => ⟨(hW.cell (World.block_lt_of_cell? _ _ k10)).trans k10, (hW.cell (World.block_lt_of_cell? _ _ k20)).trans k20⟩)
          have hrule : ruleD g.rules (j : Int) = (x, r) := by unfold ruleD; rw [Int.toNat_natCast]; exact HX.out
          have hxb : 0 ≤ x ∧ x ≤ 100 := HGr.out (x, r) (by rw [← HX.out]; exact getD_mem _ _ _ hj)
          have hl32 : r.length ≤ 32 := HI.out.short (x, r) (by rw [← HX.out]; exact getD_mem _ _ _ hj)
          have HRule := Lib.hid hrule
          have HRr := Lib.hid hr
          have hjb : ¬ ((j : Int) < 0 ∨ (g.rules.length : Int) ≤ (j : Int)) := by omega
          have HJb := Lib.hid hjb
          have hj1 : decide (g.rules.length ≤ j) = false := by simp; omega
          have hj2 : decide ((g.rules.length : Int) ≤ (j : Int)) = false := by simp; omega
          have hj3 : decide ((j : Int) < 0) = false := by simp
          clear hrule hr k10 k20 hjb
          have k1 := (HK2.out _ HO.out.mem.bel).1
          by_cases hk0 : k = 0
          · have hkI : ((k : Int) == 0) = true := by rw [hk0]; rfl
            by_cases ha : any = false ∧ x ≠ nt
            · have HF : Hid (res = none) := Lib.hid (by rw [← HO.out.res]; subst hk0; exact restG_first_no HD.out HJb.out (by rw [HRule.out]; exact ha))
              obtain ⟨rfl, hx⟩ := ha
              rcases hroot with ⟨_, h⟩ | ⟨hr0, _, rfl⟩
              · cases h
              have hxI : (x == root) = false := beq_eq_false_iff_ne.2 hx
              have hxJ : (x != root) = true := by simp [hx]
              clear hk0
              go_wp2
              ((try simp only [Exit.inBlock, Exit.then]); refine bodyPost_ret (results4_tmp rfl _ _ _) rfl ?_)
              exact treeP_no HF.out (below_next HB1.out HO.out.mem.bel)
            · have hOn : O = [] := HO.out.z hk0
              subst hOn
              have HNx : Hid (restG (opsD inc64) g.rules rs any nt (k + 1) (popG (opsD inc64) [(k, 0, r)] ⟨pl, T ++ [((j : Int), pl, 0)], K, max m0 1⟩).1 (popG (opsD inc64) [(k, 0, r)] ⟨pl, T ++ [((j : Int), pl, 0)], K, max m0 1⟩).2 = res) := Lib.hid (by
                rw [← HO.out.res]
                subst hk0
                have := restG_first (o := opsD inc64) (O := ([] : Stk)) (d := ⟨pl, T, K, m0⟩) HD.out HJb.out (by rw [HRule.out]; exact ha)
                rw [HRule.out] at this
                exact this.symm)
              have HB : Hid (TrAt w1 w2 u12 u13 u14 [] ⟨pl, T, K, m0⟩) := Lib.hid HO.out.mem
              have HSt : Hid (StkOk g.rules T []) := Lib.hid HO.out.stk
              have HTk : Hid (K.length + remS [] ≤ 32 * k) := Lib.hid HO.out.tok
              have HOl : Hid (([] : Stk).length ≤ k) := Lib.hid HO.out.ol
              have hz1 : max m0 1 = max m0 (([] : Stk).length + 1) := rfl
              rw [hz1] at HNx
              clear hz1
              obtain ⟨Ob, hOb⟩ : ∃ Ob : Stk, ([] : Stk) = Ob := ⟨_, rfl⟩
              rw [hOb] at HNx HB HSt HTk HOl
              obtain ⟨A3, c3, e3⟩ := Kd.R_slice HB.out.op
              obtain ⟨n3, hn3⟩ : ∃ n, (frs Ob).length = n := ⟨_, rfl⟩
              rw [hn3] at e3
              subst e3
              obtain ⟨A1, c1, e1⟩ := Kd.R_slice HB.out.tr
              obtain ⟨n1, hn1⟩ : ∃ n, T.length = n := ⟨_, rfl⟩
              simp only [hn1] at e1
              subst e1
              clear hOb hn3 hn1
              have hcase : root < 0 ∨ 0 ≤ root ∧ x = root := by
                rcases hroot with ⟨h, _⟩ | ⟨h, h2, h3⟩
                · exact .inl h
                · exact .inr ⟨h, Classical.byContradiction (fun hx => ha ⟨h2, fun e => hx (e.trans h3.symm)⟩)⟩
              clear hk0 ha
              rcases hcase with hr0 | ⟨hr0, rfl⟩
              · go_upto_region 21 with (fail)
                have HTl : Hid (T.length = k) := Lib.hid HO.out.len
                have HBd : Hid ((T.length + 1) * 24 ≤ 140737488355328) := Lib.hid (by have := HTl.out; omega)
                have HBd2 : Hid (((frs Ob).length + 1) * 16 ≤ 140737488355328) := Lib.hid (by rw [frs_length]; have := HOl.out; omega)
                have HNk : Hid (∀ (X : List (Int × Int × Int)), X = T ++ [((j : Int), pl, (0 : Int))] → X.length = k + 1) := Lib.hid (fun X hX => by rw [hX, List.length_append, HTl.out]; rfl)
                obtain ⟨mo, hmo⟩ : ∃ n, Ob.length = n := ⟨_, rfl⟩
                have HMo := Lib.hid hmo
                obtain ⟨mx, hmx⟩ : ∃ n, max m0 (mo + 1) = n := ⟨_, rfl⟩
                have hmx1 : (if m0 < mo + 1 then ((mo : Int) + 1) else (m0 : Int)) = (mx : Int) := by split <;> omega
                have hmx2 : (if (m0 : Int) < (mo : Int) + 1 then ((mo : Int) + 1) else (m0 : Int)) = (mx : Int) := by split <;> omega
                have HMx := Lib.hid hmx
                clear hmx hmo
                go_wp2_with (first
                  | ((with_reducible refine gate_builtin (b := .append) (xs := #[.tmp 98, .tmp 102]) rfl ?_); at_builtin; go_loud (refine Kd.R_append KStep (w0 := w1) w1.heap.size rfl (.tmp 98) (.tmp 102) 29 55 (.agg #[.int .i64 0, .int .i64 0, .int .i64 0]) 24 rfl Tryd.underlying29 infoStep rfl (by decide) (by omega) (.slice A1 n1 c1) T ((j : Int), pl, 0) [.int .i64 (j : Int), .int .i64 pl, .int .i64 0] (fun _ => True) (fun _ => False) rfl rfl (KStep_M _ _ _ _ _ _) (fun _ hk => hk.elim) (fun _ _ => trivial) HB.out.tr HB.out.bel HB.out.bel.size HBd.out ?_); intro v4 w4 ho hb hg hat; (obtain ⟨g4, c4, e4, -⟩ := Kd.R_form ho (by simp); rw [HNk.out _ rfl] at e4; subst e4; have HM4 := Lib.hid (HB.out.setT ho hb hg pl m0); clear ho hb hg hat))
                  | ((with_reducible refine gate_builtin (b := .append) (xs := #[.tmp 104, .tmp 107]) rfl ?_); at_builtin; go_loud (refine Kd.R_append KFr (w0 := w1) w1.heap.size rfl (.tmp 104) (.tmp 107) 107 109 (.agg #[.int .i64 0, .int .i64 0]) 16 rfl Tryd.underlying107 infoFrame rfl (by decide) (by omega) (.slice A3 n3 c3) (frs Ob) ((k : Int), 0) [.int .i64 (k : Int), .int .i64 0] (fun _ => True) (fun _ => False) rfl rfl (KFr_M _ _ _ _ _) (fun _ hk => hk.elim) (fun _ _ => trivial) HM4.out.op HM4.out.bel HM4.out.bel.size HBd2.out ?_); intro v5 w5 ho hb hg hat; (have HM5 := Lib.hid (HM4.out.setO (O' := (k, 0, r) :: Ob) (by rw [frs_cons]; exact ho) hb hg); obtain ⟨g5, c5, e5, -⟩ := HM5.out.open_ HMo.out; subst e5; clear ho hb hg hat)))
                obtain ⟨S, hS⟩ : ∃ S, K.length + remS ((k, 0, r) :: Ob) = S := ⟨_, rfl⟩
                obtain ⟨tgt, htg⟩ : ∃ t, popG (opsD inc64) ((k, 0, r) :: Ob) ⟨pl, T ++ [((j : Int), pl, 0)], K, mx⟩ = t := ⟨_, rfl⟩
                have HNt : Hid (restG (opsD inc64) g.rules rs any nt (k + 1) tgt.1 tgt.2 = res) := Lib.hid (by
                  have := HNx.out
                  rw [HMo.out, HMx.out, htg] at this
                  exact this)
                have HSk : Hid (S ≤ 32 * (k + 1)) := Lib.hid (by
                  have := HTk.out
                  rw [← hS]
                  simp only [remS]
                  omega)
                have HJ0 : Hid (TrInn g.rules tgt S k mx w1 w5 (.slice (some ⟨g4, 0, none⟩) (k + 1) c4) u13 (.slice (some ⟨g5, 0, none⟩) (mo + 1) c5) ((k, 0, r) :: Ob) ⟨pl, T ++ [((j : Int), pl, 0)], K, mx⟩) := Lib.hid
                  ⟨HM5.out.num pl mx, HNk.out _ rfl, hS, StkOk.cons (by have := FrOk.new (G := g.rules) (T := T) (p := pl) (q := 0) HJb.out; rw [HTl.out, HRule.out] at this; exact this) (HSt.out.snoc _), htg, by simp only [List.length_cons]; have := HOl.out; omega, rfl⟩
                clear hS htg HM5 HM4 HB HNx hmx1 hmx2 HBd HBd2 HNk b0 b1 b2 b3
                go_loopw [13, 14, 16] (fun v2 v3 p wr => ∃ (O : Stk) (d : DS), p = .int .i64 d.place ∧ Hid (TrInn g.rules tgt S k mx w1 wr (.slice (some ⟨g4, 0, none⟩) (k + 1) c4) v2 v3 O d)) (fun v2 v3 _ _ => (S - lenOf v2) + lenOf v3)
                case atStart => exact ⟨_, _, rfl, HJ0⟩
                case round =>
                  obtain ⟨O2, ⟨p2, T2, K2, m2⟩, rfl, HJ⟩ := hrel
                  obtain ⟨w6, rfl⟩ : ∃ wo : World, wo = wr := ⟨_, rfl⟩
                  obtain rfl : m2 = mx := HJ.out.dep
                  have b3 := (gr_blk (blk_below HK1.out HJ.out.mem.bel)).2.2.2
                  cases O2 with
                  | nil =>
                    obtain ⟨A6, c6, e6⟩ := Kd.R_slice HJ.out.mem.op
                    rw [show (frs []).length = 0 from rfl] at e6
                    subst e6
                    go_wp2
                    go_roundw
                    case rel => exact ⟨k + 1, [], ⟨p2, T2, K2, m2⟩, by omega, by go_num, rfl, rfl, Lib.hid (HJ.out.out (fun φ q l O' h => by simp at h) HSk.out HNt.out)⟩
                    case measure => simp [intOf]; omega
                  | cons fr O3 =>
                    obtain ⟨φ, q, l⟩ := fr
                    obtain ⟨mo2, hmo2⟩ : ∃ n, O3.length = n := ⟨_, rfl⟩
                    obtain ⟨g6, c6, e6, hc6, f0, f1, ff, hg6⟩ := HJ.out.mem.open_ hmo2
                    subst e6
                    have hmoB : mo2 ≤ 200001 := by have := HJ.out.ol; simp only [List.length_cons] at this; omega
                    obtain ⟨hφ, ⟨hr0, hr1⟩, hq, hl⟩ := HJ.out.stk _ (List.mem_cons_self ..)
                    simp only at hφ hr0 hr1 hq hl
                    obtain ⟨s0, -, -⟩ := st_at HJ.out.mem.tr φ hφ
                    obtain ⟨jn, hjn⟩ : ∃ jn : Nat, (T2.getD φ (0, 0, 0)).1 = (jn : Int) := ⟨(T2.getD φ (0, 0, 0)).1.toNat, by omega⟩
                    simp only [hjn] at s0 hr1 hq hl hr0
                    obtain ⟨ady, y0, B2, c2, r2, e2, p10, p20, hrc2, hr2, HX2⟩ := at_rule HRu.out jn (by omega)
                    obtain rfl := Option.some.inj e2
                    have hrule2 : ruleD g.rules (jn : Int) = (y0, r2) := by unfold ruleD; rw [Int.toNat_natCast]; exact HX2.out
                    rw [hrule2] at hq hl
                    simp only at hq hl
                    have hTk : T2.length = k + 1 := HJ.out.len
                    have hjnl : jn < g.rules.length := by omega
                    have HMo2 := Lib.hid hmo2
                    have HL := Lib.hid hl
                    have Hφ := Lib.hid hφ
                    have hφI : (φ : Int) < (k : Int) + 1 := by omega
                    have hφN : φ < k + 1 := by omega
                    have HK20 := Lib.hid p20
                    have Hr2 := Lib.hid hr2
                    have hq1 : q ≤ r2.length := hq
                    clear hrule2 hjn e2 p10 hr2 hmo2 p20 hl
                    go_upto_region 26 with (fail)
                    obtain ⟨w7, hw7⟩ : ∃ w7, w6.alloc (.cells #[.int .i64 (φ : Int), .int .i64 (q : Int)] 109) = w7 := ⟨_, rfl⟩
                    have h7 : Below w6.heap.size w6 w7 := by rw [← hw7]; exact below_alloc (Below.refl _ _) _
                    have a0 : w7.cell? ⟨w6.heap.size, 0, none⟩ = some (.int .i64 (φ : Int)) := by rw [← hw7]; simp [go_sem]
                    have a1 : w7.cell? ⟨w6.heap.size, 1, none⟩ = some (.int .i64 (q : Int)) := by rw [← hw7]; simp [go_sem]
                    rw [hw7]
                    have HM7 := Lib.hid (HJ.out.mem.below h7)
                    have b3 := (gr_blk (blk_below HK1.out HM7.out.bel)).2.2.2
                    obtain ⟨s0', ⟨us, s2⟩, sf⟩ := st_at HM7.out.tr φ Hφ.out
                    have s0 := (h7.cell (World.block_lt_of_cell? _ _ s0)).trans s0
                    have p20 := (HM7.out.bel.cell (World.block_lt_of_cell? _ _ HK20.out)).trans HK20.out
                    have f1 := (h7.cell (World.block_lt_of_cell? _ _ f1)).trans f1
                    clear hw7 h7 s0' f0 ff
                    go_quiet (fail)
                    rename Nat => nq
                    obtain ⟨w8, hw8⟩ : ∃ w8, w7.drewN nq = w8 := ⟨_, rfl⟩
                    have HM8 : Hid (TrAt w1 w8 (.slice (some ⟨g4, 0, none⟩) (k + 1) c4) u13 (.slice (some ⟨g6, 0, none⟩) (mo2 + 1) c6) ((φ, q, l) :: O3) ⟨p2, T2, K2, m2⟩) := Lib.hid (by rw [← hw8]; exact HM7.out.drewN nq)
                    have a0 : w8.cell? ⟨w6.heap.size, 0, none⟩ = some (.int .i64 (φ : Int)) := by rw [← hw8, World.cell?_drewN]; exact a0
                    have a1 : w8.cell? ⟨w6.heap.size, 1, none⟩ = some (.int .i64 (q : Int)) := by rw [← hw8, World.cell?_drewN]; exact a1
                    have hr2 := Kd.C_below Hr2.out HM8.out.bel
                    rw [hw8]
                    clear hw8 s0 s2 sf p20 f1 b3
                    cases l with
                    | nil =>
                      have hqe : q = r2.length := by have := congrArg List.length HL.out; simp only [List.length_nil, List.length_drop] at this; omega
                      have hqI : ((q : Int) == (r2.length : Int)) = true := by rw [hqe]; simp
                      obtain ⟨-, ⟨us, s2⟩, sf⟩ := st_at HM8.out.tr φ Hφ.out
                      have HM9 : Hid (TrAt w1 (w8.setCell ⟨g4, φ * 3 + 2, none⟩ (.int .i64 p2)) (.slice (some ⟨g4, 0, none⟩) (k + 1) c4) u13 (.slice (some ⟨g6, 0, none⟩) mo2 c6) O3 ((opsD inc64).lv ⟨p2, T2, K2, m2⟩ φ)) := Lib.hid ((HM8.out.pop HMo2.out).leave φ Hφ.out)
                      clear hr2 hqe
                      go_wp2
                      refine ⟨⟨O3, (opsD inc64).lv ⟨p2, T2, K2, m2⟩ φ, rfl, Lib.hid (HJ.out.pop1 HM9.out)⟩, ?_⟩
                      simp only [lenOf]
                      omega
                    | cons y l =>
                      obtain ⟨hq2, hqy⟩ := at_drop HL.out
                      have hq32 : q < 32 := by have := HI.out.short (y0, r2) (by rw [← HX2.out]; exact getD_mem _ _ _ hjnl); simp only at this; omega
                      have hqI : ((q : Int) == (r2.length : Int)) = false := by rw [beq_eq_false_iff_ne]; omega
                      obtain ⟨adq, yy, rfl, hy, HY⟩ := at_scalar hr2 q hq2 0
                      obtain rfl : y = yy := by rw [← HY.out]; exact hqy.symm
                      clear hqy hr2
                      by_cases hneg : y < 0
                      · go_wp2
                        go_roundw
                        case rel => exact ⟨k + 1, (φ, q, y :: l) :: O3, ⟨p2, T2, K2, m2⟩, by omega, by go_num, rfl, rfl, Lib.hid (TrInn.out ⟨HM8.out, HJ.out.len, HJ.out.tok, HJ.out.stk, HJ.out.eq, HJ.out.ol, HJ.out.dep⟩ (fun φ' q' l' O' h => by injection h with h1 h2; injection h1 with h3 h4; injection h4 with h5 h6; exact ⟨y, l, h6.symm, hneg⟩) HSk.out HNt.out)⟩
                        case measure => simp [intOf]; omega
                      · obtain ⟨A9, c9, e9⟩ := Kd.R_slice HM8.out.tk
                        obtain ⟨n9, hn9⟩ : ∃ n, K2.length = n := ⟨_, rfl⟩
                        simp only [hn9] at e9
                        subst e9
                        have HKb : Hid ((K2.length + 1) * 8 ≤ 140737488355328) := Lib.hid (by have := HJ.out.tok; have := HSk.out; simp only at *; omega)
                        have HKS : Hid (K2.length + remS ((φ, q, y :: l) :: O3) = S) := Lib.hid HJ.out.tok
                        have Hn9 := Lib.hid hn9
                        clear hn9
                        go_wp2_with ((with_reducible refine gate_builtin (b := .append) (xs := #[.tmp 155, .tmp 161]) rfl ?_); at_builtin; go_loud (refine Kd.R_append (Kd.int .i64) (w0 := w1) w1.heap.size rfl (.tmp 155) (.tmp 161) 26 3 (.int .i64 0) 8 rfl Tryd.underlying26 infoInt rfl (by decide) (by omega) (.slice A9 n9 c9) K2 y [.int .i64 y] (fun _ => True) (fun _ => False) rfl rfl rfl (fun _ hk => hk.elim) (fun _ _ => trivial) HM8.out.tk HM8.out.bel HM8.out.bel.size HKb.out ?_); intro v10 w10 ho hb hg hat; (obtain ⟨A10, c10, e10⟩ := Kd.R_slice ho; rw [List.length_append, Hn9.out] at e10; subst e10; have HM10 := Lib.hid (HM8.out.setK ho hb hg (inc64 p2) m2); obtain ⟨g11, c11, e11, hc11, t0, t1, tf, -⟩ := HM10.out.open_ HMo2.out; injection e11 with e12 e13 e14; injection e12 with e12; injection e12 with e12; subst e12; subst e14; clear ho hb hg hat t0 e13))
                        refine ⟨⟨(φ, q + 1, l) :: O3, ⟨inc64 p2, T2, K2 ++ [y], m2⟩, rfl, Lib.hid (HJ.out.tok1 hneg ?_)⟩, ?_⟩
                        · have := HM10.out.done1 (q' := q + 1) (l' := l) HMo2.out
                          rwa [show ((q + 1 : Nat) : Int) = (q : Int) + 1 by omega] at this
                        · have h1 := HKS.out
                          have h2 := Hn9.out
                          simp only [remS, List.length_cons] at h1
                          simp only [lenOf]
                          omega
              · have hxI : (x == x) = true := by simp
                have hxJ : (x != x) = false := by simp
                go_upto_region 21 with (fail)
                clear hxI hxJ
                have HTl : Hid (T.length = k) := Lib.hid HO.out.len
                have HBd : Hid ((T.length + 1) * 24 ≤ 140737488355328) := Lib.hid (by have := HTl.out; omega)
                have HBd2 : Hid (((frs Ob).length + 1) * 16 ≤ 140737488355328) := Lib.hid (by rw [frs_length]; have := HOl.out; omega)
                have HNk : Hid (∀ (X : List (Int × Int × Int)), X = T ++ [((j : Int), pl, (0 : Int))] → X.length = k + 1) := Lib.hid (fun X hX => by rw [hX, List.length_append, HTl.out]; rfl)
                obtain ⟨mo, hmo⟩ : ∃ n, Ob.length = n := ⟨_, rfl⟩
                have HMo := Lib.hid hmo
                obtain ⟨mx, hmx⟩ : ∃ n, max m0 (mo + 1) = n := ⟨_, rfl⟩
                have hmx1 : (if m0 < mo + 1 then ((mo : Int) + 1) else (m0 : Int)) = (mx : Int) := by split <;> omega
                have hmx2 : (if (m0 : Int) < (mo : Int) + 1 then ((mo : Int) + 1) else (m0 : Int)) = (mx : Int) := by split <;> omega
                have HMx := Lib.hid hmx
                clear hmx hmo
                go_wp2_with (first
                  | ((with_reducible refine gate_builtin (b := .append) (xs := #[.tmp 98, .tmp 102]) rfl ?_); at_builtin; go_loud (refine Kd.R_append KStep (w0 := w1) w1.heap.size rfl (.tmp 98) (.tmp 102) 29 55 (.agg #[.int .i64 0, .int .i64 0, .int .i64 0]) 24 rfl Tryd.underlying29 infoStep rfl (by decide) (by omega) (.slice A1 n1 c1) T ((j : Int), pl, 0) [.int .i64 (j : Int), .int .i64 pl, .int .i64 0] (fun _ => True) (fun _ => False) rfl rfl (KStep_M _ _ _ _ _ _) (fun _ hk => hk.elim) (fun _ _ => trivial) HB.out.tr HB.out.bel HB.out.bel.size HBd.out ?_); intro v4 w4 ho hb hg hat; (obtain ⟨g4, c4, e4, -⟩ := Kd.R_form ho (by simp); rw [HNk.out _ rfl] at e4; subst e4; have HM4 := Lib.hid (HB.out.setT ho hb hg pl m0); clear ho hb hg hat))
                  | ((with_reducible refine gate_builtin (b := .append) (xs := #[.tmp 104, .tmp 107]) rfl ?_); at_builtin; go_loud (refine Kd.R_append KFr (w0 := w1) w1.heap.size rfl (.tmp 104) (.tmp 107) 107 109 (.agg #[.int .i64 0, .int .i64 0]) 16 rfl Tryd.underlying107 infoFrame rfl (by decide) (by omega) (.slice A3 n3 c3) (frs Ob) ((k : Int), 0) [.int .i64 (k : Int), .int .i64 0] (fun _ => True) (fun _ => False) rfl rfl (KFr_M _ _ _ _ _) (fun _ hk => hk.elim) (fun _ _ => trivial) HM4.out.op HM4.out.bel HM4.out.bel.size HBd2.out ?_); intro v5 w5 ho hb hg hat; (have HM5 := Lib.hid (HM4.out.setO (O' := (k, 0, r) :: Ob) (by rw [frs_cons]; exact ho) hb hg); obtain ⟨g5, c5, e5, -⟩ := HM5.out.open_ HMo.out; subst e5; clear ho hb hg hat)))
                obtain ⟨S, hS⟩ : ∃ S, K.length + remS ((k, 0, r) :: Ob) = S := ⟨_, rfl⟩
                obtain ⟨tgt, htg⟩ : ∃ t, popG (opsD inc64) ((k, 0, r) :: Ob) ⟨pl, T ++ [((j : Int), pl, 0)], K, mx⟩ = t := ⟨_, rfl⟩
                have HNt : Hid (restG (opsD inc64) g.rules rs any nt (k + 1) tgt.1 tgt.2 = res) := Lib.hid (by
                  have := HNx.out
                  rw [HMo.out, HMx.out, htg] at this
                  exact this)
                have HSk : Hid (S ≤ 32 * (k + 1)) := Lib.hid (by
                  have := HTk.out
                  rw [← hS]
                  simp only [remS]
                  omega)
                have HJ0 : Hid (TrInn g.rules tgt S k mx w1 w5 (.slice (some ⟨g4, 0, none⟩) (k + 1) c4) u13 (.slice (some ⟨g5, 0, none⟩) (mo + 1) c5) ((k, 0, r) :: Ob) ⟨pl, T ++ [((j : Int), pl, 0)], K, mx⟩) := Lib.hid
                  ⟨HM5.out.num pl mx, HNk.out _ rfl, hS, StkOk.cons (by have := FrOk.new (G := g.rules) (T := T) (p := pl) (q := 0) HJb.out; rw [HTl.out, HRule.out] at this; exact this) (HSt.out.snoc _), htg, by simp only [List.length_cons]; have := HOl.out; omega, rfl⟩
                clear hS htg HM5 HM4 HB HNx hmx1 hmx2 HBd HBd2 HNk b0 b1 b2 b3
                go_loopw [13, 14, 16] (fun v2 v3 p wr => ∃ (O : Stk) (d : DS), p = .int .i64 d.place ∧ Hid (TrInn g.rules tgt S k mx w1 wr (.slice (some ⟨g4, 0, none⟩) (k + 1) c4) v2 v3 O d)) (fun v2 v3 _ _ => (S - lenOf v2) + lenOf v3)
                case atStart => exact ⟨_, _, rfl, HJ0⟩
                case round =>
                  obtain ⟨O2, ⟨p2, T2, K2, m2⟩, rfl, HJ⟩ := hrel
                  obtain ⟨w6, rfl⟩ : ∃ wo : World, wo = wr := ⟨_, rfl⟩
                  obtain rfl : m2 = mx := HJ.out.dep
                  have b3 := (gr_blk (blk_below HK1.out HJ.out.mem.bel)).2.2.2
                  cases O2 with
                  | nil =>
                    obtain ⟨A6, c6, e6⟩ := Kd.R_slice HJ.out.mem.op
                    rw [show (frs []).length = 0 from rfl] at e6
                    subst e6
                    go_wp2
                    go_roundw
                    case rel => exact ⟨k + 1, [], ⟨p2, T2, K2, m2⟩, by omega, by go_num, rfl, rfl, Lib.hid (HJ.out.out (fun φ q l O' h => by simp at h) HSk.out HNt.out)⟩
                    case measure => simp [intOf]; omega
                  | cons fr O3 =>
                    obtain ⟨φ, q, l⟩ := fr
                    obtain ⟨mo2, hmo2⟩ : ∃ n, O3.length = n := ⟨_, rfl⟩
                    obtain ⟨g6, c6, e6, hc6, f0, f1, ff, hg6⟩ := HJ.out.mem.open_ hmo2
                    subst e6
                    have hmoB : mo2 ≤ 200001 := by have := HJ.out.ol; simp only [List.length_cons] at this; omega
                    obtain ⟨hφ, ⟨hr0, hr1⟩, hq, hl⟩ := HJ.out.stk _ (List.mem_cons_self ..)
                    simp only at hφ hr0 hr1 hq hl
                    obtain ⟨s0, -, -⟩ := st_at HJ.out.mem.tr φ hφ
                    obtain ⟨jn, hjn⟩ : ∃ jn : Nat, (T2.getD φ (0, 0, 0)).1 = (jn : Int) := ⟨(T2.getD φ (0, 0, 0)).1.toNat, by omega⟩
                    simp only [hjn] at s0 hr1 hq hl hr0
                    obtain ⟨ady, y0, B2, c2, r2, e2, p10, p20, hrc2, hr2, HX2⟩ := at_rule HRu.out jn (by omega)
                    obtain rfl := Option.some.inj e2
                    have hrule2 : ruleD g.rules (jn : Int) = (y0, r2) := by unfold ruleD; rw [Int.toNat_natCast]; exact HX2.out
                    rw [hrule2] at hq hl
                    simp only at hq hl
                    have hTk : T2.length = k + 1 := HJ.out.len
                    have hjnl : jn < g.rules.length := by omega
                    have HMo2 := Lib.hid hmo2
                    have HL := Lib.hid hl
                    have Hφ := Lib.hid hφ
                    have hφI : (φ : Int) < (k : Int) + 1 := by omega
                    have hφN : φ < k + 1 := by omega
                    have HK20 := Lib.hid p20
                    have Hr2 := Lib.hid hr2
                    have hq1 : q ≤ r2.length := hq
                    clear hrule2 hjn e2 p10 hr2 hmo2 p20 hl
                    go_upto_region 26 with (fail)
                    obtain ⟨w7, hw7⟩ : ∃ w7, w6.alloc (.cells #[.int .i64 (φ : Int), .int .i64 (q : Int)] 109) = w7 := ⟨_, rfl⟩
                    have h7 : Below w6.heap.size w6 w7 := by rw [← hw7]; exact below_alloc (Below.refl _ _) _
                    have a0 : w7.cell? ⟨w6.heap.size, 0, none⟩ = some (.int .i64 (φ : Int)) := by rw [← hw7]; simp [go_sem]
                    have a1 : w7.cell? ⟨w6.heap.size, 1, none⟩ = some (.int .i64 (q : Int)) := by rw [← hw7]; simp [go_sem]
                    rw [hw7]
                    have HM7 := Lib.hid (HJ.out.mem.below h7)
                    have b3 := (gr_blk (blk_below HK1.out HM7.out.bel)).2.2.2
                    obtain ⟨s0', ⟨us, s2⟩, sf⟩ := st_at HM7.out.tr φ Hφ.out
                    have s0 := (h7.cell (World.block_lt_of_cell? _ _ s0)).trans s0
                    have p20 := (HM7.out.bel.cell (World.block_lt_of_cell? _ _ HK20.out)).trans HK20.out
                    have f1 := (h7.cell (World.block_lt_of_cell? _ _ f1)).trans f1
                    clear hw7 h7 s0' f0 ff
                    go_quiet (fail)
                    rename Nat => nq
                    obtain ⟨w8, hw8⟩ : ∃ w8, w7.drewN nq = w8 := ⟨_, rfl⟩
                    have HM8 : Hid (TrAt w1 w8 (.slice (some ⟨g4, 0, none⟩) (k + 1) c4) u13 (.slice (some ⟨g6, 0, none⟩) (mo2 + 1) c6) ((φ, q, l) :: O3) ⟨p2, T2, K2, m2⟩) := Lib.hid (by rw [← hw8]; exact HM7.out.drewN nq)
                    have a0 : w8.cell? ⟨w6.heap.size, 0, none⟩ = some (.int .i64 (φ : Int)) := by rw [← hw8, World.cell?_drewN]; exact a0
                    have a1 : w8.cell? ⟨w6.heap.size, 1, none⟩ = some (.int .i64 (q : Int)) := by rw [← hw8, World.cell?_drewN]; exact a1
                    have hr2 := Kd.C_below Hr2.out HM8.out.bel
                    rw [hw8]
                    clear hw8 s0 s2 sf p20 f1 b3
                    cases l with
                    | nil =>
                      have hqe : q = r2.length := by have := congrArg List.length HL.out; simp only [List.length_nil, List.length_drop] at this; omega
                      have hqI : ((q : Int) == (r2.length : Int)) = true := by rw [hqe]; simp
                      obtain ⟨-, ⟨us, s2⟩, sf⟩ := st_at HM8.out.tr φ Hφ.out
                      have HM9 : Hid (TrAt w1 (w8.setCell ⟨g4, φ * 3 + 2, none⟩ (.int .i64 p2)) (.slice (some ⟨g4, 0, none⟩) (k + 1) c4) u13 (.slice (some ⟨g6, 0, none⟩) mo2 c6) O3 ((opsD inc64).lv ⟨p2, T2, K2, m2⟩ φ)) := Lib.hid ((HM8.out.pop HMo2.out).leave φ Hφ.out)
                      clear hr2 hqe
                      go_wp2
                      refine ⟨⟨O3, (opsD inc64).lv ⟨p2, T2, K2, m2⟩ φ, rfl, Lib.hid (HJ.out.pop1 HM9.out)⟩, ?_⟩
                      simp only [lenOf]
                      omega
                    | cons y l =>
                      obtain ⟨hq2, hqy⟩ := at_drop HL.out
                      have hq32 : q < 32 := by have := HI.out.short (y0, r2) (by rw [← HX2.out]; exact getD_mem _ _ _ hjnl); simp only at this; omega
                      have hqI : ((q : Int) == (r2.length : Int)) = false := by rw [beq_eq_false_iff_ne]; omega
                      obtain ⟨adq, yy, rfl, hy, HY⟩ := at_scalar hr2 q hq2 0
                      obtain rfl : y = yy := by rw [← HY.out]; exact hqy.symm
                      clear hqy hr2
                      by_cases hneg : y < 0
                      · go_wp2
                        go_roundw
                        case rel => exact ⟨k + 1, (φ, q, y :: l) :: O3, ⟨p2, T2, K2, m2⟩, by omega, by go_num, rfl, rfl, Lib.hid (TrInn.out ⟨HM8.out, HJ.out.len, HJ.out.tok, HJ.out.stk, HJ.out.eq, HJ.out.ol, HJ.out.dep⟩ (fun φ' q' l' O' h => by injection h with h1 h2; injection h1 with h3 h4; injection h4 with h5 h6; exact ⟨y, l, h6.symm, hneg⟩) HSk.out HNt.out)⟩
                        case measure => simp [intOf]; omega
                      · obtain ⟨A9, c9, e9⟩ := Kd.R_slice HM8.out.tk
                        obtain ⟨n9, hn9⟩ : ∃ n, K2.length = n := ⟨_, rfl⟩
                        simp only [hn9] at e9
                        subst e9
                        have HKb : Hid ((K2.length + 1) * 8 ≤ 140737488355328) := Lib.hid (by have := HJ.out.tok; have := HSk.out; simp only at *; omega)
                        have HKS : Hid (K2.length + remS ((φ, q, y :: l) :: O3) = S) := Lib.hid HJ.out.tok
                        have Hn9 := Lib.hid hn9
                        clear hn9
                        go_wp2_with ((with_reducible refine gate_builtin (b := .append) (xs := #[.tmp 155, .tmp 161]) rfl ?_); at_builtin; go_loud (refine Kd.R_append (Kd.int .i64) (w0 := w1) w1.heap.size rfl (.tmp 155) (.tmp 161) 26 3 (.int .i64 0) 8 rfl Tryd.underlying26 infoInt rfl (by decide) (by omega) (.slice A9 n9 c9) K2 y [.int .i64 y] (fun _ => True) (fun _ => False) rfl rfl rfl (fun _ hk => hk.elim) (fun _ _ => trivial) HM8.out.tk HM8.out.bel HM8.out.bel.size HKb.out ?_); intro v10 w10 ho hb hg hat; (obtain ⟨A10, c10, e10⟩ := Kd.R_slice ho; rw [List.length_append, Hn9.out] at e10; subst e10; have HM10 := Lib.hid (HM8.out.setK ho hb hg (inc64 p2) m2); obtain ⟨g11, c11, e11, hc11, t0, t1, tf, -⟩ := HM10.out.open_ HMo2.out; injection e11 with e12 e13 e14; injection e12 with e12; injection e12 with e12; subst e12; subst e14; clear ho hb hg hat t0 e13))
                        refine ⟨⟨(φ, q + 1, l) :: O3, ⟨inc64 p2, T2, K2 ++ [y], m2⟩, rfl, Lib.hid (HJ.out.tok1 hneg ?_)⟩, ?_⟩
                        · have := HM10.out.done1 (q' := q + 1) (l' := l) HMo2.out
                          rwa [show ((q + 1 : Nat) : Int) = (q : Int) + 1 by omega] at this
                        · have h1 := HKS.out
                          have h2 := Hn9.out
                          simp only [remS, List.length_cons] at h1
                          simp only [lenOf]
                          omega
          · have hkp : 0 < k := by omega
            have hkI : ((k : Int) == 0) = false := by rw [beq_eq_false_iff_ne]; omega
            cases O with
            | nil =>
              have HF : Hid (res = none) := Lib.hid (by rw [← HO.out.res]; exact restG_empty HD.out hkp)
              obtain ⟨A6, c6, e6⟩ := Kd.R_slice HO.out.mem.op
              rw [show (frs []).length = 0 from rfl] at e6
              subst e6
              clear hk0
              go_wp2
              ((try simp only [Exit.inBlock, Exit.then]); refine bodyPost_ret (results4_tmp rfl _ _ _) rfl ?_)
              exact treeP_no HF.out (below_next HB1.out HO.out.mem.bel)
            | cons fr O3 =>
              obtain ⟨φ, q, l⟩ := fr
              obtain ⟨x2, l', rfl, hx2⟩ := HO.out.pop φ q l O3 rfl
              obtain ⟨mo2, hmo2⟩ : ∃ n, O3.length = n := ⟨_, rfl⟩
              obtain ⟨g6, c6, e6, hc6, f0, f1, ff, hg6⟩ := HO.out.mem.open_ hmo2
              subst e6
              have hmoB : mo2 ≤ 200001 := by have := HO.out.ol; simp only [List.length_cons] at this; omega
              obtain ⟨hφ, ⟨hr0, hr1⟩, hq, hl⟩ := HO.out.stk _ (List.mem_cons_self ..)
              simp only at hφ hr0 hr1 hq hl
              have hTk : T.length = k := HO.out.len
              obtain ⟨g1, c1, e1, -⟩ := Kd.R_form HO.out.mem.tr (by show 0 < T.length; omega)
              simp only [hTk] at e1
              subst e1
              obtain ⟨s0, -, -⟩ := st_at HO.out.mem.tr φ hφ
              obtain ⟨jn, hjn⟩ : ∃ jn : Nat, (T.getD φ (0, 0, 0)).1 = (jn : Int) := ⟨(T.getD φ (0, 0, 0)).1.toNat, by omega⟩
              simp only [hjn] at s0 hr1 hq hl hr0
              obtain ⟨ady, y0, B2, cc2, r2, e2, p10, p20, hrc2, hr2, HX2⟩ := at_rule HRu.out jn (by omega)
              obtain rfl := Option.some.inj e2
              have hrule2 : ruleD g.rules (jn : Int) = (y0, r2) := by unfold ruleD; rw [Int.toNat_natCast]; exact HX2.out
              rw [hrule2] at hq hl
              simp only at hq hl
              have hjnl : jn < g.rules.length := by omega
              obtain ⟨hq2, hqy⟩ := at_drop hl
              have hq32 : q < 32 := by have := HI.out.short (y0, r2) (by rw [← HX2.out]; exact getD_mem _ _ _ hjnl); simp only at this; omega
              have HMo2 := Lib.hid hmo2
              have hφI : (φ : Int) < (k : Int) := by omega
              have hφN : φ < k := by omega
              have HK20 := Lib.hid p20
              have Hr2 := Lib.hid hr2
              have Hqy := Lib.hid hqy
              have HTk := Lib.hid hTk
              clear hrule2 hjn e2 p10 hr2 hmo2 p20 hl hqy hq hTk hk0 hφ
              go_upto_region 18 with (fail)
              obtain ⟨w7, hw7⟩ : ∃ w7, w2.alloc (.cells #[.int .i64 (φ : Int), .int .i64 (q : Int)] 109) = w7 := ⟨_, rfl⟩
              have h7 : Below w2.heap.size w2 w7 := by rw [← hw7]; exact below_alloc (Below.refl _ _) _
              have a0 : w7.cell? ⟨w2.heap.size, 0, none⟩ = some (.int .i64 (φ : Int)) := by rw [← hw7]; simp [go_sem]
              have a1 : w7.cell? ⟨w2.heap.size, 1, none⟩ = some (.int .i64 (q : Int)) := by rw [← hw7]; simp [go_sem]
              rw [hw7]
              have HM7 := Lib.hid (HO.out.mem.below h7)
              have b3 := (gr_blk (blk_below HK1.out HM7.out.bel)).2.2.2
              have s0 := (h7.cell (World.block_lt_of_cell? _ _ s0)).trans s0
              have p20 := (HM7.out.bel.cell (World.block_lt_of_cell? _ _ HK20.out)).trans HK20.out
              have k1 := (HK2.out _ HM7.out.bel).1
              obtain ⟨adq, yy, rfl, hy, HY⟩ := at_scalar (Kd.C_below Hr2.out HM7.out.bel) q hq2 0
              obtain rfl : x2 = yy := by rw [← HY.out]; exact Hqy.out.symm
              clear hw7 h7 f0 f1 ff b0 b1 b2 hn
              by_cases hm : x2 = -1 - x
              · have hcI : (x2 == -1 - x) = true := by rw [hm]; simp
                have hcJ : (x2 != -1 - x) = false := by rw [hm]; simp
                have HNx : Hid (restG (opsD inc64) g.rules rs any nt (k + 1) (popG (opsD inc64) ((k, 0, r) :: (φ, q + 1, l') :: O3) ⟨pl, T ++ [((j : Int), pl, 0)], K, max m0 (((φ, q + 1, l') :: O3 : Stk).length + 1)⟩).1 (popG (opsD inc64) ((k, 0, r) :: (φ, q + 1, l') :: O3) ⟨pl, T ++ [((j : Int), pl, 0)], K, max m0 (((φ, q + 1, l') :: O3 : Stk).length + 1)⟩).2 = res) := Lib.hid (by
                  rw [← HO.out.res]
                  have := restG_next (o := opsD inc64) (any := any) (nt := nt) (d := ⟨pl, T, K, m0⟩) (φ := φ) (q := q) (x := x2) (r := l') (O := O3) HD.out hkp HJb.out (by rw [HRule.out]; show ¬ x ≠ -1 - x2; omega)
                  rw [HRule.out] at this
                  exact this.symm)
                have HSt : Hid (StkOk g.rules T ((φ, q + 1, l') :: O3)) := Lib.hid HO.out.stk.next
                have HTk2 : Hid (K.length + remS ((φ, q + 1, l') :: O3) ≤ 32 * k) := Lib.hid (by have := HO.out.tok; simp only [remS, List.length_cons] at this ⊢; omega)
                have HOl : Hid (((φ, q + 1, l') :: O3 : Stk).length ≤ k) := Lib.hid (by have := HO.out.ol; simp only [List.length_cons] at this ⊢; exact this)
                clear hm
                go_quiet (fail)
                rename Nat => nq
                obtain ⟨w8, hw8⟩ : ∃ w8, w7.drewN nq = w8 := ⟨_, rfl⟩
                have HM8 : Hid (TrAt w1 w8 (.slice (some ⟨g1, 0, none⟩) k c1) u13 (.slice (some ⟨g6, 0, none⟩) (mo2 + 1) c6) ((φ, q, x2 :: l') :: O3) ⟨pl, T, K, m0⟩) := Lib.hid (by rw [← hw8]; exact HM7.out.drewN nq)
                obtain ⟨g11, c11, e11, hc11, t0, t1, tf, -⟩ := HM8.out.open_ HMo2.out
                injection e11 with e12 e13 e14
                injection e12 with e12
                injection e12 with e12
                subst e12
                subst e14
                rw [hw8]
                clear hw8 a0 a1 b3 s0 p20 hy t0 e13 hcI hcJ k1
                go_upto_region 21 with (fail)
                obtain ⟨w9, hw9⟩ : ∃ w9, w8.setCell ⟨g6, mo2 * 2 + 1, none⟩ (.int .i64 ((q : Int) + 1)) = w9 := ⟨_, rfl⟩
                have HB : Hid (TrAt w1 w9 (.slice (some ⟨g1, 0, none⟩) k c1) u13 (.slice (some ⟨g6, 0, none⟩) (mo2 + 1) c6) ((φ, q + 1, l') :: O3) ⟨pl, T, K, m0⟩) := Lib.hid (by
                  rw [← hw9]
                  have := HM8.out.done1 (q' := q + 1) (l' := l') HMo2.out
                  rwa [show ((q + 1 : Nat) : Int) = (q : Int) + 1 by omega] at this)
                rw [hw9]
                have HTk := HTk2
                obtain ⟨Ob, hOb⟩ : ∃ Ob : Stk, ((φ, q + 1, l') :: O3 : Stk) = Ob := ⟨_, rfl⟩
                rw [hOb] at HNx HB HSt HTk HOl
                clear hw9 hOb tf t1 HTk2
                have b0 := True.intro
                have b1 := True.intro
                have b2 := True.intro
                have b3 := True.intro
                have HTl : Hid (T.length = k) := Lib.hid HO.out.len
                have HBd : Hid ((T.length + 1) * 24 ≤ 140737488355328) := Lib.hid (by have := HTl.out; omega)
                have HBd2 : Hid (((frs Ob).length + 1) * 16 ≤ 140737488355328) := Lib.hid (by rw [frs_length]; have := HOl.out; omega)
                have HNk : Hid (∀ (X : List (Int × Int × Int)), X = T ++ [((j : Int), pl, (0 : Int))] → X.length = k + 1) := Lib.hid (fun X hX => by rw [hX, List.length_append, HTl.out]; rfl)
                obtain ⟨mo, hmo⟩ : ∃ n, Ob.length = n := ⟨_, rfl⟩
                have HMo := Lib.hid hmo
                obtain ⟨mx, hmx⟩ : ∃ n, max m0 (mo + 1) = n := ⟨_, rfl⟩
                have hmx1 : (if m0 < mo + 1 then ((mo : Int) + 1) else (m0 : Int)) = (mx : Int) := by split <;> omega
                have hmx2 : (if (m0 : Int) < (mo : Int) + 1 then ((mo : Int) + 1) else (m0 : Int)) = (mx : Int) := by split <;> omega
                have HMx := Lib.hid hmx
                clear hmx hmo
                go_wp2_with (first
                  | ((with_reducible refine gate_builtin (b := .append) (xs := #[.tmp 98, .tmp 102]) rfl ?_); at_builtin; go_loud (refine Kd.R_append KStep (w0 := w1) w1.heap.size rfl (.tmp 98) (.tmp 102) 29 55 (.agg #[.int .i64 0, .int .i64 0, .int .i64 0]) 24 rfl Tryd.underlying29 infoStep rfl (by decide) (by omega) (.slice (some ⟨g1, 0, none⟩) k c1) T ((j : Int), pl, 0) [.int .i64 (j : Int), .int .i64 pl, .int .i64 0] (fun _ => True) (fun _ => False) rfl rfl (KStep_M _ _ _ _ _ _) (fun _ hk => hk.elim) (fun _ _ => trivial) HB.out.tr HB.out.bel HB.out.bel.size HBd.out ?_); intro v4 w4 ho hb hg hat; (obtain ⟨g4, c4, e4, -⟩ := Kd.R_form ho (by simp); rw [HNk.out _ rfl] at e4; subst e4; have HM4 := Lib.hid (HB.out.setT ho hb hg pl m0); clear ho hb hg hat))
                  | ((with_reducible refine gate_builtin (b := .append) (xs := #[.tmp 104, .tmp 107]) rfl ?_); at_builtin; go_loud (refine Kd.R_append KFr (w0 := w1) w1.heap.size rfl (.tmp 104) (.tmp 107) 107 109 (.agg #[.int .i64 0, .int .i64 0]) 16 rfl Tryd.underlying107 infoFrame rfl (by decide) (by omega) (.slice (some ⟨g6, 0, none⟩) (mo2 + 1) c6) (frs Ob) ((k : Int), 0) [.int .i64 (k : Int), .int .i64 0] (fun _ => True) (fun _ => False) rfl rfl (KFr_M _ _ _ _ _) (fun _ hk => hk.elim) (fun _ _ => trivial) HM4.out.op HM4.out.bel HM4.out.bel.size HBd2.out ?_); intro v5 w5 ho hb hg hat; (have HM5 := Lib.hid (HM4.out.setO (O' := (k, 0, r) :: Ob) (by rw [frs_cons]; exact ho) hb hg); obtain ⟨g5, c5, e5, -⟩ := HM5.out.open_ HMo.out; subst e5; clear ho hb hg hat)))
                obtain ⟨S, hS⟩ : ∃ S, K.length + remS ((k, 0, r) :: Ob) = S := ⟨_, rfl⟩
                obtain ⟨tgt, htg⟩ : ∃ t, popG (opsD inc64) ((k, 0, r) :: Ob) ⟨pl, T ++ [((j : Int), pl, 0)], K, mx⟩ = t := ⟨_, rfl⟩
                have HNt : Hid (restG (opsD inc64) g.rules rs any nt (k + 1) tgt.1 tgt.2 = res) := Lib.hid (by
                  have := HNx.out
                  rw [HMo.out, HMx.out, htg] at this
                  exact this)
                have HSk : Hid (S ≤ 32 * (k + 1)) := Lib.hid (by
                  have := HTk.out
                  rw [← hS]
                  simp only [remS]
                  omega)
                have HJ0 : Hid (TrInn g.rules tgt S k mx w1 w5 (.slice (some ⟨g4, 0, none⟩) (k + 1) c4) u13 (.slice (some ⟨g5, 0, none⟩) (mo + 1) c5) ((k, 0, r) :: Ob) ⟨pl, T ++ [((j : Int), pl, 0)], K, mx⟩) := Lib.hid
                  ⟨HM5.out.num pl mx, HNk.out _ rfl, hS, StkOk.cons (by have := FrOk.new (G := g.rules) (T := T) (p := pl) (q := 0) HJb.out; rw [HTl.out, HRule.out] at this; exact this) (HSt.out.snoc _), htg, by simp only [List.length_cons]; have := HOl.out; omega, rfl⟩
                clear hS htg HM5 HM4 HB HNx hmx1 hmx2 HBd HBd2 HNk b0 b1 b2 b3
                go_loopw [13, 14, 16] (fun v2 v3 p wr => ∃ (O : Stk) (d : DS), p = .int .i64 d.place ∧ Hid (TrInn g.rules tgt S k mx w1 wr (.slice (some ⟨g4, 0, none⟩) (k + 1) c4) v2 v3 O d)) (fun v2 v3 _ _ => (S - lenOf v2) + lenOf v3)
                case atStart => exact ⟨_, _, rfl, HJ0⟩
                case round =>
                  obtain ⟨O2, ⟨p2, T2, K2, m2⟩, rfl, HJ⟩ := hrel
                  obtain ⟨w6, rfl⟩ : ∃ wo : World, wo = wr := ⟨_, rfl⟩
                  obtain rfl : m2 = mx := HJ.out.dep
                  have b3 := (gr_blk (blk_below HK1.out HJ.out.mem.bel)).2.2.2
                  cases O2 with
                  | nil =>
                    obtain ⟨A6, c6, e6⟩ := Kd.R_slice HJ.out.mem.op
                    rw [show (frs []).length = 0 from rfl] at e6
                    subst e6
                    go_wp2
                    go_roundw
                    case rel => exact ⟨k + 1, [], ⟨p2, T2, K2, m2⟩, by omega, by go_num, rfl, rfl, Lib.hid (HJ.out.out (fun φ q l O' h => by simp at h) HSk.out HNt.out)⟩
                    case measure => simp [intOf]; omega
                  | cons fr O3 =>
                    obtain ⟨φ, q, l⟩ := fr
                    obtain ⟨mo2, hmo2⟩ : ∃ n, O3.length = n := ⟨_, rfl⟩
                    obtain ⟨g6, c6, e6, hc6, f0, f1, ff, hg6⟩ := HJ.out.mem.open_ hmo2
                    subst e6
                    have hmoB : mo2 ≤ 200001 := by have := HJ.out.ol; simp only [List.length_cons] at this; omega
                    obtain ⟨hφ, ⟨hr0, hr1⟩, hq, hl⟩ := HJ.out.stk _ (List.mem_cons_self ..)
                    simp only at hφ hr0 hr1 hq hl
                    obtain ⟨s0, -, -⟩ := st_at HJ.out.mem.tr φ hφ
                    obtain ⟨jn, hjn⟩ : ∃ jn : Nat, (T2.getD φ (0, 0, 0)).1 = (jn : Int) := ⟨(T2.getD φ (0, 0, 0)).1.toNat, by omega⟩
                    simp only [hjn] at s0 hr1 hq hl hr0
                    obtain ⟨ady, y0, B2, c2, r2, e2, p10, p20, hrc2, hr2, HX2⟩ := at_rule HRu.out jn (by omega)
                    obtain rfl := Option.some.inj e2
                    have hrule2 : ruleD g.rules (jn : Int) = (y0, r2) := by unfold ruleD; rw [Int.toNat_natCast]; exact HX2.out
                    rw [hrule2] at hq hl
                    simp only at hq hl
                    have hTk : T2.length = k + 1 := HJ.out.len
                    have hjnl : jn < g.rules.length := by omega
                    have HMo2 := Lib.hid hmo2
                    have HL := Lib.hid hl
                    have Hφ := Lib.hid hφ
                    have hφI : (φ : Int) < (k : Int) + 1 := by omega
                    have hφN : φ < k + 1 := by omega
                    have HK20 := Lib.hid p20
                    have Hr2 := Lib.hid hr2
                    have hq1 : q ≤ r2.length := hq
                    clear hrule2 hjn e2 p10 hr2 hmo2 p20 hl
                    go_upto_region 26 with (fail)
                    obtain ⟨w7, hw7⟩ : ∃ w7, w6.alloc (.cells #[.int .i64 (φ : Int), .int .i64 (q : Int)] 109) = w7 := ⟨_, rfl⟩
                    have h7 : Below w6.heap.size w6 w7 := by rw [← hw7]; exact below_alloc (Below.refl _ _) _
                    have a0 : w7.cell? ⟨w6.heap.size, 0, none⟩ = some (.int .i64 (φ : Int)) := by rw [← hw7]; simp [go_sem]
                    have a1 : w7.cell? ⟨w6.heap.size, 1, none⟩ = some (.int .i64 (q : Int)) := by rw [← hw7]; simp [go_sem]
                    rw [hw7]
                    have HM7 := Lib.hid (HJ.out.mem.below h7)
                    have b3 := (gr_blk (blk_below HK1.out HM7.out.bel)).2.2.2
                    obtain ⟨s0', ⟨us, s2⟩, sf⟩ := st_at HM7.out.tr φ Hφ.out
                    have s0 := (h7.cell (World.block_lt_of_cell? _ _ s0)).trans s0
                    have p20 := (HM7.out.bel.cell (World.block_lt_of_cell? _ _ HK20.out)).trans HK20.out
                    have f1 := (h7.cell (World.block_lt_of_cell? _ _ f1)).trans f1
                    clear hw7 h7 s0' f0 ff
                    go_quiet (fail)
                    rename Nat => nq
                    obtain ⟨w8, hw8⟩ : ∃ w8, w7.drewN nq = w8 := ⟨_, rfl⟩
                    have HM8 : Hid (TrAt w1 w8 (.slice (some ⟨g4, 0, none⟩) (k + 1) c4) u13 (.slice (some ⟨g6, 0, none⟩) (mo2 + 1) c6) ((φ, q, l) :: O3) ⟨p2, T2, K2, m2⟩) := Lib.hid (by rw [← hw8]; exact HM7.out.drewN nq)
                    have a0 : w8.cell? ⟨w6.heap.size, 0, none⟩ = some (.int .i64 (φ : Int)) := by rw [← hw8, World.cell?_drewN]; exact a0
                    have a1 : w8.cell? ⟨w6.heap.size, 1, none⟩ = some (.int .i64 (q : Int)) := by rw [← hw8, World.cell?_drewN]; exact a1
                    have hr2 := Kd.C_below Hr2.out HM8.out.bel
                    rw [hw8]
                    clear hw8 s0 s2 sf p20 f1 b3
                    cases l with
                    | nil =>
                      have hqe : q = r2.length := by have := congrArg List.length HL.out; simp only [List.length_nil, List.length_drop] at this; omega
                      have hqI : ((q : Int) == (r2.length : Int)) = true := by rw [hqe]; simp
                      obtain ⟨-, ⟨us, s2⟩, sf⟩ := st_at HM8.out.tr φ Hφ.out
                      have HM9 : Hid (TrAt w1 (w8.setCell ⟨g4, φ * 3 + 2, none⟩ (.int .i64 p2)) (.slice (some ⟨g4, 0, none⟩) (k + 1) c4) u13 (.slice (some ⟨g6, 0, none⟩) mo2 c6) O3 ((opsD inc64).lv ⟨p2, T2, K2, m2⟩ φ)) := Lib.hid ((HM8.out.pop HMo2.out).leave φ Hφ.out)
                      clear hr2 hqe
                      go_wp2
                      refine ⟨⟨O3, (opsD inc64).lv ⟨p2, T2, K2, m2⟩ φ, rfl, Lib.hid (HJ.out.pop1 HM9.out)⟩, ?_⟩
                      simp only [lenOf]
                      omega
                    | cons y l =>
                      obtain ⟨hq2, hqy⟩ := at_drop HL.out
                      have hq32 : q < 32 := by have := HI.out.short (y0, r2) (by rw [← HX2.out]; exact getD_mem _ _ _ hjnl); simp only at this; omega
                      have hqI : ((q : Int) == (r2.length : Int)) = false := by rw [beq_eq_false_iff_ne]; omega
                      obtain ⟨adq, yy, rfl, hy, HY⟩ := at_scalar hr2 q hq2 0
                      obtain rfl : y = yy := by rw [← HY.out]; exact hqy.symm
                      clear hqy hr2
                      by_cases hneg : y < 0
                      · go_wp2
                        go_roundw
                        case rel => exact ⟨k + 1, (φ, q, y :: l) :: O3, ⟨p2, T2, K2, m2⟩, by omega, by go_num, rfl, rfl, Lib.hid (TrInn.out ⟨HM8.out, HJ.out.len, HJ.out.tok, HJ.out.stk, HJ.out.eq, HJ.out.ol, HJ.out.dep⟩ (fun φ' q' l' O' h => by injection h with h1 h2; injection h1 with h3 h4; injection h4 with h5 h6; exact ⟨y, l, h6.symm, hneg⟩) HSk.out HNt.out)⟩
                        case measure => simp [intOf]; omega
                      · obtain ⟨A9, c9, e9⟩ := Kd.R_slice HM8.out.tk
                        obtain ⟨n9, hn9⟩ : ∃ n, K2.length = n := ⟨_, rfl⟩
                        simp only [hn9] at e9
                        subst e9
                        have HKb : Hid ((K2.length + 1) * 8 ≤ 140737488355328) := Lib.hid (by have := HJ.out.tok; have := HSk.out; simp only at *; omega)
                        have HKS : Hid (K2.length + remS ((φ, q, y :: l) :: O3) = S) := Lib.hid HJ.out.tok
                        have Hn9 := Lib.hid hn9
                        clear hn9
                        go_wp2_with ((with_reducible refine gate_builtin (b := .append) (xs := #[.tmp 155, .tmp 161]) rfl ?_); at_builtin; go_loud (refine Kd.R_append (Kd.int .i64) (w0 := w1) w1.heap.size rfl (.tmp 155) (.tmp 161) 26 3 (.int .i64 0) 8 rfl Tryd.underlying26 infoInt rfl (by decide) (by omega) (.slice A9 n9 c9) K2 y [.int .i64 y] (fun _ => True) (fun _ => False) rfl rfl rfl (fun _ hk => hk.elim) (fun _ _ => trivial) HM8.out.tk HM8.out.bel HM8.out.bel.size HKb.out ?_); intro v10 w10 ho hb hg hat; (obtain ⟨A10, c10, e10⟩ := Kd.R_slice ho; rw [List.length_append, Hn9.out] at e10; subst e10; have HM10 := Lib.hid (HM8.out.setK ho hb hg (inc64 p2) m2); obtain ⟨g11, c11, e11, hc11, t0, t1, tf, -⟩ := HM10.out.open_ HMo2.out; injection e11 with e12 e13 e14; injection e12 with e12; injection e12 with e12; subst e12; subst e14; clear ho hb hg hat t0 e13))
                        refine ⟨⟨(φ, q + 1, l) :: O3, ⟨inc64 p2, T2, K2 ++ [y], m2⟩, rfl, Lib.hid (HJ.out.tok1 hneg ?_)⟩, ?_⟩
                        · have := HM10.out.done1 (q' := q + 1) (l' := l) HMo2.out
                          rwa [show ((q + 1 : Nat) : Int) = (q : Int) + 1 by omega] at this
                        · have h1 := HKS.out
                          have h2 := Hn9.out
                          simp only [remS, List.length_cons] at h1
                          simp only [lenOf]
                          omega
              · have hcI : (x2 == -1 - x) = false := beq_eq_false_iff_ne.2 hm
                have hcJ : (x2 != -1 - x) = true := by simp [hm]
                have HF : Hid (res = none) := Lib.hid (by rw [← HO.out.res]; exact restG_no HD.out hkp HJb.out (by rw [HRule.out]; show x ≠ -1 - x2; omega))
                go_quiet (fail)
                go_wp2
                ((try simp only [Exit.inBlock, Exit.then]); refine bodyPost_ret (results4_tmp rfl _ _ _) rfl ?_)
                exact treeP_no HF.out (below_next HB1.out (pw_below_drewN HM7.out.bel _))
    · have hkr : k = rs.length := by omega
      by_cases hd : 0 < k ∧ O.length = 0
      · have HF : Hid (res = some ⟨pl, T, K, m0⟩) := Lib.hid (by rw [← HO.out.res, restG_end (by omega), if_pos hd])
        obtain ⟨A6, c6, e6⟩ := Kd.R_slice HO.out.mem.op
        rw [frs_length, hd.2] at e6
        subst e6
        have hrp : 0 < rs.length := by omega
        have hrI : decide ((rs.length : Int) > 0) = true := decide_eq_true (by omega)
        have hrN : decide (0 < rs.length) = true := decide_eq_true hrp
        clear hd hkr
        go_wp2
        ((try simp only [Exit.inBlock, Exit.then]); refine bodyPost_ret (results4_tmp rfl _ _ _) rfl ?_)
        exact treeP_yes HF.out (below_next HB1.out HO.out.mem.bel) (Kd.R_lower HO.out.mem.tr HB1.out.size) (Kd.R_lower HO.out.mem.tk HB1.out.size)
      · have HF : Hid (res = none) := Lib.hid (by rw [← HO.out.res, restG_end (by omega), if_neg hd])
        obtain ⟨A6, c6, e6⟩ := Kd.R_slice HO.out.mem.op
        rw [frs_length] at e6
        obtain ⟨n6, hn6⟩ : ∃ n, O.length = n := ⟨_, rfl⟩
        rw [hn6] at e6 hd
        subst e6
        by_cases hrp : 0 < rs.length
        · have hrI : decide ((rs.length : Int) > 0) = true := decide_eq_true (by omega)
          have hrN : decide (0 < rs.length) = true := decide_eq_true hrp
          have hnI : ((n6 : Int) == 0) = false := by rw [beq_eq_false_iff_ne]; omega
          clear hd hkr
          go_wp2
          ((try simp only [Exit.inBlock, Exit.then]); refine bodyPost_ret (results4_tmp rfl _ _ _) rfl ?_)
          exact treeP_no HF.out (below_next HB1.out HO.out.mem.bel)
        · have hrI : decide ((rs.length : Int) > 0) = false := decide_eq_false (by omega)
          have hrN : decide (0 < rs.length) = false := decide_eq_false hrp
          clear hd hkr
          go_wp2
          ((try simp only [Exit.inBlock, Exit.then]); refine bodyPost_ret (results4_tmp rfl _ _ _) rfl ?_)
          exact treeP_no HF.out (below_next HB1.out HO.out.mem.bel)
end Go.Proofs.YtcjcffcbfkimdaaDoor.Hand
/- Contracts: the tree of a nonterminal with rules (deriv.Grow, its document's Grow). -/
namespace Go.Proofs.YtcjcffcbfkimdaaDoor.Hand
open Go.RowKit Go.Proofs.YtcjcffcbfkimdaaDoorW.PrintWords Go.Proofs.YtcjcffcbfkimdaaDoorW.PrintMore Go.Proofs.YtcjcffcbfkimdaaDoor.Math

/-- What is wrong with a tree to be grown. -/
noncomputable def growE (g : Gr) (nt : Int) (rs : List Int) : Nat × Int :=
  if (dmayN g rs.length).1 ≠ 0 then dmayN g rs.length
  else if nt < 0 ∨ (g.nonterms.length : Int) ≤ nt then (1, -1)
  else match grownD g rs false nt 0 with
    | none => (11, -1)
    | some d => if 65536 < d.tokens.length then (12, -1) else (0, -1)
theorem growE_ge (g : Gr) (nt : Int) (rs : List Int) : -1 ≤ (growE g nt rs).2 := by
  unfold growE
  split
  · exact dmayN_ge _ _
  · split
    · exact Int.le_refl _
    · split
      · exact Int.le_refl _
      · split <;> exact Int.le_refl _
/-- The tree, or none. -/
noncomputable def growL (g : Gr) (nt : Int) (rs : List Int) : List (Int × Int × Int) :=
  if (growE g nt rs).1 = 0 then (match grownD g rs false nt 0 with | none => [] | some d => d.tree) else []
theorem growL_no {g : Gr} {nt : Int} {rs : List Int} (h : (growE g nt rs).1 ≠ 0) : growL g nt rs = [] := by unfold growL; rw [if_neg h]
/-- What Grow leaves. -/
def GrowP (w : World) (g : Gr) (nt : Int) (rs : List Int) (A : Nat → Addr) (e : Ending) (w' : World) : Prop :=
  ∃ v u, e = .returned (.tuple #[v, u]) ∧ KStep.R 55 w' w.heap.size (fun _ => True) v (growL g nt rs) ∧ ErrV w' A u (growE g nt rs).1 (growE g nt rs).2 ∧ Below w.heap.size w w'
theorem growP_no {w w' : World} {g : Gr} {nt : Int} {rs : List Int} {A : Nat → Addr} {u : Value} {k : Nat} {r : Int} (h : growE g nt rs = (k, r)) (hk : k ≠ 0) (hu : ErrV w' A u k r) (hb : Below w.heap.size w w') : GrowP w g nt rs A (.returned (.tuple #[.slice none 0 0, u])) w' :=
  ⟨_, u, rfl, by rw [growL_no (by rw [h]; exact hk)]; exact Kd.R_nil _ _ _ _ _, by rw [h]; exact hu, hb⟩
set_option maxHeartbeats 4000000 in
set_option maxRecDepth 20000 in
theorem grow_calls (v : Value) (g : Gr) (nt : Int) (Ar : Option Addr) (cr : Nat) (rs : List Int) (w : World) (A : Nat → Addr) (hE : Errs w A) (hv : GramAt w v g) (hr : (Kd.int .i64).C w Ar rs.length rs) (hrc : rs.length ≤ cr) :
    Calls Tryd.prog 11 #[v, .int .i64 nt, .slice Ar rs.length cr] w (GrowP w g nt rs A) := by
  have HV := Lib.hid hv
  obtain ⟨AT, cT, AN, cN, AR, cR, rfl, q1, q2, q3, q4, q5, q6⟩ := hv
  have l1 := q4.2.1
  have l2 := q5.2.1
  have l3 := q6.2.1
  have l4 := hr.2.1
  obtain ⟨w1, hw1⟩ : ∃ w1, w.alloc (.cells #[.slice AT g.terms.length cT, .slice AN g.nonterms.length cN, .int .i64 g.ax, .slice AR g.rules.length cR] 25) = w1 := ⟨_, rfl⟩
  have hb1 : Below w.heap.size w w1 := by rw [← hw1]; exact below_alloc (Below.refl _ _) _
  have hk1 : w1.heap[w.heap.size]? = some (.cells #[.slice AT g.terms.length cT, .slice AN g.nonterms.length cN, .int .i64 g.ax, .slice AR g.rules.length cR] 25 (0, 0)) := by rw [← hw1]; exact heap_alloc_new w _
  obtain ⟨c0, c1, c2, c3⟩ := gr_blk hk1
  have HB1 := Lib.hid hb1
  have HK1 := Lib.hid hk1
  have HE := Lib.hid (hE.below hb1)
  have HC := Lib.hid (may_calls _ g rs.length w1 A (hE.below hb1) (HV.out.below hb1))
  have HR := Lib.hid (Kd.C_below q6 hb1)
  have HRs := Lib.hid (Kd.C_below hr hb1)
  have HEr : Hid (∀ i, i < 15 → ∀ W, Below w1.heap.size w1 W → W.cell? ⟨GE.getD i 0, 0, none⟩ = some (.iface 175 (.pointer (some (A i))))) := Lib.hid (fun i hi W hb => (HE.out.below hb).cells i hi)
  clear hb1 hk1 hE q4 q5 q6 hr
  by_cases h0 : (dmayN g rs.length).1 = 0
  · have hm := dmayN_zero h0
    rw [hm.eq] at HC
    have HM := Lib.hid hm
    have h131 := hm.len
    clear hm
    have hgE : growE g nt rs = if nt < 0 ∨ (g.nonterms.length : Int) ≤ nt then (1, -1) else match grownD g rs false nt 0 with | none => (11, -1) | some d => if 65536 < d.tokens.length then (12, -1) else (0, -1) := by unfold growE; rw [if_neg (by simp [h0])]
    by_cases h1 : nt < 0 ∨ (g.nonterms.length : Int) ≤ nt
    · have H : Hid (growE g nt rs = (1, -1)) := Lib.hid (by rw [hgE, if_pos h1])
      clear hgE h0
      by_cases hn : nt < 0
      · go_enter Tryd.func11, Tryd.ntmps11
        go_wp2_with (go_at_call 34; refine HC.out.mono ?_; rintro e w2 ⟨u, rfl, hu, hb2⟩; obtain rfl : u = .nilIface := (by cases hu; rfl); have HB2 := Lib.hid hb2; clear hb2 hu; have c3 := (gr_blk (blk_below HK1.out HB2.out)).2.1)
        have e0 : w2.cell? ⟨0, 0, none⟩ = some (.iface 175 (.pointer (some (A 0)))) := HEr.out 0 (by omega) _ HB2.out
        go_quiet (fail)
        go_wp2
        go_ret2
        exact growP_no H.out (by decide) (.sent 0 (by omega)) (below_next HB1.out (pw_below_drewN HB2.out _))
      · have hn2 : (g.nonterms.length : Int) ≤ nt := by rcases h1 with h | h; exact absurd h hn; exact h
        clear h1
        go_enter Tryd.func11, Tryd.ntmps11
        go_wp2_with (go_at_call 34; refine HC.out.mono ?_; rintro e w2 ⟨u, rfl, hu, hb2⟩; obtain rfl : u = .nilIface := (by cases hu; rfl); have HB2 := Lib.hid hb2; clear hb2 hu; have c3 := (gr_blk (blk_below HK1.out HB2.out)).2.1)
        have e0 : w2.cell? ⟨0, 0, none⟩ = some (.iface 175 (.pointer (some (A 0)))) := HEr.out 0 (by omega) _ HB2.out
        go_quiet (fail)
        go_wp2
        go_ret2
        exact growP_no H.out (by decide) (.sent 0 (by omega)) (below_next HB1.out (pw_below_drewN HB2.out _))
    · have hn : ¬ nt < 0 := fun h => h1 (.inl h)
      have hn2 : ¬ (g.nonterms.length : Int) ≤ nt := fun h => h1 (.inr h)
      rw [if_neg h1] at hgE
      obtain ⟨res, hres⟩ : ∃ r, grownD g rs false nt 0 = r := ⟨_, rfl⟩
      rw [hres] at hgE
      have HgE := Lib.hid hgE
      have HRes := Lib.hid hres
      have HWk : Hid (∀ W, Below w1.heap.size w1 W → Calls Tryd.prog 35 #[.agg #[.slice AT g.terms.length cT, .slice AN g.nonterms.length cN, .int .i64 g.ax, .slice AR g.rules.length cR], .slice Ar rs.length cr, .int .i64 nt, .int .i64 0, .bool false] W
          (WalkP W (.slice AT g.terms.length cT) (.slice AN g.nonterms.length cN) (.slice AR g.rules.length cR) g.ax (.slice Ar rs.length cr) A res)) := Lib.hid (fun W hW => by
        have := walk_calls g AT AN AR Ar cT cN cR cr rs A false nt 0 W (HM.out.walk (HE.out.below hW) (Kd.C_below HR.out hW) (Kd.C_below HRs.out hW) (by omega)) hrc
        rw [← hres]
        exact this)
      clear hgE hres h0 h1
      cases res with
      | none =>
        have H : Hid (growE g nt rs = (11, -1)) := Lib.hid HgE.out
        go_enter Tryd.func11, Tryd.ntmps11
        go_wp2_with (first
          | (go_at_call 35; refine (HWk.out w2 HB2.out).mono ?_; rintro e w3 ⟨v3, rfl, hb3⟩; have HB3 := Lib.hid (below_next HB2.out hb3); clear hb3)
          | (go_at_call 34; refine HC.out.mono ?_; rintro e w2 ⟨u, rfl, hu, hb2⟩; obtain rfl : u = .nilIface := (by cases hu; rfl); have HB2 := Lib.hid hb2; clear hb2 hu; obtain ⟨d0, d1, d2, d3⟩ := gr_blk (blk_below HK1.out HB2.out)))
        go_ret2
        exact growP_no H.out (by decide) (.sent 10 (by omega)) (below_next HB1.out HB3.out)
      | some d =>
        by_cases ht : 65536 < d.tokens.length
        · have H : Hid (growE g nt rs = (12, -1)) := Lib.hid (by rw [HgE.out]; simp only; rw [if_pos ht])
          go_enter Tryd.func11, Tryd.ntmps11
          go_wp2_with (first
            | (go_at_call 35; refine (HWk.out w2 HB2.out).mono ?_; rintro e w3 ⟨b3, i3, vt3, vk3, rfl, h3⟩; obtain ⟨A8, c8, e8⟩ := Kd.R_slice h3.tk; subst e8; have H3 := Lib.hid h3; have k8 : w3.cell? ⟨b3, 8, none⟩ = some (.slice A8 d.tokens.length c8) := h3.c8 rfl; have e11 : w3.cell? ⟨1, 0, none⟩ = some (.iface 175 (.pointer (some (A 11)))) := HEr.out 11 (by omega) _ (below_next HB2.out h3.bel); clear h3)
            | (go_at_call 34; refine HC.out.mono ?_; rintro e w2 ⟨u, rfl, hu, hb2⟩; obtain rfl : u = .nilIface := (by cases hu; rfl); have HB2 := Lib.hid hb2; clear hb2 hu; obtain ⟨d0, d1, d2, d3⟩ := gr_blk (blk_below HK1.out HB2.out)))
          all_goals (try (go_quiet (fail)))
          go_wp2
          go_ret2
          exact growP_no H.out (by decide) (.sent 11 (by omega)) (below_next HB1.out (by first | exact pw_below_drewN (below_next HB2.out H3.out.bel) _ | exact below_next HB2.out H3.out.bel))
        · have H : Hid (growE g nt rs = (0, -1)) := Lib.hid (by rw [HgE.out]; simp only; rw [if_neg ht])
          have HL : Hid (growL g nt rs = d.tree) := Lib.hid (by unfold growL; rw [H.out, if_pos rfl, HRes.out])
          go_enter Tryd.func11, Tryd.ntmps11
          go_wp2_with (first
            | (go_at_call 35; refine (HWk.out w2 HB2.out).mono ?_; rintro e w3 ⟨b3, i3, vt3, vk3, rfl, h3⟩; obtain ⟨A8, c8, e8⟩ := Kd.R_slice h3.tk; obtain ⟨A7, c7, e7⟩ := Kd.R_slice h3.tr; obtain ⟨n7, hn7⟩ : ∃ n, d.tree.length = n := ⟨_, rfl⟩; rw [hn7] at e7; subst e8; subst e7; have H3 := Lib.hid h3; have k8 : w3.cell? ⟨b3, 8, none⟩ = some (.slice A8 d.tokens.length c8) := h3.c8 rfl; have k7 : w3.cell? ⟨b3, 7, none⟩ = some (.slice A7 n7 c7) := h3.c7 rfl; clear h3 hn7)
            | (go_at_call 34; refine HC.out.mono ?_; rintro e w2 ⟨u, rfl, hu, hb2⟩; obtain rfl : u = .nilIface := (by cases hu; rfl); have HB2 := Lib.hid hb2; clear hb2 hu; obtain ⟨d0, d1, d2, d3⟩ := gr_blk (blk_below HK1.out HB2.out)))
          go_ret2
          exact ⟨_, _, rfl, by rw [HL.out]; exact Kd.R_lower (Kd.R_mono H3.out.tr (fun _ _ => trivial)) (by have := HB1.out.size; have := HB2.out.size; omega), by rw [H.out]; exact .none, below_next HB1.out (below_next HB2.out H3.out.bel)⟩
  · have H : Hid (growE g nt rs = dmayN g rs.length) := Lib.hid (by unfold growE; rw [if_pos h0])
    have HN := Lib.hid h0
    clear h0
    go_enter Tryd.func11, Tryd.ntmps11
    go_wp2_with (go_at_call 34; refine HC.out.mono ?_; rintro e w2 ⟨u, rfl, hu, hb2⟩; have HB2 := Lib.hid hb2; have HU := Lib.hid hu; obtain ⟨tt, x, rfl⟩ : ∃ t x, u = .iface t x := (by rcases hu.nil_iff with ⟨h, _⟩ | ⟨_, t, x, h⟩; exact absurd h HN.out; exact ⟨t, x, h⟩); clear hb2 hu)
    go_ret2
    exact growP_no H.out HN.out HU.out (below_next HB1.out HB2.out)
set_option maxHeartbeats 4000000 in
set_option maxRecDepth 20000 in
theorem rgrow_calls (v : Value) (g : Gr) (nt : Int) (Ar : Option Addr) (cr : Nat) (rs : List Int) (w : World) (A : Nat → Addr) (hE : Errs w A) (hv : GramAt w v g) (hr : (Kd.int .i64).C w Ar rs.length rs) (hrc : rs.length ≤ cr) :
    Calls Tryd.prog 12 #[v, .int .i64 nt, .slice Ar rs.length cr] w fun e w' => ∃ v, e = .returned (.tuple #[v, .int .i64 ((growE g nt rs).1 : Nat), .int .i64 (growE g nt rs).2]) ∧ KStep.R 55 w' w.heap.size (fun _ => True) v (growL g nt rs) ∧ Below w.heap.size w w' := by
  have HV := Lib.hid hv
  obtain ⟨AT, cT, AN, cN, AR, cR, rfl, q1, q2, q3, q4, q5, q6⟩ := hv
  have l1 := q4.2.1
  have l2 := q5.2.1
  have l3 := q6.2.1
  have l4 := hr.2.1
  obtain ⟨w1, hw1⟩ : ∃ w1, w.alloc (.cells #[.slice AT g.terms.length cT, .slice AN g.nonterms.length cN, .int .i64 g.ax, .slice AR g.rules.length cR] 25) = w1 := ⟨_, rfl⟩
  have hb1 : Below w.heap.size w w1 := by rw [← hw1]; exact below_alloc (Below.refl _ _) _
  have hk1 : w1.heap[w.heap.size]? = some (.cells #[.slice AT g.terms.length cT, .slice AN g.nonterms.length cN, .int .i64 g.ax, .slice AR g.rules.length cR] 25 (0, 0)) := by rw [← hw1]; exact heap_alloc_new w _
  obtain ⟨c0, c1, c2, c3⟩ := gr_blk hk1
  have HB1 := Lib.hid hb1
  have HK1 := Lib.hid hk1
  have HE := Lib.hid (hE.below hb1)
  have HC := Lib.hid (rmay_calls _ g rs.length w1 (HV.out.below hb1))
  have HR := Lib.hid (Kd.C_below q6 hb1)
  have HRs := Lib.hid (Kd.C_below hr hb1)
  clear hb1 hk1 hE q4 q5 q6 hr
  have fin : ∀ (W : World) (k : Nat) (r : Int), growE g nt rs = (k, r) → k ≠ 0 → Below w.heap.size w W → ∃ v, Ending.returned (.tuple #[.slice none 0 0, .int .i64 (k : Nat), .int .i64 r]) = .returned (.tuple #[v, .int .i64 ((growE g nt rs).1 : Nat), .int .i64 (growE g nt rs).2]) ∧ KStep.R 55 W w.heap.size (fun _ => True) v (growL g nt rs) ∧ Below w.heap.size w W := fun W k r h hk hb =>
    ⟨_, by rw [h], by rw [growL_no (by rw [h]; exact hk)]; exact Kd.R_nil _ _ _ _ _, hb⟩
  have FIN := Lib.hid fin
  clear fin
  by_cases h0 : (dmayN g rs.length).1 = 0
  · have hm := dmayN_zero h0
    rw [hm.eq] at HC
    have HM := Lib.hid hm
    have h131 := hm.len
    clear hm
    have hgE : growE g nt rs = if nt < 0 ∨ (g.nonterms.length : Int) ≤ nt then (1, -1) else match grownD g rs false nt 0 with | none => (11, -1) | some d => if 65536 < d.tokens.length then (12, -1) else (0, -1) := by unfold growE; rw [if_neg (by simp [h0])]
    by_cases h1 : nt < 0 ∨ (g.nonterms.length : Int) ≤ nt
    · have H : Hid (growE g nt rs = (1, -1)) := Lib.hid (by rw [hgE, if_pos h1])
      clear hgE h0
      by_cases hn : nt < 0
      · go_enter Tryd.func12, Tryd.ntmps12
        go_wp2_with (go_at_call 36; refine HC.out.mono ?_; rintro e w2 ⟨rfl, hb2⟩; have HB2 := Lib.hid hb2; clear hb2; have c3 := (gr_blk (blk_below HK1.out HB2.out)).2.1)
        go_ret3
        exact FIN.out _ 1 (-1) H.out (by decide) (below_next HB1.out HB2.out)
      · have hn2 : (g.nonterms.length : Int) ≤ nt := by rcases h1 with h | h; exact absurd h hn; exact h
        clear h1
        go_enter Tryd.func12, Tryd.ntmps12
        go_wp2_with (go_at_call 36; refine HC.out.mono ?_; rintro e w2 ⟨rfl, hb2⟩; have HB2 := Lib.hid hb2; clear hb2; have c3 := (gr_blk (blk_below HK1.out HB2.out)).2.1)
        go_ret3
        exact FIN.out _ 1 (-1) H.out (by decide) (below_next HB1.out HB2.out)
    · have hn : ¬ nt < 0 := fun h => h1 (.inl h)
      have hn2 : ¬ (g.nonterms.length : Int) ≤ nt := fun h => h1 (.inr h)
      rw [if_neg h1] at hgE
      obtain ⟨res, hres⟩ : ∃ r, grownD g rs false nt 0 = r := ⟨_, rfl⟩
      rw [hres] at hgE
      have HgE := Lib.hid hgE
      have HRes := Lib.hid hres
      have HWk : Hid (∀ W, Below w1.heap.size w1 W → Calls Tryd.prog 37 #[.agg #[.slice AT g.terms.length cT, .slice AN g.nonterms.length cN, .int .i64 g.ax, .slice AR g.rules.length cR], .slice Ar rs.length cr, .int .i64 nt, .int .i64 0] W (TreeP W res)) := Lib.hid (fun W hW => by
        have := rtree_calls g AT AN AR Ar cT cN cR cr rs false nt 0 nt (.inr ⟨by omega, rfl, rfl⟩) W A (HM.out.walk (HE.out.below hW) (Kd.C_below HR.out hW) (Kd.C_below HRs.out hW) (by omega)) (fun r hr => HM.out.lefts r hr) hrc
        rw [← hres]
        exact this)
      clear hgE hres h0 h1
      cases res with
      | none =>
        have H : Hid (growE g nt rs = (11, -1)) := Lib.hid HgE.out
        go_enter Tryd.func12, Tryd.ntmps12
        go_wp2_with (first
          | (go_at_call 37; refine (HWk.out w2 HB2.out).mono ?_; rintro e w3 ⟨v1, v2, dp, ok, rfl, hb3, hno, -⟩; obtain rfl := hno rfl; have HB3 := Lib.hid (below_next HB2.out hb3); clear hb3 hno)
          | (go_at_call 36; refine HC.out.mono ?_; rintro e w2 ⟨rfl, hb2⟩; have HB2 := Lib.hid hb2; clear hb2; obtain ⟨d0, d1, d2, d3⟩ := gr_blk (blk_below HK1.out HB2.out)))
        go_ret3
        exact FIN.out _ 11 (-1) H.out (by decide) (below_next HB1.out HB3.out)
      | some d =>
        by_cases ht : 65536 < d.tokens.length
        · have H : Hid (growE g nt rs = (12, -1)) := Lib.hid (by rw [HgE.out]; simp only; rw [if_pos ht])
          go_enter Tryd.func12, Tryd.ntmps12
          go_wp2_with (first
            | (go_at_call 37; refine (HWk.out w2 HB2.out).mono ?_; rintro e w3 ⟨v1, v2, dp, ok, rfl, hb3, -, hyes⟩; obtain ⟨rfl, hy1, hy2, rfl⟩ := hyes d rfl; obtain ⟨A8, c8, e8⟩ := Kd.R_slice hy2; subst e8; have HB3 := Lib.hid (below_next HB2.out hb3); clear hb3 hyes hy1 hy2)
            | (go_at_call 36; refine HC.out.mono ?_; rintro e w2 ⟨rfl, hb2⟩; have HB2 := Lib.hid hb2; clear hb2; obtain ⟨d0, d1, d2, d3⟩ := gr_blk (blk_below HK1.out HB2.out)))
          go_ret3
          exact FIN.out _ 12 (-1) H.out (by decide) (below_next HB1.out HB3.out)
        · have H : Hid (growE g nt rs = (0, -1)) := Lib.hid (by rw [HgE.out]; simp only; rw [if_neg ht])
          have HL : Hid (growL g nt rs = d.tree) := Lib.hid (by unfold growL; rw [H.out, if_pos rfl, HRes.out])
          go_enter Tryd.func12, Tryd.ntmps12
          go_wp2_with (first
            | (go_at_call 37; refine (HWk.out w2 HB2.out).mono ?_; rintro e w3 ⟨v1, v2, dp, ok, rfl, hb3, -, hyes⟩; obtain ⟨rfl, hy1, hy2, rfl⟩ := hyes d rfl; obtain ⟨A8, c8, e8⟩ := Kd.R_slice hy2; subst e8; have HB3 := Lib.hid (below_next HB2.out hb3); have HY1 := Lib.hid (Kd.R_lower hy1 (by have := HB1.out.size; have := HB2.out.size; omega : w.heap.size ≤ w2.heap.size)); clear hb3 hyes hy1 hy2)
            | (go_at_call 36; refine HC.out.mono ?_; rintro e w2 ⟨rfl, hb2⟩; have HB2 := Lib.hid hb2; clear hb2; obtain ⟨d0, d1, d2, d3⟩ := gr_blk (blk_below HK1.out HB2.out)))
          go_ret3
          exact ⟨_, by rw [H.out]; rfl, by rw [HL.out]; exact HY1.out, below_next HB1.out HB3.out⟩
  · have H : Hid (growE g nt rs = dmayN g rs.length) := Lib.hid (by unfold growE; rw [if_pos h0])
    have h0I : (((dmayN g rs.length).1 : Int) == 0) = false := by rw [beq_eq_false_iff_ne]; omega
    have HN := Lib.hid h0
    clear h0
    go_enter Tryd.func12, Tryd.ntmps12
    go_wp2_with (go_at_call 36; refine HC.out.mono ?_; rintro e w2 ⟨rfl, hb2⟩; have HB2 := Lib.hid hb2; clear hb2)
    go_ret3
    exact FIN.out _ _ _ H.out HN.out (below_next HB1.out HB2.out)
end Go.Proofs.YtcjcffcbfkimdaaDoor.Hand
/- Contracts: the document's Known (dovetailref18); deriv.Frontier, Rules, Depth. -/
namespace Go.Proofs.YtcjcffcbfkimdaaDoor.Hand
open Go.RowKit Go.Proofs.YtcjcffcbfkimdaaDoorW.PrintWords Go.Proofs.YtcjcffcbfkimdaaDoorW.PrintMore Go.Proofs.YtcjcffcbfkimdaaDoor.Math

/-- A known tree's tokens, rules, depth; of none: nothing. -/
noncomputable def knownD (g : Gr) (t : List (Int × Int × Int)) : List Int × List Int × Nat :=
  if (knownE g t).1 = 0 then (match treeD g t with | some d => (d.tokens, t.map (·.1), d.depth) | none => ([], [], 0)) else ([], [], 0)
theorem knownD_no {g : Gr} {t : List (Int × Int × Int)} (h : (knownE g t).1 ≠ 0) : knownD g t = ([], [], 0) := by unfold knownD; rw [if_neg h]
theorem knownD_yes {g : Gr} {t : List (Int × Int × Int)} {d : DS} (h : knownE g t = (0, -1)) (hd : treeD g t = some d) : knownD g t = (d.tokens, t.map (·.1), d.depth) := by unfold knownD; rw [h, if_pos rfl, hd]
/-- What the document's Known answers. -/
def RKnownP (w : World) (g : Gr) (t : List (Int × Int × Int)) (e : Ending) (w' : World) : Prop :=
  ∃ v1 v2, e = .returned (.tuple #[v1, v2, .int .i64 ((knownD g t).2.2 : Nat), .int .i64 ((knownE g t).1 : Nat), .int .i64 (knownE g t).2]) ∧ (Kd.int .i64).R 3 w' w.heap.size (fun _ => True) v1 (knownD g t).1 ∧ (Kd.int .i64).R 3 w' w.heap.size (fun _ => True) v2 (knownD g t).2.1 ∧ Below w.heap.size w w'
theorem rknownP_no {w w' : World} {g : Gr} {t : List (Int × Int × Int)} {k : Nat} {r : Int} (h : knownE g t = (k, r)) (hk : k ≠ 0) (hb : Below w.heap.size w w') : RKnownP w g t (.returned (.tuple #[.slice none 0 0, .slice none 0 0, .int .i64 0, .int .i64 (k : Nat), .int .i64 r])) w' := by
  have hd := knownD_no (g := g) (t := t) (by rw [h]; exact hk)
  exact ⟨_, _, by rw [hd, h]; rfl, by rw [hd]; exact Kd.R_nil _ _ _ _ _, by rw [hd]; exact Kd.R_nil _ _ _ _ _, hb⟩
set_option maxHeartbeats 4000000 in
set_option maxRecDepth 20000 in
theorem rknown_calls (v : Value) (g : Gr) (tA : Option Addr) (tc : Nat) (t : List (Int × Int × Int)) (w : World) (A : Nat → Addr) (hE : Errs w A) (hv : GramAt w v g) (ht : KStep.C w tA t.length t) (htc : t.length ≤ tc) :
    Calls Tryd.prog 23 #[v, .slice tA t.length tc] w (RKnownP w g t) := by
  have HV := Lib.hid hv
  obtain ⟨AT, cT, AN, cN, AR, cR, rfl, q1, q2, q3, q4, q5, q6⟩ := hv
  have l1 := q4.2.1
  have l2 := q5.2.1
  have l3 := q6.2.1
  have l4 := ht.2.1
  obtain ⟨w1, hw1⟩ : ∃ w1, w.alloc (.cells #[.slice AT g.terms.length cT, .slice AN g.nonterms.length cN, .int .i64 g.ax, .slice AR g.rules.length cR] 25) = w1 := ⟨_, rfl⟩
  have hb1 : Below w.heap.size w w1 := by rw [← hw1]; exact below_alloc (Below.refl _ _) _
  have hk1 : w1.heap[w.heap.size]? = some (.cells #[.slice AT g.terms.length cT, .slice AN g.nonterms.length cN, .int .i64 g.ax, .slice AR g.rules.length cR] 25 (0, 0)) := by rw [← hw1]; exact heap_alloc_new w _
  obtain ⟨c0, c1, c2, c3⟩ := gr_blk hk1
  have HB1 := Lib.hid hb1
  have HK1 := Lib.hid hk1
  have HE := Lib.hid (hE.below hb1)
  have HC := Lib.hid (rmay_calls _ g t.length w1 (HV.out.below hb1))
  have HT := Lib.hid (Kd.C_below ht hb1)
  have HR := Lib.hid (Kd.C_below q6 hb1)
  clear hb1 hk1 hE q4 q5 q6 ht
  by_cases h0 : (dmayN g t.length).1 = 0
  · have hm := dmayN_zero h0
    rw [hm.eq] at HC
    have HM := Lib.hid hm
    have h131 := hm.len
    clear hm
    by_cases h1 : t = [] ∨ (t.getD 0 (0, 0, 0)).2.1 < 0 ∨ (t.getD 0 (0, 0, 0)).2.2 < (t.getD 0 (0, 0, 0)).2.1
    · have H : Hid (knownE g t = (11, -1)) := Lib.hid (by unfold knownE; rw [if_neg (by simp [h0]), if_pos h1])
      by_cases hnil : t = []
      · subst hnil
        clear h1 h0
        go_enter Tryd.func23, Tryd.ntmps23
        go_upto_region 4 with (go_at_call 36; refine HC.out.mono ?_; rintro e w2 ⟨rfl, hb2⟩; have HB2 := Lib.hid hb2; clear hb2)
        go_quiet (fail)
        go_wp2
        ((try simp only [Exit.inBlock, Exit.then]); refine bodyPost_ret (results5_tmp rfl _ _ _) rfl ?_)
        exact rknownP_no H.out (by decide) (below_next HB1.out (pw_below_drewN HB2.out _))
      · have hpos : 0 < t.length := List.length_pos_iff.2 hnil
        obtain ⟨ta, x0, y0, z0, rfl, k0, k1, k2, HX⟩ := at_step HT.out 0 hpos
        rw [HX.out] at h1
        simp only [Nat.zero_mul, addr_zero] at k0 k1 k2
        have hl0 : ((t.length : Int) == 0) = false := by rw [beq_eq_false_iff_ne]; omega
        by_cases hy : y0 < 0
        · have hy0 : decide (y0 < 0) = true := decide_eq_true hy
          clear h0 h1 hnil k0
          go_enter Tryd.func23, Tryd.ntmps23
          go_upto_region 4 with (go_at_call 36; refine HC.out.mono ?_; rintro e w2 ⟨rfl, hb2⟩; have HB2 := Lib.hid hb2; clear hb2; have j1 := (HB2.out.cell (World.block_lt_of_cell? _ _ k1)).trans k1; have j2 := (HB2.out.cell (World.block_lt_of_cell? _ _ k2)).trans k2)
          go_quiet (fail)
          go_wp2
          ((try simp only [Exit.inBlock, Exit.then]); refine bodyPost_ret (results5_tmp rfl _ _ _) rfl ?_)
          exact rknownP_no H.out (by decide) (below_next HB1.out (pw_below_drewN HB2.out _))
        · have hz : z0 < y0 := by rcases h1 with h | h | h; exact absurd h hnil; exact absurd h hy; exact h
          have hy0 : decide (y0 < 0) = false := decide_eq_false hy
          have hz0 : decide (z0 < y0) = true := decide_eq_true hz
          clear h0 h1 hnil k0
          go_enter Tryd.func23, Tryd.ntmps23
          go_upto_region 4 with (go_at_call 36; refine HC.out.mono ?_; rintro e w2 ⟨rfl, hb2⟩; have HB2 := Lib.hid hb2; clear hb2; have j1 := (HB2.out.cell (World.block_lt_of_cell? _ _ k1)).trans k1; have j2 := (HB2.out.cell (World.block_lt_of_cell? _ _ k2)).trans k2)
          go_quiet (fail)
          go_wp2
          ((try simp only [Exit.inBlock, Exit.then]); refine bodyPost_ret (results5_tmp rfl _ _ _) rfl ?_)
          exact rknownP_no H.out (by decide) (below_next HB1.out (pw_below_drewN HB2.out _))
    · obtain ⟨hne, hp0, hp1⟩ : t ≠ [] ∧ ¬ (t.getD 0 (0, 0, 0)).2.1 < 0 ∧ ¬ (t.getD 0 (0, 0, 0)).2.2 < (t.getD 0 (0, 0, 0)).2.1 := ⟨fun h => h1 (.inl h), fun h => h1 (.inr (.inl h)), fun h => h1 (.inr (.inr h))⟩
      have hpos : 0 < t.length := List.length_pos_iff.2 hne
      have HK : Hid (knownE g t = match treeD g t with | none => (11, -1) | some d => if d.tree = t then (0, -1) else (11, -1)) := Lib.hid (by unfold knownE; rw [if_neg (by simp [h0]), if_neg h1]; rfl)
      obtain ⟨ta, x0, y0, z0, rfl, k0, k1, k2, HX⟩ := at_step HT.out 0 hpos
      rw [HX.out] at hp0 hp1
      simp only [Nat.zero_mul, addr_zero] at k0 k1 k2
      clear h0 h1 hne k0
      have hl0 : ((t.length : Int) == 0) = false := by rw [beq_eq_false_iff_ne]; omega
      have hy0 : decide (y0 < 0) = false := decide_eq_false hp0
      have hz0 : decide (z0 < y0) = false := decide_eq_false hp1
      go_enter Tryd.func23, Tryd.ntmps23
      go_upto_region 4 with (go_at_call 36; refine HC.out.mono ?_; rintro e w2 ⟨rfl, hb2⟩; have HB2 := Lib.hid hb2; clear hb2; have j1 := (HB2.out.cell (World.block_lt_of_cell? _ _ k1)).trans k1; have j2 := (HB2.out.cell (World.block_lt_of_cell? _ _ k2)).trans k2)
      go_quiet (fail)
      rename Nat => q1'
      obtain ⟨w3, hw3⟩ : ∃ w3, w2.drewN q1' = w3 := ⟨_, rfl⟩
      have hb3 : Below w1.heap.size w1 w3 := by rw [← hw3]; exact pw_below_drewN HB2.out _
      have HB3 := Lib.hid hb3
      rw [hw3]
      clear hw3 hb3 j1 j2 c0 c1 c2 c3 HC k1 k2
      go_wp2
      go_loopw [11, 12] (fun u i wr => ∃ (j : Nat), j ≤ t.length ∧ i = .int .i64 (j : Int) ∧ Hid (IRow w3 u ((t.take j).map (·.1)) wr)) (fun _ i _ => t.length - (intOf i).toNat)
      case atStart => exact ⟨0, by omega, rfl, Lib.hid ⟨by simpa using Kd.R_nil _ _ _ _ _, Below.refl _ _⟩⟩
      case round =>
        obtain ⟨j, hj, rfl, HI⟩ := hrel
        obtain ⟨w4, rfl⟩ : ∃ wo : World, wo = wr := ⟨_, rfl⟩
        obtain ⟨Au, cu, eu⟩ := Kd.R_slice HI.out.own
        obtain ⟨nu, hnu⟩ : ∃ n, ((t.take j).map (·.1)).length = n := ⟨_, rfl⟩
        rw [hnu] at eu
        subst eu
        have HNu := Lib.hid hnu
        clear hnu
        by_cases hlt : j < t.length
        · obtain ⟨tb, x, y, z, e, m0, m1, m2, HY⟩ := at_step (Kd.C_below HT.out (below_next HB3.out HI.out.bel)) j hlt
          obtain rfl := Option.some.inj e
          have HBd : Hid ((((t.take j).map (·.1)).length + 1) * 8 ≤ 140737488355328) := Lib.hid (by rw [List.length_map, List.length_take]; omega)
          go_wp2_with ((with_reducible refine gate_builtin (b := .append) (xs := #[.tmp 56, .tmp 62]) rfl ?_); at_builtin; go_loud (refine Kd.R_append (Kd.int .i64) (w0 := w3) w3.heap.size rfl (.tmp 56) (.tmp 62) 26 3 (.int .i64 0) 8 rfl Tryd.underlying26 infoInt rfl (by decide) (by omega) (.slice Au nu cu) ((t.take j).map (·.1)) x [.int .i64 x] (fun _ => True) (fun _ => False) rfl rfl rfl (fun _ hk => hk.elim) (fun _ _ => trivial) HI.out.own HI.out.bel HI.out.bel.size HBd.out ?_); intro v6 w6 ho hb hg hat; (have H6 : Hid (IRow w3 v6 ((t.take j).map (·.1) ++ [x]) w6) := Lib.hid ⟨ho, hb⟩; clear ho hb hg hat))
          go_roundw
          case rel => exact ⟨j + 1, by omega, by go_num, Lib.hid (by rw [take_snocD t j (0, 0, 0) hlt, HY.out, List.map_append]; exact H6.out)⟩
          case measure => simp [intOf]; omega
        · have hjt : (t.take j).map (·.1) = t.map (·.1) := by rw [List.take_of_length_le (by omega)]
          have hnu : nu = t.length := by rw [← HNu.out, hjt, List.length_map]
          subst hnu
          have hr6 := HI.out
          rw [hjt] at hr6
          have HR6 := Lib.hid hr6
          obtain ⟨hn6, hc6, hC6⟩ := Kd.R_reads' hr6.own
          have hlm : (t.map (·.1)).length = t.length := by simp
          have hB4 : Below w1.heap.size w1 w4 := below_next HB3.out hr6.bel
          have hWi : WkIn w4 g AR (t.map (·.1)) Au A := HM.out.walk (HE.out.below hB4) (Kd.C_below HR.out hB4) hC6 (by rw [hlm]; omega)
          have hS : ∀ W, Below w4.heap.size w4 W → W.cell? ⟨w.heap.size, 0, none⟩ = some (.slice AT g.terms.length cT) ∧ W.cell? ⟨w.heap.size, 1, none⟩ = some (.slice AN g.nonterms.length cN) ∧ W.cell? ⟨w.heap.size, 2, none⟩ = some (.int .i64 g.ax) ∧ W.cell? ⟨w.heap.size, 3, none⟩ = some (.slice AR g.rules.length cR) ∧ W.cell? ⟨ta.block, ta.off + 1, none⟩ = some (.int .i64 y0) := fun W hW => by
            have hb := below_next hB4 hW
            obtain ⟨b0, b1, b2, b3⟩ := gr_blk (blk_below HK1.out hb)
            refine ⟨b0, b1, b2, b3, ?_⟩
            obtain ⟨tb, x', y', z', e, m0, m1, m2, HY⟩ := at_step (Kd.C_below HT.out hb) 0 hpos
            obtain rfl := Option.some.inj e
            simp only [Nat.zero_mul, addr_zero] at m1
            rw [HX.out] at HY
            have e2 := HY.out
            simp only [Prod.mk.injEq] at e2
            rw [e2.2.1]
            exact m1
          have HS := Lib.hid hS
          obtain ⟨res, hres⟩ : ∃ r, treeD g t = r := ⟨_, rfl⟩
          rw [hres] at HK
          have hWk : ∀ W, Below w4.heap.size w4 W → Calls Tryd.prog 37 #[.agg #[.slice AT g.terms.length cT, .slice AN g.nonterms.length cN, .int .i64 g.ax, .slice AR g.rules.length cR], .slice Au t.length cu, .int .i64 (-1), .int .i64 y0] W (TreeP W res) := fun W hW => by
            have := rtree_calls g AT AN AR Au cT cN cR cu (t.map (·.1)) true 0 y0 (-1) (.inl ⟨by decide, rfl⟩) W A ⟨hWi.err.below hW, Kd.C_below hWi.rules hW, Kd.C_below hWi.row hW, hWi.len, hWi.short, hWi.syms, hWi.ne, hWi.few⟩ (fun r hr => HM.out.lefts r hr) (by rw [hlm]; exact hc6)
            rw [hlm] at this
            rw [← hres]
            unfold treeD grownD
            rw [HX.out]
            exact this
          have HWk := Lib.hid hWk
          have HB4 := Lib.hid hB4
          have HRes := Lib.hid hres
          obtain ⟨s0, s1, s2, s3, s4⟩ := hS w4 (Below.refl _ _)
          clear hjt hr6 hn6 hC6 hlm hB4 hWi hS hWk hres HI
          cases res with
          | none =>
            have HF : Hid (knownE g t = (11, -1)) := Lib.hid HK.out
            go_upto_region 11 with (fail)
            go_region_held3 (fun w' => w'.cell? ⟨w.heap.size, 0, none⟩ = some (.slice AT g.terms.length cT) ∧ w'.cell? ⟨w.heap.size, 1, none⟩ = some (.slice AN g.nonterms.length cN) ∧ w'.cell? ⟨w.heap.size, 2, none⟩ = some (.int .i64 g.ax) ∧ w'.cell? ⟨w.heap.size, 3, none⟩ = some (.slice AR g.rules.length cR) ∧ w'.cell? ⟨ta.block, ta.off + 1, none⟩ = some (.int .i64 y0))
              (first
                | exact D1.out
                | exact HS.out _ (below_drew (Below.refl _ _))
                | exact HS.out _ (Below.refl _ _))
              ((go_at_call 37; refine (HWk.out _ (by first | exact below_drew (Below.refl _ _) | exact Below.refl _ _)).mono ?_; rintro e w7 ⟨v1, v2, dp, ok, rfl, hb7, hno, -⟩; obtain rfl := hno rfl; have HB7 : Hid (Below w4.heap.size w4 w7) := Lib.hid (by first | exact below_next (below_drew (Below.refl _ _)) hb7 | exact below_next (Below.refl _ _) hb7); have D1 := Lib.hid (HS.out _ HB7.out); clear hb7 hno))
            go_wp2
            ((try simp only [Exit.inBlock, Exit.then]); refine bodyPost_ret (results5_tmp rfl _ _ _) rfl ?_)
            exact rknownP_no HF.out (by decide) (below_next HB1.out (below_next HB4.out HB7.out))
          | some d =>
            have hdl : d.tree.length = t.length := by
              have h := HRes.out
              unfold treeD grownD at h
              have := congrArg List.length (walk_rules h)
              simpa using this
            have HDl := Lib.hid hdl
            clear hdl
            go_upto_region 11 with (fail)
            go_region_held3 (fun w' => w'.cell? ⟨w.heap.size, 0, none⟩ = some (.slice AT g.terms.length cT) ∧ w'.cell? ⟨w.heap.size, 1, none⟩ = some (.slice AN g.nonterms.length cN) ∧ w'.cell? ⟨w.heap.size, 2, none⟩ = some (.int .i64 g.ax) ∧ w'.cell? ⟨w.heap.size, 3, none⟩ = some (.slice AR g.rules.length cR) ∧ w'.cell? ⟨ta.block, ta.off + 1, none⟩ = some (.int .i64 y0))
              (first
                | exact D1.out
                | exact HS.out _ (below_drew (Below.refl _ _))
                | exact HS.out _ (Below.refl _ _))
              ((go_at_call 37; refine (HWk.out _ (by first | exact below_drew (Below.refl _ _) | exact Below.refl _ _)).mono ?_; rintro e w7 ⟨v1, v2, dp, ok, rfl, hb7, -, hyes⟩; obtain ⟨rfl, hy1, hy2, rfl⟩ := hyes d rfl; have HB7 : Hid (Below w4.heap.size w4 w7) := Lib.hid (by first | exact below_next (below_drew (Below.refl _ _)) hb7 | exact below_next (Below.refl _ _) hb7); have HY1 := Lib.hid hy1; have HY2 := Lib.hid (Kd.R_lower hy2 (by have := HB1.out.size; have := HB4.out.size; first | omega | (rw [World.size_drew]; omega) : w.heap.size ≤ _)); have D1 := Lib.hid (HS.out _ HB7.out); clear hb7 hyes hy1 hy2))
            obtain ⟨A8, c8, e8⟩ := Kd.R_slice HY1.out
            rw [HDl.out] at e8
            subst e8
            have HC8 : Hid (KStep.C w7 A8 d.tree.length d.tree) := Lib.hid (by have := (Kd.R_reads' HY1.out).2.2; exact this)
            have HT7 := Lib.hid (Kd.C_below HT.out (below_next HB4.out HB7.out))
            have HB17 := Lib.hid (below_next HB1.out (below_next HB4.out HB7.out))
            have HR67 : Hid ((Kd.int .i64).R 3 w7 w.heap.size (fun _ => True) (.slice Au t.length cu) (t.map (·.1))) := Lib.hid (Kd.R_lower (Kd.R_below HR6.out.own HB7.out) (by have := HB1.out.size; have := HB3.out.size; omega))
            clear s0 s1 s2 s3 s4
            go_wp2
            go_loopw [17] (fun i wr => ∃ (j n : Nat), j ≤ t.length ∧ i = .int .i64 (j : Int) ∧ wr = w7.drewN n ∧ Hid (t.take j = d.tree.take j)) (fun i _ => t.length - (intOf i).toNat)
            case atStart => exact ⟨0, 0, by omega, rfl, rfl, Lib.hid (by simp)⟩
            case round =>
              obtain ⟨j, n, hj, rfl, rfl, HTk⟩ := hrel
              by_cases hlt : j < t.length
              · obtain ⟨tb, x, y, z, e, hx, hy, hz, HX⟩ := at_step HT7.out j hlt
                obtain rfl := Option.some.inj e
                have hltd : j < d.tree.length := by rw [HDl.out]; exact hlt
                obtain ⟨ad2, x2, y2, z2, rfl, hx2, hy2, hz2, HX2⟩ := at_step HC8.out j hltd
                by_cases e : (x, y, z) = (x2, y2, z2)
                · cases e
                  have HQe := fun (W : World) => eqnS x y z x y z W
                  rw [show (x == x && (y == y && z == z)) = true by simp] at HQe
                  go_wp2
                  go_quiet (fail)
                  go_wp2
                  go_roundw
                  case rel => exact ⟨j + 1, _, by omega, by go_num, rfl, Lib.hid (by rw [take_snocD t j (0, 0, 0) hlt, take_snocD d.tree j (0, 0, 0) hltd, HTk.out, HX.out, HX2.out])⟩
                  case measure => simp [intOf]; omega
                · have HF : Hid (knownE g t = (11, -1)) := Lib.hid (by rw [HK.out]; exact if_neg (fun h => e (by rw [← HX.out, ← HX2.out, h])))
                  have hcase : (x == x2 && (y == y2 && z == z2)) = false := by
                    rw [Bool.eq_false_iff]
                    intro h
                    simp at h
                    exact e (by rw [h.1, h.2.1, h.2.2])
                  have HQe := fun (W : World) => eqnS x y z x2 y2 z2 W
                  rw [hcase] at HQe
                  clear e hcase
                  go_wp2
                  go_quiet (fail)
                  go_wp2
                  ((try simp only [Exit.inBlock, Exit.then]); refine bodyPost_ret (results5_tmp rfl _ _ _) rfl ?_)
                  exact rknownP_no HF.out (by decide) (by first | exact pw_below_drewN HB17.out _ | exact pw_below_drewN (pw_below_drewN HB17.out _) _)
              · have hte : d.tree = t := by
                  have := HTk.out
                  rw [List.take_of_length_le (by omega), List.take_of_length_le (by rw [HDl.out]; omega)] at this
                  exact this.symm
                have HF : Hid (knownE g t = (0, -1)) := Lib.hid (by rw [HK.out]; exact if_pos hte)
                have HD : Hid (knownD g t = (d.tokens, t.map (·.1), d.depth)) := Lib.hid (knownD_yes HF.out HRes.out)
                clear hte
                go_wp2
                ((try simp only [Exit.inBlock, Exit.then]); refine bodyPost_ret (results5_tmp rfl _ _ _) rfl ?_)
                exact ⟨_, _, by rw [HD.out, HF.out]; rfl, by rw [HD.out]; exact Kd.R_drewN HY2.out _, by rw [HD.out]; exact Kd.R_drewN HR67.out _, pw_below_drewN HB17.out _⟩
  · have H : Hid (knownE g t = dmayN g t.length) := Lib.hid (by unfold knownE; rw [if_pos h0])
    have HN := Lib.hid h0
    have h0I : (((dmayN g t.length).1 : Int) == 0) = false := by rw [beq_eq_false_iff_ne]; omega
    clear h0
    go_enter Tryd.func23, Tryd.ntmps23
    go_wp2_with (go_at_call 36; refine HC.out.mono ?_; rintro e w2 ⟨rfl, hb2⟩; have HB2 := Lib.hid hb2; clear hb2)
    ((try simp only [Exit.inBlock, Exit.then]); refine bodyPost_ret (results5_tmp rfl _ _ _) rfl ?_)
    exact rknownP_no H.out HN.out (below_next HB1.out HB2.out)
set_option maxHeartbeats 2000000 in
theorem frontier_calls (v : Value) (g : Gr) (tA : Option Addr) (tc : Nat) (t : List (Int × Int × Int)) (w : World) (A : Nat → Addr) (hE : Errs w A) (hv : GramAt w v g) (ht : KStep.C w tA t.length t) (htc : t.length ≤ tc) :
    Calls Tryd.prog 20 #[v, .slice tA t.length tc] w fun e w' => ∃ v1 u, e = .returned (.tuple #[v1, u]) ∧ (Kd.int .i64).R 3 w' w.heap.size (fun _ => True) v1 (knownD g t).1 ∧ ErrV w' A u (knownE g t).1 (knownE g t).2 ∧ Below w.heap.size w w' := by
  have HV := Lib.hid hv
  obtain ⟨AT, cT, AN, cN, AR, cR, rfl, q1, q2, q3, q4, q5, q6⟩ := hv
  obtain ⟨w1, hw1⟩ : ∃ w1, w.alloc (.cells #[.slice AT g.terms.length cT, .slice AN g.nonterms.length cN, .int .i64 g.ax, .slice AR g.rules.length cR] 25) = w1 := ⟨_, rfl⟩
  have hb1 : Below w.heap.size w w1 := by rw [← hw1]; exact below_alloc (Below.refl _ _) _
  have hk1 : w1.heap[w.heap.size]? = some (.cells #[.slice AT g.terms.length cT, .slice AN g.nonterms.length cN, .int .i64 g.ax, .slice AR g.rules.length cR] 25 (0, 0)) := by rw [← hw1]; exact heap_alloc_new w _
  obtain ⟨c0, c1, c2, c3⟩ := gr_blk hk1
  have HB1 := Lib.hid hb1
  have hkc := known_calls _ g tA tc t w1 A (hE.below hb1) (HV.out.below hb1) (Kd.C_below ht hb1) htc
  have HKc := Lib.hid hkc
  clear hb1 hk1 hE q4 q5 q6 ht hkc
  by_cases h0 : knownE g t = (0, -1)
  · have HK2 : Hid (Calls Tryd.prog 41 _ w1 fun e w' => ∃ b gt gn gr ax A4 n4 c4 i d A7 c7 A8 n8 c8, treeD g t = some d ∧ d.tree = t ∧ e = .returned (.tuple #[.pointer (some ⟨b, 0, none⟩), .nilIface]) ∧ WkAt w1 w' b gt gn gr ax (.slice A4 n4 c4) i d (.slice A7 t.length c7) (.slice A8 n8 c8) ∧ (Kd.int .i64).R 3 w' w1.heap.size (fun _ => True) (.slice A4 n4 c4) (t.map (·.1))) := Lib.hid (HKc.out.mono (by
      rintro e w' (⟨b, gt, gn, gr, ax, rv, i, d, vt, vk, -, h2, h3, h4, h5, h6⟩ | ⟨u, h1, -⟩)
      · obtain ⟨A4, c4, e4⟩ := Kd.R_slice h6
        obtain ⟨A7, c7, e7⟩ := Kd.R_slice h5.tr
        obtain ⟨A8, c8, e8⟩ := Kd.R_slice h5.tk
        rw [h3] at e7
        subst e4 e7 e8
        exact ⟨b, gt, gn, gr, ax, A4, _, c4, i, d, A7, c7, A8, _, c8, h2, h3, h4, h5, h6⟩
      · rw [h0] at h1; exact absurd rfl h1))
    have H0 := Lib.hid h0
    clear h0 HKc
    go_enter Tryd.func20, Tryd.ntmps20
    go_wp2_with (go_at_call 41; refine HK2.out.mono ?_; rintro e w2 ⟨b, gt, gn, gr, ax, A4, n4, c4, i, d, A7, c7, A8, n8, c8, hd, hdt, rfl, hw, h6⟩; have HD := Lib.hid (knownD_yes H0.out hd); have HW := Lib.hid hw; have H6 := Lib.hid (Kd.R_lower h6 HB1.out.size); have kk := hw.c8 rfl; clear hd hdt hw h6)
    go_ret2
    exact ⟨_, _, rfl, by rw [HD.out]; exact Kd.R_lower (Kd.R_mono HW.out.tk (fun _ _ => trivial)) HB1.out.size, by rw [H0.out]; exact .none, below_next HB1.out HW.out.bel⟩
  · have HK2 : Hid (Calls Tryd.prog 41 _ w1 fun e w' => ∃ t1 x, (knownE g t).1 ≠ 0 ∧ e = .returned (.tuple #[.pointer none, .iface t1 x]) ∧ ErrV w' A (.iface t1 x) (knownE g t).1 (knownE g t).2 ∧ Below w1.heap.size w1 w') := Lib.hid (HKc.out.mono (by
      rintro e w' (⟨b, gt, gn, gr, ax, rv, i, d, vt, vk, h1, -⟩ | ⟨u, h1, h2, h3, h4⟩)
      · exact absurd h1 h0
      · rcases h3.nil_iff with ⟨h, _⟩ | ⟨_, t1, x, rfl⟩
        · exact absurd h h1
        · exact ⟨t1, x, h1, h2, h3, h4⟩))
    clear h0 HKc
    go_enter Tryd.func20, Tryd.ntmps20
    go_wp2_with (go_at_call 41; refine HK2.out.mono ?_; rintro e w2 ⟨t1, x, hne, rfl, hu, hb2⟩; have HNe := Lib.hid hne; have HU := Lib.hid hu; have HB2 := Lib.hid hb2; clear hne hu hb2)
    go_ret2
    exact ⟨_, _, rfl, by rw [knownD_no HNe.out]; exact Kd.R_nil _ _ _ _ _, HU.out, below_next HB1.out HB2.out⟩
set_option maxHeartbeats 2000000 in
theorem drules_calls (v : Value) (g : Gr) (tA : Option Addr) (tc : Nat) (t : List (Int × Int × Int)) (w : World) (A : Nat → Addr) (hE : Errs w A) (hv : GramAt w v g) (ht : KStep.C w tA t.length t) (htc : t.length ≤ tc) :
    Calls Tryd.prog 21 #[v, .slice tA t.length tc] w fun e w' => ∃ v1 u, e = .returned (.tuple #[v1, u]) ∧ (Kd.int .i64).R 3 w' w.heap.size (fun _ => True) v1 (knownD g t).2.1 ∧ ErrV w' A u (knownE g t).1 (knownE g t).2 ∧ Below w.heap.size w w' := by
  have HV := Lib.hid hv
  obtain ⟨AT, cT, AN, cN, AR, cR, rfl, q1, q2, q3, q4, q5, q6⟩ := hv
  obtain ⟨w1, hw1⟩ : ∃ w1, w.alloc (.cells #[.slice AT g.terms.length cT, .slice AN g.nonterms.length cN, .int .i64 g.ax, .slice AR g.rules.length cR] 25) = w1 := ⟨_, rfl⟩
  have hb1 : Below w.heap.size w w1 := by rw [← hw1]; exact below_alloc (Below.refl _ _) _
  have hk1 : w1.heap[w.heap.size]? = some (.cells #[.slice AT g.terms.length cT, .slice AN g.nonterms.length cN, .int .i64 g.ax, .slice AR g.rules.length cR] 25 (0, 0)) := by rw [← hw1]; exact heap_alloc_new w _
  obtain ⟨c0, c1, c2, c3⟩ := gr_blk hk1
  have HB1 := Lib.hid hb1
  have hkc := known_calls _ g tA tc t w1 A (hE.below hb1) (HV.out.below hb1) (Kd.C_below ht hb1) htc
  have HKc := Lib.hid hkc
  clear hb1 hk1 hE q4 q5 q6 ht hkc
  by_cases h0 : knownE g t = (0, -1)
  · have HK2 : Hid (Calls Tryd.prog 41 _ w1 fun e w' => ∃ b gt gn gr ax A4 n4 c4 i d A7 c7 A8 n8 c8, treeD g t = some d ∧ d.tree = t ∧ e = .returned (.tuple #[.pointer (some ⟨b, 0, none⟩), .nilIface]) ∧ WkAt w1 w' b gt gn gr ax (.slice A4 n4 c4) i d (.slice A7 t.length c7) (.slice A8 n8 c8) ∧ (Kd.int .i64).R 3 w' w1.heap.size (fun _ => True) (.slice A4 n4 c4) (t.map (·.1))) := Lib.hid (HKc.out.mono (by
      rintro e w' (⟨b, gt, gn, gr, ax, rv, i, d, vt, vk, -, h2, h3, h4, h5, h6⟩ | ⟨u, h1, -⟩)
      · obtain ⟨A4, c4, e4⟩ := Kd.R_slice h6
        obtain ⟨A7, c7, e7⟩ := Kd.R_slice h5.tr
        obtain ⟨A8, c8, e8⟩ := Kd.R_slice h5.tk
        rw [h3] at e7
        subst e4 e7 e8
        exact ⟨b, gt, gn, gr, ax, A4, _, c4, i, d, A7, c7, A8, _, c8, h2, h3, h4, h5, h6⟩
      · rw [h0] at h1; exact absurd rfl h1))
    have H0 := Lib.hid h0
    clear h0 HKc
    go_enter Tryd.func21, Tryd.ntmps21
    go_wp2_with (go_at_call 41; refine HK2.out.mono ?_; rintro e w2 ⟨b, gt, gn, gr, ax, A4, n4, c4, i, d, A7, c7, A8, n8, c8, hd, hdt, rfl, hw, h6⟩; have HD := Lib.hid (knownD_yes H0.out hd); have HW := Lib.hid hw; have H6 := Lib.hid (Kd.R_lower h6 HB1.out.size); have kk := hw.c4 rfl; clear hd hdt hw h6)
    go_ret2
    exact ⟨_, _, rfl, by rw [HD.out]; exact H6.out, by rw [H0.out]; exact .none, below_next HB1.out HW.out.bel⟩
  · have HK2 : Hid (Calls Tryd.prog 41 _ w1 fun e w' => ∃ t1 x, (knownE g t).1 ≠ 0 ∧ e = .returned (.tuple #[.pointer none, .iface t1 x]) ∧ ErrV w' A (.iface t1 x) (knownE g t).1 (knownE g t).2 ∧ Below w1.heap.size w1 w') := Lib.hid (HKc.out.mono (by
      rintro e w' (⟨b, gt, gn, gr, ax, rv, i, d, vt, vk, h1, -⟩ | ⟨u, h1, h2, h3, h4⟩)
      · exact absurd h1 h0
      · rcases h3.nil_iff with ⟨h, _⟩ | ⟨_, t1, x, rfl⟩
        · exact absurd h h1
        · exact ⟨t1, x, h1, h2, h3, h4⟩))
    clear h0 HKc
    go_enter Tryd.func21, Tryd.ntmps21
    go_wp2_with (go_at_call 41; refine HK2.out.mono ?_; rintro e w2 ⟨t1, x, hne, rfl, hu, hb2⟩; have HNe := Lib.hid hne; have HU := Lib.hid hu; have HB2 := Lib.hid hb2; clear hne hu hb2)
    go_ret2
    exact ⟨_, _, rfl, by rw [knownD_no HNe.out]; exact Kd.R_nil _ _ _ _ _, HU.out, below_next HB1.out HB2.out⟩
set_option maxHeartbeats 2000000 in
theorem ddepth_calls (v : Value) (g : Gr) (tA : Option Addr) (tc : Nat) (t : List (Int × Int × Int)) (w : World) (A : Nat → Addr) (hE : Errs w A) (hv : GramAt w v g) (ht : KStep.C w tA t.length t) (htc : t.length ≤ tc) :
    Calls Tryd.prog 22 #[v, .slice tA t.length tc] w fun e w' => ∃ v1 u, e = .returned (.tuple #[v1, u]) ∧ v1 = .int .i64 ((knownD g t).2.2 : Nat) ∧ ErrV w' A u (knownE g t).1 (knownE g t).2 ∧ Below w.heap.size w w' := by
  have HV := Lib.hid hv
  obtain ⟨AT, cT, AN, cN, AR, cR, rfl, q1, q2, q3, q4, q5, q6⟩ := hv
  obtain ⟨w1, hw1⟩ : ∃ w1, w.alloc (.cells #[.slice AT g.terms.length cT, .slice AN g.nonterms.length cN, .int .i64 g.ax, .slice AR g.rules.length cR] 25) = w1 := ⟨_, rfl⟩
  have hb1 : Below w.heap.size w w1 := by rw [← hw1]; exact below_alloc (Below.refl _ _) _
  have hk1 : w1.heap[w.heap.size]? = some (.cells #[.slice AT g.terms.length cT, .slice AN g.nonterms.length cN, .int .i64 g.ax, .slice AR g.rules.length cR] 25 (0, 0)) := by rw [← hw1]; exact heap_alloc_new w _
  obtain ⟨c0, c1, c2, c3⟩ := gr_blk hk1
  have HB1 := Lib.hid hb1
  have hkc := known_calls _ g tA tc t w1 A (hE.below hb1) (HV.out.below hb1) (Kd.C_below ht hb1) htc
  have HKc := Lib.hid hkc
  clear hb1 hk1 hE q4 q5 q6 ht hkc
  by_cases h0 : knownE g t = (0, -1)
  · have HK2 : Hid (Calls Tryd.prog 41 _ w1 fun e w' => ∃ b gt gn gr ax A4 n4 c4 i d A7 c7 A8 n8 c8, treeD g t = some d ∧ d.tree = t ∧ e = .returned (.tuple #[.pointer (some ⟨b, 0, none⟩), .nilIface]) ∧ WkAt w1 w' b gt gn gr ax (.slice A4 n4 c4) i d (.slice A7 t.length c7) (.slice A8 n8 c8) ∧ (Kd.int .i64).R 3 w' w1.heap.size (fun _ => True) (.slice A4 n4 c4) (t.map (·.1))) := Lib.hid (HKc.out.mono (by
      rintro e w' (⟨b, gt, gn, gr, ax, rv, i, d, vt, vk, -, h2, h3, h4, h5, h6⟩ | ⟨u, h1, -⟩)
      · obtain ⟨A4, c4, e4⟩ := Kd.R_slice h6
        obtain ⟨A7, c7, e7⟩ := Kd.R_slice h5.tr
        obtain ⟨A8, c8, e8⟩ := Kd.R_slice h5.tk
        rw [h3] at e7
        subst e4 e7 e8
        exact ⟨b, gt, gn, gr, ax, A4, _, c4, i, d, A7, c7, A8, _, c8, h2, h3, h4, h5, h6⟩
      · rw [h0] at h1; exact absurd rfl h1))
    have H0 := Lib.hid h0
    clear h0 HKc
    go_enter Tryd.func22, Tryd.ntmps22
    go_wp2_with (go_at_call 41; refine HK2.out.mono ?_; rintro e w2 ⟨b, gt, gn, gr, ax, A4, n4, c4, i, d, A7, c7, A8, n8, c8, hd, hdt, rfl, hw, h6⟩; have HD := Lib.hid (knownD_yes H0.out hd); have HW := Lib.hid hw; have H6 := Lib.hid (Kd.R_lower h6 HB1.out.size); have kk := hw.c9; clear hd hdt hw h6)
    go_ret2
    exact ⟨_, _, rfl, by rw [HD.out]; exact rfl, by rw [H0.out]; exact .none, below_next HB1.out HW.out.bel⟩
  · have HK2 : Hid (Calls Tryd.prog 41 _ w1 fun e w' => ∃ t1 x, (knownE g t).1 ≠ 0 ∧ e = .returned (.tuple #[.pointer none, .iface t1 x]) ∧ ErrV w' A (.iface t1 x) (knownE g t).1 (knownE g t).2 ∧ Below w1.heap.size w1 w') := Lib.hid (HKc.out.mono (by
      rintro e w' (⟨b, gt, gn, gr, ax, rv, i, d, vt, vk, h1, -⟩ | ⟨u, h1, h2, h3, h4⟩)
      · exact absurd h1 h0
      · rcases h3.nil_iff with ⟨h, _⟩ | ⟨_, t1, x, rfl⟩
        · exact absurd h h1
        · exact ⟨t1, x, h1, h2, h3, h4⟩))
    clear h0 HKc
    go_enter Tryd.func22, Tryd.ntmps22
    go_wp2_with (go_at_call 41; refine HK2.out.mono ?_; rintro e w2 ⟨t1, x, hne, rfl, hu, hb2⟩; have HNe := Lib.hid hne; have HU := Lib.hid hu; have HB2 := Lib.hid hb2; clear hne hu hb2)
    go_ret2
    exact ⟨_, _, rfl, by rw [knownD_no HNe.out]; exact rfl, HU.out, below_next HB1.out HB2.out⟩
end Go.Proofs.YtcjcffcbfkimdaaDoor.Hand
/- Contracts: is a list of steps a whole tree for tokens (deriv.Check, its document's Check)? -/
namespace Go.Proofs.YtcjcffcbfkimdaaDoor.Hand
open Go.RowKit Go.Proofs.YtcjcffcbfkimdaaDoorW.PrintWords Go.Proofs.YtcjcffcbfkimdaaDoorW.PrintMore Go.Proofs.YtcjcffcbfkimdaaDoor.Math

def badTok (n : Nat) (k : Int) : Bool := decide (k < 0) || decide ((n : Int) ≤ k)
/-- What is wrong with steps as a whole tree for tokens. -/
noncomputable def checkE (g : Gr) (tk : List Int) (t : List (Int × Int × Int)) : Nat × Int :=
  if (dmayN g t.length).1 ≠ 0 then dmayN g t.length
  else if 65536 < tk.length then (12, -1)
  else if tk.any (badTok g.terms.length) = true then (1, -1)
  else if knownE g t = (0, -1) ∧ (t.getD 0 (0, 0, 0)).2.1 = 0 ∧ (ruleD g.rules (t.getD 0 (0, 0, 0)).1).1 = g.ax ∧ (knownD g t).1 = tk then (0, -1) else (11, -1)
theorem checkE_ge (g : Gr) (tk : List Int) (t : List (Int × Int × Int)) : -1 ≤ (checkE g tk t).2 := by
  unfold checkE
  split
  · exact dmayN_ge _ _
  · split
    · exact Int.le_refl _
    · split
      · exact Int.le_refl _
      · split <;> exact Int.le_refl _
theorem walk_first {σ F : Type} {o : Ops σ F} {G : List (Int × List Int)} {rs : List Int} {any : Bool} {nt : Int} {s d : σ} (h : walkG o G rs any nt s = some d) : 0 < rs.length ∧ 0 ≤ rs.getD 0 0 ∧ rs.getD 0 0 < (G.length : Int) := by
  unfold walkG at h
  cases hn : nodeG o G rs rs.length any nt none 1 (0, s) with
  | none => rw [hn] at h; cases h
  | some a =>
    cases rs with
    | nil => simp [nodeG] at hn
    | cons n rs =>
      rw [List.length_cons, nodeG] at hn
      simp only [List.getElem?_cons_zero] at hn
      split at hn
      · cases hn
      · rename_i hb
        refine ⟨by simp, ?_⟩
        simp only [List.getD_cons_zero]
        omega
theorem known_first {g : Gr} {t : List (Int × Int × Int)} {d : DS} (hd : treeD g t = some d) : 0 < t.length ∧ 0 ≤ (t.getD 0 (0, 0, 0)).1 ∧ (t.getD 0 (0, 0, 0)).1 < (g.rules.length : Int) := by
  unfold treeD grownD at hd
  obtain ⟨h1, h2, h3⟩ := walk_first hd
  rw [List.length_map] at h1
  have e : (t.map (·.1)).getD 0 0 = (t.getD 0 (0, 0, 0)).1 := by
    cases t with
    | nil => simp at h1
    | cons x t => simp
  rw [e] at h2 h3
  exact ⟨h1, h2, h3⟩
theorem any_bad {n : Nat} {tk : List Int} {j : Nat} (hj : j < tk.length) (h : badTok n (tk.getD j 0) = true) : tk.any (badTok n) = true := List.any_eq_true.2 ⟨_, getD_mem tk j 0 hj, h⟩
/-- What Check answers. -/
def CheckP (w : World) (g : Gr) (tk : List Int) (t : List (Int × Int × Int)) (A : Nat → Addr) (e : Ending) (w' : World) : Prop :=
  ∃ u, e = .returned u ∧ ErrV w' A u (checkE g tk t).1 (checkE g tk t).2 ∧ Below w.heap.size w w'
theorem checkP_mk {w w' : World} {g : Gr} {tk : List Int} {t : List (Int × Int × Int)} {A : Nat → Addr} {u : Value} {k : Nat} {r : Int} (h : checkE g tk t = (k, r)) (hu : ErrV w' A u k r) (hb : Below w.heap.size w w') : CheckP w g tk t A (.returned u) w' := ⟨u, rfl, by rw [h]; exact hu, hb⟩
set_option maxHeartbeats 4000000 in
set_option maxRecDepth 20000 in
theorem check18_calls (v : Value) (g : Gr) (kA : Option Addr) (kc : Nat) (tk : List Int) (tA : Option Addr) (tc : Nat) (t : List (Int × Int × Int)) (w : World) (A : Nat → Addr) (hE : Errs w A) (hv : GramAt w v g) (hk : (Kd.int .i64).C w kA tk.length tk) (ht : KStep.C w tA t.length t) (htc : t.length ≤ tc) :
    Calls Tryd.prog 19 #[v, .slice kA tk.length kc, .slice tA t.length tc] w (CheckP w g tk t A) := by
  have HV := Lib.hid hv
  obtain ⟨AT, cT, AN, cN, AR, cR, rfl, q1, q2, q3, q4, q5, q6⟩ := hv
  have l1 := q4.2.1
  have l2 := q5.2.1
  have l3 := q6.2.1
  have l4 := ht.2.1
  have l5 := hk.2.1
  obtain ⟨w1, hw1⟩ : ∃ w1, w.alloc (.cells #[.slice AT g.terms.length cT, .slice AN g.nonterms.length cN, .int .i64 g.ax, .slice AR g.rules.length cR] 25) = w1 := ⟨_, rfl⟩
  have hb1 : Below w.heap.size w w1 := by rw [← hw1]; exact below_alloc (Below.refl _ _) _
  have hk1 : w1.heap[w.heap.size]? = some (.cells #[.slice AT g.terms.length cT, .slice AN g.nonterms.length cN, .int .i64 g.ax, .slice AR g.rules.length cR] 25 (0, 0)) := by rw [← hw1]; exact heap_alloc_new w _
  obtain ⟨c0, c1, c2, c3⟩ := gr_blk hk1
  have HB1 := Lib.hid hb1
  have HK1 := Lib.hid hk1
  have HE := Lib.hid (hE.below hb1)
  have HC := Lib.hid (may_calls _ g t.length w1 A (hE.below hb1) (HV.out.below hb1))
  have HT := Lib.hid (Kd.C_below ht hb1)
  have HK := Lib.hid (Kd.C_below hk hb1)
  have HR := Lib.hid (Kd.C_below q6 hb1)
  have HV1 := Lib.hid (HV.out.below hb1)
  have HEr : Hid (∀ i, i < 15 → ∀ W, Below w1.heap.size w1 W → W.cell? ⟨GE.getD i 0, 0, none⟩ = some (.iface 175 (.pointer (some (A i))))) := Lib.hid (fun i hi W hb => (HE.out.below hb).cells i hi)
  clear hb1 hk1 hE q4 q5 q6 ht hk
  by_cases h0 : (dmayN g t.length).1 = 0
  · have hm := dmayN_zero h0
    rw [hm.eq] at HC
    have h131 := hm.len
    have hcE : checkE g tk t = if 65536 < tk.length then (12, -1) else if tk.any (badTok g.terms.length) = true then (1, -1) else if knownE g t = (0, -1) ∧ (t.getD 0 (0, 0, 0)).2.1 = 0 ∧ (ruleD g.rules (t.getD 0 (0, 0, 0)).1).1 = g.ax ∧ (knownD g t).1 = tk then (0, -1) else (11, -1) := by unfold checkE; rw [if_neg (by simp [h0])]
    clear hm
    by_cases hlong : 65536 < tk.length
    · have H : Hid (checkE g tk t = (12, -1)) := Lib.hid (by rw [hcE, if_pos hlong])
      clear hcE h0
      go_enter Tryd.func19, Tryd.ntmps19
      go_wp2_with (go_at_call 34; refine HC.out.mono ?_; rintro e w2 ⟨u, rfl, hu, hb2⟩; obtain rfl : u = .nilIface := (by cases hu; rfl); have HB2 := Lib.hid hb2; clear hb2 hu; have e11 : w2.cell? ⟨1, 0, none⟩ = some (.iface 175 (.pointer (some (A 11)))) := HEr.out 11 (by omega) _ HB2.out)
      go_ret
      exact checkP_mk H.out (.sent 11 (by omega)) (below_next HB1.out HB2.out)
    · rw [if_neg hlong] at hcE
      have HcE := Lib.hid hcE
      clear hcE h0
      go_enter Tryd.func19, Tryd.ntmps19
      go_wp2_with (go_at_call 34; refine HC.out.mono ?_; rintro e w2 ⟨u, rfl, hu, hb2⟩; obtain rfl : u = .nilIface := (by cases hu; rfl); have HB2 := Lib.hid hb2; clear hb2 hu)
      have HK2 := Lib.hid (Kd.C_below HK.out HB2.out)
      have e0 : w2.cell? ⟨0, 0, none⟩ = some (.iface 175 (.pointer (some (A 0)))) := HEr.out 0 (by omega) _ HB2.out
      obtain ⟨d0, d1, d2, d3⟩ := gr_blk (blk_below HK1.out HB2.out)
      clear c0 c1 c2 c3
      go_loopw [25] (fun i wr => ∃ (j n : Nat), j ≤ tk.length ∧ i = .int .i64 (j : Int) ∧ wr = w2.drewN n ∧ Hid ((tk.take j).any (badTok g.terms.length) = false)) (fun i _ => tk.length - (intOf i).toNat)
      case atStart => exact ⟨0, 0, by omega, rfl, rfl, Lib.hid (by simp)⟩
      case round =>
        obtain ⟨j, n, hj, rfl, rfl, HTk⟩ := hrel
        by_cases hlt : j < tk.length
        · obtain ⟨ad, y, rfl, hc, HY⟩ := at_scalar HK2.out j hlt 0
          by_cases hy0 : y < 0
          · have HF : Hid (checkE g tk t = (1, -1)) := Lib.hid (by rw [HcE.out, if_pos (any_bad hlt (by rw [HY.out]; unfold badTok; simp [hy0]))])
            go_wp2
            go_ret
            exact checkP_mk HF.out (.sent 0 (by omega)) (below_next HB1.out (pw_below_drewN HB2.out _))
          · by_cases hy1 : (g.terms.length : Int) ≤ y
            · have HF : Hid (checkE g tk t = (1, -1)) := Lib.hid (by rw [HcE.out, if_pos (any_bad hlt (by rw [HY.out]; unfold badTok; simp [hy1]))])
              go_wp2
              go_ret
              exact checkP_mk HF.out (.sent 0 (by omega)) (below_next HB1.out (pw_below_drewN HB2.out _))
            · have hyb : badTok g.terms.length y = false := by unfold badTok; simp; omega
              go_wp2
              go_roundw
              case rel => exact ⟨j + 1, _, by omega, by go_num, rfl, Lib.hid (by rw [any_take_snoc tk _ j hlt, HTk.out, HY.out, hyb]; rfl)⟩
              case measure => simp [intOf]; omega
        · have HcF : Hid (checkE g tk t = if knownE g t = (0, -1) ∧ (t.getD 0 (0, 0, 0)).2.1 = 0 ∧ (ruleD g.rules (t.getD 0 (0, 0, 0)).1).1 = g.ax ∧ (knownD g t).1 = tk then (0, -1) else (11, -1)) := Lib.hid (by
            have h := HTk.out
            rw [List.take_of_length_le (by omega)] at h
            rw [HcE.out, if_neg (by rw [h]; decide)])
          obtain ⟨w3, hw3⟩ : ∃ w3, w2.drewN n = w3 := ⟨_, rfl⟩
          have hb3 : Below w1.heap.size w1 w3 := by rw [← hw3]; exact pw_below_drewN HB2.out _
          have HB3 := Lib.hid hb3
          have hkc := known_calls _ g tA tc t w3 A (HE.out.below hb3) (HV1.out.below hb3) (Kd.C_below HT.out hb3) htc
          obtain ⟨f0, f1, f2, f3⟩ := gr_blk (blk_below HK1.out hb3)
          have HKc := Lib.hid hkc
          rw [hw3]
          clear hw3 hb3 hkc d0 d1 d2 d3 e0
          by_cases hke : knownE g t = (0, -1)
          · have HK3 : Hid (Calls Tryd.prog 41 _ w3 fun e w' => ∃ b gt gn gr ax rv i d vt A8 n8 c8, treeD g t = some d ∧ n8 = d.tokens.length ∧ e = .returned (.tuple #[.pointer (some ⟨b, 0, none⟩), .nilIface]) ∧ WkAt w3 w' b gt gn gr ax rv i d vt (.slice A8 n8 c8)) := Lib.hid (HKc.out.mono (by
              rintro e w' (⟨b, gt, gn, gr, ax, rv, i, d, vt, vk, -, h2, h3, h4, h5, h6⟩ | ⟨u, h1, -⟩)
              · obtain ⟨A8, c8, e8⟩ := Kd.R_slice h5.tk
                subst e8
                exact ⟨b, gt, gn, gr, ax, rv, i, d, vt, A8, _, c8, h2, rfl, h4, h5⟩
              · rw [hke] at h1; exact absurd rfl h1))
            have HKe := Lib.hid hke
            clear HKc hke
            go_upto_region 13 with (go_at_call 41; refine HK3.out.mono ?_; rintro e w7 ⟨b, gt, gn, gr, ax, rv, i7, d, vt, A8, n8, c8, hd, hn8, rfl, hw⟩; have HD := Lib.hid hd; have HW := Lib.hid hw; have Hn8 := Lib.hid hn8; have k8 : w7.cell? ⟨b, 8, none⟩ = some (.slice A8 n8 c8) := hw.c8 rfl; clear hd hw hn8 f0 f1 f2 f3)
            obtain ⟨hpos, hr0, hr1⟩ := known_first HD.out
            have hb17 : Below w1.heap.size w1 w7 := below_next HB3.out HW.out.bel
            have HB17 := Lib.hid hb17
            obtain ⟨f0, f1, f2, f3⟩ := gr_blk (blk_below HK1.out hb17)
            obtain ⟨ta, x0, y0, z0, rfl, k0, k1, k2, HX⟩ := at_step (Kd.C_below HT.out hb17) 0 hpos
            simp only [Nat.zero_mul, addr_zero] at k0 k1 k2
            rw [HX.out] at hr0 hr1
            simp only at hr0 hr1
            obtain ⟨jn, rfl⟩ : ∃ jn : Nat, x0 = (jn : Int) := ⟨x0.toNat, by omega⟩
            have hjn : jn < g.rules.length := by omega
            obtain ⟨adr, lx, B2, c2, r2, rfl, p10, p20, hrc2, hr2, HX2⟩ := at_rule (Kd.C_below HR.out hb17) jn hjn
            have HRu : Hid (ruleD g.rules (jn : Int) = (lx, r2)) := Lib.hid (by unfold ruleD; rw [Int.toNat_natCast]; exact HX2.out)
            have HKD : Hid ((knownD g t).1 = d.tokens) := Lib.hid (by rw [knownD_yes HKe.out HD.out])
            have HCk : Hid ((Kd.int .i64).C w7 A8 d.tokens.length d.tokens) := Lib.hid (by have h := (Kd.R_reads' HW.out.tk).2.2; exact h)
            have HCt := Lib.hid (Kd.C_below HK.out hb17)
            have hEqC : ∀ (b : Bool), decide (d.tokens = tk) = b → ∀ m, Quiet 42 #[.slice A8 n8 c8, .slice kA tk.length kc] (w7.drewN m) (.bool b) := fun b hb m => by
              have := eints_calls A8 kA c8 kc d.tokens tk (w7.drewN m) (Kd.C_drewN HCk.out m) (Kd.C_drewN HCt.out m)
              rw [hb, ← Hn8.out] at this
              exact this
            have HEqC := Lib.hid hEqC
            have HcG : Hid (checkE g tk t = if y0 = 0 ∧ lx = g.ax ∧ d.tokens = tk then (0, -1) else (11, -1)) := Lib.hid (by
              rw [HcF.out, HX.out, HKD.out]
              simp only [HKe.out, HRu.out, true_and])
            have e10 : ∀ m, (w7.drewN m).cell? ⟨2, 0, none⟩ = some (.iface 175 (.pointer (some (A 10)))) := fun m => HEr.out 10 (by omega) _ (pw_below_drewN HB17.out m)
            have HE10 := Lib.hid e10
            clear hr2 hb17 hEqC e10 p20 hr0 hr1
            by_cases hy : y0 = 0
            · have hyI : (y0 == 0) = true := by rw [hy]; rfl
              have hyJ : (y0 != 0) = false := by rw [hy]; rfl
              by_cases hl : lx = g.ax
              · have hlI : (lx == g.ax) = true := by rw [hl]; simp
                have hlJ : (lx != g.ax) = false := by rw [hl]; simp
                by_cases hq : d.tokens = tk
                · have HF : Hid (checkE g tk t = (0, -1)) := Lib.hid (by rw [HcG.out, if_pos ⟨hy, hl, hq⟩])
                  have HQ := Lib.hid (HEqC.out true (decide_eq_true hq))
                  clear hq hy hl
                  go_quiet ((go_at_call 42; exact Calls.quiet_of (HQ.out _)))
                  go_wp2
                  go_ret
                  exact checkP_mk HF.out .none (below_next HB1.out (pw_below_drewN HB17.out _))
                · have HF : Hid (checkE g tk t = (11, -1)) := Lib.hid (by rw [HcG.out, if_neg (fun h => hq h.2.2)])
                  have HQ := Lib.hid (HEqC.out false (decide_eq_false hq))
                  clear hq hy hl
                  go_quiet ((go_at_call 42; exact Calls.quiet_of (HQ.out _)))
                  have e10 := HE10.out nq
                  go_wp2
                  go_ret
                  exact checkP_mk HF.out (.sent 10 (by omega)) (below_next HB1.out (pw_below_drewN HB17.out _))
              · have hlI : (lx == g.ax) = false := beq_eq_false_iff_ne.2 hl
                have hlJ : (lx != g.ax) = true := by simp [hl]
                have HF : Hid (checkE g tk t = (11, -1)) := Lib.hid (by rw [HcG.out, if_neg (fun h => hl h.2.1)])
                clear hy hl
                go_quiet (fail)
                have e10 := HE10.out nq
                go_wp2
                go_ret
                exact checkP_mk HF.out (.sent 10 (by omega)) (below_next HB1.out (pw_below_drewN HB17.out _))
            · have hyI : (y0 == 0) = false := beq_eq_false_iff_ne.2 hy
              have hyJ : (y0 != 0) = true := by simp [hy]
              have HF : Hid (checkE g tk t = (11, -1)) := Lib.hid (by rw [HcG.out, if_neg (fun h => hy h.1)])
              clear hy
              go_quiet (fail)
              have e10 := HE10.out nq
              go_wp2
              go_ret
              exact checkP_mk HF.out (.sent 10 (by omega)) (below_next HB1.out (pw_below_drewN HB17.out _))
          · have HK3 : Hid (Calls Tryd.prog 41 _ w3 fun e w' => ∃ t1 x, e = .returned (.tuple #[.pointer none, .iface t1 x]) ∧ Below w3.heap.size w3 w') := Lib.hid (HKc.out.mono (by
              rintro e w' (⟨b, gt, gn, gr, ax, rv, i, d, vt, vk, h1, -⟩ | ⟨u, h1, h2, h3, h4⟩)
              · exact absurd h1 hke
              · rcases h3.nil_iff with ⟨h, _⟩ | ⟨_, t1, x, rfl⟩
                · exact absurd h h1
                · exact ⟨t1, x, h2, h4⟩))
            have HF : Hid (checkE g tk t = (11, -1)) := Lib.hid (by rw [HcF.out, if_neg (fun h => hke h.1)])
            clear HKc hke
            go_upto_region 13 with (go_at_call 41; refine HK3.out.mono ?_; rintro e w7 ⟨t1, x, rfl, hb7⟩; have HB7 := Lib.hid (below_next HB3.out hb7); clear hb7 f0 f1 f2 f3)
            have HE10 : Hid (∀ m, (w7.drewN m).cell? ⟨2, 0, none⟩ = some (.iface 175 (.pointer (some (A 10))))) := Lib.hid (fun m => HEr.out 10 (by omega) _ (pw_below_drewN HB7.out m))
            go_quiet (fail)
            have e10 := HE10.out nq
            go_wp2
            go_ret
            exact checkP_mk HF.out (.sent 10 (by omega)) (below_next HB1.out (pw_below_drewN HB7.out _))
  · have H : Hid (checkE g tk t = dmayN g t.length) := Lib.hid (by unfold checkE; rw [if_pos h0])
    have HN := Lib.hid h0
    clear h0
    go_enter Tryd.func19, Tryd.ntmps19
    go_wp2_with (go_at_call 34; refine HC.out.mono ?_; rintro e w2 ⟨u, rfl, hu, hb2⟩; have HB2 := Lib.hid hb2; have HU := Lib.hid hu; obtain ⟨tt, x, rfl⟩ : ∃ t x, u = .iface t x := (by rcases hu.nil_iff with ⟨h, _⟩ | ⟨_, t, x, h⟩; exact absurd h HN.out; exact ⟨t, x, h⟩); clear hb2 hu)
    go_ret
    exact checkP_mk H.out HU.out (below_next HB1.out HB2.out)
end Go.Proofs.YtcjcffcbfkimdaaDoor.Hand
/- errors.As of a rule's error, of a sentinel, of nil; dovetailkit.Rule. (The steps are those of a worked proof, turned to this program.) -/
namespace Go.Proofs.YtcjcffcbfkimdaaDoor.Hand
open Go.RowKit Go.Proofs.YtcjcffcbfkimdaaDoorW.PrintWords Go.Proofs.YtcjcffcbfkimdaaDoorW.PrintMore Go.Proofs.YtcjcffcbfkimdaaDoor.Math
open Go.Extern.Stop Go.Stop Go.Extern

theorem asR_nil (t : Value) (w : World) :
    Calls Tryd.prog 56 #[.nilIface, t] w fun e w' => e = .returned (.bool false) ∧ w' = w := by
  go_enter Tryd.func56, Tryd.ntmps56
  go_wp2
  go_ret
  exact ⟨rfl, rfl⟩
/-! ### CLOSED FACTS ON THE MODEL's ENTRIES FOR internal/reflectlite, at this program's types: 25: *p.E · 27: **p.E · 23: error · 45: reflectlite's rtype · 1: how many package-level variables the dump has -/
theorem asR_valueOf27 (t : Addr) (w : World) : (ReflectliteValue.unpack (.iface 111 (.pointer (some t)))).run Tryd.prog w
    = .ok (.agg #[.pointer (some ⟨19, 111, none⟩), .pointer (some ⟨w.heap.size, 0, none⟩), .int .u64 150]) (w.alloc (.cells #[.pointer (some t)] 111)) := by kernel_rfl
theorem asR_type27 (a : Addr) (w : World) : (ReflectliteValue.methodAny (ReflectliteValue.valueError "reflectlite.Value.Type" 0) (fun t _ _ _ => ReflectliteType.toType t) #[.agg #[.pointer (some ⟨19, 111, none⟩), .pointer (some a), .int .u64 150]]).run Tryd.prog w
    = .ok (.iface 137 (.agg #[.pointer (some ⟨19, 111, none⟩)])) w := by kernel_rfl
theorem asR_methodKind (h : Value) (w : World) : (Go.method 305 137 (.agg #[h]) "Kind").run Tryd.prog w = .ok (111, h) w := by kernel_rfl
theorem asR_kind27 (w : World) : ((ReflectliteType.abiMethod fun t => (fun a : Nat => Value.int IntKind.u8 (a : Int)) <$> Rtype.kind t) #[.pointer (some ⟨19, 111, none⟩)]).run Tryd.prog w = .ok (.int .u8 22) w := by kernel_rfl
theorem asR_kind25 (w : World) : ((ReflectliteType.abiMethod fun t => (fun a : Nat => Value.int IntKind.u8 (a : Int)) <$> Rtype.kind t) #[.pointer (some ⟨19, 102, none⟩)]).run Tryd.prog w = .ok (.int .u8 22) w := by kernel_rfl

/-! ### THE ENTRIES THAT READ OR WRITE MEMORY: laws with a premise on the cell (after Derived/Lib/ReflectliteSlice.lean's manner: each unfolding a lemma of its own, by rfl) -/
theorem asR_rlm (z : Sem Value) (f : TypeId → Addr → Nat → Nat → Sem Value) (v : Value) :
    ReflectliteValue.method z f #[v] = (do match ← ReflectliteValue.parts v with | none => z | some (t, a, fl) => f t a fl (fl % 32)) := rfl
theorem asR_parts27 (a : Addr) (w : World) : (ReflectliteValue.parts (.agg #[.pointer (some ⟨19, 111, none⟩), .pointer (some a), .int .u64 150])).run Tryd.prog w = .ok (some (111, a, 150)) w := by kernel_rfl
/-- (Value).IsNil at the Value of a **p.E that is not nil. -/
theorem asR_isNil27 (a p : Addr) (W : World) (ha : W.cell? a = some (.pointer (some p))) :
    (ReflectliteValue.method (ReflectliteValue.valueError "reflectlite.Value.IsNil" 0) ReflectliteValue.isNil #[.agg #[.pointer (some ⟨19, 111, none⟩), .pointer (some a), .int .u64 150]]).run Tryd.prog W = .ok (.bool false) W := by
  rw [asR_rlm]
  simp only [Sem.run_bind, asR_parts27, Result.andThen]
  simp [ReflectliteValue.isNil, loadVar, isAgg, underlying, Tryd.underlying111, ha, Result.andThen]

theorem asR_methodElem (h : Value) (w : World) : (Go.method 305 137 (.agg #[h]) "Elem").run Tryd.prog w = .ok (125, .agg #[h]) w := by kernel_rfl
theorem asR_methodImplements (h : Value) (w : World) : (Go.method 305 137 (.agg #[h]) "Implements").run Tryd.prog w = .ok (126, .agg #[h]) w := by kernel_rfl
theorem asR_methodAssignableTo (h : Value) (w : World) : (Go.method 305 137 (.agg #[h]) "AssignableTo").run Tryd.prog w = .ok (123, .agg #[h]) w := by kernel_rfl
theorem asR_elem27 (w : World) : (ReflectliteType.method ReflectliteType.elem #[.agg #[.pointer (some ⟨19, 111, none⟩)]]).run Tryd.prog w = .ok (.iface 137 (.agg #[.pointer (some ⟨19, 102, none⟩)])) w := by kernel_rfl
theorem asR_implements25 (w : World) : (ReflectliteType.relation "Implements" ReflectliteType.implements_ #[.agg #[.pointer (some ⟨19, 102, none⟩)], .iface 137 (.agg #[.pointer (some ⟨19, 31, none⟩)])]).run Tryd.prog w = .ok (.bool true) w := by kernel_rfl
theorem asR_typeOf25 (v : Value) (w : World) : (ReflectliteType.typeOf #[.iface 102 v]).run Tryd.prog w = .ok (.iface 137 (.agg #[.pointer (some ⟨19, 102, none⟩)])) w := by kernel_rfl
theorem asR_assignable25 (w : World) : (ReflectliteType.relation "AssignableTo" ReflectliteType.assignableTo #[.agg #[.pointer (some ⟨19, 102, none⟩)], .iface 137 (.agg #[.pointer (some ⟨19, 102, none⟩)])]).run Tryd.prog w = .ok (.bool true) w := by kernel_rfl
theorem asR_valueOf25 (e : Addr) (w : World) : (ReflectliteValue.unpack (.iface 102 (.pointer (some e)))).run Tryd.prog w
    = .ok (.agg #[.pointer (some ⟨19, 102, none⟩), .pointer (some ⟨w.heap.size, 0, none⟩), .int .u64 150]) (w.alloc (.cells #[.pointer (some e)] 102)) := by kernel_rfl

theorem asR_elemOf27 (w : World) : (Rtype.elem? 111).run Tryd.prog w = .ok (some 102) w := by kernel_rfl
theorem asR_mk25 (p : Addr) (w : World) : (ReflectliteValue.mk 102 p ReflectliteValue.flagAddr).run Tryd.prog w = .ok (.agg #[.pointer (some ⟨19, 102, none⟩), .pointer (some p), .int .u64 406]) w := by kernel_rfl
/-- (Value).Elem at the Value of a **p.E that is not nil: the Value of the *p.E variable that it points to, addressable. -/
theorem asR_elemV27 (a p : Addr) (W : World) (ha : W.cell? a = some (.pointer (some p))) :
    (ReflectliteValue.method (ReflectliteValue.valueError "reflectlite.Value.Elem" 0) ReflectliteValue.elem #[.agg #[.pointer (some ⟨19, 111, none⟩), .pointer (some a), .int .u64 150]]).run Tryd.prog W
      = .ok (.agg #[.pointer (some ⟨19, 102, none⟩), .pointer (some p), .int .u64 406]) W := by
  rw [asR_rlm]
  simp only [Sem.run_bind, asR_parts27, Result.andThen]
  simp [ReflectliteValue.elem, loadVar, isAgg, underlying, Tryd.underlying111, ha, Result.andThen, asR_elemOf27, asR_mk25]
theorem asR_rls (v x : Value) : ReflectliteValue.set #[v, x] = (do
    let (some (dst, a, fl), some (src, b, _)) := (← ReflectliteValue.parts v, ← ReflectliteValue.parts x)
      | unsupported (.noEntry "extern/(internal/reflectlite.Value).Set.zeroValue")
    if fl / ReflectliteValue.flagAddr % 2 == 0 then unsupported (.noEntry "extern/(internal/reflectlite.Value).Set.unaddressable")
    let val ← loadVar src b
    if ← Rtype.directlyAssignable dst src then storeVar dst a val
    else if ← Rtype.implements dst src then
      if (← Rtype.kind src) == 20 then
        match val with
        | .nilIface => unsupported (.noEntry "extern/reflectlite: a nil value of one interface type handed on as a value of another")
        | _ => storeVar dst a val
      else storeVar dst a (.iface src val)
    else panicString ("reflectlite.Set: value of type " ++ (← Rtype.spelt src) ++ " is not assignable to type " ++ (← Rtype.spelt dst))
    pure (.tuple #[])) := rfl
theorem asR_parts25a (a : Addr) (w : World) : (ReflectliteValue.parts (.agg #[.pointer (some ⟨19, 102, none⟩), .pointer (some a), .int .u64 406])).run Tryd.prog w = .ok (some (102, a, 406)) w := by kernel_rfl
theorem asR_parts25 (a : Addr) (w : World) : (ReflectliteValue.parts (.agg #[.pointer (some ⟨19, 102, none⟩), .pointer (some a), .int .u64 150])).run Tryd.prog w = .ok (some (102, a, 150)) w := by kernel_rfl
theorem asR_direct25 (w : World) : (Rtype.directlyAssignable 102 102).run Tryd.prog w = .ok true w := by kernel_rfl
theorem asR_size25 (w : World) : (sizeOf 102).run Tryd.prog w = .ok 1 w := by kernel_rfl
/-- (Value).Set: the *p.E variable at 'ta' gets what the Value's own variable 'b' holds. -/
theorem asR_set25 (ta b e : Addr) (old : Value) (W : World) (hb : W.cell? b = some (.pointer (some e))) (ht : W.cell? ta = some old) (hf : W.frozen? ta = false) :
    (ReflectliteValue.set #[.agg #[.pointer (some ⟨19, 102, none⟩), .pointer (some ta), .int .u64 406], .agg #[.pointer (some ⟨19, 102, none⟩), .pointer (some b), .int .u64 150]]).run Tryd.prog W
      = .ok (.tuple #[]) (W.setCell ta (.pointer (some e))) := by
  rw [asR_rls]
  simp only [Sem.run_bind, asR_parts25a, asR_parts25, Result.andThen]
  simp [ReflectliteValue.flagAddr, loadVar, isAgg, underlying, Tryd.underlying102, hb, Result.andThen, asR_direct25, storeVar, Value.cells, storeCells, Addr.add]
  rw [run_store Tryd.prog W ta _ _ (by rfl)]
  simp [ht, hf]

set_option maxHeartbeats 4000000 in
theorem asR_hit (e t : Addr) (old : Value) (w : World) (hg : w.cell? ⟨15, 0, none⟩ = some (.iface 137 (.agg #[.pointer (some ⟨19, 31, none⟩)]))) (ht0 : w.cell? t = some old) (hf0 : w.frozen? t = false) :
    Calls Tryd.prog 56 #[.iface 102 (.pointer (some e)), .iface 111 (.pointer (some t))] w fun ev w' => ev = .returned (.bool true) ∧ w' = ((((w.alloc (.cells #[.pointer (some t)] 111)).alloc (.cells #[.pointer (some ⟨19, 111, none⟩), .pointer (some ⟨w.heap.size, 0, none⟩), .int .u64 150] 129)).alloc (.cells #[.pointer (some ⟨19, 111, none⟩), .pointer (some ⟨w.heap.size, 0, none⟩), .int .u64 150] 129)).alloc (.cells #[.pointer (some e)] 102)).setCell t (.pointer (some e)) := by
  have h6 := @run_callFunc_extern Tryd.prog 70 _ (fun args => ReflectliteValue.unpack (args.getD 0 (.tuple #[]))) Tryd.func70 (by kernel_rfl) (by kernel_rfl) (by kernel_rfl) (by kernel_rfl)
  have h7 := @run_callFunc_extern Tryd.prog 71 _ (ReflectliteValue.methodAny (ReflectliteValue.valueError "reflectlite.Value.Type" 0) (fun t _ _ _ => ReflectliteType.toType t)) Tryd.func71 (by kernel_rfl) (by kernel_rfl) (by kernel_rfl) (by kernel_rfl)
  have h8 := @run_callFunc_extern Tryd.prog 72 _ (ReflectliteValue.method (ReflectliteValue.valueError "reflectlite.Value.IsNil" 0) ReflectliteValue.isNil) Tryd.func72 (by kernel_rfl) (by kernel_rfl) (by kernel_rfl) (by kernel_rfl)
  have h27 := @run_callFunc_extern Tryd.prog 111 _ (ReflectliteType.abiMethod fun t => do pure (.int .u8 (← Rtype.kind t))) Tryd.func111 (by kernel_rfl) (by kernel_rfl) (by kernel_rfl) (by kernel_rfl)
  have h37 := @run_callFunc_extern Tryd.prog 125 _ (ReflectliteType.method ReflectliteType.elem) Tryd.func125 (by kernel_rfl) (by kernel_rfl) (by kernel_rfl) (by kernel_rfl)
  have h38 := @run_callFunc_extern Tryd.prog 126 _ (ReflectliteType.relation "Implements" ReflectliteType.implements_) Tryd.func126 (by kernel_rfl) (by kernel_rfl) (by kernel_rfl) (by kernel_rfl)
  have h10 := @run_callFunc_extern Tryd.prog 59 _ ReflectliteType.typeOf Tryd.func59 (by kernel_rfl) (by kernel_rfl) (by kernel_rfl) (by kernel_rfl)
  have h35 := @run_callFunc_extern Tryd.prog 123 _ (ReflectliteType.relation "AssignableTo" ReflectliteType.assignableTo) Tryd.func123 (by kernel_rfl) (by kernel_rfl) (by kernel_rfl) (by kernel_rfl)
  have h11 := @run_callFunc_extern Tryd.prog 79 _ (ReflectliteValue.method (ReflectliteValue.valueError "reflectlite.Value.Elem" 0) ReflectliteValue.elem) Tryd.func79 (by kernel_rfl) (by kernel_rfl) (by kernel_rfl) (by kernel_rfl)
  have h12 := @run_callFunc_extern Tryd.prog 80 _ ReflectliteValue.set Tryd.func80 (by kernel_rfl) (by kernel_rfl) (by kernel_rfl) (by kernel_rfl)
  have tO := asR_typeOf25
  have mA := asR_methodAssignableTo
  have a25 := asR_assignable25
  have v25 := asR_valueOf25
  have f6 := asR_valueOf27
  have f7 := asR_type27
  have mK := asR_methodKind
  have mE := asR_methodElem
  have mI := asR_methodImplements
  have k27 := asR_kind27
  have k25 := asR_kind25
  have e27 := asR_elem27
  have i25 := asR_implements25
  have n8 := asR_isNil27 ⟨w.heap.size, 0, none⟩ t ((w.alloc (.cells #[.pointer (some t)] 111)).alloc (.cells #[.pointer (some ⟨19, 111, none⟩), .pointer (some ⟨w.heap.size, 0, none⟩), .int .u64 150] 129)) (by simp)
  have hlt : 15 < w.heap.size := by
    rcases Nat.lt_or_ge 15 w.heap.size with h | h0
    · exact h
    · simp [World.cell?, Array.getElem?_eq_none h0] at hg
  have hg2 : ((w.alloc (.cells #[.pointer (some t)] 111)).alloc (.cells #[.pointer (some ⟨19, 111, none⟩), .pointer (some ⟨w.heap.size, 0, none⟩), .int .u64 150] 129)).cell? ⟨15, 0, none⟩ = some (.iface 137 (.agg #[.pointer (some ⟨19, 31, none⟩)])) := by
    rw [World.cell?_alloc_lt _ _ ⟨15, 0, none⟩ (by simp; omega), World.cell?_alloc_lt _ _ ⟨15, 0, none⟩ hlt]; exact hg
  have htl : t.block < w.heap.size := by
    rcases Nat.lt_or_ge t.block w.heap.size with h | h
    · exact h
    · simp [World.cell?, Array.getElem?_eq_none h] at ht0
  have el := asR_elemV27 ⟨w.heap.size, 0, none⟩ t (((w.alloc (.cells #[.pointer (some t)] 111)).alloc (.cells #[.pointer (some ⟨19, 111, none⟩), .pointer (some ⟨w.heap.size, 0, none⟩), .int .u64 150] 129)).alloc (.cells #[.pointer (some ⟨19, 111, none⟩), .pointer (some ⟨w.heap.size, 0, none⟩), .int .u64 150] 129)) (by rw [World.cell?_alloc_lt _ _ ⟨w.heap.size, 0, none⟩ (by simp; omega)]; simp)
  have st := asR_set25 t ⟨w.heap.size + 1 + 1 + 1, 0, none⟩ e old ((((w.alloc (.cells #[.pointer (some t)] 111)).alloc (.cells #[.pointer (some ⟨19, 111, none⟩), .pointer (some ⟨w.heap.size, 0, none⟩), .int .u64 150] 129)).alloc (.cells #[.pointer (some ⟨19, 111, none⟩), .pointer (some ⟨w.heap.size, 0, none⟩), .int .u64 150] 129)).alloc (.cells #[.pointer (some e)] 102))
    (by rw [World.cell?_alloc_at _ _ _ _ (by simp)]; rfl)
    (by rw [World.cell?_alloc_lt _ _ t (by simp; omega), World.cell?_alloc_lt _ _ t (by simp; omega), World.cell?_alloc_lt _ _ t (by simp; omega), World.cell?_alloc_lt _ _ t htl]; exact ht0)
    (by rw [World.frozen?_alloc_old _ _ t (by simp; omega), World.frozen?_alloc_old _ _ t (by simp; omega), World.frozen?_alloc_old _ _ t (by simp; omega), World.frozen?_alloc_old _ _ t (Nat.ne_of_lt htl)]; exact hf0)
  go_enter Tryd.func56, Tryd.ntmps56
  go_wp2
  refine wp_loop_rounds 1 ?_
  rw [rounds_succ]
  go_wp2
  go_ret
  exact ⟨rfl, rfl⟩
theorem asR_typeOfS (v : Value) (w : World) : (ReflectliteType.typeOf #[.iface 175 v]).run Tryd.prog w = .ok (.iface 137 (.agg #[.pointer (some ⟨19, 175, none⟩)])) w := by kernel_rfl
theorem asR_assignableS (w : World) : (ReflectliteType.relation "AssignableTo" ReflectliteType.assignableTo #[.agg #[.pointer (some ⟨19, 175, none⟩)], .iface 137 (.agg #[.pointer (some ⟨19, 102, none⟩)])]).run Tryd.prog w = .ok (.bool false) w := by kernel_rfl
theorem asR_noAs (v : Value) (xT : TypeId) (w : World) : (Instr.typeAssert (.iface 175 v) xT 151 true).run Tryd.prog w = .ok (.tuple #[.nilIface, .bool false]) w := run_typeAssert_lacksB Tryd.underlying151 (by kernel_rfl) (by kernel_rfl) v xT w
set_option maxHeartbeats 4000000 in
theorem asR_sent (e t : Addr) (w : World) (hg : w.cell? ⟨15, 0, none⟩ = some (.iface 137 (.agg #[.pointer (some ⟨19, 31, none⟩)]))) (_htl : t.block < w.heap.size) :
    Calls Tryd.prog 56 #[.iface 175 (.pointer (some e)), .iface 111 (.pointer (some t))] w fun ev w' => ev = .returned (.bool false) ∧ Below w.heap.size w w' := by
  have h6 := @run_callFunc_extern Tryd.prog 70 _ (fun args => ReflectliteValue.unpack (args.getD 0 (.tuple #[]))) Tryd.func70 (by kernel_rfl) (by kernel_rfl) (by kernel_rfl) (by kernel_rfl)
  have h7 := @run_callFunc_extern Tryd.prog 71 _ (ReflectliteValue.methodAny (ReflectliteValue.valueError "reflectlite.Value.Type" 0) (fun t _ _ _ => ReflectliteType.toType t)) Tryd.func71 (by kernel_rfl) (by kernel_rfl) (by kernel_rfl) (by kernel_rfl)
  have h8 := @run_callFunc_extern Tryd.prog 72 _ (ReflectliteValue.method (ReflectliteValue.valueError "reflectlite.Value.IsNil" 0) ReflectliteValue.isNil) Tryd.func72 (by kernel_rfl) (by kernel_rfl) (by kernel_rfl) (by kernel_rfl)
  have h27 := @run_callFunc_extern Tryd.prog 111 _ (ReflectliteType.abiMethod fun t => do pure (.int .u8 (← Rtype.kind t))) Tryd.func111 (by kernel_rfl) (by kernel_rfl) (by kernel_rfl) (by kernel_rfl)
  have h37 := @run_callFunc_extern Tryd.prog 125 _ (ReflectliteType.method ReflectliteType.elem) Tryd.func125 (by kernel_rfl) (by kernel_rfl) (by kernel_rfl) (by kernel_rfl)
  have h38 := @run_callFunc_extern Tryd.prog 126 _ (ReflectliteType.relation "Implements" ReflectliteType.implements_) Tryd.func126 (by kernel_rfl) (by kernel_rfl) (by kernel_rfl) (by kernel_rfl)
  have h10 := @run_callFunc_extern Tryd.prog 59 _ ReflectliteType.typeOf Tryd.func59 (by kernel_rfl) (by kernel_rfl) (by kernel_rfl) (by kernel_rfl)
  have h35 := @run_callFunc_extern Tryd.prog 123 _ (ReflectliteType.relation "AssignableTo" ReflectliteType.assignableTo) Tryd.func123 (by kernel_rfl) (by kernel_rfl) (by kernel_rfl) (by kernel_rfl)
  have tO := asR_typeOfS
  have mA := asR_methodAssignableTo
  have a25 := asR_assignableS
  have nE := asR_noAs
  have uE := noUnwrapE
  have vE := noUnwrapsE
  have f6 := asR_valueOf27
  have f7 := asR_type27
  have mK := asR_methodKind
  have mE := asR_methodElem
  have mI := asR_methodImplements
  have k27 := asR_kind27
  have k25 := asR_kind25
  have e27 := asR_elem27
  have i25 := asR_implements25
  have n8 := asR_isNil27 ⟨w.heap.size, 0, none⟩ t ((w.alloc (.cells #[.pointer (some t)] 111)).alloc (.cells #[.pointer (some ⟨19, 111, none⟩), .pointer (some ⟨w.heap.size, 0, none⟩), .int .u64 150] 129)) (by simp)
  have hlt : 15 < w.heap.size := by
    rcases Nat.lt_or_ge 15 w.heap.size with h | h0
    · exact h
    · simp [World.cell?, Array.getElem?_eq_none h0] at hg
  have hg2 : ((w.alloc (.cells #[.pointer (some t)] 111)).alloc (.cells #[.pointer (some ⟨19, 111, none⟩), .pointer (some ⟨w.heap.size, 0, none⟩), .int .u64 150] 129)).cell? ⟨15, 0, none⟩ = some (.iface 137 (.agg #[.pointer (some ⟨19, 31, none⟩)])) := by
    rw [World.cell?_alloc_lt _ _ ⟨15, 0, none⟩ (by simp; omega), World.cell?_alloc_lt _ _ ⟨15, 0, none⟩ hlt]; exact hg
  go_enter Tryd.func56, Tryd.ntmps56
  go_wp2
  refine wp_loop_rounds 1 ?_
  rw [rounds_succ]
  go_wp2
  go_ret
  exact ⟨rfl, below_alloc (below_alloc (below_alloc (Below.refl _ _) _) _) _⟩
/-- The handle of the type error, as package errors keeps it. -/
def ErrTyR (w : World) : Prop := w.cell? ⟨15, 0, none⟩ = some (.iface 137 (.agg #[.pointer (some ⟨19, 31, none⟩)]))
theorem ErrTyR.below {w w' : World} (h : ErrTyR w) (hb : Below w.heap.size w w') : ErrTyR w' := (hb.cell (World.block_lt_of_cell? w _ h)).trans h
theorem krule_nil (w : World) : Calls Tryd.prog 38 #[.nilIface] w fun e w' => e = .returned (.int .i64 (-1)) ∧ Below w.heap.size w w' := by
  go_enter Tryd.func38, Tryd.ntmps38
  go_wp2_with (go_at_call 56; refine (asR_nil _ _).mono ?_; rintro e w1 ⟨rfl, rfl⟩)
  go_ret
  exact ⟨rfl, below_alloc (Below.refl _ _) _⟩
theorem krule_sent (a : Addr) (w : World) (hT : ErrTyR w) : Calls Tryd.prog 38 #[.iface 175 (.pointer (some a))] w fun e w' => e = .returned (.int .i64 (-1)) ∧ Below w.heap.size w w' := by
  have hT1 := hT.below (below_alloc (Below.refl _ _) (.cells #[.pointer none] 102))
  have HA := Lib.hid (asR_sent a ⟨w.heap.size, 0, none⟩ _ hT1 (by simp))
  clear hT hT1
  go_enter Tryd.func38, Tryd.ntmps38
  go_wp2_with (go_at_call 56; refine HA.out.mono ?_; rintro e w1 ⟨rfl, hb⟩; have HB := Lib.hid (below_next (below_alloc (Below.refl w.heap.size w) _) hb); clear hb)
  go_ret
  exact ⟨rfl, HB.out⟩
theorem krule_rule (pb po : Nat) (i : Int) (w : World) (hT : ErrTyR w) (hc : w.cell? ⟨pb, po, none⟩ = some (.int .i64 i)) : Calls Tryd.prog 38 #[.iface 102 (.pointer (some ⟨pb, po, none⟩))] w fun e w' => e = .returned (.int .i64 i) ∧ Below w.heap.size w w' := by
  have hT1 := hT.below (below_alloc (Below.refl _ _) (.cells #[.pointer none] 102))
  obtain ⟨w1, hw1⟩ : ∃ w1, w.alloc (.cells #[.pointer none] 102) = w1 := ⟨_, rfl⟩
  have hb1 : Below w.heap.size w w1 := by rw [← hw1]; exact below_alloc (Below.refl _ _) _
  have ht0 : w1.cell? ⟨w.heap.size, 0, none⟩ = some (.pointer none) := by rw [← hw1]; simp
  have hf0 : w1.frozen? ⟨w.heap.size, 0, none⟩ = false := by rw [← hw1]; simp
  have hs1 : w.heap.size < w1.heap.size := by rw [← hw1]; simp
  have hpl := World.block_lt_of_cell? w _ hc
  rw [hw1] at hT1
  have hc1 := (hb1.cell hpl).trans hc
  have HA : Hid (Calls Tryd.prog 56 #[.iface 102 (.pointer (some ⟨pb, po, none⟩)), .iface 111 (.pointer (some ⟨w.heap.size, 0, none⟩))] w1 fun ev w' => ev = .returned (.bool true) ∧ w'.cell? ⟨w.heap.size, 0, none⟩ = some (.pointer (some ⟨pb, po, none⟩)) ∧ w'.cell? ⟨pb, po, none⟩ = some (.int .i64 i) ∧ Below w.heap.size w w') := Lib.hid ((asR_hit ⟨pb, po, none⟩ ⟨w.heap.size, 0, none⟩ (.pointer none) w1 hT1 ht0 hf0).mono (by
    rintro e w' ⟨rfl, rfl⟩
    obtain ⟨w2, hw2⟩ : ∃ w2, ((((w1.alloc (.cells #[.pointer (some ⟨w.heap.size, 0, none⟩)] 111)).alloc (.cells #[.pointer (some ⟨19, 111, none⟩), .pointer (some ⟨w1.heap.size, 0, none⟩), .int .u64 150] 129)).alloc (.cells #[.pointer (some ⟨19, 111, none⟩), .pointer (some ⟨w1.heap.size, 0, none⟩), .int .u64 150] 129)).alloc (.cells #[.pointer (some ⟨pb, po, none⟩)] 102)) = w2 := ⟨_, rfl⟩
    have hb2 : Below w1.heap.size w1 w2 := by rw [← hw2]; exact below_alloc (below_alloc (below_alloc (below_alloc (Below.refl _ _) _) _) _) _
    rw [hw2]
    have ht2 := (hb2.cell hs1).trans ht0
    refine ⟨rfl, World.cell?_setCell_same _ _ _ ht2, ?_, (below_next hb1 hb2).setCell (Nat.le_refl _) _⟩
    rw [World.cell?_setCell_other _ _ _ _ (by intro h; injection h with h; have hpl' : pb < w.heap.size := hpl; omega)]
    exact (hb2.cell (Nat.lt_trans hpl hs1)).trans hc1))
  have HW1 := Lib.hid hw1
  clear hT hT1 hb1 ht0 hf0 hs1 hpl hc1 hc hw1
  go_enter Tryd.func38, Tryd.ntmps38
  go_wp2_with (go_at_call 56; rw [HW1.out]; refine HA.out.mono ?_; rintro e w3 ⟨rfl, h1, h2, hb⟩; have HB := Lib.hid hb; clear hb)
  go_ret
  exact ⟨rfl, HB.out⟩
end Go.Proofs.YtcjcffcbfkimdaaDoor.Hand
