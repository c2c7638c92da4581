/- The texts that the statement's proof stands on, part 4: XTree XGrow XAsR XAs18 XHd XOpens XLaid XLaidR XGrows. -/
import Derived.Test.YtcjcffcbfkimdaaDoorZDerivGrows3
import Derived.LaidEql
import Derived.Stop.Asserts
import Derived.RowKitTokens
import Derived.Deep.Slices
import Derived.ChangeSame
import Derived.SizedLaws
import Derived.Lib.SmallJoins
import Derived.Test.YtcjcffcbfkimdaaDoorRows
import Derived.Stop.LaidErr
import Derived.LaidSub
import Derived.LaidMore
import Derived.Stop.Joined
import Derived.MakeChecks
/- Contract: the document's tree of rules (dovetailref18.Tree). -/
namespace Go.Proofs.YtcjcffcbfkimdaaDoor.Hand
open Go.RowKit Go.Proofs.YtcjcffcbfkimdaaDoorW.PrintWords Go.Proofs.YtcjcffcbfkimdaaDoorW.PrintMore Go.Proofs.YtcjcffcbfkimdaaDoorW.PrintLast Go.Proofs.YtcjcffcbfkimdaaDoor.Math

def lenOf : Value → Nat
  | .slice _ n _ => n
  | _ => 0
theorem infoFrame : (Tryd.prog.info? 109).map (fun i => (i.zero, i.size, i.bytes)) = some (some (.agg #[.int .i64 0, .int .i64 0]), 2, 16) := by kernel_rfl
/-- The outer loop. -/
structure TrOut (G : List (Int × List Int)) (rs : List Int) (any : Bool) (nt : Int) (res : Option DS) (w0 w : World) (k : Nat) (v1 v2 v3 : Value) (O : Stk) (d : DS) : Prop where
  mem : TrAt w0 w v1 v2 v3 O d
  len : d.tree.length = k
  tok : d.tokens.length + remS O ≤ 32 * k
  stk : StkOk G d.tree O
  pop : Popped O
  res : restG (opsD inc64) G rs any nt k O d = res
  ol : O.length ≤ k
  z : k = 0 → O = []
/-- The inner loop. -/
structure TrInn (G : List (Int × List Int)) (tgt : Stk × DS) (S k m : Nat) (w0 w : World) (v1 v2 v3 : Value) (O : Stk) (d : DS) : Prop where
  mem : TrAt w0 w v1 v2 v3 O d
  len : d.tree.length = k + 1
  tok : d.tokens.length + remS O = S
  stk : StkOk G d.tree O
  eq : popG (opsD inc64) O d = tgt
  ol : O.length ≤ k + 1
  dep : d.depth = m
section
variable {G : List (Int × List Int)} {rs : List Int} {any : Bool} {nt : Int} {res : Option DS} {tgt : Stk × DS} {S k m : Nat} {w0 w w' : World} {v1 v2 v3 u : Value} {O : Stk} {d : DS}
theorem TrInn.out (h : TrInn G tgt S k m w0 w v1 v2 v3 O d) (hp : Popped O) (hS : S ≤ 32 * (k + 1)) (hN : restG (opsD inc64) G rs any nt (k + 1) tgt.1 tgt.2 = res) : TrOut G rs any nt res w0 w (k + 1) v1 v2 v3 O d := by
  have h1 := h.tok
  have h2 := h.eq
  rw [popG_popped _ _ hp] at h2
  rw [← h2] at hN
  exact ⟨h.mem, h.len, by omega, h.stk, hp, hN, h.ol, fun h => by omega⟩
theorem TrInn.pop1 {φ q : Nat} (h : TrInn G tgt S k m w0 w v1 v2 v3 ((φ, q, []) :: O) d) (hm : TrAt w0 w' v1 v2 u O ((opsD inc64).lv d φ)) : TrInn G tgt S k m w0 w' v1 v2 u O ((opsD inc64).lv d φ) := by
  have h1 := h.tok
  have h2 := h.eq
  have h3 := h.ol
  rw [popG_done] at h2
  simp only [remS, List.length_nil, Nat.zero_add] at h1
  simp only [List.length_cons] at h3
  exact ⟨hm, by show (List.set _ _ _).length = _; rw [List.length_set]; exact h.len, h1, h.stk.tail.put φ _ _, h2, by omega, h.dep⟩
theorem TrInn.tok1 {φ q : Nat} {y : Int} {l : List Int} (h : TrInn G tgt S k m w0 w v1 v2 v3 ((φ, q, y :: l) :: O) d) (hy : ¬ y < 0) (hm : TrAt w0 w' v1 u v3 ((φ, q + 1, l) :: O) ⟨inc64 d.place, d.tree, d.tokens ++ [y], d.depth⟩) :
    TrInn G tgt S k m w0 w' v1 u v3 ((φ, q + 1, l) :: O) ⟨inc64 d.place, d.tree, d.tokens ++ [y], d.depth⟩ := by
  have h1 := h.tok
  have h2 := h.eq
  have h3 := h.ol
  rw [popG_tok _ _ _ _ _ _ _ hy] at h2
  simp only [remS, List.length_cons] at h1
  simp only [List.length_cons] at h3
  exact ⟨hm, h.len, by simp only [remS, List.length_append, List.length_cons, List.length_nil]; omega, h.stk.next, h2, by simp only [List.length_cons]; omega, h.dep⟩
end
/-- What the document's Tree answers. -/
def TreeP (w : World) (res : Option DS) (e : Ending) (w' : World) : Prop :=
  ∃ v1 v2 dp ok, e = .returned (.tuple #[v1, v2, .int .i64 dp, .bool ok]) ∧ Below w.heap.size w w' ∧ (res = none → ok = false) ∧
    ∀ d, res = some d → ok = true ∧ KStep.R 55 w' w.heap.size (fun _ => True) v1 d.tree ∧ (Kd.int .i64).R 3 w' w.heap.size (fun _ => True) v2 d.tokens ∧ dp = (d.depth : Int)
theorem treeP_no {w : World} {res : Option DS} {w' : World} {v1 v2 : Value} {dp : Int} (h : res = none) (hb : Below w.heap.size w w') : TreeP w res (.returned (.tuple #[v1, v2, .int .i64 dp, .bool false])) w' :=
  ⟨v1, v2, dp, false, rfl, hb, fun _ => rfl, fun d hd => by rw [h] at hd; cases hd⟩
theorem treeP_yes {w : World} {res : Option DS} {w' : World} {v1 v2 : Value} {d : DS} (h : res = some d) (hb : Below w.heap.size w w') (h1 : KStep.R 55 w' w.heap.size (fun _ => True) v1 d.tree) (h2 : (Kd.int .i64).R 3 w' w.heap.size (fun _ => True) v2 d.tokens) :
    TreeP w res (.returned (.tuple #[v1, v2, .int .i64 (d.depth : Int), .bool true])) w' := by
  refine ⟨v1, v2, _, true, rfl, hb, fun h' => (by rw [h] at h'; cases h'), fun d' hd => ?_⟩
  rw [h] at hd
  obtain rfl := Option.some.inj hd
  exact ⟨rfl, h1, h2, rfl⟩
set_option maxHeartbeats 4000000 in
set_option maxRecDepth 100000 in
theorem rtree_calls (g : Gr) (AT AN AR Ar : Option Addr) (cT cN cR cr : Nat) (rs : List Int) (any : Bool) (nt fr : Int) (root : Int) (hroot : root < 0 ∧ any = true ∨ 0 ≤ root ∧ any = false ∧ root = nt) (w : World) (A : Nat → Addr) (hI : WkIn w g AR rs Ar A) (hgr : ∀ r ∈ g.rules, 0 ≤ r.1 ∧ r.1 ≤ 100) (hlr : rs.length ≤ cr) :
    Calls Tryd.prog 37 #[.agg #[.slice AT g.terms.length cT, .slice AN g.nonterms.length cN, .int .i64 g.ax, .slice AR g.rules.length cR], .slice Ar rs.length cr, .int .i64 root, .int .i64 fr] w (TreeP w (walkG (opsD inc64) g.rules rs any nt ⟨fr, [], [], 0⟩)) := by
  obtain ⟨res, hres⟩ : ∃ r, walkG (opsD inc64) g.rules rs any nt ⟨fr, [], [], 0⟩ = r := ⟨_, rfl⟩
  rw [hres]
  rw [walk_is] at hres
  obtain ⟨w1, hw1⟩ : ∃ w1, w.alloc (.cells #[.slice AT g.terms.length cT, .slice AN g.nonterms.length cN, .int .i64 g.ax, .slice AR g.rules.length cR] 25) = w1 := ⟨_, rfl⟩
  have hb1 : Below w.heap.size w w1 := by rw [← hw1]; exact below_alloc (Below.refl _ _) _
  have hk1 : w1.heap[w.heap.size]? = some (.cells #[.slice AT g.terms.length cT, .slice AN g.nonterms.length cN, .int .i64 g.ax, .slice AR g.rules.length cR] 25 (0, 0)) := by rw [← hw1]; exact heap_alloc_new w _
  have HB1 := Lib.hid hb1
  have HK1 := Lib.hid hk1
  have HI := Lib.hid hI
  have HRu := Lib.hid (Kd.C_below hI.rules hb1)
  have HRs := Lib.hid (Kd.C_below hI.row hb1)
  have hll := hI.len
  have hfew := hI.few
  have HGr := Lib.hid hgr
  have HRes := Lib.hid hres
  clear hb1 hk1 hI hgr hres
  go_enter Tryd.func37, Tryd.ntmps37
  go_wp2
  go_loopw [12, 13, 14, 15, 16, 17] (fun v1 v2 v3 dp pl i wr => ∃ (k : Nat) (O : Stk) (d : DS), k ≤ rs.length ∧ i = .int .i64 (k : Int) ∧ dp = .int .i64 (d.depth : Int) ∧ pl = .int .i64 d.place ∧ Hid (TrOut g.rules rs any nt res w1 wr k v1 v2 v3 O d)) (fun _ _ _ _ _ i _ => rs.length - (intOf i).toNat)
  case atStart => exact ⟨0, [], ⟨fr, [], [], 0⟩, by omega, rfl, rfl, rfl, Lib.hid ⟨⟨Kd.R_nil _ _ _ _ _, Kd.R_nil _ _ _ _ _, Kd.R_nil _ _ _ _ _, Below.refl _ _⟩, rfl, by simp [remS], fun x hx => by simp at hx, fun φ k l O' h => by simp at h, by unfold restG; rw [if_pos rfl]; exact HRes.out, by simp, fun _ => rfl⟩⟩
  case round =>
    obtain ⟨k, O, ⟨pl, T, K, m0⟩, hk, rfl, rfl, rfl, HO⟩ := hrel
    obtain ⟨w2, rfl⟩ : ∃ wo : World, wo = wr := ⟨_, rfl⟩
    obtain ⟨b0, b1, b2, b3⟩ := gr_blk (blk_below HK1.out HO.out.mem.bel)
    by_cases hlt : k < rs.length
    · obtain ⟨ad, n, rfl, hn, HN⟩ := at_scalar (Kd.C_below HRs.out HO.out.mem.bel) k hlt 0
      have hdrop : rs.drop k = n :: rs.drop (k + 1) := by
        rw [List.drop_eq_getElem_cons hlt]
        have := HN.out
        rw [List.getD_eq_getElem?_getD, List.getElem?_eq_getElem hlt] at this
        rw [← this]
        rfl
      have HD := Lib.hid hdrop
      clear hdrop
      by_cases h0 : n < 0
      · have HF : Hid (res = none) := Lib.hid (by rw [← HO.out.res]; exact restG_bad HD.out HO.out.pop (.inl h0))
        go_wp2
        ((try simp only [Exit.inBlock, Exit.then]); refine bodyPost_ret (results4_tmp rfl _ _ _) rfl ?_)
        exact treeP_no HF.out (below_next HB1.out HO.out.mem.bel)
      · by_cases h1 : (g.rules.length : Int) ≤ n
        · have HF : Hid (res = none) := Lib.hid (by rw [← HO.out.res]; exact restG_bad HD.out HO.out.pop (.inr h1))
          go_wp2
          ((try simp only [Exit.inBlock, Exit.then]); refine bodyPost_ret (results4_tmp rfl _ _ _) rfl ?_)
          exact treeP_no HF.out (below_next HB1.out HO.out.mem.bel)
        · obtain ⟨j, rfl⟩ : ∃ j : Nat, n = (j : Int) := ⟨n.toNat, by omega⟩
          have hj : j < g.rules.length := by omega
          obtain ⟨adr, x, B, c, r, rfl, k10, k20, hrc, hr, HX⟩ := at_rule HRu.out j hj
          have HK2 : Hid (∀ W, Below w1.heap.size w1 W → W.cell? (adr.add (j * 2)) = some (.int .i64 x) ∧ W.cell? ⟨(adr.add (j * 2)).block, (adr.add (j * 2)).off + 1, none⟩ = some (.slice B r.length c)) := Lib.hid (fun W hW => ⟨(hW.cell (World.block_lt_of_cell? _ _ k10)).trans k10, (hW.cell (World.block_lt_of_cell? _ _ k20)).trans k20⟩)
          have hrule : ruleD g.rules (j : Int) = (x, r) := by unfold ruleD; rw [Int.toNat_natCast]; exact HX.out
          have hxb : 0 ≤ x ∧ x ≤ 100 := HGr.out (x, r) (by rw [← HX.out]; exact getD_mem _ _ _ hj)
          have hl32 : r.length ≤ 32 := HI.out.short (x, r) (by rw [← HX.out]; exact getD_mem _ _ _ hj)
          have HRule := Lib.hid hrule
          have HRr := Lib.hid hr
          have hjb : ¬ ((j : Int) < 0 ∨ (g.rules.length : Int) ≤ (j : Int)) := by omega
          have HJb := Lib.hid hjb
          have hj1 : decide (g.rules.length ≤ j) = false := by simp; omega
          have hj2 : decide ((g.rules.length : Int) ≤ (j : Int)) = false := by simp; omega
          have hj3 : decide ((j : Int) < 0) = false := by simp
          clear hrule hr k10 k20 hjb
          have k1 := (HK2.out _ HO.out.mem.bel).1
          by_cases hk0 : k = 0
          · have hkI : ((k : Int) == 0) = true := by rw [hk0]; rfl
            by_cases ha : any = false ∧ x ≠ nt
            · have HF : Hid (res = none) := Lib.hid (by rw [← HO.out.res]; subst hk0; exact restG_first_no HD.out HJb.out (by rw [HRule.out]; exact ha))
              obtain ⟨rfl, hx⟩ := ha
              rcases hroot with ⟨_, h⟩ | ⟨hr0, _, rfl⟩
              · cases h
              have hxI : (x == root) = false := beq_eq_false_iff_ne.2 hx
              have hxJ : (x != root) = true := by simp [hx]
              clear hk0
              go_wp2
              ((try simp only [Exit.inBlock, Exit.then]); refine bodyPost_ret (results4_tmp rfl _ _ _) rfl ?_)
              exact treeP_no HF.out (below_next HB1.out HO.out.mem.bel)
            · have hOn : O = [] := HO.out.z hk0
              subst hOn
              have HNx : Hid (restG (opsD inc64) g.rules rs any nt (k + 1) (popG (opsD inc64) [(k, 0, r)] ⟨pl, T ++ [((j : Int), pl, 0)], K, max m0 1⟩).1 (popG (opsD inc64) [(k, 0, r)] ⟨pl, T ++ [((j : Int), pl, 0)], K, max m0 1⟩).2 = res) := Lib.hid (by
                rw [← HO.out.res]
                subst hk0
                have := restG_first (o := opsD inc64) (O := ([] : Stk)) (d := ⟨pl, T, K, m0⟩) HD.out HJb.out (by rw [HRule.out]; exact ha)
                rw [HRule.out] at this
                exact this.symm)
              have HB : Hid (TrAt w1 w2 u12 u13 u14 [] ⟨pl, T, K, m0⟩) := Lib.hid HO.out.mem
              have HSt : Hid (StkOk g.rules T []) := Lib.hid HO.out.stk
              have HTk : Hid (K.length + remS [] ≤ 32 * k) := Lib.hid HO.out.tok
              have HOl : Hid (([] : Stk).length ≤ k) := Lib.hid HO.out.ol
              have hz1 : max m0 1 = max m0 (([] : Stk).length + 1) := rfl
              rw [hz1] at HNx
              clear hz1
              obtain ⟨Ob, hOb⟩ : ∃ Ob : Stk, ([] : Stk) = Ob := ⟨_, rfl⟩
              rw [hOb] at HNx HB HSt HTk HOl
              obtain ⟨A3, c3, e3⟩ := Kd.R_slice HB.out.op
              obtain ⟨n3, hn3⟩ : ∃ n, (frs Ob).length = n := ⟨_, rfl⟩
              rw [hn3] at e3
              subst e3
              obtain ⟨A1, c1, e1⟩ := Kd.R_slice HB.out.tr
              obtain ⟨n1, hn1⟩ : ∃ n, T.length = n := ⟨_, rfl⟩
              simp only [hn1] at e1
              subst e1
              clear hOb hn3 hn1
              have hcase : root < 0 ∨ 0 ≤ root ∧ x = root := by
                rcases hroot with ⟨h, _⟩ | ⟨h, h2, h3⟩
                · exact .inl h
                · exact .inr ⟨h, Classical.byContradiction (fun hx => ha ⟨h2, fun e => hx (e.trans h3.symm)⟩)⟩
              clear hk0 ha
              rcases hcase with hr0 | ⟨hr0, rfl⟩
              · go_upto_region 21 with (fail)
                have HTl : Hid (T.length = k) := Lib.hid HO.out.len
                have HBd : Hid ((T.length + 1) * 24 ≤ 140737488355328) := Lib.hid (by have := HTl.out; omega)
                have HBd2 : Hid (((frs Ob).length + 1) * 16 ≤ 140737488355328) := Lib.hid (by rw [frs_length]; have := HOl.out; omega)
                have HNk : Hid (∀ (X : List (Int × Int × Int)), X = T ++ [((j : Int), pl, (0 : Int))] → X.length = k + 1) := Lib.hid (fun X hX => by rw [hX, List.length_append, HTl.out]; rfl)
                obtain ⟨mo, hmo⟩ : ∃ n, Ob.length = n := ⟨_, rfl⟩
                have HMo := Lib.hid hmo
                obtain ⟨mx, hmx⟩ : ∃ n, max m0 (mo + 1) = n := ⟨_, rfl⟩
                have hmx1 : (if m0 < mo + 1 then ((mo : Int) + 1) else (m0 : Int)) = (mx : Int) := by split <;> omega
                have hmx2 : (if (m0 : Int) < (mo : Int) + 1 then ((mo : Int) + 1) else (m0 : Int)) = (mx : Int) := by split <;> omega
                have HMx := Lib.hid hmx
                clear hmx hmo
                go_wp2_with (first
                  | ((with_reducible refine gate_builtin (b := .append) (xs := #[.tmp 98, .tmp 102]) rfl ?_); at_builtin; go_loud (refine Kd.R_append KStep (w0 := w1) w1.heap.size rfl (.tmp 98) (.tmp 102) 29 55 (.agg #[.int .i64 0, .int .i64 0, .int .i64 0]) 24 rfl Tryd.underlying29 infoStep rfl (by decide) (by omega) (.slice A1 n1 c1) T ((j : Int), pl, 0) [.int .i64 (j : Int), .int .i64 pl, .int .i64 0] (fun _ => True) (fun _ => False) rfl rfl (KStep_M _ _ _ _ _ _) (fun _ hk => hk.elim) (fun _ _ => trivial) HB.out.tr HB.out.bel HB.out.bel.size HBd.out ?_); intro v4 w4 ho hb hg hat; (obtain ⟨g4, c4, e4, -⟩ := Kd.R_form ho (by simp); rw [HNk.out _ rfl] at e4; subst e4; have HM4 := Lib.hid (HB.out.setT ho hb hg pl m0); clear ho hb hg hat))
                  | ((with_reducible refine gate_builtin (b := .append) (xs := #[.tmp 104, .tmp 107]) rfl ?_); at_builtin; go_loud (refine Kd.R_append KFr (w0 := w1) w1.heap.size rfl (.tmp 104) (.tmp 107) 107 109 (.agg #[.int .i64 0, .int .i64 0]) 16 rfl Tryd.underlying107 infoFrame rfl (by decide) (by omega) (.slice A3 n3 c3) (frs Ob) ((k : Int), 0) [.int .i64 (k : Int), .int .i64 0] (fun _ => True) (fun _ => False) rfl rfl (KFr_M _ _ _ _ _) (fun _ hk => hk.elim) (fun _ _ => trivial) HM4.out.op HM4.out.bel HM4.out.bel.size HBd2.out ?_); intro v5 w5 ho hb hg hat; (have HM5 := Lib.hid (HM4.out.setO (O' := (k, 0, r) :: Ob) (by rw [frs_cons]; exact ho) hb hg); obtain ⟨g5, c5, e5, -⟩ := HM5.out.open_ HMo.out; subst e5; clear ho hb hg hat)))
                obtain ⟨S, hS⟩ : ∃ S, K.length + remS ((k, 0, r) :: Ob) = S := ⟨_, rfl⟩
                obtain ⟨tgt, htg⟩ : ∃ t, popG (opsD inc64) ((k, 0, r) :: Ob) ⟨pl, T ++ [((j : Int), pl, 0)], K, mx⟩ = t := ⟨_, rfl⟩
                have HNt : Hid (restG (opsD inc64) g.rules rs any nt (k + 1) tgt.1 tgt.2 = res) := Lib.hid (by
                  have := HNx.out
                  rw [HMo.out, HMx.out, htg] at this
                  exact this)
                have HSk : Hid (S ≤ 32 * (k + 1)) := Lib.hid (by
                  have := HTk.out
                  rw [← hS]
                  simp only [remS]
                  omega)
                have HJ0 : Hid (TrInn g.rules tgt S k mx w1 w5 (.slice (some ⟨g4, 0, none⟩) (k + 1) c4) u13 (.slice (some ⟨g5, 0, none⟩) (mo + 1) c5) ((k, 0, r) :: Ob) ⟨pl, T ++ [((j : Int), pl, 0)], K, mx⟩) := Lib.hid
                  ⟨HM5.out.num pl mx, HNk.out _ rfl, hS, StkOk.cons (by have := FrOk.new (G := g.rules) (T := T) (p := pl) (q := 0) HJb.out; rw [HTl.out, HRule.out] at this; exact this) (HSt.out.snoc _), htg, by simp only [List.length_cons]; have := HOl.out; omega, rfl⟩
                clear hS htg HM5 HM4 HB HNx hmx1 hmx2 HBd HBd2 HNk b0 b1 b2 b3
                go_loopw [13, 14, 16] (fun v2 v3 p wr => ∃ (O : Stk) (d : DS), p = .int .i64 d.place ∧ Hid (TrInn g.rules tgt S k mx w1 wr (.slice (some ⟨g4, 0, none⟩) (k + 1) c4) v2 v3 O d)) (fun v2 v3 _ _ => (S - lenOf v2) + lenOf v3)
                case atStart => exact ⟨_, _, rfl, HJ0⟩
                case round =>
                  obtain ⟨O2, ⟨p2, T2, K2, m2⟩, rfl, HJ⟩ := hrel
                  obtain ⟨w6, rfl⟩ : ∃ wo : World, wo = wr := ⟨_, rfl⟩
                  obtain rfl : m2 = mx := HJ.out.dep
                  have b3 := (gr_blk (blk_below HK1.out HJ.out.mem.bel)).2.2.2
                  cases O2 with
                  | nil =>
                    obtain ⟨A6, c6, e6⟩ := Kd.R_slice HJ.out.mem.op
                    rw [show (frs []).length = 0 from rfl] at e6
                    subst e6
                    go_wp2
                    go_roundw
                    case rel => exact ⟨k + 1, [], ⟨p2, T2, K2, m2⟩, by omega, by go_num, rfl, rfl, Lib.hid (HJ.out.out (fun φ q l O' h => by simp at h) HSk.out HNt.out)⟩
                    case measure => simp [intOf]; omega
                  | cons fr O3 =>
                    obtain ⟨φ, q, l⟩ := fr
                    obtain ⟨mo2, hmo2⟩ : ∃ n, O3.length = n := ⟨_, rfl⟩
                    obtain ⟨g6, c6, e6, hc6, f0, f1, ff, hg6⟩ := HJ.out.mem.open_ hmo2
                    subst e6
                    have hmoB : mo2 ≤ 200001 := by have := HJ.out.ol; simp only [List.length_cons] at this; omega
                    obtain ⟨hφ, ⟨hr0, hr1⟩, hq, hl⟩ := HJ.out.stk _ (List.mem_cons_self ..)
                    simp only at hφ hr0 hr1 hq hl
                    obtain ⟨s0, -, -⟩ := st_at HJ.out.mem.tr φ hφ
                    obtain ⟨jn, hjn⟩ : ∃ jn : Nat, (T2.getD φ (0, 0, 0)).1 = (jn : Int) := ⟨(T2.getD φ (0, 0, 0)).1.toNat, by omega⟩
                    simp only [hjn] at s0 hr1 hq hl hr0
                    obtain ⟨ady, y0, B2, c2, r2, e2, p10, p20, hrc2, hr2, HX2⟩ := at_rule HRu.out jn (by omega)
                    obtain rfl := Option.some.inj e2
                    have hrule2 : ruleD g.rules (jn : Int) = (y0, r2) := by unfold ruleD; rw [Int.toNat_natCast]; exact HX2.out
                    rw [hrule2] at hq hl
                    simp only at hq hl
                    have hTk : T2.length = k + 1 := HJ.out.len
                    have hjnl : jn < g.rules.length := by omega
                    have HMo2 := Lib.hid hmo2
                    have HL := Lib.hid hl
                    have Hφ := Lib.hid hφ
                    have hφI : (φ : Int) < (k : Int) + 1 := by omega
                    have hφN : φ < k + 1 := by omega
                    have HK20 := Lib.hid p20
                    have Hr2 := Lib.hid hr2
                    have hq1 : q ≤ r2.length := hq
                    clear hrule2 hjn e2 p10 hr2 hmo2 p20 hl
                    go_upto_region 26 with (fail)
                    obtain ⟨w7, hw7⟩ : ∃ w7, w6.alloc (.cells #[.int .i64 (φ : Int), .int .i64 (q : Int)] 109) = w7 := ⟨_, rfl⟩
                    have h7 : Below w6.heap.size w6 w7 := by rw [← hw7]; exact below_alloc (Below.refl _ _) _
                    have a0 : w7.cell? ⟨w6.heap.size, 0, none⟩ = some (.int .i64 (φ : Int)) := by rw [← hw7]; simp [go_sem]
                    have a1 : w7.cell? ⟨w6.heap.size, 1, none⟩ = some (.int .i64 (q : Int)) := by rw [← hw7]; simp [go_sem]
                    rw [hw7]
                    have HM7 := Lib.hid (HJ.out.mem.below h7)
                    have b3 := (gr_blk (blk_below HK1.out HM7.out.bel)).2.2.2
                    obtain ⟨s0', ⟨us, s2⟩, sf⟩ := st_at HM7.out.tr φ Hφ.out
                    have s0 := (h7.cell (World.block_lt_of_cell? _ _ s0)).trans s0
                    have p20 := (HM7.out.bel.cell (World.block_lt_of_cell? _ _ HK20.out)).trans HK20.out
                    have f1 := (h7.cell (World.block_lt_of_cell? _ _ f1)).trans f1
                    clear hw7 h7 s0' f0 ff
                    go_quiet (fail)
                    rename Nat => nq
                    obtain ⟨w8, hw8⟩ : ∃ w8, w7.drewN nq = w8 := ⟨_, rfl⟩
                    have HM8 : Hid (TrAt w1 w8 (.slice (some ⟨g4, 0, none⟩) (k + 1) c4) u13 (.slice (some ⟨g6, 0, none⟩) (mo2 + 1) c6) ((φ, q, l) :: O3) ⟨p2, T2, K2, m2⟩) := Lib.hid (by rw [← hw8]; exact HM7.out.drewN nq)
                    have a0 : w8.cell? ⟨w6.heap.size, 0, none⟩ = some (.int .i64 (φ : Int)) := by rw [← hw8, World.cell?_drewN]; exact a0
                    have a1 : w8.cell? ⟨w6.heap.size, 1, none⟩ = some (.int .i64 (q : Int)) := by rw [← hw8, World.cell?_drewN]; exact a1
                    have hr2 := Kd.C_below Hr2.out HM8.out.bel
                    rw [hw8]
                    clear hw8 s0 s2 sf p20 f1 b3
                    cases l with
                    | nil =>
                      have hqe : q = r2.length := by have := congrArg List.length HL.out; simp only [List.length_nil, List.length_drop] at this; omega
                      have hqI : ((q : Int) == (r2.length : Int)) = true := by rw [hqe]; simp
                      obtain ⟨-, ⟨us, s2⟩, sf⟩ := st_at HM8.out.tr φ Hφ.out
                      have HM9 : Hid (TrAt w1 (w8.setCell ⟨g4, φ * 3 + 2, none⟩ (.int .i64 p2)) (.slice (some ⟨g4, 0, none⟩) (k + 1) c4) u13 (.slice (some ⟨g6, 0, none⟩) mo2 c6) O3 ((opsD inc64).lv ⟨p2, T2, K2, m2⟩ φ)) := Lib.hid ((HM8.out.pop HMo2.out).leave φ Hφ.out)
                      clear hr2 hqe
                      go_wp2
                      refine ⟨⟨O3, (opsD inc64).lv ⟨p2, T2, K2, m2⟩ φ, rfl, Lib.hid (HJ.out.pop1 HM9.out)⟩, ?_⟩
                      simp only [lenOf]
                      omega
                    | cons y l =>
                      obtain ⟨hq2, hqy⟩ := at_drop HL.out
                      have hq32 : q < 32 := by have := HI.out.short (y0, r2) (by rw [← HX2.out]; exact getD_mem _ _ _ hjnl); simp only at this; omega
                      have hqI : ((q : Int) == (r2.length : Int)) = false := by rw [beq_eq_false_iff_ne]; omega
                      obtain ⟨adq, yy, rfl, hy, HY⟩ := at_scalar hr2 q hq2 0
                      obtain rfl : y = yy := by rw [← HY.out]; exact hqy.symm
                      clear hqy hr2
                      by_cases hneg : y < 0
                      · go_wp2
                        go_roundw
                        case rel => exact ⟨k + 1, (φ, q, y :: l) :: O3, ⟨p2, T2, K2, m2⟩, by omega, by go_num, rfl, rfl, Lib.hid (TrInn.out ⟨HM8.out, HJ.out.len, HJ.out.tok, HJ.out.stk, HJ.out.eq, HJ.out.ol, HJ.out.dep⟩ (fun φ' q' l' O' h => by injection h with h1 h2; injection h1 with h3 h4; injection h4 with h5 h6; exact ⟨y, l, h6.symm, hneg⟩) HSk.out HNt.out)⟩
                        case measure => simp [intOf]; omega
                      · obtain ⟨A9, c9, e9⟩ := Kd.R_slice HM8.out.tk
                        obtain ⟨n9, hn9⟩ : ∃ n, K2.length = n := ⟨_, rfl⟩
                        simp only [hn9] at e9
                        subst e9
                        have HKb : Hid ((K2.length + 1) * 8 ≤ 140737488355328) := Lib.hid (by have := HJ.out.tok; have := HSk.out; simp only at *; omega)
                        have HKS : Hid (K2.length + remS ((φ, q, y :: l) :: O3) = S) := Lib.hid HJ.out.tok
                        have Hn9 := Lib.hid hn9
                        clear hn9
                        go_wp2_with ((with_reducible refine gate_builtin (b := .append) (xs := #[.tmp 155, .tmp 161]) rfl ?_); at_builtin; go_loud (refine Kd.R_append (Kd.int .i64) (w0 := w1) w1.heap.size rfl (.tmp 155) (.tmp 161) 26 3 (.int .i64 0) 8 rfl Tryd.underlying26 infoInt rfl (by decide) (by omega) (.slice A9 n9 c9) K2 y [.int .i64 y] (fun _ => True) (fun _ => False) rfl rfl rfl (fun _ hk => hk.elim) (fun _ _ => trivial) HM8.out.tk HM8.out.bel HM8.out.bel.size HKb.out ?_); intro v10 w10 ho hb hg hat; (obtain ⟨A10, c10, e10⟩ := Kd.R_slice ho; rw [List.length_append, Hn9.out] at e10; subst e10; have HM10 := Lib.hid (HM8.out.setK ho hb hg (inc64 p2) m2); obtain ⟨g11, c11, e11, hc11, t0, t1, tf, -⟩ := HM10.out.open_ HMo2.out; injection e11 with e12 e13 e14; injection e12 with e12; injection e12 with e12; subst e12; subst e14; clear ho hb hg hat t0 e13))
                        refine ⟨⟨(φ, q + 1, l) :: O3, ⟨inc64 p2, T2, K2 ++ [y], m2⟩, rfl, Lib.hid (HJ.out.tok1 hneg ?_)⟩, ?_⟩
                        · have := HM10.out.done1 (q' := q + 1) (l' := l) HMo2.out
                          rwa [show ((q + 1 : Nat) : Int) = (q : Int) + 1 by omega] at this
                        · have h1 := HKS.out
                          have h2 := Hn9.out
                          simp only [remS, List.length_cons] at h1
                          simp only [lenOf]
                          omega
              · have hxI : (x == x) = true := by simp
                have hxJ : (x != x) = false := by simp
                go_upto_region 21 with (fail)
                clear hxI hxJ
                have HTl : Hid (T.length = k) := Lib.hid HO.out.len
                have HBd : Hid ((T.length + 1) * 24 ≤ 140737488355328) := Lib.hid (by have := HTl.out; omega)
                have HBd2 : Hid (((frs Ob).length + 1) * 16 ≤ 140737488355328) := Lib.hid (by rw [frs_length]; have := HOl.out; omega)
                have HNk : Hid (∀ (X : List (Int × Int × Int)), X = T ++ [((j : Int), pl, (0 : Int))] → X.length = k + 1) := Lib.hid (fun X hX => by rw [hX, List.length_append, HTl.out]; rfl)
                obtain ⟨mo, hmo⟩ : ∃ n, Ob.length = n := ⟨_, rfl⟩
                have HMo := Lib.hid hmo
                obtain ⟨mx, hmx⟩ : ∃ n, max m0 (mo + 1) = n := ⟨_, rfl⟩
                have hmx1 : (if m0 < mo + 1 then ((mo : Int) + 1) else (m0 : Int)) = (mx : Int) := by split <;> omega
                have hmx2 : (if (m0 : Int) < (mo : Int) + 1 then ((mo : Int) + 1) else (m0 : Int)) = (mx : Int) := by split <;> omega
                have HMx := Lib.hid hmx
                clear hmx hmo
                go_wp2_with (first
                  | ((with_reducible refine gate_builtin (b := .append) (xs := #[.tmp 98, .tmp 102]) rfl ?_); at_builtin; go_loud (refine Kd.R_append KStep (w0 := w1) w1.heap.size rfl (.tmp 98) (.tmp 102) 29 55 (.agg #[.int .i64 0, .int .i64 0, .int .i64 0]) 24 rfl Tryd.underlying29 infoStep rfl (by decide) (by omega) (.slice A1 n1 c1) T ((j : Int), pl, 0) [.int .i64 (j : Int), .int .i64 pl, .int .i64 0] (fun _ => True) (fun _ => False) rfl rfl (KStep_M _ _ _ _ _ _) (fun _ hk => hk.elim) (fun _ _ => trivial) HB.out.tr HB.out.bel HB.out.bel.size HBd.out ?_); intro v4 w4 ho hb hg hat; (obtain ⟨g4, c4, e4, -⟩ := Kd.R_form ho (by simp); rw [HNk.out _ rfl] at e4; subst e4; have HM4 := Lib.hid (HB.out.setT ho hb hg pl m0); clear ho hb hg hat))
                  | ((with_reducible refine gate_builtin (b := .append) (xs := #[.tmp 104, .tmp 107]) rfl ?_); at_builtin; go_loud (refine Kd.R_append KFr (w0 := w1) w1.heap.size rfl (.tmp 104) (.tmp 107) 107 109 (.agg #[.int .i64 0, .int .i64 0]) 16 rfl Tryd.underlying107 infoFrame rfl (by decide) (by omega) (.slice A3 n3 c3) (frs Ob) ((k : Int), 0) [.int .i64 (k : Int), .int .i64 0] (fun _ => True) (fun _ => False) rfl rfl (KFr_M _ _ _ _ _) (fun _ hk => hk.elim) (fun _ _ => trivial) HM4.out.op HM4.out.bel HM4.out.bel.size HBd2.out ?_); intro v5 w5 ho hb hg hat; (have HM5 := Lib.hid (HM4.out.setO (O' := (k, 0, r) :: Ob) (by rw [frs_cons]; exact ho) hb hg); obtain ⟨g5, c5, e5, -⟩ := HM5.out.open_ HMo.out; subst e5; clear ho hb hg hat)))
                obtain ⟨S, hS⟩ : ∃ S, K.length + remS ((k, 0, r) :: Ob) = S := ⟨_, rfl⟩
                obtain ⟨tgt, htg⟩ : ∃ t, popG (opsD inc64) ((k, 0, r) :: Ob) ⟨pl, T ++ [((j : Int), pl, 0)], K, mx⟩ = t := ⟨_, rfl⟩
                have HNt : Hid (restG (opsD inc64) g.rules rs any nt (k + 1) tgt.1 tgt.2 = res) := Lib.hid (by
                  have := HNx.out
                  rw [HMo.out, HMx.out, htg] at this
                  exact this)
                have HSk : Hid (S ≤ 32 * (k + 1)) := Lib.hid (by
                  have := HTk.out
                  rw [← hS]
                  simp only [remS]
                  omega)
                have HJ0 : Hid (TrInn g.rules tgt S k mx w1 w5 (.slice (some ⟨g4, 0, none⟩) (k + 1) c4) u13 (.slice (some ⟨g5, 0, none⟩) (mo + 1) c5) ((k, 0, r) :: Ob) ⟨pl, T ++ [((j : Int), pl, 0)], K, mx⟩) := Lib.hid
                  ⟨HM5.out.num pl mx, HNk.out _ rfl, hS, StkOk.cons (by have := FrOk.new (G := g.rules) (T := T) (p := pl) (q := 0) HJb.out; rw [HTl.out, HRule.out] at this; exact this) (HSt.out.snoc _), htg, by simp only [List.length_cons]; have := HOl.out; omega, rfl⟩
                clear hS htg HM5 HM4 HB HNx hmx1 hmx2 HBd HBd2 HNk b0 b1 b2 b3
                go_loopw [13, 14, 16] (fun v2 v3 p wr => ∃ (O : Stk) (d : DS), p = .int .i64 d.place ∧ Hid (TrInn g.rules tgt S k mx w1 wr (.slice (some ⟨g4, 0, none⟩) (k + 1) c4) v2 v3 O d)) (fun v2 v3 _ _ => (S - lenOf v2) + lenOf v3)
                case atStart => exact ⟨_, _, rfl, HJ0⟩
                case round =>
                  obtain ⟨O2, ⟨p2, T2, K2, m2⟩, rfl, HJ⟩ := hrel
                  obtain ⟨w6, rfl⟩ : ∃ wo : World, wo = wr := ⟨_, rfl⟩
                  obtain rfl : m2 = mx := HJ.out.dep
                  have b3 := (gr_blk (blk_below HK1.out HJ.out.mem.bel)).2.2.2
                  cases O2 with
                  | nil =>
                    obtain ⟨A6, c6, e6⟩ := Kd.R_slice HJ.out.mem.op
                    rw [show (frs []).length = 0 from rfl] at e6
                    subst e6
                    go_wp2
                    go_roundw
                    case rel => exact ⟨k + 1, [], ⟨p2, T2, K2, m2⟩, by omega, by go_num, rfl, rfl, Lib.hid (HJ.out.out (fun φ q l O' h => by simp at h) HSk.out HNt.out)⟩
                    case measure => simp [intOf]; omega
                  | cons fr O3 =>
                    obtain ⟨φ, q, l⟩ := fr
                    obtain ⟨mo2, hmo2⟩ : ∃ n, O3.length = n := ⟨_, rfl⟩
                    obtain ⟨g6, c6, e6, hc6, f0, f1, ff, hg6⟩ := HJ.out.mem.open_ hmo2
                    subst e6
                    have hmoB : mo2 ≤ 200001 := by have := HJ.out.ol; simp only [List.length_cons] at this; omega
                    obtain ⟨hφ, ⟨hr0, hr1⟩, hq, hl⟩ := HJ.out.stk _ (List.mem_cons_self ..)
                    simp only at hφ hr0 hr1 hq hl
                    obtain ⟨s0, -, -⟩ := st_at HJ.out.mem.tr φ hφ
                    obtain ⟨jn, hjn⟩ : ∃ jn : Nat, (T2.getD φ (0, 0, 0)).1 = (jn : Int) := ⟨(T2.getD φ (0, 0, 0)).1.toNat, by omega⟩
                    simp only [hjn] at s0 hr1 hq hl hr0
                    obtain ⟨ady, y0, B2, c2, r2, e2, p10, p20, hrc2, hr2, HX2⟩ := at_rule HRu.out jn (by omega)
                    obtain rfl := Option.some.inj e2
                    have hrule2 : ruleD g.rules (jn : Int) = (y0, r2) := by unfold ruleD; rw [Int.toNat_natCast]; exact HX2.out
                    rw [hrule2] at hq hl
                    simp only at hq hl
                    have hTk : T2.length = k + 1 := HJ.out.len
                    have hjnl : jn < g.rules.length := by omega
                    have HMo2 := Lib.hid hmo2
                    have HL := Lib.hid hl
                    have Hφ := Lib.hid hφ
                    have hφI : (φ : Int) < (k : Int) + 1 := by omega
                    have hφN : φ < k + 1 := by omega
                    have HK20 := Lib.hid p20
                    have Hr2 := Lib.hid hr2
                    have hq1 : q ≤ r2.length := hq
                    clear hrule2 hjn e2 p10 hr2 hmo2 p20 hl
                    go_upto_region 26 with (fail)
                    obtain ⟨w7, hw7⟩ : ∃ w7, w6.alloc (.cells #[.int .i64 (φ : Int), .int .i64 (q : Int)] 109) = w7 := ⟨_, rfl⟩
                    have h7 : Below w6.heap.size w6 w7 := by rw [← hw7]; exact below_alloc (Below.refl _ _) _
                    have a0 : w7.cell? ⟨w6.heap.size, 0, none⟩ = some (.int .i64 (φ : Int)) := by rw [← hw7]; simp [go_sem]
                    have a1 : w7.cell? ⟨w6.heap.size, 1, none⟩ = some (.int .i64 (q : Int)) := by rw [← hw7]; simp [go_sem]
                    rw [hw7]
                    have HM7 := Lib.hid (HJ.out.mem.below h7)
                    have b3 := (gr_blk (blk_below HK1.out HM7.out.bel)).2.2.2
                    obtain ⟨s0', ⟨us, s2⟩, sf⟩ := st_at HM7.out.tr φ Hφ.out
                    have s0 := (h7.cell (World.block_lt_of_cell? _ _ s0)).trans s0
                    have p20 := (HM7.out.bel.cell (World.block_lt_of_cell? _ _ HK20.out)).trans HK20.out
                    have f1 := (h7.cell (World.block_lt_of_cell? _ _ f1)).trans f1
                    clear hw7 h7 s0' f0 ff
                    go_quiet (fail)
                    rename Nat => nq
                    obtain ⟨w8, hw8⟩ : ∃ w8, w7.drewN nq = w8 := ⟨_, rfl⟩
                    have HM8 : Hid (TrAt w1 w8 (.slice (some ⟨g4, 0, none⟩) (k + 1) c4) u13 (.slice (some ⟨g6, 0, none⟩) (mo2 + 1) c6) ((φ, q, l) :: O3) ⟨p2, T2, K2, m2⟩) := Lib.hid (by rw [← hw8]; exact HM7.out.drewN nq)
                    have a0 : w8.cell? ⟨w6.heap.size, 0, none⟩ = some (.int .i64 (φ : Int)) := by rw [← hw8, World.cell?_drewN]; exact a0
                    have a1 : w8.cell? ⟨w6.heap.size, 1, none⟩ = some (.int .i64 (q : Int)) := by rw [← hw8, World.cell?_drewN]; exact a1
                    have hr2 := Kd.C_below Hr2.out HM8.out.bel
                    rw [hw8]
                    clear hw8 s0 s2 sf p20 f1 b3
                    cases l with
                    | nil =>
                      have hqe : q = r2.length := by have := congrArg List.length HL.out; simp only [List.length_nil, List.length_drop] at this; omega
                      have hqI : ((q : Int) == (r2.length : Int)) = true := by rw [hqe]; simp
                      obtain ⟨-, ⟨us, s2⟩, sf⟩ := st_at HM8.out.tr φ Hφ.out
                      have HM9 : Hid (TrAt w1 (w8.setCell ⟨g4, φ * 3 + 2, none⟩ (.int .i64 p2)) (.slice (some ⟨g4, 0, none⟩) (k + 1) c4) u13 (.slice (some ⟨g6, 0, none⟩) mo2 c6) O3 ((opsD inc64).lv ⟨p2, T2, K2, m2⟩ φ)) := Lib.hid ((HM8.out.pop HMo2.out).leave φ Hφ.out)
                      clear hr2 hqe
                      go_wp2
                      refine ⟨⟨O3, (opsD inc64).lv ⟨p2, T2, K2, m2⟩ φ, rfl, Lib.hid (HJ.out.pop1 HM9.out)⟩, ?_⟩
                      simp only [lenOf]
                      omega
                    | cons y l =>
                      obtain ⟨hq2, hqy⟩ := at_drop HL.out
                      have hq32 : q < 32 := by have := HI.out.short (y0, r2) (by rw [← HX2.out]; exact getD_mem _ _ _ hjnl); simp only at this; omega
                      have hqI : ((q : Int) == (r2.length : Int)) = false := by rw [beq_eq_false_iff_ne]; omega
                      obtain ⟨adq, yy, rfl, hy, HY⟩ := at_scalar hr2 q hq2 0
                      obtain rfl : y = yy := by rw [← HY.out]; exact hqy.symm
                      clear hqy hr2
                      by_cases hneg : y < 0
                      · go_wp2
                        go_roundw
                        case rel => exact ⟨k + 1, (φ, q, y :: l) :: O3, ⟨p2, T2, K2, m2⟩, by omega, by go_num, rfl, rfl, Lib.hid (TrInn.out ⟨HM8.out, HJ.out.len, HJ.out.tok, HJ.out.stk, HJ.out.eq, HJ.out.ol, HJ.out.dep⟩ (fun φ' q' l' O' h => by injection h with h1 h2; injection h1 with h3 h4; injection h4 with h5 h6; exact ⟨y, l, h6.symm, hneg⟩) HSk.out HNt.out)⟩
                        case measure => simp [intOf]; omega
                      · obtain ⟨A9, c9, e9⟩ := Kd.R_slice HM8.out.tk
                        obtain ⟨n9, hn9⟩ : ∃ n, K2.length = n := ⟨_, rfl⟩
                        simp only [hn9] at e9
                        subst e9
                        have HKb : Hid ((K2.length + 1) * 8 ≤ 140737488355328) := Lib.hid (by have := HJ.out.tok; have := HSk.out; simp only at *; omega)
                        have HKS : Hid (K2.length + remS ((φ, q, y :: l) :: O3) = S) := Lib.hid HJ.out.tok
                        have Hn9 := Lib.hid hn9
                        clear hn9
                        go_wp2_with ((with_reducible refine gate_builtin (b := .append) (xs := #[.tmp 155, .tmp 161]) rfl ?_); at_builtin; go_loud (refine Kd.R_append (Kd.int .i64) (w0 := w1) w1.heap.size rfl (.tmp 155) (.tmp 161) 26 3 (.int .i64 0) 8 rfl Tryd.underlying26 infoInt rfl (by decide) (by omega) (.slice A9 n9 c9) K2 y [.int .i64 y] (fun _ => True) (fun _ => False) rfl rfl rfl (fun _ hk => hk.elim) (fun _ _ => trivial) HM8.out.tk HM8.out.bel HM8.out.bel.size HKb.out ?_); intro v10 w10 ho hb hg hat; (obtain ⟨A10, c10, e10⟩ := Kd.R_slice ho; rw [List.length_append, Hn9.out] at e10; subst e10; have HM10 := Lib.hid (HM8.out.setK ho hb hg (inc64 p2) m2); obtain ⟨g11, c11, e11, hc11, t0, t1, tf, -⟩ := HM10.out.open_ HMo2.out; injection e11 with e12 e13 e14; injection e12 with e12; injection e12 with e12; subst e12; subst e14; clear ho hb hg hat t0 e13))
                        refine ⟨⟨(φ, q + 1, l) :: O3, ⟨inc64 p2, T2, K2 ++ [y], m2⟩, rfl, Lib.hid (HJ.out.tok1 hneg ?_)⟩, ?_⟩
                        · have := HM10.out.done1 (q' := q + 1) (l' := l) HMo2.out
                          rwa [show ((q + 1 : Nat) : Int) = (q : Int) + 1 by omega] at this
                        · have h1 := HKS.out
                          have h2 := Hn9.out
                          simp only [remS, List.length_cons] at h1
                          simp only [lenOf]
                          omega
          · have hkp : 0 < k := by omega
            have hkI : ((k : Int) == 0) = false := by rw [beq_eq_false_iff_ne]; omega
            cases O with
            | nil =>
              have HF : Hid (res = none) := Lib.hid (by rw [← HO.out.res]; exact restG_empty HD.out hkp)
              obtain ⟨A6, c6, e6⟩ := Kd.R_slice HO.out.mem.op
              rw [show (frs []).length = 0 from rfl] at e6
              subst e6
              clear hk0
              go_wp2
              ((try simp only [Exit.inBlock, Exit.then]); refine bodyPost_ret (results4_tmp rfl _ _ _) rfl ?_)
              exact treeP_no HF.out (below_next HB1.out HO.out.mem.bel)
            | cons fr O3 =>
              obtain ⟨φ, q, l⟩ := fr
              obtain ⟨x2, l', rfl, hx2⟩ := HO.out.pop φ q l O3 rfl
              obtain ⟨mo2, hmo2⟩ : ∃ n, O3.length = n := ⟨_, rfl⟩
              obtain ⟨g6, c6, e6, hc6, f0, f1, ff, hg6⟩ := HO.out.mem.open_ hmo2
              subst e6
              have hmoB : mo2 ≤ 200001 := by have := HO.out.ol; simp only [List.length_cons] at this; omega
              obtain ⟨hφ, ⟨hr0, hr1⟩, hq, hl⟩ := HO.out.stk _ (List.mem_cons_self ..)
              simp only at hφ hr0 hr1 hq hl
              have hTk : T.length = k := HO.out.len
              obtain ⟨g1, c1, e1, -⟩ := Kd.R_form HO.out.mem.tr (by show 0 < T.length; omega)
              simp only [hTk] at e1
              subst e1
              obtain ⟨s0, -, -⟩ := st_at HO.out.mem.tr φ hφ
              obtain ⟨jn, hjn⟩ : ∃ jn : Nat, (T.getD φ (0, 0, 0)).1 = (jn : Int) := ⟨(T.getD φ (0, 0, 0)).1.toNat, by omega⟩
              simp only [hjn] at s0 hr1 hq hl hr0
              obtain ⟨ady, y0, B2, cc2, r2, e2, p10, p20, hrc2, hr2, HX2⟩ := at_rule HRu.out jn (by omega)
              obtain rfl := Option.some.inj e2
              have hrule2 : ruleD g.rules (jn : Int) = (y0, r2) := by unfold ruleD; rw [Int.toNat_natCast]; exact HX2.out
              rw [hrule2] at hq hl
              simp only at hq hl
              have hjnl : jn < g.rules.length := by omega
              obtain ⟨hq2, hqy⟩ := at_drop hl
              have hq32 : q < 32 := by have := HI.out.short (y0, r2) (by rw [← HX2.out]; exact getD_mem _ _ _ hjnl); simp only at this; omega
              have HMo2 := Lib.hid hmo2
              have hφI : (φ : Int) < (k : Int) := by omega
              have hφN : φ < k := by omega
              have HK20 := Lib.hid p20
              have Hr2 := Lib.hid hr2
              have Hqy := Lib.hid hqy
              have HTk := Lib.hid hTk
              clear hrule2 hjn e2 p10 hr2 hmo2 p20 hl hqy hq hTk hk0 hφ
              go_upto_region 18 with (fail)
              obtain ⟨w7, hw7⟩ : ∃ w7, w2.alloc (.cells #[.int .i64 (φ : Int), .int .i64 (q : Int)] 109) = w7 := ⟨_, rfl⟩
              have h7 : Below w2.heap.size w2 w7 := by rw [← hw7]; exact below_alloc (Below.refl _ _) _
              have a0 : w7.cell? ⟨w2.heap.size, 0, none⟩ = some (.int .i64 (φ : Int)) := by rw [← hw7]; simp [go_sem]
              have a1 : w7.cell? ⟨w2.heap.size, 1, none⟩ = some (.int .i64 (q : Int)) := by rw [← hw7]; simp [go_sem]
              rw [hw7]
              have HM7 := Lib.hid (HO.out.mem.below h7)
              have b3 := (gr_blk (blk_below HK1.out HM7.out.bel)).2.2.2
              have s0 := (h7.cell (World.block_lt_of_cell? _ _ s0)).trans s0
              have p20 := (HM7.out.bel.cell (World.block_lt_of_cell? _ _ HK20.out)).trans HK20.out
              have k1 := (HK2.out _ HM7.out.bel).1
              obtain ⟨adq, yy, rfl, hy, HY⟩ := at_scalar (Kd.C_below Hr2.out HM7.out.bel) q hq2 0
              obtain rfl : x2 = yy := by rw [← HY.out]; exact Hqy.out.symm
              clear hw7 h7 f0 f1 ff b0 b1 b2 hn
              by_cases hm : x2 = -1 - x
              · have hcI : (x2 == -1 - x) = true := by rw [hm]; simp
                have hcJ : (x2 != -1 - x) = false := by rw [hm]; simp
                have HNx : Hid (restG (opsD inc64) g.rules rs any nt (k + 1) (popG (opsD inc64) ((k, 0, r) :: (φ, q + 1, l') :: O3) ⟨pl, T ++ [((j : Int), pl, 0)], K, max m0 (((φ, q + 1, l') :: O3 : Stk).length + 1)⟩).1 (popG (opsD inc64) ((k, 0, r) :: (φ, q + 1, l') :: O3) ⟨pl, T ++ [((j : Int), pl, 0)], K, max m0 (((φ, q + 1, l') :: O3 : Stk).length + 1)⟩).2 = res) := Lib.hid (by
                  rw [← HO.out.res]
                  have := restG_next (o := opsD inc64) (any := any) (nt := nt) (d := ⟨pl, T, K, m0⟩) (φ := φ) (q := q) (x := x2) (r := l') (O := O3) HD.out hkp HJb.out (by rw [HRule.out]; show ¬ x ≠ -1 - x2; omega)
                  rw [HRule.out] at this
                  exact this.symm)
                have HSt : Hid (StkOk g.rules T ((φ, q + 1, l') :: O3)) := Lib.hid HO.out.stk.next
                have HTk2 : Hid (K.length + remS ((φ, q + 1, l') :: O3) ≤ 32 * k) := Lib.hid (by have := HO.out.tok; simp only [remS, List.length_cons] at this ⊢; omega)
                have HOl : Hid (((φ, q + 1, l') :: O3 : Stk).length ≤ k) := Lib.hid (by have := HO.out.ol; simp only [List.length_cons] at this ⊢; exact this)
                clear hm
                go_quiet (fail)
                rename Nat => nq
                obtain ⟨w8, hw8⟩ : ∃ w8, w7.drewN nq = w8 := ⟨_, rfl⟩
                have HM8 : Hid (TrAt w1 w8 (.slice (some ⟨g1, 0, none⟩) k c1) u13 (.slice (some ⟨g6, 0, none⟩) (mo2 + 1) c6) ((φ, q, x2 :: l') :: O3) ⟨pl, T, K, m0⟩) := Lib.hid (by rw [← hw8]; exact HM7.out.drewN nq)
                obtain ⟨g11, c11, e11, hc11, t0, t1, tf, -⟩ := HM8.out.open_ HMo2.out
                injection e11 with e12 e13 e14
                injection e12 with e12
                injection e12 with e12
                subst e12
                subst e14
                rw [hw8]
                clear hw8 a0 a1 b3 s0 p20 hy t0 e13 hcI hcJ k1
                go_upto_region 21 with (fail)
                obtain ⟨w9, hw9⟩ : ∃ w9, w8.setCell ⟨g6, mo2 * 2 + 1, none⟩ (.int .i64 ((q : Int) + 1)) = w9 := ⟨_, rfl⟩
                have HB : Hid (TrAt w1 w9 (.slice (some ⟨g1, 0, none⟩) k c1) u13 (.slice (some ⟨g6, 0, none⟩) (mo2 + 1) c6) ((φ, q + 1, l') :: O3) ⟨pl, T, K, m0⟩) := Lib.hid (by
                  rw [← hw9]
                  have := HM8.out.done1 (q' := q + 1) (l' := l') HMo2.out
                  rwa [show ((q + 1 : Nat) : Int) = (q : Int) + 1 by omega] at this)
                rw [hw9]
                have HTk := HTk2
                obtain ⟨Ob, hOb⟩ : ∃ Ob : Stk, ((φ, q + 1, l') :: O3 : Stk) = Ob := ⟨_, rfl⟩
                rw [hOb] at HNx HB HSt HTk HOl
                clear hw9 hOb tf t1 HTk2
                have b0 := True.intro
                have b1 := True.intro
                have b2 := True.intro
                have b3 := True.intro
                have HTl : Hid (T.length = k) := Lib.hid HO.out.len
                have HBd : Hid ((T.length + 1) * 24 ≤ 140737488355328) := Lib.hid (by have := HTl.out; omega)
                have HBd2 : Hid (((frs Ob).length + 1) * 16 ≤ 140737488355328) := Lib.hid (by rw [frs_length]; have := HOl.out; omega)
                have HNk : Hid (∀ (X : List (Int × Int × Int)), X = T ++ [((j : Int), pl, (0 : Int))] → X.length = k + 1) := Lib.hid (fun X hX => by rw [hX, List.length_append, HTl.out]; rfl)
                obtain ⟨mo, hmo⟩ : ∃ n, Ob.length = n := ⟨_, rfl⟩
                have HMo := Lib.hid hmo
                obtain ⟨mx, hmx⟩ : ∃ n, max m0 (mo + 1) = n := ⟨_, rfl⟩
                have hmx1 : (if m0 < mo + 1 then ((mo : Int) + 1) else (m0 : Int)) = (mx : Int) := by split <;> omega
                have hmx2 : (if (m0 : Int) < (mo : Int) + 1 then ((mo : Int) + 1) else (m0 : Int)) = (mx : Int) := by split <;> omega
                have HMx := Lib.hid hmx
                clear hmx hmo
                go_wp2_with (first
                  | ((with_reducible refine gate_builtin (b := .append) (xs := #[.tmp 98, .tmp 102]) rfl ?_); at_builtin; go_loud (refine Kd.R_append KStep (w0 := w1) w1.heap.size rfl (.tmp 98) (.tmp 102) 29 55 (.agg #[.int .i64 0, .int .i64 0, .int .i64 0]) 24 rfl Tryd.underlying29 infoStep rfl (by decide) (by omega) (.slice (some ⟨g1, 0, none⟩) k c1) T ((j : Int), pl, 0) [.int .i64 (j : Int), .int .i64 pl, .int .i64 0] (fun _ => True) (fun _ => False) rfl rfl (KStep_M _ _ _ _ _ _) (fun _ hk => hk.elim) (fun _ _ => trivial) HB.out.tr HB.out.bel HB.out.bel.size HBd.out ?_); intro v4 w4 ho hb hg hat; (obtain ⟨g4, c4, e4, -⟩ := Kd.R_form ho (by simp); rw [HNk.out _ rfl] at e4; subst e4; have HM4 := Lib.hid (HB.out.setT ho hb hg pl m0); clear ho hb hg hat))
                  | ((with_reducible refine gate_builtin (b := .append) (xs := #[.tmp 104, .tmp 107]) rfl ?_); at_builtin; go_loud (refine Kd.R_append KFr (w0 := w1) w1.heap.size rfl (.tmp 104) (.tmp 107) 107 109 (.agg #[.int .i64 0, .int .i64 0]) 16 rfl Tryd.underlying107 infoFrame rfl (by decide) (by omega) (.slice (some ⟨g6, 0, none⟩) (mo2 + 1) c6) (frs Ob) ((k : Int), 0) [.int .i64 (k : Int), .int .i64 0] (fun _ => True) (fun _ => False) rfl rfl (KFr_M _ _ _ _ _) (fun _ hk => hk.elim) (fun _ _ => trivial) HM4.out.op HM4.out.bel HM4.out.bel.size HBd2.out ?_); intro v5 w5 ho hb hg hat; (have HM5 := Lib.hid (HM4.out.setO (O' := (k, 0, r) :: Ob) (by rw [frs_cons]; exact ho) hb hg); obtain ⟨g5, c5, e5, -⟩ := HM5.out.open_ HMo.out; subst e5; clear ho hb hg hat)))
                obtain ⟨S, hS⟩ : ∃ S, K.length + remS ((k, 0, r) :: Ob) = S := ⟨_, rfl⟩
                obtain ⟨tgt, htg⟩ : ∃ t, popG (opsD inc64) ((k, 0, r) :: Ob) ⟨pl, T ++ [((j : Int), pl, 0)], K, mx⟩ = t := ⟨_, rfl⟩
                have HNt : Hid (restG (opsD inc64) g.rules rs any nt (k + 1) tgt.1 tgt.2 = res) := Lib.hid (by
                  have := HNx.out
                  rw [HMo.out, HMx.out, htg] at this
                  exact this)
                have HSk : Hid (S ≤ 32 * (k + 1)) := Lib.hid (by
                  have := HTk.out
                  rw [← hS]
                  simp only [remS]
                  omega)
                have HJ0 : Hid (TrInn g.rules tgt S k mx w1 w5 (.slice (some ⟨g4, 0, none⟩) (k + 1) c4) u13 (.slice (some ⟨g5, 0, none⟩) (mo + 1) c5) ((k, 0, r) :: Ob) ⟨pl, T ++ [((j : Int), pl, 0)], K, mx⟩) := Lib.hid
                  ⟨HM5.out.num pl mx, HNk.out _ rfl, hS, StkOk.cons (by have := FrOk.new (G := g.rules) (T := T) (p := pl) (q := 0) HJb.out; rw [HTl.out, HRule.out] at this; exact this) (HSt.out.snoc _), htg, by simp only [List.length_cons]; have := HOl.out; omega, rfl⟩
                clear hS htg HM5 HM4 HB HNx hmx1 hmx2 HBd HBd2 HNk b0 b1 b2 b3
                go_loopw [13, 14, 16] (fun v2 v3 p wr => ∃ (O : Stk) (d : DS), p = .int .i64 d.place ∧ Hid (TrInn g.rules tgt S k mx w1 wr (.slice (some ⟨g4, 0, none⟩) (k + 1) c4) v2 v3 O d)) (fun v2 v3 _ _ => (S - lenOf v2) + lenOf v3)
                case atStart => exact ⟨_, _, rfl, HJ0⟩
                case round =>
                  obtain ⟨O2, ⟨p2, T2, K2, m2⟩, rfl, HJ⟩ := hrel
                  obtain ⟨w6, rfl⟩ : ∃ wo : World, wo = wr := ⟨_, rfl⟩
                  obtain rfl : m2 = mx := HJ.out.dep
                  have b3 := (gr_blk (blk_below HK1.out HJ.out.mem.bel)).2.2.2
                  cases O2 with
                  | nil =>
                    obtain ⟨A6, c6, e6⟩ := Kd.R_slice HJ.out.mem.op
                    rw [show (frs []).length = 0 from rfl] at e6
                    subst e6
                    go_wp2
                    go_roundw
                    case rel => exact ⟨k + 1, [], ⟨p2, T2, K2, m2⟩, by omega, by go_num, rfl, rfl, Lib.hid (HJ.out.out (fun φ q l O' h => by simp at h) HSk.out HNt.out)⟩
                    case measure => simp [intOf]; omega
                  | cons fr O3 =>
                    obtain ⟨φ, q, l⟩ := fr
                    obtain ⟨mo2, hmo2⟩ : ∃ n, O3.length = n := ⟨_, rfl⟩
                    obtain ⟨g6, c6, e6, hc6, f0, f1, ff, hg6⟩ := HJ.out.mem.open_ hmo2
                    subst e6
                    have hmoB : mo2 ≤ 200001 := by have := HJ.out.ol; simp only [List.length_cons] at this; omega
                    obtain ⟨hφ, ⟨hr0, hr1⟩, hq, hl⟩ := HJ.out.stk _ (List.mem_cons_self ..)
                    simp only at hφ hr0 hr1 hq hl
                    obtain ⟨s0, -, -⟩ := st_at HJ.out.mem.tr φ hφ
                    obtain ⟨jn, hjn⟩ : ∃ jn : Nat, (T2.getD φ (0, 0, 0)).1 = (jn : Int) := ⟨(T2.getD φ (0, 0, 0)).1.toNat, by omega⟩
                    simp only [hjn] at s0 hr1 hq hl hr0
                    obtain ⟨ady, y0, B2, c2, r2, e2, p10, p20, hrc2, hr2, HX2⟩ := at_rule HRu.out jn (by omega)
                    obtain rfl := Option.some.inj e2
                    have hrule2 : ruleD g.rules (jn : Int) = (y0, r2) := by unfold ruleD; rw [Int.toNat_natCast]; exact HX2.out
                    rw [hrule2] at hq hl
                    simp only at hq hl
                    have hTk : T2.length = k + 1 := HJ.out.len
                    have hjnl : jn < g.rules.length := by omega
                    have HMo2 := Lib.hid hmo2
                    have HL := Lib.hid hl
                    have Hφ := Lib.hid hφ
                    have hφI : (φ : Int) < (k : Int) + 1 := by omega
                    have hφN : φ < k + 1 := by omega
                    have HK20 := Lib.hid p20
                    have Hr2 := Lib.hid hr2
                    have hq1 : q ≤ r2.length := hq
                    clear hrule2 hjn e2 p10 hr2 hmo2 p20 hl
                    go_upto_region 26 with (fail)
                    obtain ⟨w7, hw7⟩ : ∃ w7, w6.alloc (.cells #[.int .i64 (φ : Int), .int .i64 (q : Int)] 109) = w7 := ⟨_, rfl⟩
                    have h7 : Below w6.heap.size w6 w7 := by rw [← hw7]; exact below_alloc (Below.refl _ _) _
                    have a0 : w7.cell? ⟨w6.heap.size, 0, none⟩ = some (.int .i64 (φ : Int)) := by rw [← hw7]; simp [go_sem]
                    have a1 : w7.cell? ⟨w6.heap.size, 1, none⟩ = some (.int .i64 (q : Int)) := by rw [← hw7]; simp [go_sem]
                    rw [hw7]
                    have HM7 := Lib.hid (HJ.out.mem.below h7)
                    have b3 := (gr_blk (blk_below HK1.out HM7.out.bel)).2.2.2
                    obtain ⟨s0', ⟨us, s2⟩, sf⟩ := st_at HM7.out.tr φ Hφ.out
                    have s0 := (h7.cell (World.block_lt_of_cell? _ _ s0)).trans s0
                    have p20 := (HM7.out.bel.cell (World.block_lt_of_cell? _ _ HK20.out)).trans HK20.out
                    have f1 := (h7.cell (World.block_lt_of_cell? _ _ f1)).trans f1
                    clear hw7 h7 s0' f0 ff
                    go_quiet (fail)
                    rename Nat => nq
                    obtain ⟨w8, hw8⟩ : ∃ w8, w7.drewN nq = w8 := ⟨_, rfl⟩
                    have HM8 : Hid (TrAt w1 w8 (.slice (some ⟨g4, 0, none⟩) (k + 1) c4) u13 (.slice (some ⟨g6, 0, none⟩) (mo2 + 1) c6) ((φ, q, l) :: O3) ⟨p2, T2, K2, m2⟩) := Lib.hid (by rw [← hw8]; exact HM7.out.drewN nq)
                    have a0 : w8.cell? ⟨w6.heap.size, 0, none⟩ = some (.int .i64 (φ : Int)) := by rw [← hw8, World.cell?_drewN]; exact a0
                    have a1 : w8.cell? ⟨w6.heap.size, 1, none⟩ = some (.int .i64 (q : Int)) := by rw [← hw8, World.cell?_drewN]; exact a1
                    have hr2 := Kd.C_below Hr2.out HM8.out.bel
                    rw [hw8]
                    clear hw8 s0 s2 sf p20 f1 b3
                    cases l with
                    | nil =>
                      have hqe : q = r2.length := by have := congrArg List.length HL.out; simp only [List.length_nil, List.length_drop] at this; omega
                      have hqI : ((q : Int) == (r2.length : Int)) = true := by rw [hqe]; simp
                      obtain ⟨-, ⟨us, s2⟩, sf⟩ := st_at HM8.out.tr φ Hφ.out
                      have HM9 : Hid (TrAt w1 (w8.setCell ⟨g4, φ * 3 + 2, none⟩ (.int .i64 p2)) (.slice (some ⟨g4, 0, none⟩) (k + 1) c4) u13 (.slice (some ⟨g6, 0, none⟩) mo2 c6) O3 ((opsD inc64).lv ⟨p2, T2, K2, m2⟩ φ)) := Lib.hid ((HM8.out.pop HMo2.out).leave φ Hφ.out)
                      clear hr2 hqe
                      go_wp2
                      refine ⟨⟨O3, (opsD inc64).lv ⟨p2, T2, K2, m2⟩ φ, rfl, Lib.hid (HJ.out.pop1 HM9.out)⟩, ?_⟩
                      simp only [lenOf]
                      omega
                    | cons y l =>
                      obtain ⟨hq2, hqy⟩ := at_drop HL.out
                      have hq32 : q < 32 := by have := HI.out.short (y0, r2) (by rw [← HX2.out]; exact getD_mem _ _ _ hjnl); simp only at this; omega
                      have hqI : ((q : Int) == (r2.length : Int)) = false := by rw [beq_eq_false_iff_ne]; omega
                      obtain ⟨adq, yy, rfl, hy, HY⟩ := at_scalar hr2 q hq2 0
                      obtain rfl : y = yy := by rw [← HY.out]; exact hqy.symm
                      clear hqy hr2
                      by_cases hneg : y < 0
                      · go_wp2
                        go_roundw
                        case rel => exact ⟨k + 1, (φ, q, y :: l) :: O3, ⟨p2, T2, K2, m2⟩, by omega, by go_num, rfl, rfl, Lib.hid (TrInn.out ⟨HM8.out, HJ.out.len, HJ.out.tok, HJ.out.stk, HJ.out.eq, HJ.out.ol, HJ.out.dep⟩ (fun φ' q' l' O' h => by injection h with h1 h2; injection h1 with h3 h4; injection h4 with h5 h6; exact ⟨y, l, h6.symm, hneg⟩) HSk.out HNt.out)⟩
                        case measure => simp [intOf]; omega
                      · obtain ⟨A9, c9, e9⟩ := Kd.R_slice HM8.out.tk
                        obtain ⟨n9, hn9⟩ : ∃ n, K2.length = n := ⟨_, rfl⟩
                        simp only [hn9] at e9
                        subst e9
                        have HKb : Hid ((K2.length + 1) * 8 ≤ 140737488355328) := Lib.hid (by have := HJ.out.tok; have := HSk.out; simp only at *; omega)
                        have HKS : Hid (K2.length + remS ((φ, q, y :: l) :: O3) = S) := Lib.hid HJ.out.tok
                        have Hn9 := Lib.hid hn9
                        clear hn9
                        go_wp2_with ((with_reducible refine gate_builtin (b := .append) (xs := #[.tmp 155, .tmp 161]) rfl ?_); at_builtin; go_loud (refine Kd.R_append (Kd.int .i64) (w0 := w1) w1.heap.size rfl (.tmp 155) (.tmp 161) 26 3 (.int .i64 0) 8 rfl Tryd.underlying26 infoInt rfl (by decide) (by omega) (.slice A9 n9 c9) K2 y [.int .i64 y] (fun _ => True) (fun _ => False) rfl rfl rfl (fun _ hk => hk.elim) (fun _ _ => trivial) HM8.out.tk HM8.out.bel HM8.out.bel.size HKb.out ?_); intro v10 w10 ho hb hg hat; (obtain ⟨A10, c10, e10⟩ := Kd.R_slice ho; rw [List.length_append, Hn9.out] at e10; subst e10; have HM10 := Lib.hid (HM8.out.setK ho hb hg (inc64 p2) m2); obtain ⟨g11, c11, e11, hc11, t0, t1, tf, -⟩ := HM10.out.open_ HMo2.out; injection e11 with e12 e13 e14; injection e12 with e12; injection e12 with e12; subst e12; subst e14; clear ho hb hg hat t0 e13))
                        refine ⟨⟨(φ, q + 1, l) :: O3, ⟨inc64 p2, T2, K2 ++ [y], m2⟩, rfl, Lib.hid (HJ.out.tok1 hneg ?_)⟩, ?_⟩
                        · have := HM10.out.done1 (q' := q + 1) (l' := l) HMo2.out
                          rwa [show ((q + 1 : Nat) : Int) = (q : Int) + 1 by omega] at this
                        · have h1 := HKS.out
                          have h2 := Hn9.out
                          simp only [remS, List.length_cons] at h1
                          simp only [lenOf]
                          omega
              · have hcI : (x2 == -1 - x) = false := beq_eq_false_iff_ne.2 hm
                have hcJ : (x2 != -1 - x) = true := by simp [hm]
                have HF : Hid (res = none) := Lib.hid (by rw [← HO.out.res]; exact restG_no HD.out hkp HJb.out (by rw [HRule.out]; show x ≠ -1 - x2; omega))
                go_quiet (fail)
                go_wp2
                ((try simp only [Exit.inBlock, Exit.then]); refine bodyPost_ret (results4_tmp rfl _ _ _) rfl ?_)
                exact treeP_no HF.out (below_next HB1.out (pw_below_drewN HM7.out.bel _))
    · have hkr : k = rs.length := by omega
      by_cases hd : 0 < k ∧ O.length = 0
      · have HF : Hid (res = some ⟨pl, T, K, m0⟩) := Lib.hid (by rw [← HO.out.res, restG_end (by omega), if_pos hd])
        obtain ⟨A6, c6, e6⟩ := Kd.R_slice HO.out.mem.op
        rw [frs_length, hd.2] at e6
        subst e6
        have hrp : 0 < rs.length := by omega
        have hrI : decide ((rs.length : Int) > 0) = true := decide_eq_true (by omega)
        have hrN : decide (0 < rs.length) = true := decide_eq_true hrp
        clear hd hkr
        go_wp2
        ((try simp only [Exit.inBlock, Exit.then]); refine bodyPost_ret (results4_tmp rfl _ _ _) rfl ?_)
        exact treeP_yes HF.out (below_next HB1.out HO.out.mem.bel) (Kd.R_lower HO.out.mem.tr HB1.out.size) (Kd.R_lower HO.out.mem.tk HB1.out.size)
      · have HF : Hid (res = none) := Lib.hid (by rw [← HO.out.res, restG_end (by omega), if_neg hd])
        obtain ⟨A6, c6, e6⟩ := Kd.R_slice HO.out.mem.op
        rw [frs_length] at e6
        obtain ⟨n6, hn6⟩ : ∃ n, O.length = n := ⟨_, rfl⟩
        rw [hn6] at e6 hd
        subst e6
        by_cases hrp : 0 < rs.length
        · have hrI : decide ((rs.length : Int) > 0) = true := decide_eq_true (by omega)
          have hrN : decide (0 < rs.length) = true := decide_eq_true hrp
          have hnI : ((n6 : Int) == 0) = false := by rw [beq_eq_false_iff_ne]; omega
          clear hd hkr
          go_wp2
          ((try simp only [Exit.inBlock, Exit.then]); refine bodyPost_ret (results4_tmp rfl _ _ _) rfl ?_)
          exact treeP_no HF.out (below_next HB1.out HO.out.mem.bel)
        · have hrI : decide ((rs.length : Int) > 0) = false := decide_eq_false (by omega)
          have hrN : decide (0 < rs.length) = false := decide_eq_false hrp
          clear hd hkr
          go_wp2
          ((try simp only [Exit.inBlock, Exit.then]); refine bodyPost_ret (results4_tmp rfl _ _ _) rfl ?_)
          exact treeP_no HF.out (below_next HB1.out HO.out.mem.bel)
end Go.Proofs.YtcjcffcbfkimdaaDoor.Hand
/- Contracts: the tree of a nonterminal with rules (deriv.Grow, its document's Grow). -/
namespace Go.Proofs.YtcjcffcbfkimdaaDoor.Hand
open Go.RowKit Go.Proofs.YtcjcffcbfkimdaaDoorW.PrintWords Go.Proofs.YtcjcffcbfkimdaaDoorW.PrintMore Go.Proofs.YtcjcffcbfkimdaaDoor.Math

/-- What is wrong with a tree to be grown. -/
noncomputable def growE (g : Gr) (nt : Int) (rs : List Int) : Nat × Int :=
  if (dmayN g rs.length).1 ≠ 0 then dmayN g rs.length
  else if nt < 0 ∨ (g.nonterms.length : Int) ≤ nt then (1, -1)
  else match grownD g rs false nt 0 with
    | none => (11, -1)
    | some d => if 65536 < d.tokens.length then (12, -1) else (0, -1)
theorem growE_ge (g : Gr) (nt : Int) (rs : List Int) : -1 ≤ (growE g nt rs).2 := by
  unfold growE
  split
  · exact dmayN_ge _ _
  · split
    · exact Int.le_refl _
    · split
      · exact Int.le_refl _
      · split <;> exact Int.le_refl _
/-- The tree, or none. -/
noncomputable def growL (g : Gr) (nt : Int) (rs : List Int) : List (Int × Int × Int) :=
  if (growE g nt rs).1 = 0 then (match grownD g rs false nt 0 with | none => [] | some d => d.tree) else []
theorem growL_no {g : Gr} {nt : Int} {rs : List Int} (h : (growE g nt rs).1 ≠ 0) : growL g nt rs = [] := by unfold growL; rw [if_neg h]
/-- What Grow leaves. -/
def GrowP (w : World) (g : Gr) (nt : Int) (rs : List Int) (A : Nat → Addr) (e : Ending) (w' : World) : Prop :=
  ∃ v u, e = .returned (.tuple #[v, u]) ∧ KStep.R 55 w' w.heap.size (fun _ => True) v (growL g nt rs) ∧ ErrV w' A u (growE g nt rs).1 (growE g nt rs).2 ∧ Below w.heap.size w w'
theorem growP_no {w w' : World} {g : Gr} {nt : Int} {rs : List Int} {A : Nat → Addr} {u : Value} {k : Nat} {r : Int} (h : growE g nt rs = (k, r)) (hk : k ≠ 0) (hu : ErrV w' A u k r) (hb : Below w.heap.size w w') : GrowP w g nt rs A (.returned (.tuple #[.slice none 0 0, u])) w' :=
  ⟨_, u, rfl, by rw [growL_no (by rw [h]; exact hk)]; exact Kd.R_nil _ _ _ _ _, by rw [h]; exact hu, hb⟩
set_option maxHeartbeats 4000000 in
set_option maxRecDepth 20000 in
theorem grow_calls (v : Value) (g : Gr) (nt : Int) (Ar : Option Addr) (cr : Nat) (rs : List Int) (w : World) (A : Nat → Addr) (hE : Errs w A) (hv : GramAt w v g) (hr : (Kd.int .i64).C w Ar rs.length rs) (hrc : rs.length ≤ cr) :
    Calls Tryd.prog 11 #[v, .int .i64 nt, .slice Ar rs.length cr] w (GrowP w g nt rs A) := by
  have HV := Lib.hid hv
  obtain ⟨AT, cT, AN, cN, AR, cR, rfl, q1, q2, q3, q4, q5, q6⟩ := hv
  have l1 := q4.2.1
  have l2 := q5.2.1
  have l3 := q6.2.1
  have l4 := hr.2.1
  obtain ⟨w1, hw1⟩ : ∃ w1, w.alloc (.cells #[.slice AT g.terms.length cT, .slice AN g.nonterms.length cN, .int .i64 g.ax, .slice AR g.rules.length cR] 25) = w1 := ⟨_, rfl⟩
  have hb1 : Below w.heap.size w w1 := by rw [← hw1]; exact below_alloc (Below.refl _ _) _
  have hk1 : w1.heap[w.heap.size]? = some (.cells #[.slice AT g.terms.length cT, .slice AN g.nonterms.length cN, .int .i64 g.ax, .slice AR g.rules.length cR] 25 (0, 0)) := by rw [← hw1]; exact heap_alloc_new w _
  obtain ⟨c0, c1, c2, c3⟩ := gr_blk hk1
  have HB1 := Lib.hid hb1
  have HK1 := Lib.hid hk1
  have HE := Lib.hid (hE.below hb1)
  have HC := Lib.hid (may_calls _ g rs.length w1 A (hE.below hb1) (HV.out.below hb1))
  have HR := Lib.hid (Kd.C_below q6 hb1)
  have HRs := Lib.hid (Kd.C_below hr hb1)
  have HEr : Hid (∀ i, i < 15 → ∀ W, Below w1.heap.size w1 W → W.cell? ⟨GE.getD i 0, 0, none⟩ = some (.iface 175 (.pointer (some (A i))))) := Lib.hid (fun i hi W hb => (HE.out.below hb).cells i hi)
  clear hb1 hk1 hE q4 q5 q6 hr
  by_cases h0 : (dmayN g rs.length).1 = 0
  · have hm := dmayN_zero h0
    rw [hm.eq] at HC
    have HM := Lib.hid hm
    have h131 := hm.len
    clear hm
    have hgE : growE g nt rs = if nt < 0 ∨ (g.nonterms.length : Int) ≤ nt then (1, -1) else match grownD g rs false nt 0 with | none => (11, -1) | some d => if 65536 < d.tokens.length then (12, -1) else (0, -1) := by unfold growE; rw [if_neg (by simp [h0])]
    by_cases h1 : nt < 0 ∨ (g.nonterms.length : Int) ≤ nt
    · have H : Hid (growE g nt rs = (1, -1)) := Lib.hid (by rw [hgE, if_pos h1])
      clear hgE h0
      by_cases hn : nt < 0
      · go_enter Tryd.func11, Tryd.ntmps11
        go_wp2_with (go_at_call 34; refine HC.out.mono ?_; rintro e w2 ⟨u, rfl, hu, hb2⟩; obtain rfl : u = .nilIface := (by cases hu; rfl); have HB2 := Lib.hid hb2; clear hb2 hu; have c3 := (gr_blk (blk_below HK1.out HB2.out)).2.1)
        have e0 : w2.cell? ⟨0, 0, none⟩ = some (.iface 175 (.pointer (some (A 0)))) := HEr.out 0 (by omega) _ HB2.out
        go_quiet (fail)
        go_wp2
        go_ret2
        exact growP_no H.out (by decide) (.sent 0 (by omega)) (below_next HB1.out (pw_below_drewN HB2.out _))
      · have hn2 : (g.nonterms.length : Int) ≤ nt := by rcases h1 with h | h; exact absurd h hn; exact h
        clear h1
        go_enter Tryd.func11, Tryd.ntmps11
        go_wp2_with (go_at_call 34; refine HC.out.mono ?_; rintro e w2 ⟨u, rfl, hu, hb2⟩; obtain rfl : u = .nilIface := (by cases hu; rfl); have HB2 := Lib.hid hb2; clear hb2 hu; have c3 := (gr_blk (blk_below HK1.out HB2.out)).2.1)
        have e0 : w2.cell? ⟨0, 0, none⟩ = some (.iface 175 (.pointer (some (A 0)))) := HEr.out 0 (by omega) _ HB2.out
        go_quiet (fail)
        go_wp2
        go_ret2
        exact growP_no H.out (by decide) (.sent 0 (by omega)) (below_next HB1.out (pw_below_drewN HB2.out _))
    · have hn : ¬ nt < 0 := fun h => h1 (.inl h)
      have hn2 : ¬ (g.nonterms.length : Int) ≤ nt := fun h => h1 (.inr h)
      rw [if_neg h1] at hgE
      obtain ⟨res, hres⟩ : ∃ r, grownD g rs false nt 0 = r := ⟨_, rfl⟩
      rw [hres] at hgE
      have HgE := Lib.hid hgE
      have HRes := Lib.hid hres
      have HWk : Hid (∀ W, Below w1.heap.size w1 W → Calls Tryd.prog 35 #[.agg #[.slice AT g.terms.length cT, .slice AN g.nonterms.length cN, .int .i64 g.ax, .slice AR g.rules.length cR], .slice Ar rs.length cr, .int .i64 nt, .int .i64 0, .bool false] W
          (WalkP W (.slice AT g.terms.length cT) (.slice AN g.nonterms.length cN) (.slice AR g.rules.length cR) g.ax (.slice Ar rs.length cr) A res)) := Lib.hid (fun W hW => by
        have := walk_calls g AT AN AR Ar cT cN cR cr rs A false nt 0 W (HM.out.walk (HE.out.below hW) (Kd.C_below HR.out hW) (Kd.C_below HRs.out hW) (by omega)) hrc
        rw [← hres]
        exact this)
      clear hgE hres h0 h1
      cases res with
      | none =>
        have H : Hid (growE g nt rs = (11, -1)) := Lib.hid HgE.out
        go_enter Tryd.func11, Tryd.ntmps11
        go_wp2_with (first
          | (go_at_call 35; refine (HWk.out w2 HB2.out).mono ?_; rintro e w3 ⟨v3, rfl, hb3⟩; have HB3 := Lib.hid (below_next HB2.out hb3); clear hb3)
          | (go_at_call 34; refine HC.out.mono ?_; rintro e w2 ⟨u, rfl, hu, hb2⟩; obtain rfl : u = .nilIface := (by cases hu; rfl); have HB2 := Lib.hid hb2; clear hb2 hu; obtain ⟨d0, d1, d2, d3⟩ := gr_blk (blk_below HK1.out HB2.out)))
        go_ret2
        exact growP_no H.out (by decide) (.sent 10 (by omega)) (below_next HB1.out HB3.out)
      | some d =>
        by_cases ht : 65536 < d.tokens.length
        · have H : Hid (growE g nt rs = (12, -1)) := Lib.hid (by rw [HgE.out]; simp only; rw [if_pos ht])
          go_enter Tryd.func11, Tryd.ntmps11
          go_wp2_with (first
            | (go_at_call 35; refine (HWk.out w2 HB2.out).mono ?_; rintro e w3 ⟨b3, i3, vt3, vk3, rfl, h3⟩; obtain ⟨A8, c8, e8⟩ := Kd.R_slice h3.tk; subst e8; have H3 := Lib.hid h3; have k8 : w3.cell? ⟨b3, 8, none⟩ = some (.slice A8 d.tokens.length c8) := h3.c8 rfl; have e11 : w3.cell? ⟨1, 0, none⟩ = some (.iface 175 (.pointer (some (A 11)))) := HEr.out 11 (by omega) _ (below_next HB2.out h3.bel); clear h3)
            | (go_at_call 34; refine HC.out.mono ?_; rintro e w2 ⟨u, rfl, hu, hb2⟩; obtain rfl : u = .nilIface := (by cases hu; rfl); have HB2 := Lib.hid hb2; clear hb2 hu; obtain ⟨d0, d1, d2, d3⟩ := gr_blk (blk_below HK1.out HB2.out)))
          all_goals (try (go_quiet (fail)))
          go_wp2
          go_ret2
          exact growP_no H.out (by decide) (.sent 11 (by omega)) (below_next HB1.out (by first | exact pw_below_drewN (below_next HB2.out H3.out.bel) _ | exact below_next HB2.out H3.out.bel))
        · have H : Hid (growE g nt rs = (0, -1)) := Lib.hid (by rw [HgE.out]; simp only; rw [if_neg ht])
          have HL : Hid (growL g nt rs = d.tree) := Lib.hid (by unfold growL; rw [H.out, if_pos rfl, HRes.out])
          go_enter Tryd.func11, Tryd.ntmps11
          go_wp2_with (first
            | (go_at_call 35; refine (HWk.out w2 HB2.out).mono ?_; rintro e w3 ⟨b3, i3, vt3, vk3, rfl, h3⟩; obtain ⟨A8, c8, e8⟩ := Kd.R_slice h3.tk; obtain ⟨A7, c7, e7⟩ := Kd.R_slice h3.tr; obtain ⟨n7, hn7⟩ : ∃ n, d.tree.length = n := ⟨_, rfl⟩; rw [hn7] at e7; subst e8; subst e7; have H3 := Lib.hid h3; have k8 : w3.cell? ⟨b3, 8, none⟩ = some (.slice A8 d.tokens.length c8) := h3.c8 rfl; have k7 : w3.cell? ⟨b3, 7, none⟩ = some (.slice A7 n7 c7) := h3.c7 rfl; clear h3 hn7)
            | (go_at_call 34; refine HC.out.mono ?_; rintro e w2 ⟨u, rfl, hu, hb2⟩; obtain rfl : u = .nilIface := (by cases hu; rfl); have HB2 := Lib.hid hb2; clear hb2 hu; obtain ⟨d0, d1, d2, d3⟩ := gr_blk (blk_below HK1.out HB2.out)))
          go_ret2
          exact ⟨_, _, rfl, by rw [HL.out]; exact Kd.R_lower (Kd.R_mono H3.out.tr (fun _ _ => trivial)) (by have := HB1.out.size; have := HB2.out.size; omega), by rw [H.out]; exact .none, below_next HB1.out (below_next HB2.out H3.out.bel)⟩
  · have H : Hid (growE g nt rs = dmayN g rs.length) := Lib.hid (by unfold growE; rw [if_pos h0])
    have HN := Lib.hid h0
    clear h0
    go_enter Tryd.func11, Tryd.ntmps11
    go_wp2_with (go_at_call 34; refine HC.out.mono ?_; rintro e w2 ⟨u, rfl, hu, hb2⟩; have HB2 := Lib.hid hb2; have HU := Lib.hid hu; obtain ⟨tt, x, rfl⟩ : ∃ t x, u = .iface t x := (by rcases hu.nil_iff with ⟨h, _⟩ | ⟨_, t, x, h⟩; exact absurd h HN.out; exact ⟨t, x, h⟩); clear hb2 hu)
    go_ret2
    exact growP_no H.out HN.out HU.out (below_next HB1.out HB2.out)
set_option maxHeartbeats 4000000 in
set_option maxRecDepth 20000 in
theorem rgrow_calls (v : Value) (g : Gr) (nt : Int) (Ar : Option Addr) (cr : Nat) (rs : List Int) (w : World) (A : Nat → Addr) (hE : Errs w A) (hv : GramAt w v g) (hr : (Kd.int .i64).C w Ar rs.length rs) (hrc : rs.length ≤ cr) :
    Calls Tryd.prog 12 #[v, .int .i64 nt, .slice Ar rs.length cr] w fun e w' => ∃ v, e = .returned (.tuple #[v, .int .i64 ((growE g nt rs).1 : Nat), .int .i64 (growE g nt rs).2]) ∧ KStep.R 55 w' w.heap.size (fun _ => True) v (growL g nt rs) ∧ Below w.heap.size w w' := by
  have HV := Lib.hid hv
  obtain ⟨AT, cT, AN, cN, AR, cR, rfl, q1, q2, q3, q4, q5, q6⟩ := hv
  have l1 := q4.2.1
  have l2 := q5.2.1
  have l3 := q6.2.1
  have l4 := hr.2.1
  obtain ⟨w1, hw1⟩ : ∃ w1, w.alloc (.cells #[.slice AT g.terms.length cT, .slice AN g.nonterms.length cN, .int .i64 g.ax, .slice AR g.rules.length cR] 25) = w1 := ⟨_, rfl⟩
  have hb1 : Below w.heap.size w w1 := by rw [← hw1]; exact below_alloc (Below.refl _ _) _
  have hk1 : w1.heap[w.heap.size]? = some (.cells #[.slice AT g.terms.length cT, .slice AN g.nonterms.length cN, .int .i64 g.ax, .slice AR g.rules.length cR] 25 (0, 0)) := by rw [← hw1]; exact heap_alloc_new w _
  obtain ⟨c0, c1, c2, c3⟩ := gr_blk hk1
  have HB1 := Lib.hid hb1
  have HK1 := Lib.hid hk1
  have HE := Lib.hid (hE.below hb1)
  have HC := Lib.hid (rmay_calls _ g rs.length w1 (HV.out.below hb1))
  have HR := Lib.hid (Kd.C_below q6 hb1)
  have HRs := Lib.hid (Kd.C_below hr hb1)
  clear hb1 hk1 hE q4 q5 q6 hr
  have fin : ∀ (W : World) (k : Nat) (r : Int), growE g nt rs = (k, r) → k ≠ 0 → Below w.heap.size w W → ∃ v, Ending.returned (.tuple #[.slice none 0 0, .int .i64 (k : Nat), .int .i64 r]) = .returned (.tuple #[v, .int .i64 ((growE g nt rs).1 : Nat), .int .i64 (growE g nt rs).2]) ∧ KStep.R 55 W w.heap.size (fun _ => True) v (growL g nt rs) ∧ Below w.heap.size w W := fun W k r h hk hb =>
    ⟨_, by rw [h], by rw [growL_no (by rw [h]; exact hk)]; exact Kd.R_nil _ _ _ _ _, hb⟩
  have FIN := Lib.hid fin
  clear fin
  by_cases h0 : (dmayN g rs.length).1 = 0
  · have hm := dmayN_zero h0
    rw [hm.eq] at HC
    have HM := Lib.hid hm
    have h131 := hm.len
    clear hm
    have hgE : growE g nt rs = if nt < 0 ∨ (g.nonterms.length : Int) ≤ nt then (1, -1) else match grownD g rs false nt 0 with | none => (11, -1) | some d => if 65536 < d.tokens.length then (12, -1) else (0, -1) := by unfold growE; rw [if_neg (by simp [h0])]
    by_cases h1 : nt < 0 ∨ (g.nonterms.length : Int) ≤ nt
    · have H : Hid (growE g nt rs = (1, -1)) := Lib.hid (by rw [hgE, if_pos h1])
      clear hgE h0
      by_cases hn : nt < 0
      · go_enter Tryd.func12, Tryd.ntmps12
        go_wp2_with (go_at_call 36; refine HC.out.mono ?_; rintro e w2 ⟨rfl, hb2⟩; have HB2 := Lib.hid hb2; clear hb2; have c3 := (gr_blk (blk_below HK1.out HB2.out)).2.1)
        go_ret3
        exact FIN.out _ 1 (-1) H.out (by decide) (below_next HB1.out HB2.out)
      · have hn2 : (g.nonterms.length : Int) ≤ nt := by rcases h1 with h | h; exact absurd h hn; exact h
        clear h1
        go_enter Tryd.func12, Tryd.ntmps12
        go_wp2_with (go_at_call 36; refine HC.out.mono ?_; rintro e w2 ⟨rfl, hb2⟩; have HB2 := Lib.hid hb2; clear hb2; have c3 := (gr_blk (blk_below HK1.out HB2.out)).2.1)
        go_ret3
        exact FIN.out _ 1 (-1) H.out (by decide) (below_next HB1.out HB2.out)
    · have hn : ¬ nt < 0 := fun h => h1 (.inl h)
      have hn2 : ¬ (g.nonterms.length : Int) ≤ nt := fun h => h1 (.inr h)
      rw [if_neg h1] at hgE
      obtain ⟨res, hres⟩ : ∃ r, grownD g rs false nt 0 = r := ⟨_, rfl⟩
      rw [hres] at hgE
      have HgE := Lib.hid hgE
      have HRes := Lib.hid hres
      have HWk : Hid (∀ W, Below w1.heap.size w1 W → Calls Tryd.prog 37 #[.agg #[.slice AT g.terms.length cT, .slice AN g.nonterms.length cN, .int .i64 g.ax, .slice AR g.rules.length cR], .slice Ar rs.length cr, .int .i64 nt, .int .i64 0] W (TreeP W res)) := Lib.hid (fun W hW => by
        have := rtree_calls g AT AN AR Ar cT cN cR cr rs false nt 0 nt (.inr ⟨by omega, rfl, rfl⟩) W A (HM.out.walk (HE.out.below hW) (Kd.C_below HR.out hW) (Kd.C_below HRs.out hW) (by omega)) (fun r hr => HM.out.lefts r hr) hrc
        rw [← hres]
        exact this)
      clear hgE hres h0 h1
      cases res with
      | none =>
        have H : Hid (growE g nt rs = (11, -1)) := Lib.hid HgE.out
        go_enter Tryd.func12, Tryd.ntmps12
        go_wp2_with (first
          | (go_at_call 37; refine (HWk.out w2 HB2.out).mono ?_; rintro e w3 ⟨v1, v2, dp, ok, rfl, hb3, hno, -⟩; obtain rfl := hno rfl; have HB3 := Lib.hid (below_next HB2.out hb3); clear hb3 hno)
          | (go_at_call 36; refine HC.out.mono ?_; rintro e w2 ⟨rfl, hb2⟩; have HB2 := Lib.hid hb2; clear hb2; obtain ⟨d0, d1, d2, d3⟩ := gr_blk (blk_below HK1.out HB2.out)))
        go_ret3
        exact FIN.out _ 11 (-1) H.out (by decide) (below_next HB1.out HB3.out)
      | some d =>
        by_cases ht : 65536 < d.tokens.length
        · have H : Hid (growE g nt rs = (12, -1)) := Lib.hid (by rw [HgE.out]; simp only; rw [if_pos ht])
          go_enter Tryd.func12, Tryd.ntmps12
          go_wp2_with (first
            | (go_at_call 37; refine (HWk.out w2 HB2.out).mono ?_; rintro e w3 ⟨v1, v2, dp, ok, rfl, hb3, -, hyes⟩; obtain ⟨rfl, hy1, hy2, rfl⟩ := hyes d rfl; obtain ⟨A8, c8, e8⟩ := Kd.R_slice hy2; subst e8; have HB3 := Lib.hid (below_next HB2.out hb3); clear hb3 hyes hy1 hy2)
            | (go_at_call 36; refine HC.out.mono ?_; rintro e w2 ⟨rfl, hb2⟩; have HB2 := Lib.hid hb2; clear hb2; obtain ⟨d0, d1, d2, d3⟩ := gr_blk (blk_below HK1.out HB2.out)))
          go_ret3
          exact FIN.out _ 12 (-1) H.out (by decide) (below_next HB1.out HB3.out)
        · have H : Hid (growE g nt rs = (0, -1)) := Lib.hid (by rw [HgE.out]; simp only; rw [if_neg ht])
          have HL : Hid (growL g nt rs = d.tree) := Lib.hid (by unfold growL; rw [H.out, if_pos rfl, HRes.out])
          go_enter Tryd.func12, Tryd.ntmps12
          go_wp2_with (first
            | (go_at_call 37; refine (HWk.out w2 HB2.out).mono ?_; rintro e w3 ⟨v1, v2, dp, ok, rfl, hb3, -, hyes⟩; obtain ⟨rfl, hy1, hy2, rfl⟩ := hyes d rfl; obtain ⟨A8, c8, e8⟩ := Kd.R_slice hy2; subst e8; have HB3 := Lib.hid (below_next HB2.out hb3); have HY1 := Lib.hid (Kd.R_lower hy1 (by have := HB1.out.size; have := HB2.out.size; omega : w.heap.size ≤ w2.heap.size)); clear hb3 hyes hy1 hy2)
            | (go_at_call 36; refine HC.out.mono ?_; rintro e w2 ⟨rfl, hb2⟩; have HB2 := Lib.hid hb2; clear hb2; obtain ⟨d0, d1, d2, d3⟩ := gr_blk (blk_below HK1.out HB2.out)))
          go_ret3
          exact ⟨_, by rw [H.out]; rfl, by rw [HL.out]; exact HY1.out, below_next HB1.out HB3.out⟩
  · have H : Hid (growE g nt rs = dmayN g rs.length) := Lib.hid (by unfold growE; rw [if_pos h0])
    have h0I : (((dmayN g rs.length).1 : Int) == 0) = false := by rw [beq_eq_false_iff_ne]; omega
    have HN := Lib.hid h0
    clear h0
    go_enter Tryd.func12, Tryd.ntmps12
    go_wp2_with (go_at_call 36; refine HC.out.mono ?_; rintro e w2 ⟨rfl, hb2⟩; have HB2 := Lib.hid hb2; clear hb2)
    go_ret3
    exact FIN.out _ _ _ H.out HN.out (below_next HB1.out HB2.out)
end Go.Proofs.YtcjcffcbfkimdaaDoor.Hand
/- errors.As of a rule's error, of a sentinel, of nil; dovetailkit.Rule. (The steps are those of a worked proof, turned to this program.) -/
namespace Go.Proofs.YtcjcffcbfkimdaaDoor.Hand
open Go.RowKit Go.Proofs.YtcjcffcbfkimdaaDoorW.PrintWords Go.Proofs.YtcjcffcbfkimdaaDoorW.PrintMore Go.Proofs.YtcjcffcbfkimdaaDoor.Math
open Go.Extern.Stop Go.Stop Go.Extern

theorem asR_nil (t : Value) (w : World) :
    Calls Tryd.prog 56 #[.nilIface, t] w fun e w' => e = .returned (.bool false) ∧ w' = w := by
  go_enter Tryd.func56, Tryd.ntmps56
  go_wp2
  go_ret
  exact ⟨rfl, rfl⟩
/-! ### CLOSED FACTS ON THE MODEL's ENTRIES FOR internal/reflectlite, at this program's types: 25: *p.E · 27: **p.E · 23: error · 45: reflectlite's rtype · 1: how many package-level variables the dump has -/
theorem asR_valueOf27 (t : Addr) (w : World) : (ReflectliteValue.unpack (.iface 111 (.pointer (some t)))).run Tryd.prog w
    = .ok (.agg #[.pointer (some ⟨19, 111, none⟩), .pointer (some ⟨w.heap.size, 0, none⟩), .int .u64 150]) (w.alloc (.cells #[.pointer (some t)] 111)) := by kernel_rfl
theorem asR_type27 (a : Addr) (w : World) : (ReflectliteValue.methodAny (ReflectliteValue.valueError "reflectlite.Value.Type" 0) (fun t _ _ _ => ReflectliteType.toType t) #[.agg #[.pointer (some ⟨19, 111, none⟩), .pointer (some a), .int .u64 150]]).run Tryd.prog w
    = .ok (.iface 137 (.agg #[.pointer (some ⟨19, 111, none⟩)])) w := by kernel_rfl
theorem asR_methodKind (h : Value) (w : World) : (Go.method 305 137 (.agg #[h]) "Kind").run Tryd.prog w = .ok (111, h) w := by kernel_rfl
theorem asR_kind27 (w : World) : ((ReflectliteType.abiMethod fun t => (fun a : Nat => Value.int IntKind.u8 (a : Int)) <$> Rtype.kind t) #[.pointer (some ⟨19, 111, none⟩)]).run Tryd.prog w = .ok (.int .u8 22) w := by kernel_rfl
theorem asR_kind25 (w : World) : ((ReflectliteType.abiMethod fun t => (fun a : Nat => Value.int IntKind.u8 (a : Int)) <$> Rtype.kind t) #[.pointer (some ⟨19, 102, none⟩)]).run Tryd.prog w = .ok (.int .u8 22) w := by kernel_rfl

/-! ### THE ENTRIES THAT READ OR WRITE MEMORY: laws with a premise on the cell (after Derived/Lib/ReflectliteSlice.lean's manner: each unfolding a lemma of its own, by rfl) -/
theorem asR_rlm (z : Sem Value) (f : TypeId → Addr → Nat → Nat → Sem Value) (v : Value) :
    ReflectliteValue.method z f #[v] = (do match ← ReflectliteValue.parts v with | none => z | some (t, a, fl) => f t a fl (fl % 32)) := rfl
theorem asR_parts27 (a : Addr) (w : World) : (ReflectliteValue.parts (.agg #[.pointer (some ⟨19, 111, none⟩), .pointer (some a), .int .u64 150])).run Tryd.prog w = .ok (some (111, a, 150)) w := by kernel_rfl
/-- (Value).IsNil at the Value of a **p.E that is not nil. -/
theorem asR_isNil27 (a p : Addr) (W : World) (ha : W.cell? a = some (.pointer (some p))) :
    (ReflectliteValue.method (ReflectliteValue.valueError "reflectlite.Value.IsNil" 0) ReflectliteValue.isNil #[.agg #[.pointer (some ⟨19, 111, none⟩), .pointer (some a), .int .u64 150]]).run Tryd.prog W = .ok (.bool false) W := by
  rw [asR_rlm]
  simp only [Sem.run_bind, asR_parts27, Result.andThen]
  simp [ReflectliteValue.isNil, loadVar, isAgg, underlying, Tryd.underlying111, ha, Result.andThen]

theorem asR_methodElem (h : Value) (w : World) : (Go.method 305 137 (.agg #[h]) "Elem").run Tryd.prog w = .ok (125, .agg #[h]) w := by kernel_rfl
theorem asR_methodImplements (h : Value) (w : World) : (Go.method 305 137 (.agg #[h]) "Implements").run Tryd.prog w = .ok (126, .agg #[h]) w := by kernel_rfl
theorem asR_methodAssignableTo (h : Value) (w : World) : (Go.method 305 137 (.agg #[h]) "AssignableTo").run Tryd.prog w = .ok (123, .agg #[h]) w := by kernel_rfl
theorem asR_elem27 (w : World) : (ReflectliteType.method ReflectliteType.elem #[.agg #[.pointer (some ⟨19, 111, none⟩)]]).run Tryd.prog w = .ok (.iface 137 (.agg #[.pointer (some ⟨19, 102, none⟩)])) w := by kernel_rfl
theorem asR_implements25 (w : World) : (ReflectliteType.relation "Implements" ReflectliteType.implements_ #[.agg #[.pointer (some ⟨19, 102, none⟩)], .iface 137 (.agg #[.pointer (some ⟨19, 31, none⟩)])]).run Tryd.prog w = .ok (.bool true) w := by kernel_rfl
theorem asR_typeOf25 (v : Value) (w : World) : (ReflectliteType.typeOf #[.iface 102 v]).run Tryd.prog w = .ok (.iface 137 (.agg #[.pointer (some ⟨19, 102, none⟩)])) w := by kernel_rfl
theorem asR_assignable25 (w : World) : (ReflectliteType.relation "AssignableTo" ReflectliteType.assignableTo #[.agg #[.pointer (some ⟨19, 102, none⟩)], .iface 137 (.agg #[.pointer (some ⟨19, 102, none⟩)])]).run Tryd.prog w = .ok (.bool true) w := by kernel_rfl
theorem asR_valueOf25 (e : Addr) (w : World) : (ReflectliteValue.unpack (.iface 102 (.pointer (some e)))).run Tryd.prog w
    = .ok (.agg #[.pointer (some ⟨19, 102, none⟩), .pointer (some ⟨w.heap.size, 0, none⟩), .int .u64 150]) (w.alloc (.cells #[.pointer (some e)] 102)) := by kernel_rfl

theorem asR_elemOf27 (w : World) : (Rtype.elem? 111).run Tryd.prog w = .ok (some 102) w := by kernel_rfl
theorem asR_mk25 (p : Addr) (w : World) : (ReflectliteValue.mk 102 p ReflectliteValue.flagAddr).run Tryd.prog w = .ok (.agg #[.pointer (some ⟨19, 102, none⟩), .pointer (some p), .int .u64 406]) w := by kernel_rfl
/-- (Value).Elem at the Value of a **p.E that is not nil: the Value of the *p.E variable that it points to, addressable. -/
theorem asR_elemV27 (a p : Addr) (W : World) (ha : W.cell? a = some (.pointer (some p))) :
    (ReflectliteValue.method (ReflectliteValue.valueError "reflectlite.Value.Elem" 0) ReflectliteValue.elem #[.agg #[.pointer (some ⟨19, 111, none⟩), .pointer (some a), .int .u64 150]]).run Tryd.prog W
      = .ok (.agg #[.pointer (some ⟨19, 102, none⟩), .pointer (some p), .int .u64 406]) W := by
  rw [asR_rlm]
  simp only [Sem.run_bind, asR_parts27, Result.andThen]
  simp [ReflectliteValue.elem, loadVar, isAgg, underlying, Tryd.underlying111, ha, Result.andThen, asR_elemOf27, asR_mk25]
theorem asR_rls (v x : Value) : ReflectliteValue.set #[v, x] = (do
    let (some (dst, a, fl), some (src, b, _)) := (← ReflectliteValue.parts v, ← ReflectliteValue.parts x)
      | unsupported (.noEntry "extern/(internal/reflectlite.Value).Set.zeroValue")
    if fl / ReflectliteValue.flagAddr % 2 == 0 then unsupported (.noEntry "extern/(internal/reflectlite.Value).Set.unaddressable")
    let val ← loadVar src b
    if ← Rtype.directlyAssignable dst src then storeVar dst a val
    else if ← Rtype.implements dst src then
      if (← Rtype.kind src) == 20 then
        match val with
        | .nilIface => unsupported (.noEntry "extern/reflectlite: a nil value of one interface type handed on as a value of another")
        | _ => storeVar dst a val
      else storeVar dst a (.iface src val)
    else panicString ("reflectlite.Set: value of type " ++ (← Rtype.spelt src) ++ " is not assignable to type " ++ (← Rtype.spelt dst))
    pure (.tuple #[])) := rfl
theorem asR_parts25a (a : Addr) (w : World) : (ReflectliteValue.parts (.agg #[.pointer (some ⟨19, 102, none⟩), .pointer (some a), .int .u64 406])).run Tryd.prog w = .ok (some (102, a, 406)) w := by kernel_rfl
theorem asR_parts25 (a : Addr) (w : World) : (ReflectliteValue.parts (.agg #[.pointer (some ⟨19, 102, none⟩), .pointer (some a), .int .u64 150])).run Tryd.prog w = .ok (some (102, a, 150)) w := by kernel_rfl
theorem asR_direct25 (w : World) : (Rtype.directlyAssignable 102 102).run Tryd.prog w = .ok true w := by kernel_rfl
theorem asR_size25 (w : World) : (sizeOf 102).run Tryd.prog w = .ok 1 w := by kernel_rfl
/-- (Value).Set: the *p.E variable at 'ta' gets what the Value's own variable 'b' holds. -/
theorem asR_set25 (ta b e : Addr) (old : Value) (W : World) (hb : W.cell? b = some (.pointer (some e))) (ht : W.cell? ta = some old) (hf : W.frozen? ta = false) :
    (ReflectliteValue.set #[.agg #[.pointer (some ⟨19, 102, none⟩), .pointer (some ta), .int .u64 406], .agg #[.pointer (some ⟨19, 102, none⟩), .pointer (some b), .int .u64 150]]).run Tryd.prog W
      = .ok (.tuple #[]) (W.setCell ta (.pointer (some e))) := by
  rw [asR_rls]
  simp only [Sem.run_bind, asR_parts25a, asR_parts25, Result.andThen]
  simp [ReflectliteValue.flagAddr, loadVar, isAgg, underlying, Tryd.underlying102, hb, Result.andThen, asR_direct25, storeVar, Value.cells, storeCells, Addr.add]
  rw [run_store Tryd.prog W ta _ _ (by rfl)]
  simp [ht, hf]

set_option maxHeartbeats 4000000 in
theorem asR_hit (e t : Addr) (old : Value) (w : World) (hg : w.cell? ⟨15, 0, none⟩ = some (.iface 137 (.agg #[.pointer (some ⟨19, 31, none⟩)]))) (ht0 : w.cell? t = some old) (hf0 : w.frozen? t = false) :
    Calls Tryd.prog 56 #[.iface 102 (.pointer (some e)), .iface 111 (.pointer (some t))] w fun ev w' => ev = .returned (.bool true) ∧ w' = ((((w.alloc (.cells #[.pointer (some t)] 111)).alloc (.cells #[.pointer (some ⟨19, 111, none⟩), .pointer (some ⟨w.heap.size, 0, none⟩), .int .u64 150] 129)).alloc (.cells #[.pointer (some ⟨19, 111, none⟩), .pointer (some ⟨w.heap.size, 0, none⟩), .int .u64 150] 129)).alloc (.cells #[.pointer (some e)] 102)).setCell t (.pointer (some e)) := by
  have h6 := @run_callFunc_extern Tryd.prog 70 _ (fun args => ReflectliteValue.unpack (args.getD 0 (.tuple #[]))) Tryd.func70 (by kernel_rfl) (by kernel_rfl) (by kernel_rfl) (by kernel_rfl)
  have h7 := @run_callFunc_extern Tryd.prog 71 _ (ReflectliteValue.methodAny (ReflectliteValue.valueError "reflectlite.Value.Type" 0) (fun t _ _ _ => ReflectliteType.toType t)) Tryd.func71 (by kernel_rfl) (by kernel_rfl) (by kernel_rfl) (by kernel_rfl)
  have h8 := @run_callFunc_extern Tryd.prog 72 _ (ReflectliteValue.method (ReflectliteValue.valueError "reflectlite.Value.IsNil" 0) ReflectliteValue.isNil) Tryd.func72 (by kernel_rfl) (by kernel_rfl) (by kernel_rfl) (by kernel_rfl)
  have h27 := @run_callFunc_extern Tryd.prog 111 _ (ReflectliteType.abiMethod fun t => do pure (.int .u8 (← Rtype.kind t))) Tryd.func111 (by kernel_rfl) (by kernel_rfl) (by kernel_rfl) (by kernel_rfl)
  have h37 := @run_callFunc_extern Tryd.prog 125 _ (ReflectliteType.method ReflectliteType.elem) Tryd.func125 (by kernel_rfl) (by kernel_rfl) (by kernel_rfl) (by kernel_rfl)
  have h38 := @run_callFunc_extern Tryd.prog 126 _ (ReflectliteType.relation "Implements" ReflectliteType.implements_) Tryd.func126 (by kernel_rfl) (by kernel_rfl) (by kernel_rfl) (by kernel_rfl)
  have h10 := @run_callFunc_extern Tryd.prog 59 _ ReflectliteType.typeOf Tryd.func59 (by kernel_rfl) (by kernel_rfl) (by kernel_rfl) (by kernel_rfl)
  have h35 := @run_callFunc_extern Tryd.prog 123 _ (ReflectliteType.relation "AssignableTo" ReflectliteType.assignableTo) Tryd.func123 (by kernel_rfl) (by kernel_rfl) (by kernel_rfl) (by kernel_rfl)
  have h11 := @run_callFunc_extern Tryd.prog 79 _ (ReflectliteValue.method (ReflectliteValue.valueError "reflectlite.Value.Elem" 0) ReflectliteValue.elem) Tryd.func79 (by kernel_rfl) (by kernel_rfl) (by kernel_rfl) (by kernel_rfl)
  have h12 := @run_callFunc_extern Tryd.prog 80 _ ReflectliteValue.set Tryd.func80 (by kernel_rfl) (by kernel_rfl) (by kernel_rfl) (by kernel_rfl)
  have tO := asR_typeOf25
  have mA := asR_methodAssignableTo
  have a25 := asR_assignable25
  have v25 := asR_valueOf25
  have f6 := asR_valueOf27
  have f7 := asR_type27
  have mK := asR_methodKind
  have mE := asR_methodElem
  have mI := asR_methodImplements
  have k27 := asR_kind27
  have k25 := asR_kind25
  have e27 := asR_elem27
  have i25 := asR_implements25
  have n8 := asR_isNil27 ⟨w.heap.size, 0, none⟩ t ((w.alloc (.cells #[.pointer (some t)] 111)).alloc (.cells #[.pointer (some ⟨19, 111, none⟩), .pointer (some ⟨w.heap.size, 0, none⟩), .int .u64 150] 129)) (by simp)
  have hlt : 15 < w.heap.size := by
    rcases Nat.lt_or_ge 15 w.heap.size with h | h0
    · exact h
    · simp [World.cell?, Array.getElem?_eq_none h0] at hg
  have hg2 : ((w.alloc (.cells #[.pointer (some t)] 111)).alloc (.cells #[.pointer (some ⟨19, 111, none⟩), .pointer (some ⟨w.heap.size, 0, none⟩), .int .u64 150] 129)).cell? ⟨15, 0, none⟩ = some (.iface 137 (.agg #[.pointer (some ⟨19, 31, none⟩)])) := by
    rw [World.cell?_alloc_lt _ _ ⟨15, 0, none⟩ (by simp; omega), World.cell?_alloc_lt _ _ ⟨15, 0, none⟩ hlt]; exact hg
  have htl : t.block < w.heap.size := by
    rcases Nat.lt_or_ge t.block w.heap.size with h | h
    · exact h
    · simp [World.cell?, Array.getElem?_eq_none h] at ht0
  have el := asR_elemV27 ⟨w.heap.size, 0, none⟩ t (((w.alloc (.cells #[.pointer (some t)] 111)).alloc (.cells #[.pointer (some ⟨19, 111, none⟩), .pointer (some ⟨w.heap.size, 0, none⟩), .int .u64 150] 129)).alloc (.cells #[.pointer (some ⟨19, 111, none⟩), .pointer (some ⟨w.heap.size, 0, none⟩), .int .u64 150] 129)) (by rw [World.cell?_alloc_lt _ _ ⟨w.heap.size, 0, none⟩ (by simp; omega)]; simp)
  have st := asR_set25 t ⟨w.heap.size + 1 + 1 + 1, 0, none⟩ e old ((((w.alloc (.cells #[.pointer (some t)] 111)).alloc (.cells #[.pointer (some ⟨19, 111, none⟩), .pointer (some ⟨w.heap.size, 0, none⟩), .int .u64 150] 129)).alloc (.cells #[.pointer (some ⟨19, 111, none⟩), .pointer (some ⟨w.heap.size, 0, none⟩), .int .u64 150] 129)).alloc (.cells #[.pointer (some e)] 102))
    (by rw [World.cell?_alloc_at _ _ _ _ (by simp)]; rfl)
    (by rw [World.cell?_alloc_lt _ _ t (by simp; omega), World.cell?_alloc_lt _ _ t (by simp; omega), World.cell?_alloc_lt _ _ t (by simp; omega), World.cell?_alloc_lt _ _ t htl]; exact ht0)
    (by rw [World.frozen?_alloc_old _ _ t (by simp; omega), World.frozen?_alloc_old _ _ t (by simp; omega), World.frozen?_alloc_old _ _ t (by simp; omega), World.frozen?_alloc_old _ _ t (Nat.ne_of_lt htl)]; exact hf0)
  go_enter Tryd.func56, Tryd.ntmps56
  go_wp2
  refine wp_loop_rounds 1 ?_
  rw [rounds_succ]
  go_wp2
  go_ret
  exact ⟨rfl, rfl⟩
theorem asR_typeOfS (v : Value) (w : World) : (ReflectliteType.typeOf #[.iface 175 v]).run Tryd.prog w = .ok (.iface 137 (.agg #[.pointer (some ⟨19, 175, none⟩)])) w := by kernel_rfl
theorem asR_assignableS (w : World) : (ReflectliteType.relation "AssignableTo" ReflectliteType.assignableTo #[.agg #[.pointer (some ⟨19, 175, none⟩)], .iface 137 (.agg #[.pointer (some ⟨19, 102, none⟩)])]).run Tryd.prog w = .ok (.bool false) w := by kernel_rfl
theorem asR_noAs (v : Value) (xT : TypeId) (w : World) : (Instr.typeAssert (.iface 175 v) xT 151 true).run Tryd.prog w = .ok (.tuple #[.nilIface, .bool false]) w := run_typeAssert_lacksB Tryd.underlying151 (by kernel_rfl) (by kernel_rfl) v xT w
set_option maxHeartbeats 4000000 in
theorem asR_sent (e t : Addr) (w : World) (hg : w.cell? ⟨15, 0, none⟩ = some (.iface 137 (.agg #[.pointer (some ⟨19, 31, none⟩)]))) (_htl : t.block < w.heap.size) :
    Calls Tryd.prog 56 #[.iface 175 (.pointer (some e)), .iface 111 (.pointer (some t))] w fun ev w' => ev = .returned (.bool false) ∧ Below w.heap.size w w' := by
  have h6 := @run_callFunc_extern Tryd.prog 70 _ (fun args => ReflectliteValue.unpack (args.getD 0 (.tuple #[]))) Tryd.func70 (by kernel_rfl) (by kernel_rfl) (by kernel_rfl) (by kernel_rfl)
  have h7 := @run_callFunc_extern Tryd.prog 71 _ (ReflectliteValue.methodAny (ReflectliteValue.valueError "reflectlite.Value.Type" 0) (fun t _ _ _ => ReflectliteType.toType t)) Tryd.func71 (by kernel_rfl) (by kernel_rfl) (by kernel_rfl) (by kernel_rfl)
  have h8 := @run_callFunc_extern Tryd.prog 72 _ (ReflectliteValue.method (ReflectliteValue.valueError "reflectlite.Value.IsNil" 0) ReflectliteValue.isNil) Tryd.func72 (by kernel_rfl) (by kernel_rfl) (by kernel_rfl) (by kernel_rfl)
  have h27 := @run_callFunc_extern Tryd.prog 111 _ (ReflectliteType.abiMethod fun t => do pure (.int .u8 (← Rtype.kind t))) Tryd.func111 (by kernel_rfl) (by kernel_rfl) (by kernel_rfl) (by kernel_rfl)
  have h37 := @run_callFunc_extern Tryd.prog 125 _ (ReflectliteType.method ReflectliteType.elem) Tryd.func125 (by kernel_rfl) (by kernel_rfl) (by kernel_rfl) (by kernel_rfl)
  have h38 := @run_callFunc_extern Tryd.prog 126 _ (ReflectliteType.relation "Implements" ReflectliteType.implements_) Tryd.func126 (by kernel_rfl) (by kernel_rfl) (by kernel_rfl) (by kernel_rfl)
  have h10 := @run_callFunc_extern Tryd.prog 59 _ ReflectliteType.typeOf Tryd.func59 (by kernel_rfl) (by kernel_rfl) (by kernel_rfl) (by kernel_rfl)
  have h35 := @run_callFunc_extern Tryd.prog 123 _ (ReflectliteType.relation "AssignableTo" ReflectliteType.assignableTo) Tryd.func123 (by kernel_rfl) (by kernel_rfl) (by kernel_rfl) (by kernel_rfl)
  have tO := asR_typeOfS
  have mA := asR_methodAssignableTo
  have a25 := asR_assignableS
  have nE := asR_noAs
  have uE := noUnwrapE
  have vE := noUnwrapsE
  have f6 := asR_valueOf27
  have f7 := asR_type27
  have mK := asR_methodKind
  have mE := asR_methodElem
  have mI := asR_methodImplements
  have k27 := asR_kind27
  have k25 := asR_kind25
  have e27 := asR_elem27
  have i25 := asR_implements25
  have n8 := asR_isNil27 ⟨w.heap.size, 0, none⟩ t ((w.alloc (.cells #[.pointer (some t)] 111)).alloc (.cells #[.pointer (some ⟨19, 111, none⟩), .pointer (some ⟨w.heap.size, 0, none⟩), .int .u64 150] 129)) (by simp)
  have hlt : 15 < w.heap.size := by
    rcases Nat.lt_or_ge 15 w.heap.size with h | h0
    · exact h
    · simp [World.cell?, Array.getElem?_eq_none h0] at hg
  have hg2 : ((w.alloc (.cells #[.pointer (some t)] 111)).alloc (.cells #[.pointer (some ⟨19, 111, none⟩), .pointer (some ⟨w.heap.size, 0, none⟩), .int .u64 150] 129)).cell? ⟨15, 0, none⟩ = some (.iface 137 (.agg #[.pointer (some ⟨19, 31, none⟩)])) := by
    rw [World.cell?_alloc_lt _ _ ⟨15, 0, none⟩ (by simp; omega), World.cell?_alloc_lt _ _ ⟨15, 0, none⟩ hlt]; exact hg
  go_enter Tryd.func56, Tryd.ntmps56
  go_wp2
  refine wp_loop_rounds 1 ?_
  rw [rounds_succ]
  go_wp2
  go_ret
  exact ⟨rfl, below_alloc (below_alloc (below_alloc (Below.refl _ _) _) _) _⟩
/-- The handle of the type error, as package errors keeps it. -/
def ErrTyR (w : World) : Prop := w.cell? ⟨15, 0, none⟩ = some (.iface 137 (.agg #[.pointer (some ⟨19, 31, none⟩)]))
theorem ErrTyR.below {w w' : World} (h : ErrTyR w) (hb : Below w.heap.size w w') : ErrTyR w' := (hb.cell (World.block_lt_of_cell? w _ h)).trans h
theorem krule_nil (w : World) : Calls Tryd.prog 38 #[.nilIface] w fun e w' => e = .returned (.int .i64 (-1)) ∧ Below w.heap.size w w' := by
  go_enter Tryd.func38, Tryd.ntmps38
  go_wp2_with (go_at_call 56; refine (asR_nil _ _).mono ?_; rintro e w1 ⟨rfl, rfl⟩)
  go_ret
  exact ⟨rfl, below_alloc (Below.refl _ _) _⟩
theorem krule_sent (a : Addr) (w : World) (hT : ErrTyR w) : Calls Tryd.prog 38 #[.iface 175 (.pointer (some a))] w fun e w' => e = .returned (.int .i64 (-1)) ∧ Below w.heap.size w w' := by
  have hT1 := hT.below (below_alloc (Below.refl _ _) (.cells #[.pointer none] 102))
  have HA := Lib.hid (asR_sent a ⟨w.heap.size, 0, none⟩ _ hT1 (by simp))
  clear hT hT1
  go_enter Tryd.func38, Tryd.ntmps38
  go_wp2_with (go_at_call 56; refine HA.out.mono ?_; rintro e w1 ⟨rfl, hb⟩; have HB := Lib.hid (below_next (below_alloc (Below.refl w.heap.size w) _) hb); clear hb)
  go_ret
  exact ⟨rfl, HB.out⟩
theorem krule_rule (pb po : Nat) (i : Int) (w : World) (hT : ErrTyR w) (hc : w.cell? ⟨pb, po, none⟩ = some (.int .i64 i)) : Calls Tryd.prog 38 #[.iface 102 (.pointer (some ⟨pb, po, none⟩))] w fun e w' => e = .returned (.int .i64 i) ∧ Below w.heap.size w w' := by
  have hT1 := hT.below (below_alloc (Below.refl _ _) (.cells #[.pointer none] 102))
  obtain ⟨w1, hw1⟩ : ∃ w1, w.alloc (.cells #[.pointer none] 102) = w1 := ⟨_, rfl⟩
  have hb1 : Below w.heap.size w w1 := by rw [← hw1]; exact below_alloc (Below.refl _ _) _
  have ht0 : w1.cell? ⟨w.heap.size, 0, none⟩ = some (.pointer none) := by rw [← hw1]; simp
  have hf0 : w1.frozen? ⟨w.heap.size, 0, none⟩ = false := by rw [← hw1]; simp
  have hs1 : w.heap.size < w1.heap.size := by rw [← hw1]; simp
  have hpl := World.block_lt_of_cell? w _ hc
  rw [hw1] at hT1
  have hc1 := (hb1.cell hpl).trans hc
  have HA : Hid (Calls Tryd.prog 56 #[.iface 102 (.pointer (some ⟨pb, po, none⟩)), .iface 111 (.pointer (some ⟨w.heap.size, 0, none⟩))] w1 fun ev w' => ev = .returned (.bool true) ∧ w'.cell? ⟨w.heap.size, 0, none⟩ = some (.pointer (some ⟨pb, po, none⟩)) ∧ w'.cell? ⟨pb, po, none⟩ = some (.int .i64 i) ∧ Below w.heap.size w w') := Lib.hid ((asR_hit ⟨pb, po, none⟩ ⟨w.heap.size, 0, none⟩ (.pointer none) w1 hT1 ht0 hf0).mono (by
    rintro e w' ⟨rfl, rfl⟩
    obtain ⟨w2, hw2⟩ : ∃ w2, ((((w1.alloc (.cells #[.pointer (some ⟨w.heap.size, 0, none⟩)] 111)).alloc (.cells #[.pointer (some ⟨19, 111, none⟩), .pointer (some ⟨w1.heap.size, 0, none⟩), .int .u64 150] 129)).alloc (.cells #[.pointer (some ⟨19, 111, none⟩), .pointer (some ⟨w1.heap.size, 0, none⟩), .int .u64 150] 129)).alloc (.cells #[.pointer (some ⟨pb, po, none⟩)] 102)) = w2 := ⟨_, rfl⟩
    have hb2 : Below w1.heap.size w1 w2 := by rw [← hw2]; exact below_alloc (below_alloc (below_alloc (below_alloc (Below.refl _ _) _) _) _) _
    rw [hw2]
    have ht2 := (hb2.cell hs1).trans ht0
    refine ⟨rfl, World.cell?_setCell_same _ _ _ ht2, ?_, (below_next hb1 hb2).setCell (Nat.le_refl _) _⟩
    rw [World.cell?_setCell_other _ _ _ _ (by intro h; injection h with h; have hpl' : pb < w.heap.size := hpl; omega)]
    exact (hb2.cell (Nat.lt_trans hpl hs1)).trans hc1))
  have HW1 := Lib.hid hw1
  clear hT hT1 hb1 ht0 hf0 hs1 hpl hc1 hc hw1
  go_enter Tryd.func38, Tryd.ntmps38
  go_wp2_with (go_at_call 56; rw [HW1.out]; refine HA.out.mono ?_; rintro e w3 ⟨rfl, h1, h2, hb⟩; have HB := Lib.hid hb; clear hb)
  go_ret
  exact ⟨rfl, HB.out⟩
end Go.Proofs.YtcjcffcbfkimdaaDoor.Hand
/- Contract: is an error of that kind, and does it tell that rule (as)? -/
namespace Go.Proofs.YtcjcffcbfkimdaaDoor.Hand
open Go.RowKit Go.Proofs.YtcjcffcbfkimdaaDoorW.PrintWords Go.Proofs.YtcjcffcbfkimdaaDoorW.PrintMore Go.Proofs.YtcjcffcbfkimdaaDoor.Math

/-- An error that is none of a place. -/
def NoPlace (v : Value) : Prop := ∀ a, v ≠ .iface 121 a
theorem ErrV.noPlace {w : World} {A : Nat → Addr} {v : Value} {k : Nat} {r : Int} (h : ErrV w A v k r) (hr : -1 ≤ r) : NoPlace v := by
  intro a e
  cases h with
  | none => cases e
  | sent i hi => injection e with e1 _; revert e1; decide
  | rule i hi pb po r h0 h1 => injection e with e1 _; revert e1; decide
  | place i hi pb po r h0 h1 hr2 => omega
theorem krule_calls {w : World} {A : Nat → Addr} {v : Value} {r : Int} (hT : ErrTyR w) (hv : ErrV w A v 4 r) (hp : NoPlace v) : Calls Tryd.prog 38 #[v] w fun e w' => e = .returned (.int .i64 r) ∧ Below w.heap.size w w' := by
  generalize hk : (4 : Nat) = k at hv
  cases hv with
  | none => cases hk
  | sent i hi => exact krule_sent _ w hT
  | rule i hi pb po r h0 h1 => exact krule_rule pb po r w hT h0
  | place i hi pb po r h0 h1 hr => exact absurd rfl (hp _)
set_option maxHeartbeats 1000000 in
theorem as_calls {w : World} {A : Nat → Addr} {v : Value} {k : Nat} {r : Int} (hE : Errs w A) (hT : ErrTyR w) (hv : ErrV w A v k r) (hp : NoPlace v) : Calls Tryd.prog 13 #[v, .int .i64 (k : Int), .int .i64 r] w fun e w' => e = .returned (.bool true) ∧ Below w.heap.size w w' := by
  have HK := Lib.hid (kind_calls hE hv)
  have hkI : ((k : Int) == (k : Int)) = true := by simp
  by_cases h4 : k = 4
  · subst h4
    have HR : Hid (∀ W, Below w.heap.size w W → Calls Tryd.prog 38 #[v] W fun e w' => e = .returned (.int .i64 r) ∧ Below W.heap.size W w') := Lib.hid (fun W hW => krule_calls (hT.below hW) (hv.below hW) hp)
    have hrI : (r == r) = true := by simp
    clear hE hT hv hp
    go_enter Tryd.func13, Tryd.ntmps13
    go_wp2_with (first
      | (go_at_call 38; refine (HR.out w1 HB1.out).mono ?_; rintro e w2 ⟨rfl, hb2⟩; have HB2 := Lib.hid (below_next HB1.out hb2); clear hb2)
      | (go_at_call 27; refine HK.out.mono ?_; rintro e w1 ⟨rfl, hb1⟩; have HB1 := Lib.hid hb1; clear hb1))
    go_ret
    exact ⟨rfl, HB2.out⟩
  · have h4I : ((k : Int) == 4) = false := by rw [beq_eq_false_iff_ne]; omega
    have h4J : ((k : Int) != 4) = true := by simp; omega
    clear hE hT hv hp h4
    go_enter Tryd.func13, Tryd.ntmps13
    go_wp2_with (go_at_call 27; refine HK.out.mono ?_; rintro e w1 ⟨rfl, hb1⟩; have HB1 := Lib.hid hb1; clear hb1)
    go_ret
    exact ⟨rfl, HB1.out⟩
end Go.Proofs.YtcjcffcbfkimdaaDoor.Hand
/- A slice's head; lists by their elements. -/
namespace Go.Proofs.YtcjcffcbfkimdaaDoor.Hand
open Go.RowKit Go.Proofs.YtcjcffcbfkimdaaDoorW.PrintWords Go.Proofs.YtcjcffcbfkimdaaDoorW.PrintMore Go.Proofs.YtcjcffcbfkimdaaDoor.Math

theorem list_of {α : Type} {p : Nat → α → Prop} : ∀ {n : Nat} (_ : ∀ i, i < n → ∃ x, p i x), ∃ l : List α, l.length = n ∧ ∀ i x, l[i]? = some x → p i x
  | 0, _ => ⟨[], rfl, fun i x h => by simp at h⟩
  | n + 1, h => by
    obtain ⟨l, hl, hp⟩ := list_of (n := n) (fun i hi => h i (by omega))
    obtain ⟨x, hx⟩ := h n (by omega)
    refine ⟨l ++ [x], by simp [hl], fun i y hy => ?_⟩
    rcases Nat.lt_or_ge i l.length with hi | hi
    · rw [List.getElem?_append_left hi] at hy; exact hp i y hy
    · rw [List.getElem?_append_right hi] at hy
      have h0 : i - l.length = 0 := by
        rcases Nat.eq_zero_or_pos (i - l.length) with h | h
        · exact h
        · rw [List.getElem?_eq_none (by simp; omega)] at hy; cases hy
      rw [h0] at hy
      simp at hy
      subst hy
      have : i = n := by omega
      subst this
      exact hx
/-- A slice's head: where, how many, room. -/
structure Hd where
  ad : Option Addr
  n : Nat
  c : Nat
def Hd.v (h : Hd) : Value := .slice h.ad h.n h.c
end Go.Proofs.YtcjcffcbfkimdaaDoor.Hand
/- Arguments of whatever kind, opened: the reading of memory gives the plain datum that it spells. -/
namespace Go.Proofs.YtcjcffcbfkimdaaDoor.Hand
open Go.ChangeShapes Go.WideShapes Go.ChangeAt
open Go.RowKit Go.Proofs.YtcjcffcbfkimdaaDoorW.PrintWords Go.Proofs.YtcjcffcbfkimdaaDoorW.PrintMore Go.Proofs.YtcjcffcbfkimdaaDoor.Math

/-- Whatever reads by this type spells a datum of this kind. -/
def Opens {α : Type} (t : TypeId) (d : Kd α) (good : α → Prop) : Prop :=
  ∀ (H : Type) (enc : TypeId × Value → H) (W : World) (base : Nat) (spare : Nat → Bool) (held : Bool) (fuel : Nat) (cs : List Value) (x : DataW H × List MemPlace), DataW.trod enc Tryd.prog W base spare held fuel t cs = some x →
    (∀ n ∈ x.1.weights Tryd.prog t, n ≤ reachBytes) → ∃ a, d.K W a cs ∧ good a
theorem Opens.int {t : TypeId} {k : IntKind} (ht : Tryd.prog.underlying t = some (.int k)) : Opens t (Kd.int k) (fun a => (Lit.int k a).wf = true) := by
  intro H enc W base spare held fuel cs x h _
  obtain ⟨n, rfl, _, hw⟩ := DataW.trod_int ht h
  exact ⟨n, rfl, hw⟩
theorem Opens.string {t : TypeId} (ht : Tryd.prog.underlying t = some .string) : Opens t Kd.string (fun s => s.size ≤ 140737488351232) := by
  intro H enc W base spare held fuel cs x h hw
  obtain ⟨s, rfl, rfl, _⟩ := DataW.trod_string ht h
  refine ⟨s, rfl, ?_⟩
  have := hw s.data.toList.length (by simp [DataW.weights])
  simpa [reachBytes] using this
theorem weightsAll_mem {H : Type} {P : Program} {e : TypeId} {d : DataW H} {n : Nat} : ∀ {l : List (DataW H)}, d ∈ l → n ∈ d.weights P e → n ∈ DataW.weightsAll P e l
  | [], h, _ => by cases h
  | a :: r, h, hn => by
    simp only [DataW.weightsAll, List.mem_append]
    rcases List.mem_cons.1 h with rfl | h
    · exact .inl hn
    · exact .inr (weightsAll_mem h hn)
theorem Opens.slice {α : Type} {t e : TypeId} {B : Nat} {d : Kd α} {good : α → Prop} (ht : Tryd.prog.underlying t = some (.slice e)) (he : Opens e d good) (hc : Tryd.prog.cellsOf e = d.sz) (hB : Tryd.prog.bytesOf e = B) :
    Opens t (Kd.slice e d) (fun l => l.length * B ≤ 140737488351232 ∧ ∀ x ∈ l, good x) := by
  intro H enc W base spare held fuel cs x h hw
  rcases Deep.open_slice ht h with ⟨rfl, rfl⟩ | ⟨a, len, cap, m, n, D, Pl, rfl, hb, hl, hm, hmm, rfl, hx⟩
  · exact ⟨[], ⟨none, 0, rfl, Nat.le_refl _, Kd.C_nil d W⟩, by simp, fun x hx => absurd hx (List.not_mem_nil)⟩
  · have hlm : len ≤ m := by rw [hmm]; split <;> omega
    simp only [DataW.weights, ht] at hw
    have hw1 := hw _ (List.mem_cons_self ..)
    simp only [List.length_map, List.length_range] at hw1
    have hw2 : ∀ i, i < len → ∀ k ∈ (D i).weights Tryd.prog e, k ≤ reachBytes := fun i hi k hk =>
      hw k (List.mem_cons_of_mem _ (List.mem_append_left _ (weightsAll_mem (List.mem_map.2 ⟨i, List.mem_range.2 hi, rfl⟩) hk)))
    obtain ⟨l, hll, hp⟩ := list_of (n := len) (p := fun i p => good p ∧ ∃ cs', d.K W p cs' ∧ ∀ j u, cs'[j]? = some u → W.cell? (a.add (i * d.sz + j)) = some u) (fun i hi => by
      obtain ⟨cs', h1, h2⟩ := hx i (by omega)
      obtain ⟨p, hk, hg⟩ := he H enc W base spare held n cs' _ h2 (hw2 i hi)
      obtain ⟨_, hlen, hcell⟩ := World.cells?_some h1
      refine ⟨p, hg, cs', hk, fun j u hu => ?_⟩
      have hj : j < Tryd.prog.cellsOf e := by rw [← hlen]; exact (List.getElem?_eq_some_iff.1 hu).1
      have := hcell j hj
      rw [Deep.add_add, hu, hc] at this
      exact this)
    subst hll
    refine ⟨l, ⟨some a, cap, rfl, hl, rfl, ?_, fun _ => ⟨a, rfl, fun j p hj => ?_⟩⟩, ?_, fun x hx => ?_⟩
    · have : maxLen = 9223372036854775807 := by decide
      omega
    · obtain ⟨_, cs', hk, hcell⟩ := hp j p hj
      exact ⟨cs', d.K_len hk, hk, hcell⟩
    · rw [hB] at hw1
      have h3 : l.length * B ≤ (l.length + (m - l.length)) * B := Nat.mul_le_mul_right _ (by omega)
      have h4 : (reachBytes : Nat) = 140737488351232 := by decide
      omega
    · obtain ⟨i, hi⟩ := List.getElem?_of_mem hx
      exact (hp i x hi).1
theorem Opens.pair {α β : Type} {t : TypeId} {f0 f1 : Field} {a : Kd α} {b : Kd β} {ga : α → Prop} {gb : β → Prop} (ht : Tryd.prog.underlying t = some (.struct #[f0, f1])) (o0 : f0.offset = 0) (o1 : f1.offset = a.sz) (c0 : Tryd.prog.cellsOf f0.type = a.sz) (c1 : Tryd.prog.cellsOf f1.type = b.sz) (ct : Tryd.prog.cellsOf t = a.sz + b.sz)
    (h0 : Opens f0.type a ga) (h1 : Opens f1.type b gb) : Opens t (Kd.pair a b) (fun x => ga x.1 ∧ gb x.2) := by
  intro H enc W base spare held fuel cs x h hw
  obtain ⟨y0, y1, n, rfl, hl, k0, k1⟩ := trod_struct2 ht h
  simp only [DataW.weights, ht, List.map_cons, List.map_nil, DataW.weightsEach, List.append_nil] at hw
  rw [o0, c0, List.drop_zero] at k0
  rw [o1, c1] at k1
  obtain ⟨x0, q0, g0⟩ := h0 H enc W base spare held n _ _ k0 (fun n hn => hw n (List.mem_append_left _ hn))
  obtain ⟨x1, q1, g1⟩ := h1 H enc W base spare held n _ _ k1 (fun n hn => hw n (List.mem_append_right _ hn))
  refine ⟨(x0, x1), ⟨cs.take a.sz, (cs.drop a.sz).take b.sz, ?_, q0, q1⟩, g0, g1⟩
  rw [List.take_of_length_le (show (cs.drop a.sz).length ≤ b.sz by rw [List.length_drop, hl, ct]; omega), List.take_append_drop]
section
set_option maxRecDepth 20000
variable {H : Type} {enc : TypeId × Value → H} {W : World} {base : Nat} {r : Reach} {b0 : Nat} {spare : Nat → Bool} {held : Bool} {v : Value} {d : DataW H} {ps : List MemPlace} {ts : List TypeId} {ds : List (DataW H)} {j : Nat}

theorem openSlice {α : Type} {t e : TypeId} {B : Nat} {k : Kd α} {good : α → Prop} (hu : Tryd.prog.underlying t = some (.slice e)) (he : Opens e k good) (hc : Tryd.prog.cellsOf e = k.sz) (hB : Tryd.prog.bytesOf e = B)
    (hsz : (DataW.weightsEach Tryd.prog ts ds).all (· ≤ reachBytes) = true) (ht : ts[j]? = some t) (hd : ds[j]? = some d) (hv : Value.okWide Tryd.prog W r b0 t v) (h : DataW.Trod enc Tryd.prog W base spare held t v d ps) :
    ∃ (A : Option Addr) (c : Nat) (l : List α), v = .slice A l.length c ∧ k.C W A l.length l ∧ l.length * B ≤ 140737488351232 ∧ l.length ≤ c ∧ ∀ x ∈ l, good x := by
  obtain ⟨a, len, cap, rfl⟩ := okWide_slice hu hv
  obtain ⟨fuel, hf⟩ := h
  obtain ⟨l, ⟨A, c, hcs, hlc, hC⟩, hb, hg⟩ := (Opens.slice hu he hc hB) H enc W base spare held fuel _ _ hf (fun n hn => by
    have := List.all_eq_true.1 hsz n (DataW.weights_mem_each ht hd n hn)
    simpa using this)
  simp [Value.cells] at hcs
  obtain ⟨rfl, rfl, rfl⟩ := hcs
  exact ⟨_, _, l, rfl, hC, hb, hlc, hg⟩
theorem opens_i64 : Opens 3 (Kd.int .i64) (fun a => (Lit.int .i64 a).wf = true) := Opens.int Tryd.underlying3
theorem opens_ints : Opens 26 (Kd.slice 3 (Kd.int .i64)) (fun l => l.length * 8 ≤ 140737488351232 ∧ ∀ x ∈ l, (Lit.int .i64 x).wf = true) := Opens.slice Tryd.underlying26 opens_i64 (by kernel_rfl) (by kernel_rfl)
theorem openInts (hsz : (DataW.weightsEach Tryd.prog ts ds).all (· ≤ reachBytes) = true) (ht : ts[j]? = some 26) (hd : ds[j]? = some d) (hv : Value.okWide Tryd.prog W r b0 26 v) (h : DataW.Trod enc Tryd.prog W base spare held 26 v d ps) :
    ∃ (A : Option Addr) (c : Nat) (l : List Int), v = .slice A l.length c ∧ Kd.C (Kd.int .i64) W A l.length l ∧ l.length * 8 ≤ 140737488351232 ∧ l.length ≤ c ∧ ∀ x ∈ l, (Lit.int .i64 x).wf = true :=
  openSlice Tryd.underlying26 opens_i64 (by kernel_rfl) (by kernel_rfl) hsz ht hd hv h
theorem opens_strings : Opens 22 (Kd.slice 9 Kd.string) (fun l => l.length * 16 ≤ 140737488351232 ∧ ∀ x ∈ l, x.size ≤ 140737488351232) := Opens.slice Tryd.underlying22 (Opens.string Tryd.underlying9) (by kernel_rfl) (by kernel_rfl)
theorem openStrings (hsz : (DataW.weightsEach Tryd.prog ts ds).all (· ≤ reachBytes) = true) (ht : ts[j]? = some 22) (hd : ds[j]? = some d) (hv : Value.okWide Tryd.prog W r b0 22 v) (h : DataW.Trod enc Tryd.prog W base spare held 22 v d ps) :
    ∃ (A : Option Addr) (c : Nat) (l : List ByteArray), v = .slice A l.length c ∧ Kd.C Kd.string W A l.length l ∧ l.length * 16 ≤ 140737488351232 ∧ l.length ≤ c ∧ ∀ x ∈ l, x.size ≤ 140737488351232 :=
  openSlice Tryd.underlying22 (Opens.string Tryd.underlying9) (by kernel_rfl) (by kernel_rfl) hsz ht hd hv h
theorem opens_rule : Opens 80 KRule (fun x => (Lit.int .i64 x.1).wf = true ∧ x.2.length * 8 ≤ 140737488351232 ∧ ∀ s ∈ x.2, (Lit.int .i64 s).wf = true) := Opens.pair Tryd.underlying80 rfl rfl (by kernel_rfl) (by kernel_rfl) (by kernel_rfl) opens_i64 opens_ints
theorem openRules (hsz : (DataW.weightsEach Tryd.prog ts ds).all (· ≤ reachBytes) = true) (ht : ts[j]? = some 23) (hd : ds[j]? = some d) (hv : Value.okWide Tryd.prog W r b0 23 v) (h : DataW.Trod enc Tryd.prog W base spare held 23 v d ps) :
    ∃ (A : Option Addr) (c : Nat) (l : List (Int × List Int)), v = .slice A l.length c ∧ KRule.C W A l.length l ∧ l.length * 32 ≤ 140737488351232 ∧ l.length ≤ c ∧ ∀ x ∈ l, (Lit.int .i64 x.1).wf = true ∧ x.2.length * 8 ≤ 140737488351232 ∧ ∀ s ∈ x.2, (Lit.int .i64 s).wf = true :=
  openSlice Tryd.underlying23 opens_rule (by kernel_rfl) (by kernel_rfl) hsz ht hd hv h
/-- What the weights allow. -/
structure GramB (g : Gr) : Prop where
  terms : g.terms.length * 16 ≤ 140737488351232
  nonterms : g.nonterms.length * 16 ≤ 140737488351232
  rules : g.rules.length * 32 ≤ 140737488351232
  right : ∀ r ∈ g.rules, r.2.length * 8 ≤ 140737488351232
  ax : (Lit.int .i64 g.ax).wf = true
  nums : ∀ r ∈ g.rules, (Lit.int .i64 r.1).wf = true ∧ ∀ s ∈ r.2, (Lit.int .i64 s).wf = true
  names : (∀ s ∈ g.terms, s.size ≤ 140737488351232) ∧ ∀ s ∈ g.nonterms, s.size ≤ 140737488351232
theorem openGrammar (hsz : (DataW.weightsEach Tryd.prog ts ds).all (· ≤ reachBytes) = true) (ht : ts[j]? = some 25) (hd : ds[j]? = some d) (hv : Value.okWide Tryd.prog W r b0 25 v) (h : DataW.Trod enc Tryd.prog W base spare held 25 v d ps) :
    ∃ (g : Gr) (u : Value), v = u ∧ GramAt W u g ∧ GramB g := by
  obtain ⟨v0, v1, v2, v3, y0, y1, y2, y3, n, rfl, rfl, rfl, h0, h1, h2, h3⟩ := Joins.open_agg4 Tryd.underlying25 (by kernel_rfl) (by kernel_rfl) hv h
  have hw : ∀ k ∈ (DataW.agg [y0.1, y1.1, y2.1, y3.1]).weights Tryd.prog 25, k ≤ reachBytes := fun k hk => by
    have := List.all_eq_true.1 hsz k (DataW.weights_mem_each ht hd k hk)
    simpa using this
  simp only [DataW.weights, Tryd.underlying25, List.map_cons, List.map_nil, DataW.weightsEach, List.append_nil, List.mem_append] at hw
  obtain ⟨lT, ⟨AT, cT, e0, p0, q0⟩, b0, g0⟩ := opens_strings H enc W base spare held n _ _ h0 (fun k hk => hw k (.inl hk))
  obtain ⟨lN, ⟨AN, cN, e1, p1, q1⟩, b1, g1⟩ := opens_strings H enc W base spare held n _ _ h1 (fun k hk => hw k (.inr (.inl hk)))
  obtain ⟨ax, e2, _, b2⟩ := DataW.trod_int Tryd.underlying3 h2
  obtain ⟨lR, ⟨AR, cR, e3, p3, q3⟩, b3, g3⟩ := (Opens.slice Tryd.underlying23 opens_rule (by kernel_rfl) (by kernel_rfl) : Opens _ (Kd.slice 80 KRule) (fun l => l.length * 32 ≤ 140737488351232 ∧ _)) H enc W base spare held n _ _ h3 (fun k hk => hw k (.inr (.inr (.inr hk))))
  simp only [List.cons.injEq, and_true] at e0 e1 e2 e3
  subst e0 e1 e2 e3
  exact ⟨⟨lT, lN, ax, lR⟩, _, rfl, ⟨AT, cT, AN, cN, AR, cR, rfl, p0, p1, p3, q0, q1, q3⟩, ⟨b0, b1, b3, fun r hr => (g3 r hr).2.1, b2, fun r hr => ⟨(g3 r hr).1, (g3 r hr).2.2⟩, g0, g1⟩⟩
end
end Go.Proofs.YtcjcffcbfkimdaaDoor.Hand
/- The package's errors, as the row lists them: each variable holds a pointer of its own. -/
namespace Go.Proofs.YtcjcffcbfkimdaaDoor.Hand
open Go.ChangeShapes
open Go.RowKit Go.Proofs.YtcjcffcbfkimdaaDoorW.PrintWords Go.Proofs.YtcjcffcbfkimdaaDoorW.PrintMore Go.Proofs.YtcjcffcbfkimdaaDoor.Math

theorem laid_list {P : Program} {W : World} {nm : String} {ti tp te ts : TypeId} {ms : Array (String × TypeId)} {f : Field}
    (hi : P.underlying ti = some (.interface ms)) (hrow : ∀ u, P.typeName? 3 u = some nm → u = tp)
    (hp : P.underlying tp = some (.pointer te)) (he : P.underlying te = some (.struct #[f])) (hft : f.type = ts) (hfo : f.offset = 0) (hs : P.underlying ts = some .string) (hc : P.cellsOf te = 1) (hcs : P.cellsOf ts = 1) :
    ∀ (l : List (String × DataW Unit)) (ps : List MemPlace), DataW.LaidVars P W l ps → ps.Nodup →
      (∀ b off, MemPlace.cell b off ∈ ps → (∃ c t, W.heap[b]? = some (.cells c t (0, 0))) ∧ ∀ u v, W.cell? ⟨b, off, none⟩ = some (.iface u v) → Value.okWide P W .any 0 u v) →
      (∀ x ∈ l, (∃ text, x.2 = .iface nm (.ptr (.agg [.lit (.string text)]))) ∧ ∃ g, P.globalNamed x.1 = some g ∧ (P.globals[g]?).map (·.type) = some ti) →
      ∃ As : List Addr, As.length = l.length ∧ (∀ a ∈ As, MemPlace.cell a.block a.off ∈ ps) ∧ As.Nodup ∧ ∀ (i : Nat) (x : String × DataW Unit) (a : Addr), l[i]? = some x → As[i]? = some a → ∀ g, P.globalNamed x.1 = some g → W.cell? ⟨g, 0, none⟩ = some (.iface tp (.pointer (some a)))
  | [], ps, _, _, _, _ => ⟨[], rfl, fun a h => absurd h (List.not_mem_nil), List.nodup_nil, fun i x a h => by rw [List.getElem?_nil] at h; cases h⟩
  | (n, d) :: r, ps, h, hnd, hrows, hall => by
    obtain ⟨g, t, cs, fuel, p, q, hg, ht, hv, hd, hr, rfl⟩ := h
    obtain ⟨⟨text, hd2⟩, g2, hg2, ht2⟩ := hall (n, d) (List.mem_cons_self ..)
    simp only at hd2 hg2
    subst hd2
    obtain rfl := Option.some.inj (hg.symm.trans hg2)
    obtain rfl := Option.some.inj (ht.symm.trans ht2)
    obtain ⟨l0⟩ := cs
    have ok0 : ∀ u v, l0 = [.iface u v] → Value.okWide P W .any 0 u v := fun u v e => by
      subst e
      exact (hrows g 0 (by simp [MemPlace.row])).2 u v (by simpa using World.var?_cell hg hv 0)
    obtain ⟨a0, s0, rfl, hc0, hs0, hz0, rfl⟩ := errorString_of_trod hi hrow hp he hft hfo hs hc hcs hd ok0
    have hq : q.Nodup := (List.nodup_append.1 hnd).2.1
    obtain ⟨As, k1, k2, k3, k4⟩ := laid_list hi hrow hp he hft hfo hs hc hcs r q hr hq (fun b off hm => hrows b off (List.mem_append_right _ hm)) (fun x hx => hall x (List.mem_cons_of_mem _ hx))
    have hcell : W.cell? ⟨g, 0, none⟩ = some (.iface tp (.pointer (some a0))) := by simpa using World.var?_cell hg hv 0
    refine ⟨a0 :: As, by simp [k1], ?_, ?_, ?_⟩
    · intro a ha
      rcases List.mem_cons.1 ha with rfl | ha
      · exact List.mem_append_left _ (List.mem_append_right _ (by simp [MemPlace.row]))
      · exact List.mem_append_right _ (k2 a ha)
    · refine List.nodup_cons.2 ⟨fun hm => ?_, k3⟩
      exact (List.nodup_append.1 hnd).2.2 _ (List.mem_append_right _ (by simp [MemPlace.row] : MemPlace.cell a0.block a0.off ∈ MemPlace.row a0 1)) _ (k2 a0 hm) rfl
    · intro i x a hx ha g' hg'
      cases i with
      | zero =>
        simp only [List.getElem?_cons_zero, Option.some.injEq] at hx ha
        subst hx ha
        obtain rfl := Option.some.inj (hg.symm.trans hg')
        exact hcell
      | succ i =>
        simp only [List.getElem?_cons_succ] at hx ha
        exact k4 i x a hx ha g' hg'
theorem star_err : "*" ++ "errors.errorString" = "*errors.errorString" := by decide
theorem laid_errs {l : List (String × DataW Unit)} {W : World} (h : laidMetH Tryd.prog l W) (hp : (l.all fun x => x.2.handleName?.isNone) = true)
    (hall : ∀ x ∈ l, (∃ text, x.2 = .iface "*errors.errorString" (.ptr (.agg [.lit (.string text)]))) ∧ ∃ g, Tryd.prog.globalNamed x.1 = some g ∧ (Tryd.prog.globals[g]?).map (·.type) = some 31)
    (hn : l.map (fun x => Tryd.prog.globalNamed x.1) = GE.map some) : ∃ A, Errs W A := by
  rw [MakeChecks.laidMetH_plain _ _ _ hp] at h
  obtain ⟨ps, hv, hnd, hrows⟩ := h
  obtain ⟨As, k1, k2, k3, k4⟩ := laid_list Tryd.underlying31 (tp := 175) (fun u hu => typeName_ptr_named (nm := "errors.errorString") (by rw [star_err]; kernel_rfl) (by kernel_rfl) (by decide) u (by rw [star_err]; exact hu)) Tryd.underlying175 Tryd.underlying193 rfl rfl Tryd.underlying9 (by kernel_rfl) (by kernel_rfl) l ps hv hnd hrows hall
  have hl : l.length = 15 := by have := congrArg List.length hn; simpa [GE] using this
  have hget : ∀ i, i < 15 → ∃ a, As[i]? = some a ∧ As.getD i ⟨0, 0, none⟩ = a := fun i hi => ⟨As[i]'(by omega), List.getElem?_eq_getElem _, by simp [List.getD, List.getElem?_eq_getElem (show i < As.length by omega)]⟩
  refine ⟨fun i => As.getD i ⟨0, 0, none⟩, ⟨fun i hi => ?_, fun i hi => ?_, fun i j hi hj e => ?_⟩⟩
  · obtain ⟨a, e1, e2⟩ := hget i hi
    have hx : l[i]? = some l[i] := List.getElem?_eq_getElem _
    have hg : Tryd.prog.globalNamed (l[i]'(by omega)).1 = some (GE.getD i 0) := by
      have := congrArg (fun z => z[i]?) hn
      simp only [List.getElem?_map, hx, Option.map_some] at this
      have h2 : GE[i]? = some (GE.getD i 0) := by
        have hi2 : i < GE.length := by simpa [GE] using hi
        simp [List.getD, List.getElem?_eq_getElem hi2]
      rw [h2] at this
      simpa using this
    show W.cell? _ = some (.iface _ (.pointer (some (As.getD i _))))
    rw [e2]
    exact k4 i _ a hx e1 _ hg
  · obtain ⟨a, e1, e2⟩ := hget i hi
    show ∃ c t, W.heap[(As.getD i _).block]? = _
    rw [e2]
    exact (hrows a.block a.off (k2 a (List.mem_of_getElem? e1))).1
  · obtain ⟨a, e1, e2⟩ := hget i hi
    obtain ⟨b, e3, e4⟩ := hget j hj
    have e : As.getD i _ = As.getD j _ := e
    rw [e2, e4] at e
    subst e
    exact (List.getElem?_inj (show i < As.length by omega) k3).1 (e1.trans e3.symm)
/-- Is it the datum of an error of errors.New? -/
def sentB (d : DataW Unit) : Bool := match d with | .iface nm (.ptr (.agg [.lit (.string _)])) => nm == "*errors.errorString" | _ => false
theorem sentB_spec {d : DataW Unit} (h : sentB d = true) : ∃ text, d = .iface "*errors.errorString" (.ptr (.agg [.lit (.string text)])) := by
  unfold sentB at h
  split at h
  · rename_i nm text
    exact ⟨text, by rw [beq_iff_eq.1 h]⟩
  · cases h
theorem laid_errs' {l : List (String × DataW Unit)} {W : World} (h : laidMetH Tryd.prog l W) (hp : (l.all fun x => x.2.handleName?.isNone) = true)
    (hall : (l.all fun x => sentB x.2 && (((Tryd.prog.globalNamed x.1).bind fun g => (Tryd.prog.globals[g]?).map (·.type)) == some 31)) = true)
    (hn : l.map (fun x => Tryd.prog.globalNamed x.1) = GE.map some) : ∃ A, Errs W A := by
  refine laid_errs h hp (fun x hx => ?_) hn
  have h1 := List.all_eq_true.1 hall x hx
  rw [Bool.and_eq_true, beq_iff_eq] at h1
  obtain ⟨g, hg, ht⟩ := Option.bind_eq_some_iff.1 h1.2
  exact ⟨sentB_spec h1.1, g, hg, ht⟩
/-- The same where the row lists but some of the errors. -/
theorem laid_errsW {l : List (String × DataW Unit)} {W : World} (h : laidMetH Tryd.prog l W) (hp : (l.all fun x => x.2.handleName?.isNone) = true)
    (hall0 : (l.all fun x => sentB x.2 && (((Tryd.prog.globalNamed x.1).bind fun g => (Tryd.prog.globals[g]?).map (·.type)) == some 31)) = true)
    (hn : l.map (fun x => Tryd.prog.globalNamed x.1) = EW.map (fun i => some (GE.getD i 0))) : ∃ A, ErrsW W A := by
  have hall : ∀ x ∈ l, (∃ text, x.2 = .iface "*errors.errorString" (.ptr (.agg [.lit (.string text)]))) ∧ ∃ g, Tryd.prog.globalNamed x.1 = some g ∧ (Tryd.prog.globals[g]?).map (·.type) = some 31 := fun x hx => by
    have h1 := List.all_eq_true.1 hall0 x hx
    rw [Bool.and_eq_true, beq_iff_eq] at h1
    obtain ⟨g, hg, ht⟩ := Option.bind_eq_some_iff.1 h1.2
    exact ⟨sentB_spec h1.1, g, hg, ht⟩
  rw [MakeChecks.laidMetH_plain _ _ _ hp] at h
  obtain ⟨ps, hv, hnd, hrows⟩ := h
  obtain ⟨As, k1, _, _, k4⟩ := laid_list Tryd.underlying31 (tp := 175) (fun u hu => typeName_ptr_named (nm := "errors.errorString") (by rw [star_err]; kernel_rfl) (by kernel_rfl) (by decide) u (by rw [star_err]; exact hu)) Tryd.underlying175 Tryd.underlying193 rfl rfl Tryd.underlying9 (by kernel_rfl) (by kernel_rfl) l ps hv hnd hrows hall
  have hl : l.length = EW.length := by have := congrArg List.length hn; simpa using this
  refine ⟨fun i => As.getD (EW.idxOf i) ⟨0, 0, none⟩, ⟨fun i hi => ?_⟩⟩
  have hj : EW.idxOf i < EW.length := List.idxOf_lt_length_of_mem hi
  have hge : EW[EW.idxOf i]? = some i := by rw [List.getElem?_eq_getElem hj, List.getElem_idxOf]
  have ha : As[EW.idxOf i]? = some (As[EW.idxOf i]'(by omega)) := List.getElem?_eq_getElem _
  have hx : l[EW.idxOf i]? = some (l[EW.idxOf i]'(by omega)) := List.getElem?_eq_getElem _
  have hg : Tryd.prog.globalNamed (l[EW.idxOf i]'(by omega)).1 = some (GE.getD i 0) := by
    have := congrArg (fun z => z[EW.idxOf i]?) hn
    simp only [List.getElem?_map, hx, hge, Option.map_some] at this
    simpa using this
  show W.cell? _ = some (.iface _ (.pointer (some (As.getD _ _))))
  rw [show As.getD (EW.idxOf i) ⟨0, 0, none⟩ = As[EW.idxOf i]'(by omega) by rw [List.getD_eq_getElem?_getD, ha]; rfl]
  exact k4 _ _ _ hx ha _ hg
end Go.Proofs.YtcjcffcbfkimdaaDoor.Hand
/- What a row lays: the errors out of a longer list, the handle of the type error. -/
namespace Go.Proofs.YtcjcffcbfkimdaaDoor.Hand
open Go.ChangeShapes
open Go.RowKit Go.Proofs.YtcjcffcbfkimdaaDoorW.PrintWords Go.Proofs.YtcjcffcbfkimdaaDoorW.PrintMore Go.Proofs.YtcjcffcbfkimdaaDoor.Math

theorem laid_errsF (p : String × DataW Unit → Bool) {l : List (String × DataW Unit)} {W : World} (h : laidMetH Tryd.prog l W) (hp : (l.all fun x => x.2.handleName?.isNone) = true)
    (hp2 : ((l.filter p).all fun x => x.2.handleName?.isNone) = true)
    (hall : ((l.filter p).all fun x => sentB x.2 && (((Tryd.prog.globalNamed x.1).bind fun g => (Tryd.prog.globals[g]?).map (·.type)) == some 31)) = true)
    (hn : (l.filter p).map (fun x => Tryd.prog.globalNamed x.1) = GE.map some) : ∃ A, Errs W A := by
  rw [MakeChecks.laidMetH_plain _ _ _ hp] at h
  exact laid_errs' (l := l.filter p) (by rw [MakeChecks.laidMetH_plain _ _ _ hp2]; exact h.filter p) hp2 hall hn
theorem laidMetH_nons {P : Program} {l : List (String × DataW Unit)} {W : World} (h : laidMetH P l W) : laidMetH P (l.filter fun x => x.2.handleName?.isNone) W := by
  have hp : ((l.filter fun x => x.2.handleName?.isNone).all fun x => x.2.handleName?.isNone) = true := by
    rw [List.all_eq_true]
    intro x hx
    exact (List.mem_filter.1 hx).2
  rw [MakeChecks.laidMetH_plain _ _ _ hp]
  unfold laidMetH at h
  split at h
  · rename_i he
    rw [List.filter_eq_nil_iff] at he
    have e : (l.filter fun x => x.2.handleName?.isNone) = l := by
      rw [List.filter_eq_self]
      intro x hx
      have := he x hx
      cases hn : x.2.handleName? with
      | none => rfl
      | some s => rw [hn] at this; simp at this
    rw [e]
    exact h
  · exact h.1
theorem errTy_rt : (Tryd.prog.cutTypes.find? (·.1 == "internal/reflectlite.rtype")).map (·.2) = some 137 := by kernel_rfl
theorem errTy_named : Tryd.prog.globalNamed "errors.errorType" = some 15 := by kernel_rfl
theorem errTy_row : ((List.range Tryd.prog.types.size).filter fun t => Tryd.prog.rowNamed t [101, 114, 114, 111, 114]) = [31] := by kernel_rfl
theorem errTy_handle : typeHandle Tryd.prog 31 = .pointer (some ⟨19, 31, none⟩) := by kernel_rfl
theorem laid_errTyR {l : List (String × DataW Unit)} {W : World} (h : laidMetH Tryd.prog l W) (hm : (l.filter fun x => x.2.handleName?.isSome) = [("errors.errorType", Rows.laid_errors_errorType)]) : ErrTyR W := by
  unfold laidMetH at h
  rw [hm] at h
  obtain ⟨name, u, ty, e1, e2, e3, e4, e5⟩ := h.2 _ (List.mem_singleton.2 rfl)
  have en : name = [101, 114, 114, 111, 114] := (Option.some.inj e1).symm
  subst en
  obtain rfl := Option.some.inj (errTy_rt.symm.trans e2)
  have hm : ty ∈ (List.range Tryd.prog.types.size).filter fun t => Tryd.prog.rowNamed t [101, 114, 114, 111, 114] := List.mem_filter.2 ⟨List.mem_range.2 e3, e4⟩
  rw [errTy_row] at hm
  obtain rfl := List.mem_singleton.1 hm
  rw [errTy_handle] at e5
  unfold ErrTyR
  simpa using World.var?_cell errTy_named e5 0
end Go.Proofs.YtcjcffcbfkimdaaDoor.Hand
/- The walk of DerivGrows: it answers true and leaves the memory that it was given as it was, where the errors' variables stand. -/
namespace Go.Proofs.YtcjcffcbfkimdaaDoor.Hand
open Go.RowKit Go.Proofs.YtcjcffcbfkimdaaDoorW.PrintWords Go.Proofs.YtcjcffcbfkimdaaDoorW.PrintMore Go.Proofs.YtcjcffcbfkimdaaDoor.Math

set_option maxHeartbeats 1600000 in
set_option maxRecDepth 20000 in
theorem derivGrows_walk {w : World} (g : Gr) (v : Value) (hg : GramAt w v g ∧ GramB g) (nt : Int) (At : Option Addr) (ct : Nat) (rs : List Int)
    (ht : Kd.C (Kd.int .i64) w At rs.length rs ∧ rs.length * 8 ≤ 140737488351232 ∧ rs.length ≤ ct ∧ ∀ x ∈ rs, (Lit.int .i64 x).wf = true) (hE : ∃ A, Errs w A) (hT : ErrTyR w) :
    Calls Tryd.prog 3 #[v, .int .i64 nt, .slice At rs.length ct] w fun e w' => e = .returned (.bool true) ∧ Below w.heap.size w w' := by
  obtain ⟨hv, hB⟩ := hg
  obtain ⟨hr, hl8, hlc, -⟩ := ht
  obtain ⟨A, hE⟩ := hE
  have HV := Lib.hid hv
  obtain ⟨AT, cT, AN, cN, AR, cR, rfl, q1, q2, q3, q4, q5, q6⟩ := hv
  clear q4 q5 q6
  obtain ⟨w1, hw1⟩ : ∃ w1, w.alloc (.cells #[.slice AT g.terms.length cT, .slice AN g.nonterms.length cN, .int .i64 g.ax, .slice AR g.rules.length cR] 25) = w1 := ⟨_, rfl⟩
  have hb1 : Below w.heap.size w w1 := by rw [← hw1]; exact below_alloc (Below.refl _ _) _
  have hk1 : w1.heap[w.heap.size]? = some (.cells #[.slice AT g.terms.length cT, .slice AN g.nonterms.length cN, .int .i64 g.ax, .slice AR g.rules.length cR] 25 (0, 0)) := by rw [← hw1]; exact heap_alloc_new w _
  obtain ⟨c0, c1, c2, c3⟩ := gr_blk hk1
  have HB1 := Lib.hid hb1
  have HK1 := Lib.hid hk1
  have HG1 := Lib.hid (HV.out.below hb1)
  have HT1 := Lib.hid (Kd.C_below hr hb1)
  have HE1 := Lib.hid (hE.below hb1)
  have HTy := Lib.hid (hT.below hb1)
  have HLG := Lib.hid (lentGrammar_calls _ g w1 HG1.out (by have := hB.terms; omega) (by have := hB.nonterms; omega) (by have := hB.rules; omega) (fun r hr => by have := hB.right r hr; omega))
  have HLI := Lib.hid (fun (W : World) (hW : Below w1.heap.size w1 W) => lentInts_calls At ct rs W (Kd.C_below HT1.out hW) (by omega))
  clear hb1 hk1 hr hE hB hl8 hT
  go_enter Tryd.func3, Tryd.ntmps3
  go_upto_region 2 with (first
    | (go_at_call 9; refine HLG.out.mono ?_; rintro e w2 ⟨u, rfl, hu, hb2⟩; have HU := Aside0.mk hu; have HB2 := Lib.hid hb2; obtain ⟨BT, dT, BN, dN, BR, dR, rfl, -⟩ := hu; clear hb2 c0 c1 c2 c3)
    | (go_at_call 10; refine (HLI.out w2 HB2.out).mono ?_; rintro e w3 ⟨Al, cl, rfl, hcl, hrl, hb3⟩; have HRl := Lib.hid (Kd.R_reads' hrl); have HB3 := Lib.hid hb3; clear hrl hb3))
  obtain ⟨w4, hw4⟩ : ∃ w4, w3.alloc (.cells #[.slice BT g.terms.length dT, .slice BN g.nonterms.length dN, .int .i64 g.ax, .slice BR g.rules.length dR] 25) = w4 := ⟨_, rfl⟩
  rw [hw4]
  have hb4 : Below w3.heap.size w3 w4 := by rw [← hw4]; exact below_alloc (Below.refl _ _) _
  have hk4 : w4.heap[w3.heap.size]? = some (.cells #[.slice BT g.terms.length dT, .slice BN g.nonterms.length dN, .int .i64 g.ax, .slice BR g.rules.length dR] 25 (0, 0)) := by rw [← hw4]; exact heap_alloc_new w3 _
  obtain ⟨d0, d1, d2, d3⟩ := gr_blk hk4
  have h14 : Below w1.heap.size w1 w4 := below_next (below_next HB2.out HB3.out) hb4
  have HE4 := Lib.hid (HE1.out.below h14)
  have HTy4 := Lib.hid (HTy.out.below h14)
  have HG4 := Lib.hid (HG1.out.below h14)
  have HT4 := Lib.hid (Kd.C_below HT1.out h14)
  have HU4 := Lib.hid (HU.out.below (below_next HB3.out hb4))
  have HL4 : Hid (KMInt.C w4 Al (rs.length + 1) (rs.map some ++ [none])) := Lib.hid (by have := Kd.C_below HRl.out.2.2 hb4; rwa [← HRl.out.1] at this)
  have HKg := Lib.hid (blk_below HK1.out h14)
  have HKu := Lib.hid hk4
  have HB4 := Lib.hid (below_next HB1.out h14)
  have HM := Lib.hid (grow_calls _ g nt Al cl rs w4 A HE4.out HU4.out.plain (lent_C (a := Kd.int .i64) HL4.out) (by omega))
  have HRS := Lib.hid (fun (W : World) (hW : Below w4.heap.size w4 W) => rgrow_calls _ g nt At ct rs W A (HE4.out.below hW) (HG4.out.below hW) (Kd.C_below HT4.out hW) hlc)
  clear hw4 hb4 hk4 h14 hw1 HLG HLI
  obtain ⟨E, hEe⟩ : ∃ E, growE g nt rs = E := ⟨_, rfl⟩
  obtain ⟨L, hL⟩ : ∃ L, growL g nt rs = L := ⟨_, rfl⟩
  obtain ⟨ek, er⟩ := E
  unfold GrowP at HM
  rw [hEe, hL] at HM
  simp only [hEe, hL] at HRS
  have hnp : ∀ u W, ErrV W A u ek er → NoPlace u := fun u W h => h.noPlace (by have := growE_ge g nt rs; rw [hEe] at this; exact this)
  have HNp := Lib.hid hnp
  clear hEe hL hnp
  go_wp2_with (first
    | (go_at_call 11; refine HM.out.mono ?_; rintro e w5 ⟨va, ua, rfl, hra, hua, hb5⟩; obtain ⟨A5, c5, e5⟩ := Kd.R_slice hra; subst e5; have HA5 := Lib.hid (Kd.R_reads' hra).2.2; have HU5 := Lib.hid hua; have HB5 := Lib.hid hb5; obtain ⟨x0, x1, x2, x3⟩ := gr_blk (blk_below HKg.out hb5); clear hra hua hb5)
    | (go_at_call 12; refine (HRS.out w5 HB5.out).mono ?_; rintro e w6 ⟨vb, rfl, hrb, hb6⟩; obtain ⟨A6, c6, e6⟩ := Kd.R_slice hrb; subst e6; have HA6 := Lib.hid (Kd.R_reads' hrb).2.2; have HB6 := Lib.hid hb6; have P6 := Lib.hid (below_next HB5.out hb6); clear hrb hb6 x0 x1 x2 x3)
    | (go_at_call 13; refine (as_calls (HE4.out.below P6.out) (HTy4.out.below P6.out) (HU5.out.below HB6.out) (HNp.out _ _ HU5.out)).mono ?_; rintro e w7 ⟨rfl, hb7⟩; have HB7 := Lib.hid hb7; have P7 := Lib.hid (below_next P6.out hb7); clear hb7)
    | (go_at_call 14; refine (ksteps_calls A5 A6 c5 c6 L L w7 (Kd.C_below (Kd.C_below HA5.out HB6.out) HB7.out) (Kd.C_below HA6.out HB7.out)).mono ?_; rw [decide_eq_true (show L = L from rfl)]; rintro e w8 ⟨rfl, n8, rfl⟩; have P8 := Lib.hid (pw_below_drewN P7.out n8); obtain ⟨z0, z1, z2, z3⟩ := gr_blk (blk_below HKg.out P8.out); obtain ⟨y0, y1, y2, y3⟩ := gr_blk (blk_below HKu.out P8.out))
    | (go_at_call 15; refine (keptGrammar_calls _ _ g _ (HU4.out.below P8.out) (HG4.out.below P8.out)).mono ?_; rintro e w9 ⟨rfl, hb9⟩; have P9 := Lib.hid (below_next P8.out hb9); clear hb9)
    | (go_at_call 16; refine (keptInts_calls Al At cl ct rs w9 (Kd.C_below HL4.out P9.out) hcl (Kd.C_below HT4.out P9.out)).mono ?_; rintro e w10 ⟨rfl, n10, rfl⟩))
  go_ret
  exact ⟨rfl, below_next HB4.out (pw_below_drewN P9.out _)⟩
end Go.Proofs.YtcjcffcbfkimdaaDoor.Hand
