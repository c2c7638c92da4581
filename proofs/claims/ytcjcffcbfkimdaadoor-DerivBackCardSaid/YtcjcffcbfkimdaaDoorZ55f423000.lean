/- The texts that the statement's proof stands on, part 3: XNode XWalk XKnown18 XTrM XTrAt. -/
import Derived.Test.YtcjcffcbfkimdaaDoorZe9299f099
import Derived.WalkLawsBesides
import Derived.Test.YtcjcffcbfkimdaaDoorWLast
import Derived.Defers
import Derived.Recover
import Derived.Laws.Pointers
/- Contract: the walker's walk of one node (deriv). -/
namespace Go.Proofs.YtcjcffcbfkimdaaDoor.Hand
open Go.RowKit Go.Proofs.YtcjcffcbfkimdaaDoorW.PrintWords Go.Proofs.YtcjcffcbfkimdaaDoorW.PrintMore Go.Proofs.YtcjcffcbfkimdaaDoorW.PrintLast Go.Proofs.YtcjcffcbfkimdaaDoor.Math

/-- What node leaves. -/
def NodeP (w0 : World) (b : Nat) (gt gn gr : Value) (ax : Int) (rv : Value) (A : Nat → Addr) (res : Option (Nat × DS)) (e : Ending) (w' : World) : Prop :=
  match res with
  | some st => e = .returned (.tuple #[]) ∧ ∃ vt vk, WkAt w0 w' b gt gn gr ax rv st.1 st.2 vt vk
  | none => e = .panicked [{ v := .iface 92 (.agg #[.iface 175 (.pointer (some (A 10)))]), recovered := false }] ∧ Below w0.heap.size w0 w'
theorem nodeP_none {w0 : World} {b : Nat} {gt gn gr : Value} {ax : Int} {rv : Value} {A : Nat → Addr} {res : Option (Nat × DS)} {w' : World} (h : res = none) (hb : Below w0.heap.size w0 w') :
    NodeP w0 b gt gn gr ax rv A res (.panicked [{ v := .iface 92 (.agg #[.iface 175 (.pointer (some (A 10)))]), recovered := false }]) w' := by
  subst h; exact ⟨rfl, hb⟩
theorem nodeP_some {w0 : World} {b : Nat} {gt gn gr : Value} {ax : Int} {rv : Value} {A : Nat → Addr} {res : Option (Nat × DS)} {w' : World} {st : Nat × DS} {vt vk : Value} (h : res = some st) (hw : WkAt w0 w' b gt gn gr ax rv st.1 st.2 vt vk) :
    NodeP w0 b gt gn gr ax rv A res (.returned (.tuple #[])) w' := by
  subst h; exact ⟨rfl, vt, vk, hw⟩
/-- What stands still on a walk. -/
structure WkIn (w0 : World) (g : Gr) (AR : Option Addr) (rs : List Int) (Ar : Option Addr) (A : Nat → Addr) : Prop where
  err : Errs w0 A
  rules : KRule.C w0 AR g.rules.length g.rules
  row : (Kd.int .i64).C w0 Ar rs.length rs
  len : rs.length ≤ 200000
  short : ∀ r ∈ g.rules, r.2.length ≤ 32
  syms : ∀ r ∈ g.rules, ∀ s ∈ r.2, -100 ≤ s ∧ s ≤ 100
  ne : ∀ r ∈ g.rules, r.2 ≠ []
  few : g.rules.length ≤ 120
theorem nodeG_none {o : Ops DS Nat} {G : List (Int × List Int)} {rs : List Int} {f : Nat} {any : Bool} {nt : Int} {up : Option (Nat × Nat)} {deep : Nat} {st : Nat × DS} (h : rs.length ≤ st.1) : nodeG o G rs f any nt up deep st = none := by
  cases f with
  | zero => rfl
  | succ f => rw [nodeG, List.getElem?_eq_none h]
theorem nodeG_ok {G : List (Int × List Int)} {rs : List Int} {f : Nat} {any : Bool} {nt n x : Int} {r : List Int} {up : Option (Nat × Nat)} {deep i : Nat} {d : DS} (hn : rs[i]? = some n) (hb : ¬ (n < 0 ∨ (G.length : Int) ≤ n)) (hr : ruleD G n = (x, r)) (ha : ¬ (any = false ∧ x ≠ nt)) :
    nodeG (opsD inc64) G rs (f + 1) any nt up deep (i, d) = (symsG (opsD inc64) (fun u m st => nodeG (opsD inc64) G rs f false m (some u) (deep + 1) st) i 0 r (i + 1, ⟨d.place, d.tree ++ [(n, d.place, 0)], d.tokens, max d.depth deep⟩)).map (fun st' => (st'.1, (opsD inc64).lv st'.2 i)) := by
  rw [nodeG]
  simp only [hn]
  rw [if_neg hb, hr, if_neg ha]
  cases h : symsG (opsD inc64) (fun u m st => nodeG (opsD inc64) G rs f false m (some u) (deep + 1) st) i 0 r (i + 1, ⟨d.place, d.tree ++ [(n, d.place, 0)], d.tokens, max d.depth deep⟩) with
  | none =>
    have h' : symsG (opsD inc64) (fun u m st => nodeG (opsD inc64) G rs f false m (some u) (deep + 1) st) ((opsD inc64).ent i d up deep n).2 0 (x, r).2 (i + 1, ((opsD inc64).ent i d up deep n).1) = none := h
    rw [h']
    rfl
  | some s' =>
    have h' : symsG (opsD inc64) (fun u m st => nodeG (opsD inc64) G rs f false m (some u) (deep + 1) st) ((opsD inc64).ent i d up deep n).2 0 (x, r).2 (i + 1, ((opsD inc64).ent i d up deep n).1) = some s' := h
    rw [h']
    rfl
/-- The loop over a node's symbols. -/
structure NLoop (w0 wr : World) (b : Nat) (gt gn gr : Value) (ax : Int) (rv : Value) (rs : List Int) (G : List (Int × List Int)) (f deep i : Nat) (r : List Int) (rS : Option (Nat × DS)) (kk : Nat) (s2 : Nat × DS) (vt vk : Value) : Prop where
  at_ : WkAt w0 wr b gt gn gr ax rv s2.1 s2.2 vt vk
  tl : s2.2.tree.length = s2.1
  tk : s2.2.tokens.length + 32 ≤ 32 * s2.1 + kk
  dep : s2.2.depth ≤ s2.1
  lo : i + 1 ≤ s2.1
  hi : s2.1 ≤ rs.length
  eq : symsG (opsD inc64) (fun u m st => nodeG (opsD inc64) G rs f false m (some u) (deep + 1) st) i kk (r.drop kk) s2 = rS
section
variable {w0 wr w' : World} {b : Nat} {gt gn gr : Value} {ax : Int} {rv : Value} {rs : List Int} {G : List (Int × List Int)} {f deep i : Nat} {r : List Int} {rS : Option (Nat × DS)} {kk : Nat} {s2 : Nat × DS} {vt vk vt' vk' : Value} {y : Int}
theorem NLoop.dead (h : NLoop w0 wr b gt gn gr ax rv rs G f deep i r rS kk s2 vt vk) (hd : r.drop kk = y :: r.drop (kk + 1)) (hy : y < 0) (hn : nodeG (opsD inc64) G rs f false (-1 - y) (some (i, kk)) (deep + 1) s2 = none) : rS = none := by
  rw [← h.eq, hd, symsG, if_pos hy]
  simp only [hn]
theorem NLoop.call (h : NLoop w0 wr b gt gn gr ax rv rs G f deep i r rS kk s2 vt vk) (hd : r.drop kk = y :: r.drop (kk + 1)) (hy : y < 0) {s3 : Nat × DS} (hn : nodeG (opsD inc64) G rs f false (-1 - y) (some (i, kk)) (deep + 1) s2 = some s3)
    (hdp : deep ≤ i + 1) (hG : ∀ r ∈ G, r.2.length ≤ 32) (hne : ∀ r ∈ G, r.2 ≠ []) (hw : WkAt w0 w' b gt gn gr ax rv s3.1 s3.2 vt' vk') : NLoop w0 w' b gt gn gr ax rv rs G f deep i r rS (kk + 1) s3 vt' vk' := by
  obtain ⟨a1, a2, a3, a4⟩ := node_size inc64 G rs 32 hG f false _ _ _ s2 s3 hn h.tl
  have m := (node_mono inc64 G rs hne f false _ _ _ s2 s3 hn).up
  have h1 := h.tk
  have h2 := h.dep
  have h3 := h.lo
  refine ⟨hw, a3, by omega, by omega, by omega, a2, ?_⟩
  rw [← h.eq, hd, symsG, if_pos hy]
  simp only [hn]
theorem NLoop.tok (h : NLoop w0 wr b gt gn gr ax rv rs G f deep i r rS kk s2 vt vk) (hd : r.drop kk = y :: r.drop (kk + 1)) (hy : ¬ y < 0)
    (hw : WkAt w0 w' b gt gn gr ax rv s2.1 ⟨inc64 s2.2.place, s2.2.tree, s2.2.tokens ++ [y], s2.2.depth⟩ vt' vk') : NLoop w0 w' b gt gn gr ax rv rs G f deep i r rS (kk + 1) (s2.1, ⟨inc64 s2.2.place, s2.2.tree, s2.2.tokens ++ [y], s2.2.depth⟩) vt' vk' := by
  have h1 := h.tk
  refine ⟨hw, h.tl, by simp; omega, h.dep, h.lo, h.hi, ?_⟩
  rw [← h.eq, hd, symsG, if_neg hy]
  rfl
theorem NLoop.fin (h : NLoop w0 wr b gt gn gr ax rv rs G f deep i r rS kk s2 vt vk) (hk : r.length ≤ kk) : rS = some s2 := by
  rw [← h.eq, List.drop_eq_nil_of_le hk, symsG]
end
set_option maxHeartbeats 1000000 in
theorem node_end (w0 : World) (b : Nat) (g : Gr) (gt gn : Value) (AR Ar : Option Addr) (cR cr : Nat) (rs : List Int) (A : Nat → Addr) (hI : WkIn w0 g AR rs Ar A) (f : Nat) (any : Bool) (nt : Int) (up : Option (Nat × Nat)) (deep i : Nat) (d : DS) (vt vk : Value) (w : World) (hge : rs.length ≤ i) (_hii : i ≤ 1000000)
    (h : WkAt w0 w b gt gn (.slice AR g.rules.length cR) g.ax (.slice Ar rs.length cr) i d vt vk) :
    Calls Tryd.prog 54 #[.pointer (some ⟨b, 0, none⟩), .int .i64 nt, .int .i64 (deep : Int), .bool any] w
      (NodeP w0 b gt gn (.slice AR g.rules.length cR) g.ax (.slice Ar rs.length cr) A (nodeG (opsD inc64) g.rules rs f any nt up deep (i, d))) := by
  have hlt : ¬ i < rs.length := by omega
  have HI := Lib.hid hI
  have HH := Lib.hid h
  have c3 : w.cell? ⟨b, 3, none⟩ = some (.slice AR g.rules.length cR) := h.c3 rfl
  have c4 : w.cell? ⟨b, 4, none⟩ = some (.slice Ar rs.length cr) := h.c4 rfl
  have c5 : w.cell? ⟨b, 5, none⟩ = some (.int .i64 (i : Int)) := h.c5
  have e10 : w.cell? ⟨2, 0, none⟩ = some (.iface 175 (.pointer (some (A 10)))) := (hI.err.below h.bel).cells 10 (by omega)
  have HE10 : Hid (∀ W, Below w.heap.size w W → W.cell? ⟨2, 0, none⟩ = some (.iface 175 (.pointer (some (A 10))))) := Lib.hid (fun W hb => ((hI.err.below h.bel).below hb).cells 10 (by omega))
  have HRu := Lib.hid (Kd.C_below hI.rules h.bel)
  have HRs := Lib.hid (Kd.C_below hI.row h.bel)
  have hll := hI.len
  have hfew := hI.few
  have HB := Lib.hid h.bel
  clear hI h
  have HNd : Hid (nodeG (opsD inc64) g.rules rs f any nt up deep (i, d) = none) := Lib.hid (nodeG_none (by show rs.length ≤ i; omega))
  go_enter Tryd.func54, Tryd.ntmps54
  go_wp2
  go_quiet (fail)
  go_wp2
  exact ⟨rfl, nodeP_none HNd.out (pw_below_drewN HB.out _)⟩
set_option maxHeartbeats 4000000 in
set_option maxRecDepth 100000 in
theorem node_step (w0 : World) (b : Nat) (g : Gr) (gt gn : Value) (AR Ar : Option Addr) (cR cr : Nat) (rs : List Int) (A : Nat → Addr) (hI : WkIn w0 g AR rs Ar A) (f : Nat)
    (ih : ∀ (any : Bool) (nt : Int) (up : Option (Nat × Nat)) (deep i : Nat) (d : DS) (vt vk : Value) (w : World), rs.length ≤ i + f → deep ≤ i + 1 → d.depth ≤ i → d.tree.length = i → d.tokens.length ≤ 32 * i → i ≤ rs.length →
      WkAt w0 w b gt gn (.slice AR g.rules.length cR) g.ax (.slice Ar rs.length cr) i d vt vk →
      Calls Tryd.prog 54 #[.pointer (some ⟨b, 0, none⟩), .int .i64 nt, .int .i64 (deep : Int), .bool any] w
        (NodeP w0 b gt gn (.slice AR g.rules.length cR) g.ax (.slice Ar rs.length cr) A (nodeG (opsD inc64) g.rules rs f any nt up deep (i, d))))
    (any : Bool) (nt : Int) (up : Option (Nat × Nat)) (deep i : Nat) (pl : Int) (T : List (Int × Int × Int)) (K : List Int) (m0 : Nat) (vt vk : Value) (w : World) (hf : rs.length ≤ i + (f + 1)) (hdp : deep ≤ i + 1) (hdd : m0 ≤ i) (htl : T.length = i) (htk : K.length ≤ 32 * i) (hlt : i < rs.length)
    (h : WkAt w0 w b gt gn (.slice AR g.rules.length cR) g.ax (.slice Ar rs.length cr) i ⟨pl, T, K, m0⟩ vt vk) :
    Calls Tryd.prog 54 #[.pointer (some ⟨b, 0, none⟩), .int .i64 nt, .int .i64 (deep : Int), .bool any] w
      (NodeP w0 b gt gn (.slice AR g.rules.length cR) g.ax (.slice Ar rs.length cr) A (nodeG (opsD inc64) g.rules rs (f + 1) any nt up deep (i, ⟨pl, T, K, m0⟩))) := by
  have IH := Lib.hid ih
  have HTl := Lib.hid htl
  clear ih
  have HI := Lib.hid hI
  have HH := Lib.hid h
  have c3 : w.cell? ⟨b, 3, none⟩ = some (.slice AR g.rules.length cR) := h.c3 rfl
  have c4 : w.cell? ⟨b, 4, none⟩ = some (.slice Ar rs.length cr) := h.c4 rfl
  have c5 : w.cell? ⟨b, 5, none⟩ = some (.int .i64 (i : Int)) := h.c5
  have e10 : w.cell? ⟨2, 0, none⟩ = some (.iface 175 (.pointer (some (A 10)))) := (hI.err.below h.bel).cells 10 (by omega)
  have HE10 : Hid (∀ W, Below w.heap.size w W → W.cell? ⟨2, 0, none⟩ = some (.iface 175 (.pointer (some (A 10))))) := Lib.hid (fun W hb => ((hI.err.below h.bel).below hb).cells 10 (by omega))
  have HRu := Lib.hid (Kd.C_below hI.rules h.bel)
  have HRs := Lib.hid (Kd.C_below hI.row h.bel)
  have hll := hI.len
  have hfew := hI.few
  have HB := Lib.hid h.bel
  clear hI h
  obtain ⟨ad, n, rfl, hn, HN⟩ := at_scalar HRs.out i hlt 0
  obtain ⟨res, hres⟩ : ∃ r, nodeG (opsD inc64) g.rules rs (f + 1) any nt up deep (i, ⟨pl, T, K, m0⟩) = r := ⟨_, rfl⟩
  have hni : rs[i]? = some n := by
    have := HN.out
    rw [List.getD_eq_getElem?_getD, List.getElem?_eq_getElem hlt] at this
    rw [List.getElem?_eq_getElem hlt]
    exact congrArg some this
  rw [hres]
  by_cases h0 : n < 0
  · have HR : Hid (res = none) := Lib.hid (by rw [← hres, nodeG, hni]; simp only; rw [if_pos (.inl h0)])
    clear hres hni
    go_enter Tryd.func54, Tryd.ntmps54
    go_wp2
    go_quiet (fail)
    go_wp2
    go_quiet (fail)
    go_wp2
    exact ⟨rfl, nodeP_none HR.out (by first | exact pw_below_drewN HB.out _ | exact pw_below_drewN (pw_below_drewN HB.out _) _)⟩
  · by_cases h1 : (g.rules.length : Int) ≤ n
    · have HR : Hid (res = none) := Lib.hid (by rw [← hres, nodeG, hni]; simp only; rw [if_pos (.inr h1)])
      clear hres hni
      go_enter Tryd.func54, Tryd.ntmps54
      go_wp2
      go_quiet (fail)
      go_wp2
      go_quiet (fail)
      go_wp2
      exact ⟨rfl, nodeP_none HR.out (by first | exact pw_below_drewN HB.out _ | exact pw_below_drewN (pw_below_drewN HB.out _) _)⟩
    · obtain ⟨j, rfl⟩ : ∃ j : Nat, n = (j : Int) := ⟨n.toNat, by omega⟩
      have hj : j < g.rules.length := by omega
      obtain ⟨adr, x, B, c, r, rfl, k10, k20, hrc, hr, HD⟩ := at_rule HI.out.rules j hj
      have HK2 : Hid (∀ W, Below w0.heap.size w0 W → W.cell? ⟨(adr.add (j * 2)).block, (adr.add (j * 2)).off + 1, none⟩ = some (.slice B r.length c)) := Lib.hid (fun W hW => (hW.cell (World.block_lt_of_cell? _ _ k20)).trans k20)
      have k1 := (HB.out.cell (World.block_lt_of_cell? _ _ k10)).trans k10
      clear k10 k20
      have hrule : ruleD g.rules (j : Int) = (x, r) := by unfold ruleD; rw [Int.toNat_natCast]; exact HD.out
      by_cases ha : any = false ∧ x ≠ nt
      · have HR : Hid (res = none) := Lib.hid (by rw [← hres, nodeG, hni]; simp only; rw [if_neg (by omega), hrule, if_pos ha])
        obtain ⟨rfl, hx⟩ := ha
        have hxI : (x == nt) = false := beq_eq_false_iff_ne.2 hx
        have hxJ : (x != nt) = true := by simp [hx]
        clear hres hni hr hrule
        go_enter Tryd.func54, Tryd.ntmps54
        go_wp2
        go_quiet (fail)
        go_wp2
        go_quiet (fail)
        go_wp2
  
        exact ⟨rfl, nodeP_none HR.out (by first | exact pw_below_drewN HB.out _ | exact pw_below_drewN (pw_below_drewN HB.out _) _)⟩
      · have hsr : ∀ s ∈ r, -100 ≤ s ∧ s ≤ 100 := fun s hs => HI.out.syms (x, r) (by rw [← HD.out]; exact getD_mem _ _ _ hj) s hs
        have hl32 : r.length ≤ 32 := HI.out.short (x, r) (by rw [← HD.out]; exact getD_mem _ _ _ hj)
        obtain ⟨rS, hrS⟩ : ∃ rS, symsG (opsD inc64) (fun u m st => nodeG (opsD inc64) g.rules rs f false m (some u) (deep + 1) st) i 0 r (i + 1, ⟨pl, T ++ [((j : Int), pl, 0)], K, max m0 deep⟩) = rS := ⟨_, rfl⟩
        have HR : Hid (res = rS.map (fun st' => (st'.1, (opsD inc64).lv st'.2 i))) := Lib.hid (by
          rw [← hres, ← hrS]
          exact nodeG_ok hni (by omega) hrule ha)
        have HSy := Lib.hid hsr
        have HrS := Lib.hid hrS
        have HRr := Lib.hid hr
        have hcase : any = true ∨ (any = false ∧ x = nt) := by
          cases any
          · exact .inr ⟨rfl, Classical.byContradiction (fun h => ha ⟨rfl, h⟩)⟩
          · exact .inl rfl
        clear hres hni hrule hsr hrS hr ha
        have hf5 := HH.out.fr 5
        rcases hcase with rfl | ⟨rfl, rfl⟩
        · have hxI : (x == x) = true := by simp
          have hj1 : decide (g.rules.length ≤ j) = false := by simp; omega
          have hj2 : decide ((g.rules.length : Int) ≤ (j : Int)) = false := by simp; omega
          have hj3 : decide ((j : Int) < 0) = false := by simp
          have hj4 : decide (rs.length ≤ i) = false := by simp; omega
          have hj5 : decide ((rs.length : Int) ≤ (i : Int)) = false := by simp; omega
          have hxJ : (x != x) = false := by simp
          go_enter Tryd.func54, Tryd.ntmps54
          go_wp2
          go_quiet (fail)
          rename Nat => q1
          go_wp2
          go_quiet (fail)
          rename Nat => q2
          go_upto_region 7 with (fail)
          obtain ⟨w2, hw2⟩ : ∃ w2, (w.drewN (q1 + q2)).setCell ⟨b, 5, none⟩ (.int .i64 ((i : Int) + 1)) = w2 := ⟨_, rfl⟩
          have h2 : WkAt w0 w2 b gt gn (.slice (some adr) g.rules.length cR) g.ax (.slice (some ad) rs.length cr) (i + 1) ⟨pl, T, K, m0⟩ vt vk := by
            rw [← hw2]
            have := (HH.out.drewN (q1 + q2)).setI (i + 1)
            rwa [show ((i + 1 : Nat) : Int) = (i : Int) + 1 by omega] at this
          rw [hw2]
          clear hw2 c3 c4 c5 k1 e10 hn hf5
          have H2 := Lib.hid h2
          have c9 := h2.c9
          have f9 := h2.fr 9
          clear h2
          have hmx : (if m0 < deep then (deep : Int) else (m0 : Int)) = ((max m0 deep : Nat) : Int) := by split <;> omega
          obtain ⟨mx, hmm⟩ : ∃ mx, max m0 deep = mx := ⟨_, rfl⟩
          rw [hmm] at hmx
          have Hmm := Lib.hid hmm
          go_upto_region 8 with (fail)
          obtain ⟨w3, hw3⟩ : ∃ w3, w2.setCell ⟨b, 9, none⟩ (.int .i64 (mx : Int)) = w3 := ⟨_, rfl⟩
          have h3 : WkAt w0 w3 b gt gn (.slice (some adr) g.rules.length cR) g.ax (.slice (some ad) rs.length cr) (i + 1) ⟨pl, T, K, max m0 deep⟩ vt vk := by
            rw [← hw3]
            rw [hmm]
            exact H2.out.setD mx
          rw [hw3]
          clear hw3 c9 f9 hmx hmm
          obtain ⟨A7, c7, e7⟩ := Kd.R_slice h3.tr
          obtain ⟨n7, hn7⟩ : ∃ n, T.length = n := ⟨_, rfl⟩
          simp only [hn7] at e7
          subst e7
          have H3 := Lib.hid h3
          have HO3 := Lib.hid (Kd.R_drew h3.tr)
          have HB3 := Lib.hid (below_drew h3.bel)
          have HS3 : Hid (w0.heap.size ≤ w3.drew.heap.size) := Lib.hid (below_drew h3.bel).size
          have hD : ∀ W, Below w3.heap.size w3 W → W.cell? ⟨b, 7, none⟩ = some (.slice A7 n7 c7) ∧ W.cell? ⟨b, 6, none⟩ = some (.int .i64 pl) := fun W hW => ⟨(h3.below hW).c7 rfl, (h3.below hW).c6⟩
          have D0 := Lib.hid (hD _ (below_drew (Below.refl w3.heap.size w3)))
          have D1 := Lib.hid (hD _ (below_alloc (below_drew (Below.refl w3.heap.size w3)) (.cells #[.int .i64 (j : Int), .int .i64 pl, .int .i64 0] 55)))
          have Hn7 := Lib.hid hn7
          have hlb : (T.length + 1) * 24 ≤ 140737488355328 := by omega
          have HLb := Lib.hid hlb
          clear hD h3 hn7 hlb htl
          have d7 := D0.out.1
          have d6 := D0.out.2
          refine start_ (n := 16) (S := fun w' => w'.cell? ⟨b, 7, none⟩ = some (.slice A7 n7 c7) ∧ w'.cell? ⟨b, 6, none⟩ = some (.int .i64 pl)) (ds := [12, 15]) #[false, false, false, false, false, false, false, false, false, false, false, false, false, false, false, false] (by kernel_rfl) rfl rfl ⟨d7, d6⟩ (fun hHeld => ?_)
          refine pure_ (i := 0) (N := some 87) (v := ?_) (a' := ?_) #[true, false, false, false, false, false, false, false, false, false, false, false, false, false, false, false] rfl rfl (by kernel_rfl) (fun _ _ _ h => h) (Or.inl ⟨by rfl, ?_⟩) ?_ ?_
          rotate_left
          · intro w'
            go_simp
            with_reducible rfl
          rotate_left
          · simp only [Act.put, List.setIfInBounds_toArray, List.set_cons_zero, List.set_cons_succ]
            rfl
          refine pure_ (i := 1) (N := some 88) (v := ?_) (a' := ?_) #[true, true, false, false, false, false, false, false, false, false, false, false, false, false, false, false] rfl rfl (by kernel_rfl) (fun _ _ _ h => h) (Or.inl ⟨by rfl, ?_⟩) ?_ ?_
          rotate_left
          · intro w'
            go_simp
            with_reducible rfl
          rotate_left
          · simp only [Act.put, List.setIfInBounds_toArray, List.set_cons_zero, List.set_cons_succ]
            rfl
          refine pure_ (i := 2) (N := some 89) (v := ?_) (a' := ?_) #[true, true, true, false, false, false, false, false, false, false, false, false, false, false, false, false] rfl rfl (by kernel_rfl) (fun _ _ _ h => h) (Or.inl ⟨by rfl, ?_⟩) ?_ ?_
          rotate_left
          · intro w'
            go_simp
            with_reducible rfl
          rotate_left
          · simp only [Act.put, List.setIfInBounds_toArray, List.set_cons_zero, List.set_cons_succ]
            rfl
          refine pure_ (i := 3) (N := some 90) (v := ?_) (a' := ?_) #[true, true, true, true, false, false, false, false, false, false, false, false, false, false, false, false] rfl rfl (by kernel_rfl) (fun _ _ _ h => h) (Or.inl ⟨by rfl, ?_⟩) ?_ ?_
          rotate_left
          · intro w'
            go_simp
            with_reducible rfl
          rotate_left
          · simp only [Act.put, List.setIfInBounds_toArray, List.set_cons_zero, List.set_cons_succ]
            rfl
          refine pure_ (i := 5) (N := some 92) (v := ?_) (a' := ?_) #[true, true, true, true, false, true, false, false, false, false, false, false, false, false, false, false] rfl rfl (by kernel_rfl) (fun _ _ _ h => h) (Or.inl ⟨by rfl, ?_⟩) ?_ ?_
          rotate_left
          · intro w'
            go_simp
            with_reducible rfl
          rotate_left
          · simp only [Act.put, List.setIfInBounds_toArray, List.set_cons_zero, List.set_cons_succ]
            rfl
          refine pure_ (i := 6) (N := some 93) (v := ?_) (a' := ?_) #[true, true, true, true, false, true, true, false, false, false, false, false, false, false, false, false] rfl rfl (by kernel_rfl) (fun _ _ _ h => h) (Or.inl ⟨by rfl, ?_⟩) ?_ ?_
          rotate_left
          · intro w'
            go_simp
            with_reducible rfl
          rotate_left
          · simp only [Act.put, List.setIfInBounds_toArray, List.set_cons_zero, List.set_cons_succ]
            rfl
          refine pure_ (i := 7) (N := some 94) (v := ?_) (a' := ?_) #[true, true, true, true, false, true, true, true, false, false, false, false, false, false, false, false] rfl rfl (by kernel_rfl) (fun _ _ _ h => h) (Or.inl ⟨by rfl, ?_⟩) ?_ ?_
          rotate_left
          · intro w'
            go_simp
            with_reducible rfl
          rotate_left
          · simp only [Act.put, List.setIfInBounds_toArray, List.set_cons_zero, List.set_cons_succ]
            rfl
          refine pure_ (i := 8) (N := some 95) (v := ?_) (a' := ?_) #[true, true, true, true, false, true, true, true, true, false, false, false, false, false, false, false] rfl rfl (by kernel_rfl) (fun _ _ _ h => h) (Or.inl ⟨by rfl, ?_⟩) ?_ ?_
          rotate_left
          · intro w'
            go_simp
            with_reducible rfl
          rotate_left
          · simp only [Act.put, List.setIfInBounds_toArray, List.set_cons_zero, List.set_cons_succ]
            rfl
          refine take_ (i := 4) (N := some 91) (v := ?_) (a' := ?_) #[true, true, true, true, true, true, true, true, true, false, false, false, false, false, false, false] rfl rfl (by kernel_rfl) (fun _ _ _ h => h) (Or.inl ⟨by rfl, ?_⟩) hHeld ?_ ?_
          rotate_left
          · rintro w' ⟨s0, s1⟩
            go_simp
            with_reducible rfl
          rotate_left
          · simp only [Act.put, List.setIfInBounds_toArray, List.set_cons_zero, List.set_cons_succ]
            rfl
          refine take_ (i := 9) (N := some 96) (v := ?_) (a' := ?_) #[true, true, true, true, true, true, true, true, true, true, false, false, false, false, false, false] rfl rfl (by kernel_rfl) (fun _ _ _ h => h) (Or.inl ⟨by rfl, ?_⟩) hHeld ?_ ?_
          rotate_left
          · rintro w' ⟨s0, s1⟩
            go_simp
            with_reducible rfl
          rotate_left
          · simp only [Act.put, List.setIfInBounds_toArray, List.set_cons_zero, List.set_cons_succ]
            rfl
          refine pure_ (i := 10) (N := some 97) (v := ?_) (a' := ?_) #[true, true, true, true, true, true, true, true, true, true, true, false, false, false, false, false] rfl rfl (by kernel_rfl) (fun _ _ _ h => h) (Or.inl ⟨by rfl, ?_⟩) ?_ ?_
          rotate_left
          · intro w'
            go_simp
            with_reducible rfl
          rotate_left
          · simp only [Act.put, List.setIfInBounds_toArray, List.set_cons_zero, List.set_cons_succ]
            rfl
          refine one_ (i := 11) (N := some 98) #[true, true, true, true, true, true, true, true, true, true, true, true, false, false, false, false] rfl rfl (by kernel_rfl) (by decide) (fun K hK => ?_)
          refine value_ (w1 := ?_) (v := ?_) (by rfl) rfl ?_ ?_
          rotate_left 2
          · go_simp
            constructor
            · rfl
            · rfl
          refine hK.out _ _ ⟨D1.out.1, D1.out.2⟩ (fun hHeld => ?_)
          clear hK K
          refine norm_ (a' := ?_) ?_ ?_
          rotate_left
          · show Act.put _ (some 98) _ = _
            simp only [Act.put, List.setIfInBounds_toArray, List.set_cons_zero, List.set_cons_succ]
            rfl
          refine last_ (i := 12) (N := some 99) #[true, true, true, true, true, true, true, true, true, true, true, true, true, false, false, false] rfl rfl (by kernel_rfl) (by decide) (fun K hK => ?_)
          refine Kd.R_append_step KStep (w0 := w0) w0.heap.size (by rfl) (.tmp 91) (.tmp 98) 29 55 (.agg #[.int .i64 0, .int .i64 0, .int .i64 0]) 24 rfl Tryd.underlying29 infoStep rfl (by decide) (by omega) (.slice A7 n7 c7) T ((j : Int), pl, 0) [.int .i64 (j : Int), .int .i64 pl, .int .i64 0] (fun k => k ≠ b) (fun _ => False) rfl rfl (KStep_M _ _ _ _ _ _) (fun _ hk => hk.elim) (fun k hk => by have := H3.out.lt; rw [World.size_drew] at hk; omega) HO3.out HB3.out HS3.out HLb.out ?_
          intro v4 w4 ho hb hg hat
          obtain ⟨A8, c8, e8⟩ := Kd.R_slice ho
          obtain ⟨n8, hn8⟩ : ∃ n, (T ++ [((j : Int), pl, (0 : Int))]).length = n := ⟨_, rfl⟩
          rw [hn8] at e8
          subst e8
          have H4 := Lib.hid ((H3.out.below (below_drew (Below.refl _ _))).growT ho hb hg)
          have H5 := Lib.hid ((H3.out.below (below_drew (Below.refl _ _))).grown7 hb hg)
          have g7 := H5.out.1.1
          have f7 := H5.out.2
          clear ho hb hg hat hn8
          refine hK.out _ _ ?_
          clear hK K
          refine norm_ (a' := ?_) ?_ ?_
          rotate_left
          · show Act.put _ (some 99) _ = _
            simp only [Act.put, List.setIfInBounds_toArray, List.set_cons_zero, List.set_cons_succ]
            rfl
          refine pure_ (i := 13) (N := some 100) (v := ?_) (a' := ?_) #[true, true, true, true, true, true, true, true, true, true, true, true, true, true, false, false] rfl rfl (by kernel_rfl) (fun _ _ _ h => h) (Or.inl ⟨by rfl, ?_⟩) ?_ ?_
          rotate_left
          · intro w'
            go_simp
            with_reducible rfl
          rotate_left
          · simp only [Act.put, List.setIfInBounds_toArray, List.set_cons_zero, List.set_cons_succ]
            rfl
          refine pure_ (i := 14) (N := some 101) (v := ?_) (a' := ?_) #[true, true, true, true, true, true, true, true, true, true, true, true, true, true, true, false] rfl rfl (by kernel_rfl) (fun _ _ _ h => h) (Or.inl ⟨by rfl, ?_⟩) ?_ ?_
          rotate_left
          · intro w'
            go_simp
            with_reducible rfl
          rotate_left
          · simp only [Act.put, List.setIfInBounds_toArray, List.set_cons_zero, List.set_cons_succ]
            rfl
          refine last_ (i := 15) (N := none) #[true, true, true, true, true, true, true, true, true, true, true, true, true, true, true, true] rfl rfl (by kernel_rfl) (by decide) (fun K hK => ?_)
          refine skip_ (w1 := ?_) (by rfl) rfl ?_ ?_
          rotate_left
          · go_simp
            rfl
          refine hK.out _ _ ?_
          clear hK K
          refine done_ (by kernel_rfl) ?_
          obtain ⟨w5, hw5⟩ : ∃ w5, w4.setCell ⟨b, 7, none⟩ (.slice A8 n8 c8) = w5 := ⟨_, rfl⟩
          rw [hw5] at H4 ⊢
          have c3 : w5.cell? ⟨b, 3, none⟩ = some (.slice (some adr) g.rules.length cR) := H4.out.c3 rfl
          have k2 := HK2.out _ H4.out.bel
          have HL : Hid (NLoop w0 w5 b gt gn (.slice (some adr) g.rules.length cR) g.ax (.slice (some ad) rs.length cr) rs g.rules f deep i r rS 0 (i + 1, ⟨pl, T ++ [((j : Int), pl, 0)], K, max m0 deep⟩) (.slice A8 n8 c8) vk) := Lib.hid
            ⟨H4.out, by have := HTl.out; simp; omega, by show K.length + 32 ≤ 32 * (i + 1) + 0; omega, by show max m0 deep ≤ i + 1; omega, Nat.le_refl _, by show i + 1 ≤ rs.length; omega, HrS.out⟩
          clear hw5 g7 f7 H4 H5 d7 d6 D0 D1 HO3 HB3 HS3 HLb Hn7 H2 H3 HrS hxI hxJ
          go_wp2
          go_loopw [112] (fun k wr => ∃ (kk : Nat) (s2 : Nat × DS) (vt2 vk2 : Value), kk ≤ r.length ∧ k = .int .i64 (kk : Int) ∧ Hid (NLoop w0 wr b gt gn (.slice (some adr) g.rules.length cR) g.ax (.slice (some ad) rs.length cr) rs g.rules f deep i r rS kk s2 vt2 vk2)) (fun k _ => r.length - (intOf k).toNat)
          case atStart => exact ⟨0, _, _, _, by omega, rfl, HL⟩
          case round =>
            obtain ⟨kk, ⟨i2, p2, T2, K2, m2⟩, vt2, vk2, hkk, rfl, HN2⟩ := hrel
            obtain ⟨w6, rfl⟩ : ∃ w6, wr = w6 := ⟨_, rfl⟩
            clear c3 k2 HL
            by_cases hlk : kk < r.length
            · obtain ⟨adx, y, rfl, hy, HY⟩ := at_scalar (Kd.C_below HRr.out HN2.out.at_.bel) kk hlk 0
              have hdrop : r.drop kk = y :: r.drop (kk + 1) := by
                rw [List.drop_eq_getElem_cons hlk]
                have := HY.out
                rw [List.getD_eq_getElem?_getD, List.getElem?_eq_getElem hlk] at this
                rw [← this]
                rfl
              have hyb := HSy.out y (by rw [← HY.out]; exact getD_mem _ _ _ hlk)
              have HDr := Lib.hid hdrop
              clear hdrop
              by_cases hneg : y < 0
              · obtain ⟨rN, hrN⟩ : ∃ rN, nodeG (opsD inc64) g.rules rs f false (-1 - y) (some (i, kk)) (deep + 1) (i2, ⟨p2, T2, K2, m2⟩) = rN := ⟨_, rfl⟩
                have HC : Hid (Calls Tryd.prog 54 #[.pointer (some ⟨b, 0, none⟩), .int .i64 (-1 - y), .int .i64 ((deep : Int) + 1), .bool false] wr
                    (NodeP w0 b gt gn (.slice (some adr) g.rules.length cR) g.ax (.slice (some ad) rs.length cr) A rN)) := Lib.hid (by
                  have h1 := HN2.out.tk
                  have h2 := HN2.out.dep
                  have h3 := HN2.out.lo
                  have h4 := HN2.out.hi
                  simp only at h1 h2 h3 h4
                  have := IH.out false (-1 - y) (some (i, kk)) (deep + 1) i2 ⟨p2, T2, K2, m2⟩ vt2 vk2 wr (by omega) (by omega) h2 HN2.out.tl (by show K2.length ≤ 32 * i2; omega) h4 HN2.out.at_
                  rw [hrN] at this
                  rwa [show ((deep + 1 : Nat) : Int) = (deep : Int) + 1 by omega] at this)
                cases rN with
                | none =>
                  have HF : Hid (res = none) := Lib.hid (by rw [HR.out, HN2.out.dead HDr.out hneg hrN]; rfl)
                  clear hrN
                  go_wp2_with (go_at_call 54; (with_reducible refine HC.out.mono ?_); rintro e w7 ⟨rfl, hb7⟩; have HB7 := Lib.hid hb7; clear hb7)
                  exact ⟨rfl, nodeP_none HF.out HB7.out⟩
                | some s3 =>
                  have HrN := Lib.hid hrN
                  clear hrN
                  go_wp2_with (go_at_call 54; (with_reducible refine HC.out.mono ?_); rintro e w7 ⟨rfl, vt3, vk3, h7⟩; have H7 := Lib.hid h7; clear h7)
                  go_roundw
                  case rel => exact ⟨kk + 1, s3, vt3, vk3, by omega, by go_num, Lib.hid (HN2.out.call HDr.out hneg HrN.out hdp HI.out.short HI.out.ne H7.out)⟩
                  case measure => simp [intOf]; omega
              · obtain ⟨A9, c9, e9⟩ := Kd.R_slice HN2.out.at_.tk
                obtain ⟨n9, hn9⟩ : ∃ n, K2.length = n := ⟨_, rfl⟩
                simp only [hn9] at e9
                subst e9
                have HA2 := Lib.hid HN2.out.at_
                have hlb : (K2.length + 1) * 8 ≤ 140737488355328 := by
                  have h1 := HN2.out.tk
                  have h4 := HN2.out.hi
                  simp only at h1 h4
                  omega
                have HLb := Lib.hid hlb
                have c8 : wr.cell? ⟨b, 8, none⟩ = some (.slice A9 n9 c9) := HA2.out.c8 rfl
                clear hlb hn9
                go_upto_region 15 with ((with_reducible refine gate_builtin (b := .append) (xs := #[.tmp 128, .tmp 130]) rfl ?_); at_builtin; go_loud (refine Kd.R_append (Kd.int .i64) (w0 := w0) w0.heap.size rfl (.tmp 128) (.tmp 130) 26 3 (.int .i64 0) 8 rfl Tryd.underlying26 infoInt rfl (by decide) (by omega) (.slice A9 n9 c9) K2 y [.int .i64 y] (fun k => k ≠ b) (fun _ => False) rfl rfl rfl (fun _ hk => hk.elim) (fun k hk => by have := HA2.out.lt; omega) HA2.out.tk HA2.out.bel HA2.out.bel.size HLb.out ?_); intro v10 w10 ho hb hg hat; (obtain ⟨A10, c10, e10⟩ := Kd.R_slice ho; obtain ⟨n10, hn10⟩ : ∃ n, (K2 ++ [y]).length = n := ⟨_, rfl⟩; rw [hn10] at e10; subst e10; have H10 := Lib.hid (HA2.out.growK ho hb hg); have H11 := Lib.hid (HA2.out.grown8 hb hg); have g8 := H11.out.1; have f8 := H11.out.2; clear ho hb hg hat hn10))
                obtain ⟨w11, hw11⟩ : ∃ w11, w10.setCell ⟨b, 8, none⟩ (.slice A10 n10 c10) = w11 := ⟨_, rfl⟩
                rw [hw11] at H10 ⊢
                have c6 : w11.cell? ⟨b, 6, none⟩ = some (.int .i64 p2) := H10.out.c6
                have f6 := H10.out.fr 6
                clear hw11 g8 f8 H11 c8
                go_wp2
                go_roundw
                case rel => exact ⟨kk + 1, (i2, ⟨inc64 p2, T2, K2 ++ [y], m2⟩), vt2, .slice A10 n10 c10, by omega, by go_num, Lib.hid (HN2.out.tok HDr.out hneg (H10.out.setP (inc64 p2)))⟩
                case measure => simp [intOf]; omega
            · have HF : Hid (res = some (i2, (opsD inc64).lv ⟨p2, T2, K2, m2⟩ i)) := Lib.hid (by rw [HR.out, HN2.out.fin (by omega)]; rfl)
              have htl2 : T2.length = i2 := HN2.out.tl
              have hlo : i + 1 ≤ i2 := HN2.out.lo
              obtain ⟨gT, cT, rfl, hcT, hgb, hel⟩ := HN2.out.at_.form htl2 (by omega)
              obtain ⟨⟨uo, ko⟩, fo⟩ := hel i (by omega)
              have HA2 := Lib.hid HN2.out.at_
              have d7 : wr.cell? ⟨b, 7, none⟩ = some (.slice (some ⟨gT, 0, none⟩) i2 cT) := HA2.out.c7 rfl
              have d6 : wr.cell? ⟨b, 6, none⟩ = some (.int .i64 p2) := HA2.out.c6
              have hz0 : (0 : Int) ≤ (i : Int) := by omega
              have hz1 : (i : Int) < (i2 : Int) := by omega
              clear hel
              go_upto_region 17 with (fail)
              have D0 : Hid (wr.drew.cell? ⟨b, 7, none⟩ = some (.slice (some ⟨gT, 0, none⟩) i2 cT) ∧ wr.drew.cell? ⟨b, 6, none⟩ = some (.int .i64 p2)) := Lib.hid ⟨by rw [World.cell?_drew]; exact d7, by rw [World.cell?_drew]; exact d6⟩
              have D1 : Hid (∀ u, (wr.drew.setCell ⟨gT, i * 3 + 2, none⟩ u).cell? ⟨b, 7, none⟩ = some (.slice (some ⟨gT, 0, none⟩) i2 cT) ∧ (wr.drew.setCell ⟨gT, i * 3 + 2, none⟩ u).cell? ⟨b, 6, none⟩ = some (.int .i64 p2)) := Lib.hid (fun u => ⟨by rw [World.cell?_setCell_other _ _ _ _ (by intro e; injection e with e _; exact hgb e)]; exact D0.out.1, by rw [World.cell?_setCell_other _ _ _ _ (by intro e; injection e with e _; exact hgb e)]; exact D0.out.2⟩)
              go_region_held3 (fun w' => w'.cell? ⟨b, 7, none⟩ = some (.slice (some ⟨gT, 0, none⟩) i2 cT) ∧ w'.cell? ⟨b, 6, none⟩ = some (.int .i64 p2))
                (first
                  | exact D1.out _
                  | exact D0.out)
                (fail)
              go_end0
              exact nodeP_some HF.out ((HA2.out.leave i (by show i < T2.length; omega)).below (below_drew (Below.refl _ _)))
        · have hxI : (x == x) = true := by simp
          have hj1 : decide (g.rules.length ≤ j) = false := by simp; omega
          have hj2 : decide ((g.rules.length : Int) ≤ (j : Int)) = false := by simp; omega
          have hj3 : decide ((j : Int) < 0) = false := by simp
          have hj4 : decide (rs.length ≤ i) = false := by simp; omega
          have hj5 : decide ((rs.length : Int) ≤ (i : Int)) = false := by simp; omega
          have hxJ : (x != x) = false := by simp
          go_enter Tryd.func54, Tryd.ntmps54
          go_wp2
          go_quiet (fail)
          rename Nat => q1
          go_wp2
          go_quiet (fail)
          rename Nat => q2
          go_upto_region 7 with (fail)
          obtain ⟨w2, hw2⟩ : ∃ w2, (w.drewN (q1 + q2)).setCell ⟨b, 5, none⟩ (.int .i64 ((i : Int) + 1)) = w2 := ⟨_, rfl⟩
          have h2 : WkAt w0 w2 b gt gn (.slice (some adr) g.rules.length cR) g.ax (.slice (some ad) rs.length cr) (i + 1) ⟨pl, T, K, m0⟩ vt vk := by
            rw [← hw2]
            have := (HH.out.drewN (q1 + q2)).setI (i + 1)
            rwa [show ((i + 1 : Nat) : Int) = (i : Int) + 1 by omega] at this
          rw [hw2]
          clear hw2 c3 c4 c5 k1 e10 hn hf5
          have H2 := Lib.hid h2
          have c9 := h2.c9
          have f9 := h2.fr 9
          clear h2
          have hmx : (if m0 < deep then (deep : Int) else (m0 : Int)) = ((max m0 deep : Nat) : Int) := by split <;> omega
          obtain ⟨mx, hmm⟩ : ∃ mx, max m0 deep = mx := ⟨_, rfl⟩
          rw [hmm] at hmx
          have Hmm := Lib.hid hmm
          go_upto_region 8 with (fail)
          obtain ⟨w3, hw3⟩ : ∃ w3, w2.setCell ⟨b, 9, none⟩ (.int .i64 (mx : Int)) = w3 := ⟨_, rfl⟩
          have h3 : WkAt w0 w3 b gt gn (.slice (some adr) g.rules.length cR) g.ax (.slice (some ad) rs.length cr) (i + 1) ⟨pl, T, K, max m0 deep⟩ vt vk := by
            rw [← hw3]
            rw [hmm]
            exact H2.out.setD mx
          rw [hw3]
          clear hw3 c9 f9 hmx hmm
          obtain ⟨A7, c7, e7⟩ := Kd.R_slice h3.tr
          obtain ⟨n7, hn7⟩ : ∃ n, T.length = n := ⟨_, rfl⟩
          simp only [hn7] at e7
          subst e7
          have H3 := Lib.hid h3
          have HO3 := Lib.hid (Kd.R_drew h3.tr)
          have HB3 := Lib.hid (below_drew h3.bel)
          have HS3 : Hid (w0.heap.size ≤ w3.drew.heap.size) := Lib.hid (below_drew h3.bel).size
          have hD : ∀ W, Below w3.heap.size w3 W → W.cell? ⟨b, 7, none⟩ = some (.slice A7 n7 c7) ∧ W.cell? ⟨b, 6, none⟩ = some (.int .i64 pl) := fun W hW => ⟨(h3.below hW).c7 rfl, (h3.below hW).c6⟩
          have D0 := Lib.hid (hD _ (below_drew (Below.refl w3.heap.size w3)))
          have D1 := Lib.hid (hD _ (below_alloc (below_drew (Below.refl w3.heap.size w3)) (.cells #[.int .i64 (j : Int), .int .i64 pl, .int .i64 0] 55)))
          have Hn7 := Lib.hid hn7
          have hlb : (T.length + 1) * 24 ≤ 140737488355328 := by omega
          have HLb := Lib.hid hlb
          clear hD h3 hn7 hlb htl
          have d7 := D0.out.1
          have d6 := D0.out.2
          refine start_ (n := 16) (S := fun w' => w'.cell? ⟨b, 7, none⟩ = some (.slice A7 n7 c7) ∧ w'.cell? ⟨b, 6, none⟩ = some (.int .i64 pl)) (ds := [12, 15]) #[false, false, false, false, false, false, false, false, false, false, false, false, false, false, false, false] (by kernel_rfl) rfl rfl ⟨d7, d6⟩ (fun hHeld => ?_)
          refine pure_ (i := 0) (N := some 87) (v := ?_) (a' := ?_) #[true, false, false, false, false, false, false, false, false, false, false, false, false, false, false, false] rfl rfl (by kernel_rfl) (fun _ _ _ h => h) (Or.inl ⟨by rfl, ?_⟩) ?_ ?_
          rotate_left
          · intro w'
            go_simp
            with_reducible rfl
          rotate_left
          · simp only [Act.put, List.setIfInBounds_toArray, List.set_cons_zero, List.set_cons_succ]
            rfl
          refine pure_ (i := 1) (N := some 88) (v := ?_) (a' := ?_) #[true, true, false, false, false, false, false, false, false, false, false, false, false, false, false, false] rfl rfl (by kernel_rfl) (fun _ _ _ h => h) (Or.inl ⟨by rfl, ?_⟩) ?_ ?_
          rotate_left
          · intro w'
            go_simp
            with_reducible rfl
          rotate_left
          · simp only [Act.put, List.setIfInBounds_toArray, List.set_cons_zero, List.set_cons_succ]
            rfl
          refine pure_ (i := 2) (N := some 89) (v := ?_) (a' := ?_) #[true, true, true, false, false, false, false, false, false, false, false, false, false, false, false, false] rfl rfl (by kernel_rfl) (fun _ _ _ h => h) (Or.inl ⟨by rfl, ?_⟩) ?_ ?_
          rotate_left
          · intro w'
            go_simp
            with_reducible rfl
          rotate_left
          · simp only [Act.put, List.setIfInBounds_toArray, List.set_cons_zero, List.set_cons_succ]
            rfl
          refine pure_ (i := 3) (N := some 90) (v := ?_) (a' := ?_) #[true, true, true, true, false, false, false, false, false, false, false, false, false, false, false, false] rfl rfl (by kernel_rfl) (fun _ _ _ h => h) (Or.inl ⟨by rfl, ?_⟩) ?_ ?_
          rotate_left
          · intro w'
            go_simp
            with_reducible rfl
          rotate_left
          · simp only [Act.put, List.setIfInBounds_toArray, List.set_cons_zero, List.set_cons_succ]
            rfl
          refine pure_ (i := 5) (N := some 92) (v := ?_) (a' := ?_) #[true, true, true, true, false, true, false, false, false, false, false, false, false, false, false, false] rfl rfl (by kernel_rfl) (fun _ _ _ h => h) (Or.inl ⟨by rfl, ?_⟩) ?_ ?_
          rotate_left
          · intro w'
            go_simp
            with_reducible rfl
          rotate_left
          · simp only [Act.put, List.setIfInBounds_toArray, List.set_cons_zero, List.set_cons_succ]
            rfl
          refine pure_ (i := 6) (N := some 93) (v := ?_) (a' := ?_) #[true, true, true, true, false, true, true, false, false, false, false, false, false, false, false, false] rfl rfl (by kernel_rfl) (fun _ _ _ h => h) (Or.inl ⟨by rfl, ?_⟩) ?_ ?_
          rotate_left
          · intro w'
            go_simp
            with_reducible rfl
          rotate_left
          · simp only [Act.put, List.setIfInBounds_toArray, List.set_cons_zero, List.set_cons_succ]
            rfl
          refine pure_ (i := 7) (N := some 94) (v := ?_) (a' := ?_) #[true, true, true, true, false, true, true, true, false, false, false, false, false, false, false, false] rfl rfl (by kernel_rfl) (fun _ _ _ h => h) (Or.inl ⟨by rfl, ?_⟩) ?_ ?_
          rotate_left
          · intro w'
            go_simp
            with_reducible rfl
          rotate_left
          · simp only [Act.put, List.setIfInBounds_toArray, List.set_cons_zero, List.set_cons_succ]
            rfl
          refine pure_ (i := 8) (N := some 95) (v := ?_) (a' := ?_) #[true, true, true, true, false, true, true, true, true, false, false, false, false, false, false, false] rfl rfl (by kernel_rfl) (fun _ _ _ h => h) (Or.inl ⟨by rfl, ?_⟩) ?_ ?_
          rotate_left
          · intro w'
            go_simp
            with_reducible rfl
          rotate_left
          · simp only [Act.put, List.setIfInBounds_toArray, List.set_cons_zero, List.set_cons_succ]
            rfl
          refine take_ (i := 4) (N := some 91) (v := ?_) (a' := ?_) #[true, true, true, true, true, true, true, true, true, false, false, false, false, false, false, false] rfl rfl (by kernel_rfl) (fun _ _ _ h => h) (Or.inl ⟨by rfl, ?_⟩) hHeld ?_ ?_
          rotate_left
          · rintro w' ⟨s0, s1⟩
            go_simp
            with_reducible rfl
          rotate_left
          · simp only [Act.put, List.setIfInBounds_toArray, List.set_cons_zero, List.set_cons_succ]
            rfl
          refine take_ (i := 9) (N := some 96) (v := ?_) (a' := ?_) #[true, true, true, true, true, true, true, true, true, true, false, false, false, false, false, false] rfl rfl (by kernel_rfl) (fun _ _ _ h => h) (Or.inl ⟨by rfl, ?_⟩) hHeld ?_ ?_
          rotate_left
          · rintro w' ⟨s0, s1⟩
            go_simp
            with_reducible rfl
          rotate_left
          · simp only [Act.put, List.setIfInBounds_toArray, List.set_cons_zero, List.set_cons_succ]
            rfl
          refine pure_ (i := 10) (N := some 97) (v := ?_) (a' := ?_) #[true, true, true, true, true, true, true, true, true, true, true, false, false, false, false, false] rfl rfl (by kernel_rfl) (fun _ _ _ h => h) (Or.inl ⟨by rfl, ?_⟩) ?_ ?_
          rotate_left
          · intro w'
            go_simp
            with_reducible rfl
          rotate_left
          · simp only [Act.put, List.setIfInBounds_toArray, List.set_cons_zero, List.set_cons_succ]
            rfl
          refine one_ (i := 11) (N := some 98) #[true, true, true, true, true, true, true, true, true, true, true, true, false, false, false, false] rfl rfl (by kernel_rfl) (by decide) (fun K hK => ?_)
          refine value_ (w1 := ?_) (v := ?_) (by rfl) rfl ?_ ?_
          rotate_left 2
          · go_simp
            constructor
            · rfl
            · rfl
          refine hK.out _ _ ⟨D1.out.1, D1.out.2⟩ (fun hHeld => ?_)
          clear hK K
          refine norm_ (a' := ?_) ?_ ?_
          rotate_left
          · show Act.put _ (some 98) _ = _
            simp only [Act.put, List.setIfInBounds_toArray, List.set_cons_zero, List.set_cons_succ]
            rfl
          refine last_ (i := 12) (N := some 99) #[true, true, true, true, true, true, true, true, true, true, true, true, true, false, false, false] rfl rfl (by kernel_rfl) (by decide) (fun K hK => ?_)
          refine Kd.R_append_step KStep (w0 := w0) w0.heap.size (by rfl) (.tmp 91) (.tmp 98) 29 55 (.agg #[.int .i64 0, .int .i64 0, .int .i64 0]) 24 rfl Tryd.underlying29 infoStep rfl (by decide) (by omega) (.slice A7 n7 c7) T ((j : Int), pl, 0) [.int .i64 (j : Int), .int .i64 pl, .int .i64 0] (fun k => k ≠ b) (fun _ => False) rfl rfl (KStep_M _ _ _ _ _ _) (fun _ hk => hk.elim) (fun k hk => by have := H3.out.lt; rw [World.size_drew] at hk; omega) HO3.out HB3.out HS3.out HLb.out ?_
          intro v4 w4 ho hb hg hat
          obtain ⟨A8, c8, e8⟩ := Kd.R_slice ho
          obtain ⟨n8, hn8⟩ : ∃ n, (T ++ [((j : Int), pl, (0 : Int))]).length = n := ⟨_, rfl⟩
          rw [hn8] at e8
          subst e8
          have H4 := Lib.hid ((H3.out.below (below_drew (Below.refl _ _))).growT ho hb hg)
          have H5 := Lib.hid ((H3.out.below (below_drew (Below.refl _ _))).grown7 hb hg)
          have g7 := H5.out.1.1
          have f7 := H5.out.2
          clear ho hb hg hat hn8
          refine hK.out _ _ ?_
          clear hK K
          refine norm_ (a' := ?_) ?_ ?_
          rotate_left
          · show Act.put _ (some 99) _ = _
            simp only [Act.put, List.setIfInBounds_toArray, List.set_cons_zero, List.set_cons_succ]
            rfl
          refine pure_ (i := 13) (N := some 100) (v := ?_) (a' := ?_) #[true, true, true, true, true, true, true, true, true, true, true, true, true, true, false, false] rfl rfl (by kernel_rfl) (fun _ _ _ h => h) (Or.inl ⟨by rfl, ?_⟩) ?_ ?_
          rotate_left
          · intro w'
            go_simp
            with_reducible rfl
          rotate_left
          · simp only [Act.put, List.setIfInBounds_toArray, List.set_cons_zero, List.set_cons_succ]
            rfl
          refine pure_ (i := 14) (N := some 101) (v := ?_) (a' := ?_) #[true, true, true, true, true, true, true, true, true, true, true, true, true, true, true, false] rfl rfl (by kernel_rfl) (fun _ _ _ h => h) (Or.inl ⟨by rfl, ?_⟩) ?_ ?_
          rotate_left
          · intro w'
            go_simp
            with_reducible rfl
          rotate_left
          · simp only [Act.put, List.setIfInBounds_toArray, List.set_cons_zero, List.set_cons_succ]
            rfl
          refine last_ (i := 15) (N := none) #[true, true, true, true, true, true, true, true, true, true, true, true, true, true, true, true] rfl rfl (by kernel_rfl) (by decide) (fun K hK => ?_)
          refine skip_ (w1 := ?_) (by rfl) rfl ?_ ?_
          rotate_left
          · go_simp
            rfl
          refine hK.out _ _ ?_
          clear hK K
          refine done_ (by kernel_rfl) ?_
          obtain ⟨w5, hw5⟩ : ∃ w5, w4.setCell ⟨b, 7, none⟩ (.slice A8 n8 c8) = w5 := ⟨_, rfl⟩
          rw [hw5] at H4 ⊢
          have c3 : w5.cell? ⟨b, 3, none⟩ = some (.slice (some adr) g.rules.length cR) := H4.out.c3 rfl
          have k2 := HK2.out _ H4.out.bel
          have HL : Hid (NLoop w0 w5 b gt gn (.slice (some adr) g.rules.length cR) g.ax (.slice (some ad) rs.length cr) rs g.rules f deep i r rS 0 (i + 1, ⟨pl, T ++ [((j : Int), pl, 0)], K, max m0 deep⟩) (.slice A8 n8 c8) vk) := Lib.hid
            ⟨H4.out, by have := HTl.out; simp; omega, by show K.length + 32 ≤ 32 * (i + 1) + 0; omega, by show max m0 deep ≤ i + 1; omega, Nat.le_refl _, by show i + 1 ≤ rs.length; omega, HrS.out⟩
          clear hw5 g7 f7 H4 H5 d7 d6 D0 D1 HO3 HB3 HS3 HLb Hn7 H2 H3 HrS hxI hxJ
          go_wp2
          go_loopw [112] (fun k wr => ∃ (kk : Nat) (s2 : Nat × DS) (vt2 vk2 : Value), kk ≤ r.length ∧ k = .int .i64 (kk : Int) ∧ Hid (NLoop w0 wr b gt gn (.slice (some adr) g.rules.length cR) g.ax (.slice (some ad) rs.length cr) rs g.rules f deep i r rS kk s2 vt2 vk2)) (fun k _ => r.length - (intOf k).toNat)
          case atStart => exact ⟨0, _, _, _, by omega, rfl, HL⟩
          case round =>
            obtain ⟨kk, ⟨i2, p2, T2, K2, m2⟩, vt2, vk2, hkk, rfl, HN2⟩ := hrel
            obtain ⟨w6, rfl⟩ : ∃ w6, wr = w6 := ⟨_, rfl⟩
            clear c3 k2 HL
            by_cases hlk : kk < r.length
            · obtain ⟨adx, y, rfl, hy, HY⟩ := at_scalar (Kd.C_below HRr.out HN2.out.at_.bel) kk hlk 0
              have hdrop : r.drop kk = y :: r.drop (kk + 1) := by
                rw [List.drop_eq_getElem_cons hlk]
                have := HY.out
                rw [List.getD_eq_getElem?_getD, List.getElem?_eq_getElem hlk] at this
                rw [← this]
                rfl
              have hyb := HSy.out y (by rw [← HY.out]; exact getD_mem _ _ _ hlk)
              have HDr := Lib.hid hdrop
              clear hdrop
              by_cases hneg : y < 0
              · obtain ⟨rN, hrN⟩ : ∃ rN, nodeG (opsD inc64) g.rules rs f false (-1 - y) (some (i, kk)) (deep + 1) (i2, ⟨p2, T2, K2, m2⟩) = rN := ⟨_, rfl⟩
                have HC : Hid (Calls Tryd.prog 54 #[.pointer (some ⟨b, 0, none⟩), .int .i64 (-1 - y), .int .i64 ((deep : Int) + 1), .bool false] wr
                    (NodeP w0 b gt gn (.slice (some adr) g.rules.length cR) g.ax (.slice (some ad) rs.length cr) A rN)) := Lib.hid (by
                  have h1 := HN2.out.tk
                  have h2 := HN2.out.dep
                  have h3 := HN2.out.lo
                  have h4 := HN2.out.hi
                  simp only at h1 h2 h3 h4
                  have := IH.out false (-1 - y) (some (i, kk)) (deep + 1) i2 ⟨p2, T2, K2, m2⟩ vt2 vk2 wr (by omega) (by omega) h2 HN2.out.tl (by show K2.length ≤ 32 * i2; omega) h4 HN2.out.at_
                  rw [hrN] at this
                  rwa [show ((deep + 1 : Nat) : Int) = (deep : Int) + 1 by omega] at this)
                cases rN with
                | none =>
                  have HF : Hid (res = none) := Lib.hid (by rw [HR.out, HN2.out.dead HDr.out hneg hrN]; rfl)
                  clear hrN
                  go_wp2_with (go_at_call 54; (with_reducible refine HC.out.mono ?_); rintro e w7 ⟨rfl, hb7⟩; have HB7 := Lib.hid hb7; clear hb7)
                  exact ⟨rfl, nodeP_none HF.out HB7.out⟩
                | some s3 =>
                  have HrN := Lib.hid hrN
                  clear hrN
                  go_wp2_with (go_at_call 54; (with_reducible refine HC.out.mono ?_); rintro e w7 ⟨rfl, vt3, vk3, h7⟩; have H7 := Lib.hid h7; clear h7)
                  go_roundw
                  case rel => exact ⟨kk + 1, s3, vt3, vk3, by omega, by go_num, Lib.hid (HN2.out.call HDr.out hneg HrN.out hdp HI.out.short HI.out.ne H7.out)⟩
                  case measure => simp [intOf]; omega
              · obtain ⟨A9, c9, e9⟩ := Kd.R_slice HN2.out.at_.tk
                obtain ⟨n9, hn9⟩ : ∃ n, K2.length = n := ⟨_, rfl⟩
                simp only [hn9] at e9
                subst e9
                have HA2 := Lib.hid HN2.out.at_
                have hlb : (K2.length + 1) * 8 ≤ 140737488355328 := by
                  have h1 := HN2.out.tk
                  have h4 := HN2.out.hi
                  simp only at h1 h4
                  omega
                have HLb := Lib.hid hlb
                have c8 : wr.cell? ⟨b, 8, none⟩ = some (.slice A9 n9 c9) := HA2.out.c8 rfl
                clear hlb hn9
                go_upto_region 15 with ((with_reducible refine gate_builtin (b := .append) (xs := #[.tmp 128, .tmp 130]) rfl ?_); at_builtin; go_loud (refine Kd.R_append (Kd.int .i64) (w0 := w0) w0.heap.size rfl (.tmp 128) (.tmp 130) 26 3 (.int .i64 0) 8 rfl Tryd.underlying26 infoInt rfl (by decide) (by omega) (.slice A9 n9 c9) K2 y [.int .i64 y] (fun k => k ≠ b) (fun _ => False) rfl rfl rfl (fun _ hk => hk.elim) (fun k hk => by have := HA2.out.lt; omega) HA2.out.tk HA2.out.bel HA2.out.bel.size HLb.out ?_); intro v10 w10 ho hb hg hat; (obtain ⟨A10, c10, e10⟩ := Kd.R_slice ho; obtain ⟨n10, hn10⟩ : ∃ n, (K2 ++ [y]).length = n := ⟨_, rfl⟩; rw [hn10] at e10; subst e10; have H10 := Lib.hid (HA2.out.growK ho hb hg); have H11 := Lib.hid (HA2.out.grown8 hb hg); have g8 := H11.out.1; have f8 := H11.out.2; clear ho hb hg hat hn10))
                obtain ⟨w11, hw11⟩ : ∃ w11, w10.setCell ⟨b, 8, none⟩ (.slice A10 n10 c10) = w11 := ⟨_, rfl⟩
                rw [hw11] at H10 ⊢
                have c6 : w11.cell? ⟨b, 6, none⟩ = some (.int .i64 p2) := H10.out.c6
                have f6 := H10.out.fr 6
                clear hw11 g8 f8 H11 c8
                go_wp2
                go_roundw
                case rel => exact ⟨kk + 1, (i2, ⟨inc64 p2, T2, K2 ++ [y], m2⟩), vt2, .slice A10 n10 c10, by omega, by go_num, Lib.hid (HN2.out.tok HDr.out hneg (H10.out.setP (inc64 p2)))⟩
                case measure => simp [intOf]; omega
            · have HF : Hid (res = some (i2, (opsD inc64).lv ⟨p2, T2, K2, m2⟩ i)) := Lib.hid (by rw [HR.out, HN2.out.fin (by omega)]; rfl)
              have htl2 : T2.length = i2 := HN2.out.tl
              have hlo : i + 1 ≤ i2 := HN2.out.lo
              obtain ⟨gT, cT, rfl, hcT, hgb, hel⟩ := HN2.out.at_.form htl2 (by omega)
              obtain ⟨⟨uo, ko⟩, fo⟩ := hel i (by omega)
              have HA2 := Lib.hid HN2.out.at_
              have d7 : wr.cell? ⟨b, 7, none⟩ = some (.slice (some ⟨gT, 0, none⟩) i2 cT) := HA2.out.c7 rfl
              have d6 : wr.cell? ⟨b, 6, none⟩ = some (.int .i64 p2) := HA2.out.c6
              have hz0 : (0 : Int) ≤ (i : Int) := by omega
              have hz1 : (i : Int) < (i2 : Int) := by omega
              clear hel
              go_upto_region 17 with (fail)
              have D0 : Hid (wr.drew.cell? ⟨b, 7, none⟩ = some (.slice (some ⟨gT, 0, none⟩) i2 cT) ∧ wr.drew.cell? ⟨b, 6, none⟩ = some (.int .i64 p2)) := Lib.hid ⟨by rw [World.cell?_drew]; exact d7, by rw [World.cell?_drew]; exact d6⟩
              have D1 : Hid (∀ u, (wr.drew.setCell ⟨gT, i * 3 + 2, none⟩ u).cell? ⟨b, 7, none⟩ = some (.slice (some ⟨gT, 0, none⟩) i2 cT) ∧ (wr.drew.setCell ⟨gT, i * 3 + 2, none⟩ u).cell? ⟨b, 6, none⟩ = some (.int .i64 p2)) := Lib.hid (fun u => ⟨by rw [World.cell?_setCell_other _ _ _ _ (by intro e; injection e with e _; exact hgb e)]; exact D0.out.1, by rw [World.cell?_setCell_other _ _ _ _ (by intro e; injection e with e _; exact hgb e)]; exact D0.out.2⟩)
              go_region_held3 (fun w' => w'.cell? ⟨b, 7, none⟩ = some (.slice (some ⟨gT, 0, none⟩) i2 cT) ∧ w'.cell? ⟨b, 6, none⟩ = some (.int .i64 p2))
                (first
                  | exact D1.out _
                  | exact D0.out)
                (fail)
              go_end0
              exact nodeP_some HF.out ((HA2.out.leave i (by show i < T2.length; omega)).below (below_drew (Below.refl _ _)))
theorem node_calls (w0 : World) (b : Nat) (g : Gr) (gt gn : Value) (AR Ar : Option Addr) (cR cr : Nat) (rs : List Int) (A : Nat → Addr) (hI : WkIn w0 g AR rs Ar A) : ∀ (f : Nat) (any : Bool) (nt : Int) (up : Option (Nat × Nat)) (deep i : Nat) (d : DS) (vt vk : Value) (w : World), rs.length ≤ i + f → deep ≤ i + 1 → d.depth ≤ i → d.tree.length = i → d.tokens.length ≤ 32 * i → i ≤ rs.length →
    WkAt w0 w b gt gn (.slice AR g.rules.length cR) g.ax (.slice Ar rs.length cr) i d vt vk →
    Calls Tryd.prog 54 #[.pointer (some ⟨b, 0, none⟩), .int .i64 nt, .int .i64 (deep : Int), .bool any] w
      (NodeP w0 b gt gn (.slice AR g.rules.length cR) g.ax (.slice Ar rs.length cr) A (nodeG (opsD inc64) g.rules rs f any nt up deep (i, d)))
  | 0, any, nt, up, deep, i, d, vt, vk, w, hf, hdp, hdd, htl, htk, hi, h => node_end w0 b g gt gn AR Ar cR cr rs A hI 0 any nt up deep i d vt vk w (by omega) (by have := hI.len; omega) h
  | f + 1, any, nt, up, deep, i, ⟨pl, T, K, m0⟩, vt, vk, w, hf, hdp, hdd, htl, htk, hi, h => by
    by_cases hlt : i < rs.length
    · exact node_step w0 b g gt gn AR Ar cR cr rs A hI f (node_calls w0 b g gt gn AR Ar cR cr rs A hI f) any nt up deep i pl T K m0 vt vk w hf hdp hdd htl htk hlt h
    · exact node_end w0 b g gt gn AR Ar cR cr rs A hI (f + 1) any nt up deep i _ vt vk w (by omega) (by have := hI.len; omega) h
end Go.Proofs.YtcjcffcbfkimdaaDoor.Hand
/- Contract: deriv.walk: all rules as one tree, or what is wrong. -/
namespace Go.Proofs.YtcjcffcbfkimdaaDoor.Hand
open Go.RowKit Go.Proofs.YtcjcffcbfkimdaaDoorW.PrintWords Go.Proofs.YtcjcffcbfkimdaaDoorW.PrintMore Go.Proofs.YtcjcffcbfkimdaaDoor.Math

theorem rep19 {α : Type} (x : α) : Array.replicate 19 x = #[x, x, x, x, x, x, x, x, x, x, x, x, x, x, x, x, x, x, x] := rfl
theorem ta_fault (v : Value) (w : World) : (Instr.typeAssert (.iface 92 v) 20 92 true).run Tryd.prog w = .ok (.tuple #[v, .bool true]) w := by kernel_rfl
theorem ta_nil (w : World) : (Instr.typeAssert .nilIface 20 92 true).run Tryd.prog w = .ok (.tuple #[.agg #[.nilIface], .bool false]) w := by kernel_rfl
set_option maxRecDepth 20000 in
theorem catch_panicking (p : Addr) (x : Value) (te : TypeId) (ue : Value) (older : List PanicEntry) (w : World) (hc : w.cell? p = some x) (hz : w.frozen? p = false) :
    CallsD Tryd.prog 53 #[.pointer (some p)] (.panicking ({ v := .iface 92 (.agg #[.iface te ue]), recovered := false } :: older)) w fun e u' w' =>
      e = .returned (.tuple #[]) ∧ u' = .panicking ({ v := .iface 92 (.agg #[.iface te ue]), recovered := true } :: older) ∧ ∃ w1, Below w.heap.size w w1 ∧ w' = w1.setCell p (.iface te ue) := by
  refine callsD_of_wpS Tryd.func53 rfl fun c₀ cs hu => ?_
  apply wpS_seq
  apply wpS_region
  simp [wpOpsS, go_sem, recoverD, hu, Tryd.ntmps53, Exit.thenS]
  refine wpS_of_wp ?_
  rw [rep19]
  simp only [List.setIfInBounds_toArray, List.set_cons_succ, List.set_cons_zero, List.append_toArray, List.cons_append, List.nil_append]
  have h1 := ta_fault
  have hpl := World.block_lt_of_cell? w _ hc
  have hc' : ∀ o, (w.alloc o).cell? p = some x := fun o => by rw [World.cell?_alloc_lt _ _ _ hpl]; exact hc
  have hz' : ∀ o, (w.alloc o).frozen? p = false := fun o => by rw [World.frozen?_alloc_old _ _ p (Nat.ne_of_lt hpl)]; exact hz
  go_wp2
  simp [bodyPostS, results, Tryd.results53, go_sem]
  exact ⟨_, below_alloc (Below.refl _ _) _, rfl⟩
set_option maxRecDepth 20000 in
theorem catch_idle (p : Addr) (w : World) :
    CallsD Tryd.prog 53 #[.pointer (some p)] .returning w fun e u' w' => e = .returned (.tuple #[]) ∧ u' = .returning ∧ Below w.heap.size w w' := by
  refine callsD_of_wpS Tryd.func53 rfl fun c₀ cs hu => ?_
  apply wpS_seq
  apply wpS_region
  simp [wpOpsS, go_sem, recoverD, hu, Tryd.ntmps53, Exit.thenS]
  refine wpS_of_wp ?_
  rw [rep19]
  simp only [List.setIfInBounds_toArray, List.set_cons_succ, List.set_cons_zero, List.append_toArray, List.cons_append, List.nil_append]
  have h1 := ta_nil
  go_wp2
  simp [bodyPostS, results, Tryd.results53, go_sem]
  exact ⟨.returning, by cases c₀; simp_all, rfl, below_alloc (Below.refl _ _) _⟩
/-- What walk leaves: the walker, or the error. -/
def WalkP (w0 : World) (gt gn gr : Value) (ax : Int) (rv : Value) (A : Nat → Addr) (res : Option DS) (e : Ending) (w' : World) : Prop :=
  match res with
  | some d => ∃ b i vt vk, e = .returned (.tuple #[.pointer (some ⟨b, 0, none⟩), .nilIface]) ∧ WkAt w0 w' b gt gn gr ax rv i d vt vk
  | none => ∃ v, e = .returned (.tuple #[v, .iface 175 (.pointer (some (A 10)))]) ∧ Below w0.heap.size w0 w'
theorem walkG_fin (G : List (Int × List Int)) (rs : List Int) (any : Bool) (nt : Int) (s : DS) : walkG (opsD inc64) G rs any nt s = (nodeG (opsD inc64) G rs rs.length any nt none 1 (0, s)).bind (fun st => if st.1 < rs.length then none else some st.2) := by
  unfold walkG
  cases nodeG (opsD inc64) G rs rs.length any nt none 1 (0, s) <;> rfl
theorem walkP_some {w0 : World} {gt gn gr : Value} {ax : Int} {rv : Value} {A : Nat → Addr} {res : Option DS} {w' : World} {b i : Nat} {d : DS} {vt vk : Value} (h : res = some d) (hw : WkAt w0 w' b gt gn gr ax rv i d vt vk) :
    WalkP w0 gt gn gr ax rv A res (.returned (.tuple #[.pointer (some ⟨b, 0, none⟩), .nilIface])) w' := by
  subst h; exact ⟨b, i, vt, vk, rfl, hw⟩
/-- The walker's memory, told over what was there before; a cell made meanwhile may be written. -/
theorem WkAt.outer {w w1 w3 : World} {b i : Nat} {gt gn gr rv vt vk : Value} {ax : Int} {d : DS} (h : WkAt w1 w3 b gt gn gr ax rv i d vt vk) (hb : Below w.heap.size w w1) (p : Addr) (hp1 : w.heap.size ≤ p.block) (hp2 : p.block < w1.heap.size) (u : Value) : WkAt w (w3.setCell p u) b gt gn gr ax rv i d vt vk := by
  have hbp : b ≠ p.block := by have := h.hb; omega
  refine ⟨by rw [Below.heap_setCell w3 p u b hbp]; exact h.blk, ?_, ?_, (below_next hb h.bel).setCell hp1 _, Nat.le_trans hb.size h.hb⟩
  · exact Kd.R_lower (Kd.R_mono (Kd.R_far (Kd.R_bound h.tr) (p := p) (fun k hk => by have := hk.2.1; omega) u) (fun k hk => hk.1)) hb.size
  · exact Kd.R_lower (Kd.R_mono (Kd.R_far (Kd.R_bound h.tk) (p := p) (fun k hk => by have := hk.2.1; omega) u) (fun k hk => hk.1)) hb.size
theorem walkP_none {w0 : World} {gt gn gr : Value} {ax : Int} {rv v : Value} {A : Nat → Addr} {res : Option DS} {w' : World} (h : res = none) (hb : Below w0.heap.size w0 w') :
    WalkP w0 gt gn gr ax rv A res (.returned (.tuple #[v, .iface 175 (.pointer (some (A 10)))])) w' := by
  subst h; exact ⟨v, rfl, hb⟩
set_option maxHeartbeats 2000000 in
set_option maxRecDepth 20000 in
theorem walk_calls (g : Gr) (AT AN AR Ar : Option Addr) (cT cN cR cr : Nat) (rs : List Int) (A : Nat → Addr) (any : Bool) (nt fr : Int) (w : World) (hI : WkIn w g AR rs Ar A) (_hlr : rs.length ≤ cr) :
    Calls Tryd.prog 35 #[.agg #[.slice AT g.terms.length cT, .slice AN g.nonterms.length cN, .int .i64 g.ax, .slice AR g.rules.length cR], .slice Ar rs.length cr, .int .i64 nt, .int .i64 fr, .bool any] w
      (WalkP w (.slice AT g.terms.length cT) (.slice AN g.nonterms.length cN) (.slice AR g.rules.length cR) g.ax (.slice Ar rs.length cr) A (walkG (opsD inc64) g.rules rs any nt ⟨fr, [], [], 0⟩)) := by
  have hmf : ∀ (fn : Fn) (first cap : Array Value) (w : World), (Instr.makeFunc fn first cap).run Tryd.prog w = .ok (.func fn first cap) w := fun _ _ _ _ => rfl
  have HI := Lib.hid hI
  obtain ⟨res, hres⟩ : ∃ r, walkG (opsD inc64) g.rules rs any nt ⟨fr, [], [], 0⟩ = r := ⟨_, rfl⟩
  rw [hres]
  rw [walkG_fin] at hres
  have HRes := Lib.hid hres
  clear hI hres
  go_enter_defers Tryd.func35, Tryd.ntmps35
  go_upto_region 3 with (fail)
  obtain ⟨w1, hw1⟩ : ∃ w1, (w.alloc (.cells #[.slice AT g.terms.length cT, .slice AN g.nonterms.length cN, .int .i64 g.ax, .slice AR g.rules.length cR] 25)).alloc (.cells #[.nilIface] 31) = w1 := ⟨_, rfl⟩
  have hs1 : w1.heap.size = w.heap.size + 1 + 1 := by rw [← hw1]; simp
  have hb1 : Below w.heap.size w w1 := by rw [← hw1]; exact below_alloc (below_alloc (Below.refl _ _) _) _
  have ce : w1.cell? ⟨w.heap.size + 1, 0, none⟩ = some .nilIface := by rw [← hw1]; simp [go_sem]
  have fe : w1.frozen? ⟨w.heap.size + 1, 0, none⟩ = false := by rw [← hw1]; simp [go_sem]
  rw [hw1]
  obtain ⟨w2, hw2⟩ : ∃ w2, w1.alloc (.cells #[.slice AT g.terms.length cT, .slice AN g.nonterms.length cN, .int .i64 g.ax, .slice AR g.rules.length cR, .slice Ar rs.length cr, .int .i64 0, .int .i64 fr, .slice none 0 0, .slice none 0 0, .int .i64 0] 73) = w2 := ⟨_, rfl⟩
  have h2 : WkAt w1 w2 (w.heap.size + 1 + 1) (.slice AT g.terms.length cT) (.slice AN g.nonterms.length cN) (.slice AR g.rules.length cR) g.ax (.slice Ar rs.length cr) 0 ⟨fr, [], [], 0⟩ (.slice none 0 0) (.slice none 0 0) :=
    ⟨by rw [← hw2, ← hs1]; exact heap_alloc_new w1 _, Kd.R_nil _ _ _ _ _, Kd.R_nil _ _ _ _ _, by rw [← hw2]; exact below_alloc (Below.refl _ _) _, by rw [hs1]; exact Nat.le_refl _⟩
  rw [hw2]
  have HE : Hid (∀ W, Below w1.heap.size w1 W → W.cell? ⟨w.heap.size + 1, 0, none⟩ = some .nilIface ∧ W.frozen? ⟨w.heap.size + 1, 0, none⟩ = false) := Lib.hid (fun W hW =>
    ⟨(hW.cell (World.block_lt_of_cell? _ _ ce)).trans ce, (World.frozen?_of_block (a := ⟨w.heap.size + 1, 0, none⟩) (hW.block _ (by show w.heap.size + 1 < w1.heap.size; omega))).trans fe⟩)
  have hI1 : WkIn w1 g AR rs Ar A := ⟨HI.out.err.below hb1, Kd.C_below HI.out.rules hb1, Kd.C_below HI.out.row hb1, HI.out.len, HI.out.short, HI.out.syms, HI.out.ne, HI.out.few⟩
  obtain ⟨rN, hrN⟩ : ∃ r, nodeG (opsD inc64) g.rules rs rs.length any nt none 1 (0, ⟨fr, [], [], 0⟩) = r := ⟨_, rfl⟩
  have hc := node_calls w1 (w.heap.size + 1 + 1) g (.slice AT g.terms.length cT) (.slice AN g.nonterms.length cN) AR Ar cR cr rs A hI1 rs.length any nt none 1 0 ⟨fr, [], [], 0⟩ _ _ w2 (by omega) (by omega) (Nat.le_refl _) rfl (Nat.le_refl _) (Nat.zero_le _) h2
  rw [hrN] at hc
  rw [hrN] at HRes
  have HC := Lib.hid hc
  have HB1 := Lib.hid hb1
  have HrN := Lib.hid hrN
  have HE10 : Hid (∀ W, Below w1.heap.size w1 W → W.cell? ⟨2, 0, none⟩ = some (.iface 175 (.pointer (some (A 10))))) := Lib.hid (fun W hb => (hI1.err.below hb).cells 10 (by omega))
  have hlen := HI.out.len
  clear hw1 hw2 hs1 ce fe h2 hI1 hc hb1 hrN
  cases rN with
  | none =>
    go_wp2_with (go_at_call 54; refine HC.out.mono ?_; rintro e w3 ⟨rfl, hb3⟩; have HB3 := Lib.hid hb3; clear hb3)
    change Leaves _ _ _ _ _ _ _
    refine leaves_cons (f := 53) (args := #[.pointer (some ⟨w.heap.size + 1, 0, none⟩)]) (by simp) (by simp [go_sem]) ?_
    refine (catch_panicking ⟨w.heap.size + 1, 0, none⟩ .nilIface _ _ [] _ (HE.out _ HB3.out).1 (HE.out _ HB3.out).2).mono ?_
    rintro e u' w'' ⟨rfl, rfl, w5, hb5, rfl⟩
    have hc5 := (HE.out w5 (below_next HB3.out hb5)).1
    have hcs := World.cell?_setCell_same (w := w5) (a := ⟨w.heap.size + 1, 0, none⟩) (v := .iface 175 (.pointer (some (A 10)))) hc5
    simp [Leaves, settle, results, Tryd.results35, go_sem, hcs]
    exact walkP_none (by rw [HRes.out.symm]; rfl) ((below_next (below_next HB1.out HB3.out) hb5).setCell (Nat.le_succ _) _)
  | some st =>
    obtain ⟨i2, d2⟩ := st
    have hi2 : i2 ≤ rs.length := (kin_len HrN.out).2
    by_cases hlt : i2 < rs.length
    · have HF : Hid (res = none) := Lib.hid (by rw [HRes.out.symm]; simp [hlt])
      have hl1 : decide ((i2 : Int) < (rs.length : Int)) = true := decide_eq_true (by omega)
      have hl2 : decide (i2 < rs.length) = true := decide_eq_true hlt
      go_upto_region 5 with (go_at_call 54; refine HC.out.mono ?_; rintro e w3 ⟨rfl, vt, vk, h3⟩; have H3 := Lib.hid h3; have c5 : w3.cell? ⟨w.heap.size + 1 + 1, 5, none⟩ = some (.int .i64 (i2 : Int)) := h3.c5; clear h3)
      have D0 : Hid (∀ n, (w3.drewN n).cell? ⟨2, 0, none⟩ = some (.iface 175 (.pointer (some (A 10))))) := Lib.hid (fun n => HE10.out _ (pw_below_drewN H3.out.bel n))
      have d0 := HE10.out _ H3.out.bel
      have hg2 : 2 < w.heap.size := World.block_lt_of_cell? w _ (HI.out.err.cells 10 (by omega))
      have D1 : Hid ((w3.setCell ⟨w.heap.size + 1, 0, none⟩ (.iface 175 (.pointer (some (A 10))))).drew.cell? ⟨2, 0, none⟩ = some (.iface 175 (.pointer (some (A 10))))) := Lib.hid (by
        rw [World.cell?_drew, World.cell?_setCell_other _ _ _ _ (by intro e; injection e with e _; omega)]; exact d0)
      have ce3 := (HE.out _ H3.out.bel).1
      have fe3 := (HE.out _ H3.out.bel).2
      go_region_held3 (fun w' => w'.cell? ⟨2, 0, none⟩ = some (.iface 175 (.pointer (some (A 10)))))
        (first
          | exact D1.out
          | exact D0.out 1
          | exact d0)
        (fail)
      have hcs := World.cell?_setCell_same (w := w3) (a := ⟨w.heap.size + 1, 0, none⟩) (v := .iface 175 (.pointer (some (A 10)))) ce3
      go_wp2
      change Leaves _ _ _ _ _ _ _
      refine leaves_cons (f := 53) (args := #[.pointer (some ⟨w.heap.size + 1, 0, none⟩)]) (by simp) (by simp [go_sem]) ?_
      refine (catch_idle ⟨w.heap.size + 1, 0, none⟩ _).mono ?_
      rintro e u' w'' ⟨rfl, rfl, hb⟩
      have hb2 := (below_drew (Below.refl (w3.setCell ⟨w.heap.size + 1, 0, none⟩ (.iface 175 (.pointer (some (A 10))))).heap.size (w3.setCell ⟨w.heap.size + 1, 0, none⟩ (.iface 175 (.pointer (some (A 10))))))).trans hb
      have hcs2 := (hb2.cell (World.block_lt_of_cell? _ _ hcs)).trans hcs
      simp [Leaves, settle, results, Tryd.results35, go_sem, hcs2]
      exact walkP_none HF.out (below_next ((below_next HB1.out H3.out.bel).setCell (Nat.le_succ _) _) hb2)
    · have HF : Hid (res = some d2) := Lib.hid (by rw [HRes.out.symm]; simp [hlt])
      have hl1 : decide ((i2 : Int) < (rs.length : Int)) = false := decide_eq_false (by omega)
      have hl2 : decide (i2 < rs.length) = false := decide_eq_false hlt
      go_wp2_with (go_at_call 54; refine HC.out.mono ?_; rintro e w3 ⟨rfl, vt, vk, h3⟩; have H3 := Lib.hid h3; have c5 : w3.cell? ⟨w.heap.size + 1 + 1, 5, none⟩ = some (.int .i64 (i2 : Int)) := h3.c5; have ce3 := (HE.out _ h3.bel).1; have fe3 := (HE.out _ h3.bel).2; clear h3)
      have hcs := World.cell?_setCell_same (w := w3) (a := ⟨w.heap.size + 1, 0, none⟩) (v := .nilIface) ce3
      change Leaves _ _ _ _ _ _ _
      refine leaves_cons (f := 53) (args := #[.pointer (some ⟨w.heap.size + 1, 0, none⟩)]) (by simp) (by simp [go_sem]) ?_
      refine (catch_idle ⟨w.heap.size + 1, 0, none⟩ _).mono ?_
      rintro e u' w'' ⟨rfl, rfl, hb⟩
      have hcs2 := (hb.cell (World.block_lt_of_cell? _ _ hcs)).trans hcs
      simp [Leaves, settle, results, Tryd.results35, go_sem, hcs2]
      exact walkP_some HF.out ((H3.out.outer HB1.out _ (Nat.le_succ _) (by have := World.block_lt_of_cell? _ _ (HE.out _ (Below.refl _ _)).1; exact this) _).below hb)
end Go.Proofs.YtcjcffcbfkimdaaDoor.Hand
/- Contract: deriv.known: a tree that is handed in. -/
namespace Go.Proofs.YtcjcffcbfkimdaaDoor.Hand
open Go.RowKit Go.Proofs.YtcjcffcbfkimdaaDoorW.PrintWords Go.Proofs.YtcjcffcbfkimdaaDoorW.PrintMore Go.Proofs.YtcjcffcbfkimdaaDoor.Math

/-- The walk of all rules from a place on. -/
def grownD (g : Gr) (rs : List Int) (any : Bool) (nt fr : Int) : Option DS := walkG (opsD inc64) g.rules rs any nt ⟨fr, [], [], 0⟩
/-- A known tree's walk. -/
def treeD (g : Gr) (t : List (Int × Int × Int)) : Option DS := grownD g (t.map (·.1)) true 0 (t.getD 0 (0, 0, 0)).2.1
/-- What is wrong with a tree that is handed in: the error and the rule. -/
noncomputable def knownE (g : Gr) (t : List (Int × Int × Int)) : Nat × Int :=
  if (dmayN g t.length).1 ≠ 0 then dmayN g t.length
  else if t = [] ∨ (t.getD 0 (0, 0, 0)).2.1 < 0 ∨ (t.getD 0 (0, 0, 0)).2.2 < (t.getD 0 (0, 0, 0)).2.1 then (11, -1)
  else match treeD g t with
    | none => (11, -1)
    | some d => if d.tree = t then (0, -1) else (11, -1)
theorem knownE_ge (g : Gr) (t : List (Int × Int × Int)) : -1 ≤ (knownE g t).2 := by
  unfold knownE
  split
  · exact dmayN_ge _ _
  · split
    · exact Int.le_refl _
    · split
      · exact Int.le_refl _
      · split <;> exact Int.le_refl _
structure MayIs (g : Gr) (n : Nat) : Prop where
  right : RightIs g
  ne : ∀ r ∈ g.rules, r.2 ≠ []
  len : n ≤ 131072
  eq : dmayN g n = (0, -1)
theorem dmayN_zero {g : Gr} {n : Nat} (h : (dmayN g n).1 = 0) : MayIs g n := by
  unfold dmayN at h
  split at h
  · rename_i h0; exact absurd h h0
  · split at h
    · cases h
    · split at h
      · cases h
      · rename_i h0 h1 h2
        exact ⟨checkN_zero (by omega), firstEmpty_ne 0 (by omega), by omega, by unfold dmayN; rw [if_neg h0, if_neg h1, if_neg h2]⟩
theorem sym_bound {t n : Nat} {r : Int × List Int} (h : Hand.ruleN t n r = 0) (hn : t + n ≤ 60) : ∀ s ∈ r.2, -100 ≤ s ∧ s ≤ 100 := by
  intro s hs
  unfold Hand.ruleN at h
  split at h
  · cases h
  · split at h
    · cases h
    · rename_i h1 h2
      have h3 : ¬ r.2.any (symBad t n) = true := fun h => h2 (.inr (.inr h))
      rw [List.any_eq_true] at h3
      have h4 : ¬ symBad t n s = true := fun h => h3 ⟨s, hs, h⟩
      unfold symBad at h4
      simp at h4
      omega
theorem MayIs.walk {g : Gr} {n : Nat} (h : MayIs g n) {w : World} {AR Ar : Option Addr} {rs : List Int} {A : Nat → Addr} (hE : Errs w A) (hR : KRule.C w AR g.rules.length g.rules) (hr : (Kd.int .i64).C w Ar rs.length rs) (hl : rs.length ≤ 200000) : WkIn w g AR rs Ar A :=
  ⟨hE, hR, hr, hl, fun r hr => ruleN_len (h.right.ruleN r hr), fun r hr => sym_bound (h.right.ruleN r hr) h.right.size, h.ne, h.right.rules⟩
theorem MayIs.lefts {g : Gr} {n : Nat} (h : MayIs g n) : ∀ r ∈ g.rules, 0 ≤ r.1 ∧ r.1 ≤ 100 := by
  intro r hr
  have h1 := h.right.ruleN r hr
  have h2 := h.right.size
  unfold Hand.ruleN at h1
  split at h1
  · cases h1
  · split at h1
    · cases h1
    · rename_i h3 h4
      have h5 : ¬ r.1 < 0 := fun h => h4 (.inl h)
      have h6 : ¬ (g.nonterms.length : Int) ≤ r.1 := fun h => h4 (.inr (.inl h))
      omega
/-- A row of numbers that is being made. -/
structure IRow (wb : World) (u : Value) (p : List Int) (wr : World) : Prop where
  own : (Kd.int .i64).R 3 wr wb.heap.size (fun _ => True) u p
  bel : Below wb.heap.size wb wr
theorem IRow.below {wb w w' : World} {u : Value} {p : List Int} (h : IRow wb u p w) (hb : Below w.heap.size w w') : IRow wb u p w' := ⟨Kd.R_below h.own hb, below_next h.bel hb⟩
theorem WkAt.lower {w w1 w3 : World} {b i : Nat} {gt gn gr rv vt vk : Value} {ax : Int} {d : DS} (h : WkAt w1 w3 b gt gn gr ax rv i d vt vk) (hb : Below w.heap.size w w1) : WkAt w w3 b gt gn gr ax rv i d vt vk :=
  ⟨h.blk, Kd.R_lower h.tr hb.size, Kd.R_lower h.tk hb.size, below_next hb h.bel, Nat.le_trans hb.size h.hb⟩
/-- What known leaves. -/
def KnownP (w : World) (g : Gr) (t : List (Int × Int × Int)) (A : Nat → Addr) (e : Ending) (w' : World) : Prop :=
  (∃ b gt gn gr ax rv i d vt vk, knownE g t = (0, -1) ∧ treeD g t = some d ∧ d.tree = t ∧ e = .returned (.tuple #[.pointer (some ⟨b, 0, none⟩), .nilIface]) ∧ WkAt w w' b gt gn gr ax rv i d vt vk ∧ (Kd.int .i64).R 3 w' w.heap.size (fun _ => True) rv (t.map (·.1))) ∨
  (∃ u, (knownE g t).1 ≠ 0 ∧ e = .returned (.tuple #[.pointer none, u]) ∧ ErrV w' A u (knownE g t).1 (knownE g t).2 ∧ Below w.heap.size w w')
set_option maxHeartbeats 4000000 in
set_option maxRecDepth 20000 in
theorem known_calls (v : Value) (g : Gr) (tA : Option Addr) (tc : Nat) (t : List (Int × Int × Int)) (w : World) (A : Nat → Addr) (hE : Errs w A) (hv : GramAt w v g) (ht : KStep.C w tA t.length t) (htc : t.length ≤ tc) :
    Calls Tryd.prog 41 #[v, .slice tA t.length tc] w (KnownP w g t A) := by
  have HV := Lib.hid hv
  obtain ⟨AT, cT, AN, cN, AR, cR, rfl, q1, q2, q3, q4, q5, q6⟩ := hv
  have l1 := q4.2.1
  have l2 := q5.2.1
  have l3 := q6.2.1
  have l4 := ht.2.1
  obtain ⟨w1, hw1⟩ : ∃ w1, w.alloc (.cells #[.slice AT g.terms.length cT, .slice AN g.nonterms.length cN, .int .i64 g.ax, .slice AR g.rules.length cR] 25) = w1 := ⟨_, rfl⟩
  have hb1 : Below w.heap.size w w1 := by rw [← hw1]; exact below_alloc (Below.refl _ _) _
  have hk1 : w1.heap[w.heap.size]? = some (.cells #[.slice AT g.terms.length cT, .slice AN g.nonterms.length cN, .int .i64 g.ax, .slice AR g.rules.length cR] 25 (0, 0)) := by rw [← hw1]; exact heap_alloc_new w _
  obtain ⟨c0, c1, c2, c3⟩ := gr_blk hk1
  have HB1 := Lib.hid hb1
  have HK1 := Lib.hid hk1
  have HE := Lib.hid (hE.below hb1)
  have HC := Lib.hid (may_calls _ g t.length w1 A (hE.below hb1) (HV.out.below hb1))
  have HT := Lib.hid (Kd.C_below ht hb1)
  have HR := Lib.hid (Kd.C_below q6 hb1)
  have HE10 : Hid (∀ W, Below w1.heap.size w1 W → W.cell? ⟨2, 0, none⟩ = some (.iface 175 (.pointer (some (A 10))))) := Lib.hid (fun W hb => (HE.out.below hb).cells 10 (by omega))
  clear hb1 hk1 hE q4 q5 q6 ht
  by_cases h0 : (dmayN g t.length).1 = 0
  · have hm := dmayN_zero h0
    rw [hm.eq] at HC
    have HM := Lib.hid hm
    have h131 := hm.len
    clear hm
    by_cases h1 : t = [] ∨ (t.getD 0 (0, 0, 0)).2.1 < 0 ∨ (t.getD 0 (0, 0, 0)).2.2 < (t.getD 0 (0, 0, 0)).2.1
    · have H : Hid (knownE g t = (11, -1)) := Lib.hid (by unfold knownE; rw [if_neg (by simp [h0]), if_pos h1])
      by_cases hnil : t = []
      · subst hnil
        clear h1 h0
        go_enter Tryd.func41, Tryd.ntmps41
        go_upto_region 4 with (go_at_call 34; refine HC.out.mono ?_; rintro e w2 ⟨u, rfl, hu, hb2⟩; obtain rfl : u = .nilIface := (by cases hu; rfl); have HB2 := Lib.hid hb2; clear hb2 hu)
        go_quiet (fail)
        rename Nat => q1'
        have e10 := HE10.out _ (pw_below_drewN HB2.out q1')
        have hb9 := pw_below_drewN HB2.out q1'
        have HB9 := Lib.hid hb9
        obtain ⟨w9, hw9⟩ : ∃ w9, w2.drewN q1' = w9 := ⟨_, rfl⟩
        rw [hw9] at e10 HB9 ⊢
        clear hw9 hb9
        go_wp2
        go_quiet (fail)
        go_wp2
        go_ret2
        exact .inr ⟨_, by rw [H.out]; decide, rfl, by rw [H.out]; exact .sent 10 (by omega), below_next HB1.out (pw_below_drewN HB9.out _)⟩
      · have hpos : 0 < t.length := List.length_pos_iff.2 hnil
        obtain ⟨ta, x0, y0, z0, rfl, k0, k1, k2, HX⟩ := at_step HT.out 0 hpos
        rw [HX.out] at h1
        simp only [Nat.zero_mul, addr_zero] at k0 k1 k2
        have hl0 : ((t.length : Int) == 0) = false := by rw [beq_eq_false_iff_ne]; omega
        by_cases hy : y0 < 0
        · have hy0 : decide (y0 < 0) = true := decide_eq_true hy
          clear h0 h1 hnil k0
          go_enter Tryd.func41, Tryd.ntmps41
          go_upto_region 4 with (go_at_call 34; refine HC.out.mono ?_; rintro e w2 ⟨u, rfl, hu, hb2⟩; obtain rfl : u = .nilIface := (by cases hu; rfl); have HB2 := Lib.hid hb2; clear hb2 hu; have j1 := (HB2.out.cell (World.block_lt_of_cell? _ _ k1)).trans k1; have j2 := (HB2.out.cell (World.block_lt_of_cell? _ _ k2)).trans k2)
          go_quiet (fail)
          rename Nat => q1'
          have e10 := HE10.out _ (pw_below_drewN HB2.out q1')
          have hb9 := pw_below_drewN HB2.out q1'
          have HB9 := Lib.hid hb9
          obtain ⟨w9, hw9⟩ : ∃ w9, w2.drewN q1' = w9 := ⟨_, rfl⟩
          rw [hw9] at e10 HB9 ⊢
          clear hw9 hb9
          go_wp2
          go_quiet (fail)
          go_wp2
          go_ret2
          exact .inr ⟨_, by rw [H.out]; decide, rfl, by rw [H.out]; exact .sent 10 (by omega), below_next HB1.out (pw_below_drewN HB9.out _)⟩
        · have hz : z0 < y0 := by rcases h1 with h | h | h; exact absurd h hnil; exact absurd h hy; exact h
          have hy0 : decide (y0 < 0) = false := decide_eq_false hy
          have hz0 : decide (z0 < y0) = true := decide_eq_true hz
          clear h0 h1 hnil k0
          go_enter Tryd.func41, Tryd.ntmps41
          go_upto_region 4 with (go_at_call 34; refine HC.out.mono ?_; rintro e w2 ⟨u, rfl, hu, hb2⟩; obtain rfl : u = .nilIface := (by cases hu; rfl); have HB2 := Lib.hid hb2; clear hb2 hu; have j1 := (HB2.out.cell (World.block_lt_of_cell? _ _ k1)).trans k1; have j2 := (HB2.out.cell (World.block_lt_of_cell? _ _ k2)).trans k2)
          go_quiet (fail)
          rename Nat => q1'
          have e10 := HE10.out _ (pw_below_drewN HB2.out q1')
          have hb9 := pw_below_drewN HB2.out q1'
          have HB9 := Lib.hid hb9
          obtain ⟨w9, hw9⟩ : ∃ w9, w2.drewN q1' = w9 := ⟨_, rfl⟩
          rw [hw9] at e10 HB9 ⊢
          clear hw9 hb9
          go_wp2
          go_quiet (fail)
          go_wp2
          go_ret2
          exact .inr ⟨_, by rw [H.out]; decide, rfl, by rw [H.out]; exact .sent 10 (by omega), below_next HB1.out (pw_below_drewN HB9.out _)⟩
    · obtain ⟨hne, hp0, hp1⟩ : t ≠ [] ∧ ¬ (t.getD 0 (0, 0, 0)).2.1 < 0 ∧ ¬ (t.getD 0 (0, 0, 0)).2.2 < (t.getD 0 (0, 0, 0)).2.1 := ⟨fun h => h1 (.inl h), fun h => h1 (.inr (.inl h)), fun h => h1 (.inr (.inr h))⟩
      have hpos : 0 < t.length := List.length_pos_iff.2 hne
      have HK : Hid (knownE g t = match treeD g t with | none => (11, -1) | some d => if d.tree = t then (0, -1) else (11, -1)) := Lib.hid (by unfold knownE; rw [if_neg (by simp [h0]), if_neg h1])
      obtain ⟨ta, x0, y0, z0, rfl, k0, k1, k2, HX⟩ := at_step HT.out 0 hpos
      rw [HX.out] at hp0 hp1
      simp only [Nat.zero_mul, addr_zero] at k0 k1 k2
      clear h0 h1 hne k0
      have hl0 : ((t.length : Int) == 0) = false := by rw [beq_eq_false_iff_ne]; omega
      have hy0 : decide (y0 < 0) = false := decide_eq_false hp0
      have hz0 : decide (z0 < y0) = false := decide_eq_false hp1
      go_enter Tryd.func41, Tryd.ntmps41
      go_upto_region 4 with (go_at_call 34; refine HC.out.mono ?_; rintro e w2 ⟨u, rfl, hu, hb2⟩; obtain rfl : u = .nilIface := (by cases hu; rfl); have HB2 := Lib.hid hb2; clear hb2 hu; have j1 := (HB2.out.cell (World.block_lt_of_cell? _ _ k1)).trans k1; have j2 := (HB2.out.cell (World.block_lt_of_cell? _ _ k2)).trans k2)
      go_quiet (fail)
      rename Nat => q1'
      obtain ⟨w3, hw3⟩ : ∃ w3, w2.drewN q1' = w3 := ⟨_, rfl⟩
      have hb3 : Below w1.heap.size w1 w3 := by rw [← hw3]; exact pw_below_drewN HB2.out _
      have HB3 := Lib.hid hb3
      rw [hw3]
      clear hw3 hb3 j1 j2 c0 c1 c2 c3 HC k1 k2
      go_wp2
      go_loopw [7, 43] (fun u i wr => ∃ (j : Nat), j ≤ t.length ∧ i = .int .i64 (j : Int) ∧ Hid (IRow w3 u ((t.take j).map (·.1)) wr)) (fun _ i _ => t.length - (intOf i).toNat)
      case atStart => exact ⟨0, by omega, rfl, Lib.hid ⟨by simpa using Kd.R_nil _ _ _ _ _, Below.refl _ _⟩⟩
      case round =>
        obtain ⟨j, hj, rfl, HI⟩ := hrel
        obtain ⟨w4, rfl⟩ : ∃ w4, wr = w4 := ⟨_, rfl⟩
        obtain ⟨Au, cu, eu⟩ := Kd.R_slice HI.out.own
        obtain ⟨nu, hnu⟩ : ∃ n, ((t.take j).map (·.1)).length = n := ⟨_, rfl⟩
        rw [hnu] at eu
        subst eu
        have HNu := Lib.hid hnu
        clear hnu
        by_cases hlt : j < t.length
        · obtain ⟨tb, x, y, z, e, m0, m1, m2, HY⟩ := at_step (Kd.C_below HT.out (below_next HB3.out HI.out.bel)) j hlt
          obtain rfl := Option.some.inj e
          go_upto_region 10 with (fail)
          obtain ⟨w5, hw5⟩ : ∃ w5, wr.alloc (.cells #[.int .i64 x, .int .i64 y, .int .i64 z] 55) = w5 := ⟨_, rfl⟩
          have g0 : w5.cell? ⟨wr.heap.size, 0, none⟩ = some (.int .i64 x) := by rw [← hw5]; simp [go_sem]
          have HI5 : Hid (IRow w3 (.slice Au nu cu) ((t.take j).map (·.1)) w5) := Lib.hid (by rw [← hw5]; exact HI.out.below (below_alloc (Below.refl _ _) _))
          have HBd : Hid ((((t.take j).map (·.1)).length + 1) * 8 ≤ 140737488355328) := Lib.hid (by rw [List.length_map, List.length_take]; omega)
          rw [hw5]
          clear hw5 m0 m1 m2
          go_wp2_with ((with_reducible refine gate_builtin (b := .append) (xs := #[.tmp 47, .tmp 50]) rfl ?_); at_builtin; go_loud (refine Kd.R_append (Kd.int .i64) (w0 := w3) w3.heap.size rfl (.tmp 47) (.tmp 50) 26 3 (.int .i64 0) 8 rfl Tryd.underlying26 infoInt rfl (by decide) (by omega) (.slice Au nu cu) ((t.take j).map (·.1)) x [.int .i64 x] (fun _ => True) (fun _ => False) rfl rfl rfl (fun _ hk => hk.elim) (fun _ _ => trivial) HI5.out.own HI5.out.bel HI5.out.bel.size HBd.out ?_); intro v6 w6 ho hb hg hat; (have H6 : Hid (IRow w3 v6 ((t.take j).map (·.1) ++ [x]) w6) := Lib.hid ⟨ho, hb⟩; clear ho hb hg hat))
          go_roundw
          case rel => exact ⟨j + 1, by omega, by go_num, Lib.hid (by rw [take_snocD t j (0, 0, 0) hlt, HY.out, List.map_append]; exact H6.out)⟩
          case measure => simp [intOf]; omega
        · have hjt : (t.take j).map (·.1) = t.map (·.1) := by rw [List.take_of_length_le (by omega)]
          have hnu : nu = t.length := by rw [← HNu.out, hjt, List.length_map]
          subst hnu
          have hr6 := HI.out
          rw [hjt] at hr6
          have HR6 := Lib.hid hr6
          obtain ⟨hn6, hc6, hC6⟩ := Kd.R_reads' hr6.own
          have hlm : (t.map (·.1)).length = t.length := by simp
          have hB4 : Below w1.heap.size w1 wr := below_next HB3.out hr6.bel
          have hWi : WkIn wr g AR (t.map (·.1)) Au A := HM.out.walk (HE.out.below hB4) (Kd.C_below HR.out hB4) hC6 (by rw [hlm]; omega)
          have hS : ∀ W, Below wr.heap.size wr W → W.cell? ⟨w.heap.size, 0, none⟩ = some (.slice AT g.terms.length cT) ∧ W.cell? ⟨w.heap.size, 1, none⟩ = some (.slice AN g.nonterms.length cN) ∧ W.cell? ⟨w.heap.size, 2, none⟩ = some (.int .i64 g.ax) ∧ W.cell? ⟨w.heap.size, 3, none⟩ = some (.slice AR g.rules.length cR) ∧ W.cell? ⟨ta.block, ta.off + 1, none⟩ = some (.int .i64 y0) := fun W hW => by
            have hb := below_next hB4 hW
            obtain ⟨b0, b1, b2, b3⟩ := gr_blk (blk_below HK1.out hb)
            refine ⟨b0, b1, b2, b3, ?_⟩
            obtain ⟨tb, x', y', z', e, m0, m1, m2, HY⟩ := at_step (Kd.C_below HT.out hb) 0 hpos
            obtain rfl := Option.some.inj e
            simp only [Nat.zero_mul, addr_zero] at m1
            rw [HX.out] at HY
            have e2 := HY.out
            simp only [Prod.mk.injEq] at e2
            rw [e2.2.1]
            exact m1
          have HS := Lib.hid hS
          obtain ⟨res, hres⟩ : ∃ r, treeD g t = r := ⟨_, rfl⟩
          rw [hres] at HK
          have hWk : ∀ W, Below wr.heap.size wr W → Calls Tryd.prog 35 #[.agg #[.slice AT g.terms.length cT, .slice AN g.nonterms.length cN, .int .i64 g.ax, .slice AR g.rules.length cR], .slice Au t.length cu, .int .i64 0, .int .i64 y0, .bool true] W
              (WalkP W (.slice AT g.terms.length cT) (.slice AN g.nonterms.length cN) (.slice AR g.rules.length cR) g.ax (.slice Au t.length cu) A res) := fun W hW => by
            have := walk_calls g AT AN AR Au cT cN cR cu (t.map (·.1)) A true 0 y0 W ⟨hWi.err.below hW, Kd.C_below hWi.rules hW, Kd.C_below hWi.row hW, hWi.len, hWi.short, hWi.syms, hWi.ne, hWi.few⟩ (by rw [hlm]; exact hc6)
            rw [hlm] at this
            rw [← hres]
            unfold treeD grownD
            rw [HX.out]
            exact this
          have HWk := Lib.hid hWk
          have HB4 := Lib.hid hB4
          have HRes := Lib.hid hres
          obtain ⟨s0, s1, s2, s3, s4⟩ := hS wr (Below.refl _ _)
          clear hjt hr6 hn6 hC6 hlm hB4 hWi hS hWk hres HI
          cases res with
          | none =>
            have HF : Hid (knownE g t = (11, -1)) := Lib.hid HK.out
            go_upto_region 12 with (fail)
            go_region_held3 (fun w' => w'.cell? ⟨w.heap.size, 0, none⟩ = some (.slice AT g.terms.length cT) ∧ w'.cell? ⟨w.heap.size, 1, none⟩ = some (.slice AN g.nonterms.length cN) ∧ w'.cell? ⟨w.heap.size, 2, none⟩ = some (.int .i64 g.ax) ∧ w'.cell? ⟨w.heap.size, 3, none⟩ = some (.slice AR g.rules.length cR) ∧ w'.cell? ⟨ta.block, ta.off + 1, none⟩ = some (.int .i64 y0))
              (first
                | exact D1.out
                | exact HS.out _ (below_drew (Below.refl _ _))
                | exact HS.out _ (Below.refl _ _))
              ((go_at_call 35; refine (HWk.out _ (by first | exact below_drew (Below.refl _ _) | exact Below.refl _ _)).mono ?_; rintro e w7 ⟨v7, rfl, hb7⟩; have HB7 : Hid (Below wr.heap.size wr w7) := Lib.hid (by first | exact below_next (below_drew (Below.refl _ _)) hb7 | exact below_next (Below.refl _ _) hb7); have D1 := Lib.hid (HS.out _ HB7.out); clear hb7))
            have e10 := HE10.out _ (below_next HB4.out HB7.out)
            go_wp2
            go_quiet (fail)
            go_wp2
            go_ret2
            exact .inr ⟨_, by rw [HF.out]; decide, rfl, by rw [HF.out]; exact .sent 10 (by omega), below_next HB1.out (below_next HB4.out (pw_below_drewN HB7.out _))⟩
          | some d =>
            by_cases he : d.tree = t
            · have HF : Hid (knownE g t = (0, -1)) := Lib.hid (by rw [HK.out]; simp only; rw [if_pos he])
              have hde : decide (d.tree = t) = true := decide_eq_true he
              have HEq := Lib.hid he
              clear he
              go_upto_region 12 with (fail)
              go_region_held3 (fun w' => w'.cell? ⟨w.heap.size, 0, none⟩ = some (.slice AT g.terms.length cT) ∧ w'.cell? ⟨w.heap.size, 1, none⟩ = some (.slice AN g.nonterms.length cN) ∧ w'.cell? ⟨w.heap.size, 2, none⟩ = some (.int .i64 g.ax) ∧ w'.cell? ⟨w.heap.size, 3, none⟩ = some (.slice AR g.rules.length cR) ∧ w'.cell? ⟨ta.block, ta.off + 1, none⟩ = some (.int .i64 y0))
                (first
                  | exact D1.out
                  | exact HS.out _ (below_drew (Below.refl _ _))
                  | exact HS.out _ (Below.refl _ _))
                ((go_at_call 35; refine (HWk.out _ (by first | exact below_drew (Below.refl _ _) | exact Below.refl _ _)).mono ?_; rintro e w7 ⟨b7, i7, vt7, vk7, rfl, h7⟩; have H7 : Hid (WkAt wr w7 b7 (.slice AT g.terms.length cT) (.slice AN g.nonterms.length cN) (.slice AR g.rules.length cR) g.ax (.slice Au t.length cu) i7 d vt7 vk7) := Lib.hid (by first | exact h7.lower (below_drew (Below.refl _ _)) | exact h7); have HB7 := Lib.hid H7.out.bel; have D1 := Lib.hid (HS.out _ HB7.out); clear h7))
              obtain ⟨A8, c8, e8⟩ := Kd.R_slice H7.out.tr
              subst e8
              have HC8 := Lib.hid (Kd.R_reads' H7.out.tr).2.2
              have c7 : w7.cell? ⟨b7, 7, none⟩ = some (.slice A8 d.tree.length c8) := H7.out.c7 rfl
              go_wp2_with (go_at_call 58; refine (esteps_calls A8 (some ta) c8 tc d.tree t _ HC8.out (Kd.C_below HT.out (below_next HB4.out HB7.out))).mono ?_; rw [hde]; rintro e w8 ⟨rfl, n9, rfl⟩)
              go_ret2
              exact .inl ⟨_, _, _, _, _, _, i7, d, _, vk7, HF.out, HRes.out, HEq.out, rfl, (H7.out.lower (below_next HB1.out HB4.out)).drewN _, Kd.R_drewN (Kd.R_lower (Kd.R_below HR6.out.own HB7.out) (by have := HB1.out.size; have := HB3.out.size; omega)) _⟩
            · have HF : Hid (knownE g t = (11, -1)) := Lib.hid (by rw [HK.out]; simp only; rw [if_neg he])
              have hde : decide (d.tree = t) = false := decide_eq_false he
              clear he
              go_upto_region 12 with (fail)
              go_region_held3 (fun w' => w'.cell? ⟨w.heap.size, 0, none⟩ = some (.slice AT g.terms.length cT) ∧ w'.cell? ⟨w.heap.size, 1, none⟩ = some (.slice AN g.nonterms.length cN) ∧ w'.cell? ⟨w.heap.size, 2, none⟩ = some (.int .i64 g.ax) ∧ w'.cell? ⟨w.heap.size, 3, none⟩ = some (.slice AR g.rules.length cR) ∧ w'.cell? ⟨ta.block, ta.off + 1, none⟩ = some (.int .i64 y0))
                (first
                  | exact D1.out
                  | exact HS.out _ (below_drew (Below.refl _ _))
                  | exact HS.out _ (Below.refl _ _))
                ((go_at_call 35; refine (HWk.out _ (by first | exact below_drew (Below.refl _ _) | exact Below.refl _ _)).mono ?_; rintro e w7 ⟨b7, i7, vt7, vk7, rfl, h7⟩; have H7 : Hid (WkAt wr w7 b7 (.slice AT g.terms.length cT) (.slice AN g.nonterms.length cN) (.slice AR g.rules.length cR) g.ax (.slice Au t.length cu) i7 d vt7 vk7) := Lib.hid (by first | exact h7.lower (below_drew (Below.refl _ _)) | exact h7); have HB7 := Lib.hid H7.out.bel; have D1 := Lib.hid (HS.out _ HB7.out); clear h7))
              obtain ⟨A8, c8, e8⟩ := Kd.R_slice H7.out.tr
              subst e8
              have HC8 := Lib.hid (Kd.R_reads' H7.out.tr).2.2
              have c7 : w7.cell? ⟨b7, 7, none⟩ = some (.slice A8 d.tree.length c8) := H7.out.c7 rfl
              go_wp2_with (go_at_call 58; refine (esteps_calls A8 (some ta) c8 tc d.tree t _ HC8.out (Kd.C_below HT.out (below_next HB4.out HB7.out))).mono ?_; rw [hde]; rintro e w8 ⟨rfl, n9, rfl⟩)
              have e10 := HE10.out _ (below_next HB4.out (pw_below_drewN HB7.out n9))
              have hb9 := pw_below_drewN HB7.out n9
              have HB9 := Lib.hid hb9
              obtain ⟨w9, hw9⟩ : ∃ w9, w7.drewN n9 = w9 := ⟨_, rfl⟩
              rw [hw9] at e10 HB9 ⊢
              clear hw9 hb9
              go_quiet (fail)
              go_wp2
              go_ret2
              exact .inr ⟨_, by rw [HF.out]; decide, rfl, by rw [HF.out]; exact .sent 10 (by omega), below_next HB1.out (below_next HB4.out (pw_below_drewN HB9.out _))⟩
  · have H : Hid (knownE g t = dmayN g t.length) := Lib.hid (by unfold knownE; rw [if_pos h0])
    have HN := Lib.hid h0
    clear h0
    go_enter Tryd.func41, Tryd.ntmps41
    go_wp2_with (go_at_call 34; refine HC.out.mono ?_; rintro e w2 ⟨u, rfl, hu, hb2⟩; have HB2 := Lib.hid hb2; have HU := Lib.hid hu; obtain ⟨tt, x, rfl⟩ : ∃ t x, u = .iface t x := (by rcases hu.nil_iff with ⟨h, _⟩ | ⟨_, t, x, h⟩; exact absurd h HN.out; exact ⟨t, x, h⟩); clear hb2 hu)
    go_ret2
    exact .inr ⟨_, by rw [H.out]; exact HN.out, rfl, by rw [H.out]; exact HU.out, below_next HB1.out HB2.out⟩
end Go.Proofs.YtcjcffcbfkimdaaDoor.Hand
/- The document's stack of open steps, plainly: what it holds, and its rounds. -/
namespace Go.Proofs.YtcjcffcbfkimdaaDoor.Math

abbrev Stk := List (Nat × Nat × List Int)
/-- The stack as it lies in memory: the last is on top. -/
def frs (O : Stk) : List (Int × Int) := O.reverse.map (fun x => ((x.1 : Int), (x.2.1 : Int)))
theorem frs_cons (x : Nat × Nat × List Int) (O : Stk) : frs (x :: O) = frs O ++ [((x.1 : Int), (x.2.1 : Int))] := by simp [frs]
theorem frs_length (O : Stk) : (frs O).length = O.length := by simp [frs]
theorem frs_last (x : Nat × Nat × List Int) (O : Stk) : (frs (x :: O)).getD O.length (0, 0) = ((x.1 : Int), (x.2.1 : Int)) := by
  rw [frs_cons, List.getD_eq_getElem?_getD, List.getElem?_append_right (by rw [frs_length]; exact Nat.le_refl _), frs_length]
  simp
theorem frs_take (x : Nat × Nat × List Int) (O : Stk) : (frs (x :: O)).take O.length = frs O := by
  rw [frs_cons, List.take_append_of_le_length (by rw [frs_length]; exact Nat.le_refl _), List.take_of_length_le (by rw [frs_length]; exact Nat.le_refl _)]
theorem frs_set (φ k k' : Nat) (l l' : List Int) (O : Stk) : (frs ((φ, k, l) :: O)).set O.length ((φ : Int), (k' : Int)) = frs ((φ, k', l') :: O) := by
  rw [frs_cons, frs_cons, List.set_append_right _ _ (by rw [frs_length]; exact Nat.le_refl _), frs_length]
  simp
/-- What an open step is: its rule's symbols from the next one on. -/
def FrOk (G : List (Int × List Int)) (T : List (Int × Int × Int)) (x : Nat × Nat × List Int) : Prop :=
  x.1 < T.length ∧ (0 ≤ (T.getD x.1 (0, 0, 0)).1 ∧ (T.getD x.1 (0, 0, 0)).1 < (G.length : Int)) ∧ x.2.1 ≤ (ruleD G (T.getD x.1 (0, 0, 0)).1).2.length ∧ x.2.2 = (ruleD G (T.getD x.1 (0, 0, 0)).1).2.drop x.2.1
def StkOk (G : List (Int × List Int)) (T : List (Int × Int × Int)) (O : Stk) : Prop := ∀ x ∈ O, FrOk G T x
theorem getD_snoc {α : Type} (T : List α) (y z : α) (i : Nat) (h : i < T.length) : (T ++ [y]).getD i z = T.getD i z := by
  rw [List.getD_eq_getElem?_getD, List.getElem?_append_left h, ← List.getD_eq_getElem?_getD]
theorem getD_snoc_last {α : Type} (T : List α) (y z : α) : (T ++ [y]).getD T.length z = y := by
  simp [List.getD_eq_getElem?_getD]
theorem FrOk.snoc {G : List (Int × List Int)} {T : List (Int × Int × Int)} {x : Nat × Nat × List Int} (h : FrOk G T x) (y : Int × Int × Int) : FrOk G (T ++ [y]) x := by
  obtain ⟨h1, h2, h3, h4⟩ := h
  unfold FrOk
  rw [getD_snoc T y _ x.1 h1]
  exact ⟨by simp; omega, h2, h3, h4⟩
theorem StkOk.snoc {G : List (Int × List Int)} {T : List (Int × Int × Int)} {O : Stk} (h : StkOk G T O) (y : Int × Int × Int) : StkOk G (T ++ [y]) O := fun x hx => (h x hx).snoc y
theorem FrOk.put {G : List (Int × List Int)} {T : List (Int × Int × Int)} {x : Nat × Nat × List Int} (h : FrOk G T x) (i : Nat) (a b : Int) : FrOk G (T.set i ((T.getD i (0, 0, 0)).1, a, b)) x := by
  obtain ⟨h1, h2, h3, h4⟩ := h
  have e : ((T.set i ((T.getD i (0, 0, 0)).1, a, b)).getD x.1 (0, 0, 0)).1 = (T.getD x.1 (0, 0, 0)).1 := by
    rw [List.getD_eq_getElem?_getD, List.getElem?_set]
    split
    · rename_i hi
      subst hi
      split
      · rfl
      · rename_i hn; exact absurd h1 hn
    · rw [← List.getD_eq_getElem?_getD]
  unfold FrOk
  rw [e]
  exact ⟨by simpa using h1, h2, h3, h4⟩
theorem StkOk.put {G : List (Int × List Int)} {T : List (Int × Int × Int)} {O : Stk} (h : StkOk G T O) (i : Nat) (a b : Int) : StkOk G (T.set i ((T.getD i (0, 0, 0)).1, a, b)) O := fun x hx => (h x hx).put i a b
theorem StkOk.tail {G : List (Int × List Int)} {T : List (Int × Int × Int)} {x : Nat × Nat × List Int} {O : Stk} (h : StkOk G T (x :: O)) : StkOk G T O := fun y hy => h y (List.mem_cons_of_mem _ hy)
theorem StkOk.next {G : List (Int × List Int)} {T : List (Int × Int × Int)} {φ k : Nat} {s : Int} {r : List Int} {O : Stk} (h : StkOk G T ((φ, k, s :: r) :: O)) : StkOk G T ((φ, k + 1, r) :: O) := by
  intro y hy
  rw [List.mem_cons] at hy
  rcases hy with rfl | hy
  · obtain ⟨h1, h2, h3, h4⟩ := h _ (List.mem_cons_self ..)
    simp only at h1 h2 h3 h4
    have hl := congrArg List.length h4
    simp only [List.length_cons, List.length_drop] at hl
    refine ⟨h1, h2, by show k + 1 ≤ (ruleD G (T.getD φ (0, 0, 0)).1).2.length; omega, ?_⟩
    show r = List.drop (k + 1) _
    rw [← List.drop_drop, ← h4]
    rfl
  · exact h y (List.mem_cons_of_mem _ hy)
/-- How many symbols are still to come. -/
def remS : Stk → Nat
  | [] => 0
  | x :: O => x.2.2.length + remS O
/-- The stack stands at a nonterminal, or is empty. -/
def Popped (O : Stk) : Prop := ∀ φ k l O', O = (φ, k, l) :: O' → ∃ x r, l = x :: r ∧ x < 0
theorem popG_popped {σ : Type} (o : Ops σ Nat) {O : Stk} (s : σ) (h : Popped O) : popG o O s = (O, s) := by
  cases O with
  | nil => rfl
  | cons y O =>
    obtain ⟨φ, k, l⟩ := y
    obtain ⟨x, r, rfl, hx⟩ := h φ k l O rfl
    exact popG_neg o φ k x r O s hx
theorem at_drop {l : List Int} {k : Nat} {x : Int} {r : List Int} (h : x :: r = l.drop k) : k < l.length ∧ l.getD k 0 = x := by
  have hl := congrArg List.length h
  simp only [List.length_cons, List.length_drop] at hl
  have hk : k < l.length := by omega
  refine ⟨hk, ?_⟩
  rw [List.drop_eq_getElem_cons hk] at h
  injection h with h1 _
  rw [List.getD_eq_getElem?_getD, List.getElem?_eq_getElem hk]
  exact h1.symm
/-- What the loop over the rules comes to, from rule k on. -/
def restG {σ : Type} (o : Ops σ Nat) (G : List (Int × List Int)) (rs : List Int) (any : Bool) (nt : Int) (k : Nat) (O : Stk) (d : σ) : Option σ :=
  if k = 0 then enterG o G [] any nt none 0 d rs else contG o G (rs.drop k) k (O, d)
theorem restG_bad {σ : Type} {o : Ops σ Nat} {G : List (Int × List Int)} {rs : List Int} {any : Bool} {nt n : Int} {k : Nat} {O : Stk} {d : σ} (hd : rs.drop k = n :: rs.drop (k + 1)) (hp : Popped O) (hb : n < 0 ∨ (G.length : Int) ≤ n) : restG o G rs any nt k O d = none := by
  unfold restG
  split
  · rename_i h; subst h
    rw [List.drop_zero] at hd
    rw [hd, enterG, if_pos hb]
  · rw [hd]
    cases O with
    | nil => rfl
    | cons y O =>
      obtain ⟨φ, q, l⟩ := y
      obtain ⟨x, r, rfl, _⟩ := hp φ q l O rfl
      rw [contG, if_pos hb]
theorem restG_first_no {σ : Type} {o : Ops σ Nat} {G : List (Int × List Int)} {rs : List Int} {any : Bool} {nt n : Int} {O : Stk} {d : σ} (hd : rs.drop 0 = n :: rs.drop 1) (hb : ¬ (n < 0 ∨ (G.length : Int) ≤ n)) (ha : any = false ∧ (ruleD G n).1 ≠ nt) : restG o G rs any nt 0 O d = none := by
  unfold restG
  rw [List.drop_zero] at hd
  rw [if_pos rfl, hd, enterG, if_neg hb, if_pos ha]
theorem restG_first {σ : Type} {o : Ops σ Nat} {G : List (Int × List Int)} {rs : List Int} {any : Bool} {nt n : Int} {O : Stk} {d : σ} (hd : rs.drop 0 = n :: rs.drop 1) (hb : ¬ (n < 0 ∨ (G.length : Int) ≤ n)) (ha : ¬ (any = false ∧ (ruleD G n).1 ≠ nt)) :
    restG o G rs any nt 0 O d = restG o G rs any nt 1 (popG o [((o.ent 0 d none 1 n).2, 0, (ruleD G n).2)] (o.ent 0 d none 1 n).1).1 (popG o [((o.ent 0 d none 1 n).2, 0, (ruleD G n).2)] (o.ent 0 d none 1 n).1).2 := by
  unfold restG
  rw [if_pos rfl, if_neg (by omega)]
  rw [List.drop_zero] at hd
  have e : ∀ l : List Int, rs = n :: l → enterG o G [] any nt none 0 d rs = contG o G l 1 (popG o [((o.ent 0 d none 1 n).2, 0, (ruleD G n).2)] (o.ent 0 d none 1 n).1) := fun l hl => by
    rw [hl, enterG, if_neg hb, if_neg ha]
    rfl
  exact e _ hd
theorem restG_empty {σ : Type} {o : Ops σ Nat} {G : List (Int × List Int)} {rs : List Int} {any : Bool} {nt n : Int} {k : Nat} {d : σ} (hd : rs.drop k = n :: rs.drop (k + 1)) (hk : 0 < k) : restG o G rs any nt k [] d = none := by
  unfold restG
  rw [if_neg (by omega), hd]
  rfl
theorem restG_no {σ : Type} {o : Ops σ Nat} {G : List (Int × List Int)} {rs : List Int} {any : Bool} {nt n x : Int} {k φ q : Nat} {r : List Int} {O : Stk} {d : σ} (hd : rs.drop k = n :: rs.drop (k + 1)) (hk : 0 < k) (hb : ¬ (n < 0 ∨ (G.length : Int) ≤ n)) (ha : (ruleD G n).1 ≠ -1 - x) :
    restG o G rs any nt k ((φ, q, x :: r) :: O) d = none := by
  unfold restG
  rw [if_neg (by omega), hd, contG, if_neg hb, if_pos ha]
theorem restG_next {σ : Type} {o : Ops σ Nat} {G : List (Int × List Int)} {rs : List Int} {any : Bool} {nt n x : Int} {k φ q : Nat} {r : List Int} {O : Stk} {d : σ} (hd : rs.drop k = n :: rs.drop (k + 1)) (hk : 0 < k) (hb : ¬ (n < 0 ∨ (G.length : Int) ≤ n)) (ha : ¬ (ruleD G n).1 ≠ -1 - x) :
    restG o G rs any nt k ((φ, q, x :: r) :: O) d = restG o G rs any nt (k + 1) (popG o (((o.ent k d (some (φ, q)) (O.length + 2) n).2, 0, (ruleD G n).2) :: (φ, q + 1, r) :: O) (o.ent k d (some (φ, q)) (O.length + 2) n).1).1
      (popG o (((o.ent k d (some (φ, q)) (O.length + 2) n).2, 0, (ruleD G n).2) :: (φ, q + 1, r) :: O) (o.ent k d (some (φ, q)) (O.length + 2) n).1).2 := by
  unfold restG
  rw [if_neg (by omega), if_neg (by omega), hd, contG, if_neg hb, if_neg ha]
theorem restG_end {σ : Type} {o : Ops σ Nat} {G : List (Int × List Int)} {rs : List Int} {any : Bool} {nt : Int} {k : Nat} {O : Stk} {d : σ} (hk : rs.length ≤ k) : restG o G rs any nt k O d = if 0 < k ∧ O.length = 0 then some d else none := by
  unfold restG
  split
  · rename_i h; subst h
    have : rs = [] := List.length_eq_zero_iff.1 (by omega)
    subst this
    simp [enterG]
  · rw [List.drop_eq_nil_of_le hk, contG]
    cases O <;> simp <;> omega
theorem FrOk.new {G : List (Int × List Int)} {T : List (Int × Int × Int)} {n p q : Int} (hb : ¬ (n < 0 ∨ (G.length : Int) ≤ n)) : FrOk G (T ++ [(n, p, q)]) (T.length, 0, (ruleD G n).2) := by
  unfold FrOk
  rw [getD_snoc_last]
  exact ⟨by simp, by omega, Nat.zero_le _, by simp⟩
theorem StkOk.cons {G : List (Int × List Int)} {T : List (Int × Int × Int)} {x : Nat × Nat × List Int} {O : Stk} (h1 : FrOk G T x) (h : StkOk G T O) : StkOk G T (x :: O) := by
  intro y hy
  rw [List.mem_cons] at hy
  rcases hy with rfl | hy
  · exact h1
  · exact h y hy
end Go.Proofs.YtcjcffcbfkimdaaDoor.Math
/- The memory of the document's loop over the rules: steps, tokens, open steps. -/
namespace Go.Proofs.YtcjcffcbfkimdaaDoor.Hand
open Go.RowKit Go.Proofs.YtcjcffcbfkimdaaDoorW.PrintWords Go.Proofs.YtcjcffcbfkimdaaDoorW.PrintMore Go.Proofs.YtcjcffcbfkimdaaDoor.Math

theorem results4_tmp {fn : Func} {t u v x : Tmp} (h : fn.results = #[.tmp t, .tmp u, .tmp v, .tmp x]) (tmps : Array Value) (P : Program) (w : World) :
    (results fn tmps).run P w = .ok (.tuple #[tmps.getD t undef, tmps.getD u undef, tmps.getD v undef, tmps.getD x undef]) w := by
  simp [results, h]
theorem results5_tmp {fn : Func} {t u v x y : Tmp} (h : fn.results = #[.tmp t, .tmp u, .tmp v, .tmp x, .tmp y]) (tmps : Array Value) (P : Program) (w : World) :
    (results fn tmps).run P w = .ok (.tuple #[tmps.getD t undef, tmps.getD u undef, tmps.getD v undef, tmps.getD x undef, tmps.getD y undef]) w := by
  simp [results, h]
/-- Open steps: which, how many symbols are done. -/
def KFr : Kd (Int × Int) := Kd.pair (Kd.int .i64) (Kd.int .i64)
theorem KFr_M (w : World) (base : Nat) (ok : Nat → Prop) (x y : Int) : KFr.M w base ok (x, y) [.int .i64 x, .int .i64 y] := ⟨[.int .i64 x], [.int .i64 y], rfl, rfl, rfl⟩
section
variable {W w1 : World} {base : Nat} {ok : Nat → Prop} {g n cap : Nat} {e : TypeId}
theorem fr_at {F : List (Int × Int)} (h : KFr.R e W base ok (.slice (some ⟨g, 0, none⟩) n cap) F) (q : Nat) (hq : q < F.length) :
    W.cell? ⟨g, q * 2, none⟩ = some (.int .i64 (F.getD q (0, 0)).1) ∧ W.cell? ⟨g, q * 2 + 1, none⟩ = some (.int .i64 (F.getD q (0, 0)).2) ∧ W.frozen? ⟨g, q * 2 + 1, none⟩ = false := by
  have hn := (Kd.R_reads' h).1
  obtain ⟨c, hcl, hM, hcc, hf⟩ := Kd.R_elem h (0, 0) (q : Int) (by omega) (by omega)
  rw [Int.toNat_natCast] at hM hcc hf
  obtain ⟨c0, c1, rfl, k0, k1⟩ := hM
  have e0 : c0 = [.int .i64 (F.getD q (0, 0)).1] := k0
  have e1 : c1 = [.int .i64 (F.getD q (0, 0)).2] := k1
  subst e0 e1
  exact ⟨hcc 0 _ rfl, hcc 1 _ rfl, hf 1⟩
theorem fr_put {F : List (Int × Int)} (h : KFr.R e W base ok (.slice (some ⟨g, 0, none⟩) n cap) F) (q : Nat) (hq : q < F.length) (y : Int) :
    KFr.R e (W.setCell ⟨g, q * 2 + 1, none⟩ (.int .i64 y)) base ok (.slice (some ⟨g, 0, none⟩) n cap) (F.set q ((F.getD q (0, 0)).1, y)) ∧ W.grownBy (W.setCell ⟨g, q * 2 + 1, none⟩ (.int .i64 y)) (some g) := by
  have hn := (Kd.R_reads' h).1
  obtain ⟨c, hcl, hM, hcc, -⟩ := Kd.R_elem h (0, 0) (q : Int) (by omega) (by omega)
  rw [Int.toNat_natCast] at hM hcc
  obtain ⟨c0, c1, rfl, k0, k1⟩ := hM
  have e0 : c0 = [.int .i64 (F.getD q (0, 0)).1] := k0
  have e1 : c1 = [.int .i64 (F.getD q (0, 0)).2] := k1
  subst e0 e1
  have := Kd.R_seg (seg := [.int .i64 y]) (j := 1) (okp := fun _ => False) h (q : Int) (by omega) (by omega) hcl (by rw [Int.toNat_natCast]; exact hcc) (by show 2 ≤ 2; omega) (x' := ((F.getD q (0, 0)).1, y)) (KFr_M _ _ _ _ _) (fun _ hk => hk.elim)
  rw [Int.toNat_natCast] at this
  exact this
theorem st_at {T : List (Int × Int × Int)} (h : KStep.R e W base ok (.slice (some ⟨g, 0, none⟩) n cap) T) (q : Nat) (hq : q < T.length) :
    W.cell? ⟨g, q * 3, none⟩ = some (.int .i64 (T.getD q (0, 0, 0)).1) ∧ (∃ u, W.cell? ⟨g, q * 3 + 2, none⟩ = some u) ∧ W.frozen? ⟨g, q * 3 + 2, none⟩ = false := by
  have hn := (Kd.R_reads' h).1
  obtain ⟨c, hcl, hM, hcc, hf⟩ := Kd.R_elem h (0, 0, 0) (q : Int) (by omega) (by omega)
  rw [Int.toNat_natCast] at hM hcc hf
  obtain ⟨c0, c1, rfl, k0, d0, d1, rfl, k1, k2⟩ := hM
  have e0 : c0 = [.int .i64 (T.getD q (0, 0, 0)).1] := k0
  have e1 : d0 = [.int .i64 (T.getD q (0, 0, 0)).2.1] := k1
  have e2 : d1 = [.int .i64 (T.getD q (0, 0, 0)).2.2] := k2
  subst e0 e1 e2
  exact ⟨hcc 0 _ rfl, ⟨_, hcc 2 _ rfl⟩, hf 2⟩
end
/-- The three rows. -/
structure TrAt (w0 w : World) (v1 v2 v3 : Value) (O : Stk) (d : DS) : Prop where
  tr : KStep.R 55 w w0.heap.size (fun _ => True) v1 d.tree
  tk : (Kd.int .i64).R 3 w w0.heap.size (fun _ => True) v2 d.tokens
  op : KFr.R 109 w w0.heap.size (fun _ => True) v3 (frs O)
  bel : Below w0.heap.size w0 w
theorem fr_ne : ∀ q, q ∈ 109 :: KFr.E → q ≠ 3 ∧ q ≠ 55 := by
  intro q hq
  rw [show KFr.E = [] from rfl, List.mem_singleton] at hq
  subst hq
  decide
theorem int_ne : ∀ q, q ∈ 3 :: (Kd.int .i64).E → q ≠ 109 ∧ q ≠ 55 := by
  intro q hq
  rw [show (Kd.int .i64).E = [] from rfl, List.mem_singleton] at hq
  subst hq
  decide
theorem step_ne : ∀ q, q ∈ 55 :: KStep.E → q ≠ 109 ∧ q ≠ 3 := by
  intro q hq
  rw [show KStep.E = [] from rfl, List.mem_singleton] at hq
  subst hq
  decide
section
variable {w0 w w1 : World} {v1 v2 v3 u : Value} {O O' : Stk} {d : DS} {T : List (Int × Int × Int)} {K : List Int}
theorem TrAt.below (h : TrAt w0 w v1 v2 v3 O d) (hb : Below w.heap.size w w1) : TrAt w0 w1 v1 v2 v3 O d := ⟨Kd.R_below h.tr hb, Kd.R_below h.tk hb, Kd.R_below h.op hb, below_next h.bel hb⟩
theorem TrAt.drewN (h : TrAt w0 w v1 v2 v3 O d) (n : Nat) : TrAt w0 (w.drewN n) v1 v2 v3 O d := h.below (pw_below_drewN (Below.refl _ _) n)
theorem TrAt.setT (h : TrAt w0 w v1 v2 v3 O d) (hr : KStep.R 55 w1 w0.heap.size (fun _ => True) u T) (hb : Below w0.heap.size w0 w1) (hg : w.grownBy w1 v1.ownBlock) (p : Int) (m : Nat) : TrAt w0 w1 u v2 v3 O ⟨p, T, d.tokens, m⟩ :=
  ⟨hr, Kd.R_over h.tk h.tr (fun q hq => (int_ne q hq).2) hg, Kd.R_over h.op h.tr (fun q hq => (fr_ne q hq).2) hg, hb⟩
theorem TrAt.setK (h : TrAt w0 w v1 v2 v3 O d) (hr : (Kd.int .i64).R 3 w1 w0.heap.size (fun _ => True) u K) (hb : Below w0.heap.size w0 w1) (hg : w.grownBy w1 v2.ownBlock) (p : Int) (m : Nat) : TrAt w0 w1 v1 u v3 O ⟨p, d.tree, K, m⟩ :=
  ⟨Kd.R_over h.tr h.tk (fun q hq => (step_ne q hq).2) hg, hr, Kd.R_over h.op h.tk (fun q hq => (fr_ne q hq).1) hg, hb⟩
theorem TrAt.setO (h : TrAt w0 w v1 v2 v3 O d) (hr : KFr.R 109 w1 w0.heap.size (fun _ => True) u (frs O')) (hb : Below w0.heap.size w0 w1) (hg : w.grownBy w1 v3.ownBlock) : TrAt w0 w1 v1 v2 u O' d :=
  ⟨Kd.R_over h.tr h.op (fun q hq => (step_ne q hq).1) hg, Kd.R_over h.tk h.op (fun q hq => (int_ne q hq).1) hg, hr, hb⟩
theorem TrAt.num (h : TrAt w0 w v1 v2 v3 O d) (p : Int) (m : Nat) : TrAt w0 w v1 v2 v3 O ⟨p, d.tree, d.tokens, m⟩ := ⟨h.tr, h.tk, h.op, h.bel⟩
/-- The form of the open steps' slice. -/
theorem TrAt.open_ {x : Nat × Nat × List Int} {m : Nat} (h : TrAt w0 w v1 v2 v3 (x :: O) d) (hm : O.length = m) : ∃ g cap, v3 = .slice (some ⟨g, 0, none⟩) (m + 1) cap ∧ m + 1 ≤ cap ∧
    w.cell? ⟨g, m * 2, none⟩ = some (.int .i64 (x.1 : Int)) ∧ w.cell? ⟨g, m * 2 + 1, none⟩ = some (.int .i64 (x.2.1 : Int)) ∧ w.frozen? ⟨g, m * 2 + 1, none⟩ = false ∧ w0.heap.size ≤ g := by
  subst hm
  obtain ⟨g, cap, e, -⟩ := Kd.R_form h.op (by rw [frs_length]; simp)
  rw [frs_length, List.length_cons] at e
  subst e
  obtain ⟨h1, h2, h3⟩ := fr_at h.op O.length (by rw [frs_length]; simp)
  rw [frs_last] at h1 h2
  exact ⟨g, cap, rfl, (Kd.R_reads' h.op).2.1, h1, h2, h3, Kd.R_base h.op g rfl⟩
/-- One symbol more is done. -/
theorem TrAt.done1 {φ q q' : Nat} {l l' : List Int} {g n cap m : Nat} (h : TrAt w0 w v1 v2 (.slice (some ⟨g, 0, none⟩) n cap) ((φ, q, l) :: O) d) (hm : O.length = m) : TrAt w0 (w.setCell ⟨g, m * 2 + 1, none⟩ (.int .i64 (q' : Int))) v1 v2 (.slice (some ⟨g, 0, none⟩) n cap) ((φ, q', l') :: O) d := by
  subst hm
  obtain ⟨h1, h2⟩ := fr_put h.op O.length (by rw [frs_length]; simp) (q' : Int)
  rw [frs_last, frs_set φ q q' l l' O] at h1
  exact h.setO h1 (h.bel.setCell (Kd.R_base h.op g rfl) _) h2
/-- The last is closed. -/
theorem TrAt.pop {x : Nat × Nat × List Int} {g cap m : Nat} (h : TrAt w0 w v1 v2 (.slice (some ⟨g, 0, none⟩) (m + 1) cap) (x :: O) d) (hm : O.length = m) : TrAt w0 w v1 v2 (.slice (some ⟨g, 0, none⟩) m cap) O d := by
  subst hm
  have := Kd.R_take (m := O.length) h.op (by rw [frs_length]; simp)
  rw [frs_take] at this
  exact ⟨h.tr, h.tk, this, h.bel⟩
/-- A step is left. -/
theorem TrAt.leave {g n cap : Nat} (h : TrAt w0 w (.slice (some ⟨g, 0, none⟩) n cap) v2 v3 O d) (q : Nat) (hq : q < d.tree.length) : TrAt w0 (w.setCell ⟨g, q * 3 + 2, none⟩ (.int .i64 d.place)) (.slice (some ⟨g, 0, none⟩) n cap) v2 v3 O ((opsD inc64).lv d q) := by
  obtain ⟨h1, h2⟩ := step_put3 h.tr q hq d.place
  exact h.setT h1 (h.bel.setCell (Kd.R_base h.tr g rfl) _) h2 d.place d.depth
end
end Go.Proofs.YtcjcffcbfkimdaaDoor.Hand
