/- The texts that the statement's proof stands on, part 6: XRead XWrS XBackM XHd XOpens XBack. -/
import Derived.Test.YtcjcffcbfkimdaaDoorZa7bc8d7fe
import Derived.Deep.Slices
import Derived.ChangeSame
import Derived.SizedLaws
import Derived.Lib.SmallJoins
/- Contract: deriv.Read: the tree of a text, or what is wrong. -/
namespace Go.Proofs.YtcjcffcbfkimdaaDoor.Hand
open Go.RowKit Go.Proofs.YtcjcffcbfkimdaaDoorW.PrintWords Go.Proofs.YtcjcffcbfkimdaaDoorW.PrintMore Go.Proofs.YtcjcffcbfkimdaaDoor.Math

/-- The rules' text. -/
noncomputable def rowW (g : Gr) (R : List Int) : List UInt8 := (walkG (opsW decI) g.rules R true 0 []).getD []
theorem textW_row (g : Gr) (t : List (Int × Int × Int)) : textW g t = rowW g (t.map (·.1)) := rfl
/-- What is wrong with a text: the error, and the rule or the place. -/
noncomputable def readE (g : Gr) (T : ByteArray) : Nat × Int :=
  if (dmayN g 0).1 ≠ 0 then dmayN g 0
  else if 1048576 < T.size then (12, -1)
  else if 0 ≤ (scanS (tl T) 0 ss0).2 then (2, -2 - (scanS (tl T) 0 ss0).2)
  else if grt (scanS (tl T) 0 ss0).1 = true ∨ 131072 < (scanS (tl T) 0 ss0).1.length then (12, -1)
  else match grownD g (scanS (tl T) 0 ss0).1 true 0 0 with
    | none => (11, -1)
    | some _ => if rowW g (scanS (tl T) 0 ss0).1 = tl T then (0, -1) else (11, -1)
noncomputable def readL (g : Gr) (T : ByteArray) : List (Int × Int × Int) :=
  if (readE g T).1 = 0 then (match grownD g (scanS (tl T) 0 ss0).1 true 0 0 with | none => [] | some d => d.tree) else []
theorem readL_no {g : Gr} {T : ByteArray} (h : (readE g T).1 ≠ 0) : readL g T = [] := by unfold readL; rw [if_neg h]
theorem scan_pos {T : ByteArray} {R : List Int} (h : scanS (tl T) 0 ss0 = (R, -1)) : 0 < T.size := by
  rw [← tl_length]
  cases hl : tl T with
  | nil => rw [hl] at h; simp [scanS, ss0] at h
  | cons c l => simp
theorem readE_bad {g : Gr} {T : ByteArray} {p : Nat} (h0 : (dmayN g 0).1 = 0) (hT : T.size ≤ 1048576) (hp : scanS (tl T) 0 ss0 = ([], (p : Int))) : readE g T = (2, -2 - (p : Int)) := by
  unfold readE
  rw [if_neg (by omega), if_neg (by omega), hp, if_pos (show (0 : Int) ≤ (p : Int) by omega)]
theorem readE_big {g : Gr} {T : ByteArray} {R : List Int} (h0 : (dmayN g 0).1 = 0) (hT : T.size ≤ 1048576) (hp : scanS (tl T) 0 ss0 = (R, -1)) (h : grt R = true ∨ 131072 < R.length) : readE g T = (12, -1) := by
  unfold readE
  rw [if_neg (by omega), if_neg (by omega), hp, if_neg (show ¬ (0 : Int) ≤ -1 by omega), if_pos h]
theorem readE_none {g : Gr} {T : ByteArray} {R : List Int} (h0 : (dmayN g 0).1 = 0) (hT : T.size ≤ 1048576) (hp : scanS (tl T) 0 ss0 = (R, -1)) (h : ¬ (grt R = true ∨ 131072 < R.length)) (hd : grownD g R true 0 0 = none) : readE g T = (11, -1) := by
  unfold readE
  rw [if_neg (by omega), if_neg (by omega), hp, if_neg (show ¬ (0 : Int) ≤ -1 by omega), if_neg h]
  simp only
  rw [hd]
theorem readE_some {g : Gr} {T : ByteArray} {R : List Int} {d : DS} (h0 : (dmayN g 0).1 = 0) (hT : T.size ≤ 1048576) (hp : scanS (tl T) 0 ss0 = (R, -1)) (h : ¬ (grt R = true ∨ 131072 < R.length)) (hd : grownD g R true 0 0 = some d) : readE g T = if rowW g R = tl T then (0, -1) else (11, -1) := by
  unfold readE
  rw [if_neg (by omega), if_neg (by omega), hp, if_neg (show ¬ (0 : Int) ≤ -1 by omega), if_neg h]
  simp only
  rw [hd]
theorem readL_yes {g : Gr} {T : ByteArray} {R : List Int} {d : DS} (h : readE g T = (0, -1)) (hp : scanS (tl T) 0 ss0 = (R, -1)) (hd : grownD g R true 0 0 = some d) : readL g T = d.tree := by
  unfold readL
  rw [h, if_pos rfl, hp]
  simp only
  rw [hd]
/-- What Read leaves. -/
def ReadP (w : World) (g : Gr) (T : ByteArray) (A : Nat → Addr) (e : Ending) (w' : World) : Prop :=
  ∃ v u, e = .returned (.tuple #[v, u]) ∧ KStep.R 55 w' w.heap.size (fun _ => True) v (readL g T) ∧ ErrV w' A u (readE g T).1 (readE g T).2 ∧ Below w.heap.size w w'
theorem readP_no {w w' : World} {g : Gr} {T : ByteArray} {A : Nat → Addr} {u : Value} {k : Nat} {r : Int} (h : readE g T = (k, r)) (hk : k ≠ 0) (hu : ErrV w' A u k r) (hb : Below w.heap.size w w') : ReadP w g T A (.returned (.tuple #[.slice none 0 0, u])) w' :=
  ⟨_, u, rfl, by rw [readL_no (by rw [h]; exact hk)]; exact Kd.R_nil _ _ _ _ _, by rw [h]; exact hu, hb⟩
/-- The tree that is read, and its text by deriv.Text. -/
theorem text_read {g : Gr} {T : ByteArray} {R : List Int} {d : DS} (h0 : (dmayN g 0).1 = 0) (hl : R.length ≤ 131072) (hT : T.size ≤ 1048576) (hT0 : 0 < T.size) (hd : grownD g R true 0 0 = some d) : (textS g d.tree = T) = (rowW g R = tl T) := by
  have hr : d.tree.map (·.1) = R := walk_rules hd
  have hf := (walk_first hd).1
  have hlen : d.tree.length = R.length := by have := congrArg List.length hr; simpa using this
  have hm := dmayN_zero h0
  have h0' : (dmayN g d.tree.length).1 = 0 := by
    unfold dmayN at h0 ⊢
    split at h0
    · rename_i h; exact absurd h0 h
    · rename_i h
      rw [if_neg h]
      split at h0
      · cases h0
      · rename_i h2
        rw [if_neg h2, if_neg (by omega)]
  have hpl : ∃ n N, d.tree = (n, 0, d.place) :: N ∧ 0 ≤ d.place := by
    unfold grownD at hd
    have hto := walk_to hd
    have hB : ∀ r ∈ g.rules, r.2.length ≤ 32 := fun r hr => ruleN_len (hm.right.ruleN r hr)
    have hw2 := hd
    unfold walkG at hw2
    cases hn : nodeG (opsD inc64) g.rules R R.length true 0 none 1 (0, ⟨0, [], [], 0⟩) with
    | none => rw [hn] at hw2; cases hw2
    | some a =>
      rw [hn] at hw2
      simp only at hw2
      split at hw2
      · cases hw2
      · simp only [Option.some.injEq] at hw2
        subst hw2
        obtain ⟨s1, s2, s3, s4⟩ := node_size inc64 g.rules R 32 hB _ _ _ _ _ _ _ hn rfl
        simp only [List.length_nil] at s4
        obtain ⟨o1, n, N, o2, o3, o4⟩ := node_order inc64 g.rules R 0 a.2.tokens.length (fun x hx1 hx2 => inc64_low x (by omega) (by omega)) hm.ne R.length true 0 none 1 _ _ hn rfl (by simp) (Nat.le_refl _)
        simp only [List.nil_append] at o2
        exact ⟨n, N, o2, by omega⟩
  obtain ⟨n, N, e1, e2⟩ := hpl
  have ht : treeD g d.tree = some d := by unfold treeD; rw [hr, e1]; exact hd
  have hk : knownE g d.tree = (0, -1) := known_mk h0' (by omega) (by rw [e1]; exact Int.le_refl _) (by rw [e1]; exact e2) ht rfl
  have hw : textW g d.tree = rowW g R := by rw [textW_row, hr]
  have hte : textE g d.tree = if 1048576 < (rowW g R).length then (12, -1) else (0, -1) := by
    unfold textE
    rw [hk, hw]
    rfl
  unfold textS
  rw [hte, hw]
  have hTe : (tl T).length = T.size := tl_length T
  by_cases hbig : 1048576 < (rowW g R).length
  · rw [if_pos hbig, if_neg (by simp)]
    refine propext ⟨fun h => ?_, fun h => ?_⟩
    · rw [← h] at hT0; exact absurd hT0 (by decide)
    · rw [h, hTe] at hbig; omega
  · rw [if_neg hbig, if_pos rfl]
    refine propext ⟨fun h => ?_, fun h => ?_⟩
    · rw [← h]; rfl
    · rw [h]; rfl
theorem ErrV.setNil {w : World} {A : Nat → Addr} {v : Value} {k : Nat} {r : Int} (h : ErrV w A v k r) {p : Addr} (hc : w.cell? p = some .nilIface) (u : Value) : ErrV (w.setCell p u) A v k r := by
  cases h with
  | none => exact .none
  | sent i hi => exact .sent i hi
  | rule i hi pb po r h0 h1 => exact .rule i hi pb po r ((World.cell?_setCell_other w _ _ _ (fun e => by rw [e] at hc; rw [hc] at h0; cases h0)).trans h0) ((World.cell?_setCell_other w _ _ _ (fun e => by rw [e] at hc; rw [hc] at h1; cases h1)).trans h1)
  | place i hi pb po r h0 h1 hr => exact .place i hi pb po r ((World.cell?_setCell_other w _ _ _ (fun e => by rw [e] at hc; rw [hc] at h0; cases h0)).trans h0) ((World.cell?_setCell_other w _ _ _ (fun e => by rw [e] at hc; rw [hc] at h1; cases h1)).trans h1) hr
set_option maxRecDepth 20000 in
theorem rcatch_panicking (p : Addr) (x : Value) (te : TypeId) (ue : Value) (older : List PanicEntry) (w : World) (hc : w.cell? p = some x) (hz : w.frozen? p = false) :
    CallsD Tryd.prog 47 #[.pointer (some p)] (.panicking ({ v := .iface 92 (.agg #[.iface te ue]), recovered := false } :: older)) w fun e u' w' =>
      e = .returned (.tuple #[]) ∧ u' = .panicking ({ v := .iface 92 (.agg #[.iface te ue]), recovered := true } :: older) ∧ ∃ w1, Below w.heap.size w w1 ∧ w' = w1.setCell p (.iface te ue) := by
  refine callsD_of_wpS Tryd.func47 rfl fun c₀ cs hu => ?_
  apply wpS_seq
  apply wpS_region
  simp [wpOpsS, go_sem, recoverD, hu, Tryd.ntmps47, Exit.thenS]
  refine wpS_of_wp ?_
  rw [rep19]
  simp only [List.setIfInBounds_toArray, List.set_cons_succ, List.set_cons_zero, List.append_toArray, List.cons_append, List.nil_append]
  have h1 := ta_fault
  have hpl := World.block_lt_of_cell? w _ hc
  have hc' : ∀ o, (w.alloc o).cell? p = some x := fun o => by rw [World.cell?_alloc_lt _ _ _ hpl]; exact hc
  have hz' : ∀ o, (w.alloc o).frozen? p = false := fun o => by rw [World.frozen?_alloc_old _ _ p (Nat.ne_of_lt hpl)]; exact hz
  go_wp2
  simp [bodyPostS, results, Tryd.results47, go_sem]
  exact ⟨_, below_alloc (Below.refl _ _) _, rfl⟩
set_option maxRecDepth 20000 in
theorem rcatch_idle (p : Addr) (w : World) :
    CallsD Tryd.prog 47 #[.pointer (some p)] .returning w fun e u' w' => e = .returned (.tuple #[]) ∧ u' = .returning ∧ Below w.heap.size w w' := by
  refine callsD_of_wpS Tryd.func47 rfl fun c₀ cs hu => ?_
  apply wpS_seq
  apply wpS_region
  simp [wpOpsS, go_sem, recoverD, hu, Tryd.ntmps47, Exit.thenS]
  refine wpS_of_wp ?_
  rw [rep19]
  simp only [List.setIfInBounds_toArray, List.set_cons_succ, List.set_cons_zero, List.append_toArray, List.cons_append, List.nil_append]
  have h1 := ta_nil
  go_wp2
  simp [bodyPostS, results, Tryd.results47, go_sem]
  exact ⟨.returning, by cases c₀; simp_all, rfl, below_alloc (Below.refl _ _) _⟩
theorem put_keep {w : World} {P q : Addr} {x : Value} (hP : w.cell? P = some .nilIface) (hq : w.cell? q = some x) (hx : x ≠ .nilIface) (u : Value) : (w.setCell P u).cell? q = some x :=
  (World.cell?_setCell_other w P q u (fun e => by subst e; rw [hq] at hP; exact hx (Option.some.inj hP))).trans hq
theorem nilCell {w1 w2 : World} (hw : w1.alloc (.cells #[.nilIface] 31) = w2) (W : World) (hW : Below w2.heap.size w2 W) : W.cell? ⟨w1.heap.size, 0, none⟩ = some .nilIface ∧ W.frozen? ⟨w1.heap.size, 0, none⟩ = false := by
  have ce : w2.cell? ⟨w1.heap.size, 0, none⟩ = some .nilIface := by rw [← hw]; simp [go_sem]
  have fe : w2.frozen? ⟨w1.heap.size, 0, none⟩ = false := by rw [← hw]; simp [go_sem]
  exact ⟨(hW.cell (World.block_lt_of_cell? _ _ ce)).trans ce, (hW.frozen (World.block_lt_of_cell? _ _ ce)).trans fe⟩
set_option maxHeartbeats 4000000 in
set_option maxRecDepth 100000 in
theorem read_calls (v : Value) (g : Gr) (T : ByteArray) (w : World) (A : Nat → Addr) (hE : Errs w A) (hv : GramAt w v g) (hp : Pow10 w) :
    Calls Tryd.prog 29 #[v, .string T] w (ReadP w g T A) := by
  have HV := Lib.hid hv
  obtain ⟨AT, cT, AN, cN, AR, cR, rfl, q1, q2, q3, q4, q5, q6⟩ := hv
  obtain ⟨w1, hw1⟩ : ∃ w1, w.alloc (.cells #[.slice AT g.terms.length cT, .slice AN g.nonterms.length cN, .int .i64 g.ax, .slice AR g.rules.length cR] 25) = w1 := ⟨_, rfl⟩
  have hb1 : Below w.heap.size w w1 := by rw [← hw1]; exact below_alloc (Below.refl _ _) _
  have hs1 : w1.heap.size = w.heap.size + 1 := by rw [← hw1]; simp
  have hk1 : w1.heap[w.heap.size]? = some (.cells #[.slice AT g.terms.length cT, .slice AN g.nonterms.length cN, .int .i64 g.ax, .slice AR g.rules.length cR] 25 (0, 0)) := by rw [← hw1]; exact heap_alloc_new w _
  obtain ⟨w2, hw2⟩ : ∃ w2, w1.alloc (.cells #[.nilIface] 31) = w2 := ⟨_, rfl⟩
  have hb2 : Below w1.heap.size w1 w2 := by rw [← hw2]; exact below_alloc (Below.refl _ _) _
  have HN := Lib.hid (nilCell hw2)
  obtain ⟨P, hP⟩ : ∃ P : Addr, ⟨w1.heap.size, 0, none⟩ = P := ⟨_, rfl⟩
  have hPb : w.heap.size ≤ P.block := by rw [← hP]; show w.heap.size ≤ w1.heap.size; omega
  have HB2 := Lib.hid (below_next hb1 hb2)
  have HK2 := Lib.hid (blk_below hk1 hb2)
  have HE2 := Lib.hid (hE.below HB2.out)
  have HG2 := Lib.hid (HV.out.below HB2.out)
  have HR2 := Lib.hid (Kd.C_below q6 HB2.out)
  have HP2 := Lib.hid (hp.below HB2.out)
  have HPb := Lib.hid hPb
  obtain ⟨c0, c1, c2, c3⟩ := gr_blk HK2.out
  have hmf : ∀ (fn : Fn) (first cap : Array Value) (w : World), (Instr.makeFunc fn first cap).run Tryd.prog w = .ok (.func fn first cap) w := fun _ _ _ _ => rfl
  have HM := Lib.hid (may_calls _ g 0 w2 A HE2.out HG2.out)
  rw [hP] at HN
  rw [show ((0 : Nat) : Int) = 0 from rfl] at HM
  have hP2 : (⟨w.heap.size + 1, 0, none⟩ : Addr) = P := by rw [← hP, hs1]
  have hw2' : (w.alloc (.cells #[.slice AT g.terms.length cT, .slice AN g.nonterms.length cN, .int .i64 g.ax, .slice AR g.rules.length cR] 25)).alloc (.cells #[.nilIface] 31) = w2 := by rw [hw1]; exact hw2
  have HE0 := Lib.hid hE
  have HP0 := Lib.hid hp
  clear hb1 hk1 hb2 hE hp q4 q5 q6 hPb hw1 hw2 hs1 hP
  by_cases h0 : (dmayN g 0).1 = 0
  · have HM0 : Hid (Calls Tryd.prog 34 _ w2 fun e w' => e = .returned .nilIface ∧ Below w2.heap.size w2 w') := Lib.hid (HM.out.mono (by
      rintro e w' ⟨u, rfl, hu, hb⟩
      rcases hu.nil_iff with ⟨_, rfl⟩ | ⟨h, _⟩
      · exact ⟨rfl, hb⟩
      · omega))
    clear HM
    by_cases hbig : 1048576 < T.size
    · have HF : Hid (readE g T = (12, -1)) := Lib.hid (by unfold readE; rw [if_neg (by omega), if_pos hbig])
      have hbI : (1048576 : Int) < (T.size : Int) := by omega
      have hg11 : 1 < w2.heap.size := World.block_lt_of_cell? w2 _ (HE2.out.cells 11 (by omega))
      clear h0
      go_enter_defers Tryd.func29, Tryd.ntmps29
      go_upto_region 1 with (fail)
      clear hw2' hP2
      go_upto_region 5 with (go_at_call 34; refine HM0.out.mono ?_; rintro e w3 ⟨rfl, hb3⟩; have HB3 := Lib.hid hb3; have ce3 := (HN.out _ hb3).1; have fe3 := (HN.out _ hb3).2; clear hb3 c0 c1 c2 c3)
      have d0 : w3.cell? ⟨1, 0, none⟩ = some (.iface 175 (.pointer (some (A 11)))) := (HE2.out.below HB3.out).cells 11 (by omega)
      have D0 : Hid (∀ n, (w3.drewN n).cell? ⟨1, 0, none⟩ = some (.iface 175 (.pointer (some (A 11))))) := Lib.hid (fun n => by rw [World.cell?_drewN]; exact d0)
      have D1 : Hid ((w3.setCell P (.iface 175 (.pointer (some (A 11))))).drew.cell? ⟨1, 0, none⟩ = some (.iface 175 (.pointer (some (A 11))))) := Lib.hid (by
        rw [World.cell?_drew, World.cell?_setCell_other _ _ _ _ (by intro e; rw [e, d0] at ce3; cases ce3)]; exact d0)
      go_region_held3 (fun w' => w'.cell? ⟨1, 0, none⟩ = some (.iface 175 (.pointer (some (A 11)))))
        (first
          | exact D1.out
          | exact D0.out 1
          | exact d0)
        (fail)
      have hcs := World.cell?_setCell_same (w := w3) (a := P) (v := .iface 175 (.pointer (some (A 11)))) ce3
      go_wp2
      unfold bodyPostD Leaves
      simp [results, Tryd.results29, go_sem, hcs]
      exact readP_no HF.out (by simp) (.sent 11 (by omega)) (pw_below_drewN ((below_next HB2.out HB3.out).setCell HPb.out _) 1)
    · have hbI : ¬ (1048576 : Int) < (T.size : Int) := by omega
      have hbN : T.size ≤ 1048576 := by omega
      have HX := Lib.hid h0
      clear h0
      go_enter_defers Tryd.func29, Tryd.ntmps29
      go_upto_region 1 with (fail)
      clear hw2' hP2
      go_upto_region 8 with (go_at_call 34; refine HM0.out.mono ?_; rintro e w3 ⟨rfl, hb3⟩; have HB3 := Lib.hid hb3; clear hb3 c0 c1 c2 c3)
      obtain ⟨w4, hw4⟩ : ∃ w4, w3.alloc (.cells #[.string T, .int .i64 0, .int .i64 0, .slice none 0 0, .bool false] 96) = w4 := ⟨_, rfl⟩
      obtain ⟨b, hb⟩ : ∃ b, w3.heap.size = b := ⟨_, rfl⟩
      have h4 : RdS w3 w4 b T .opens 0 0 (.slice none 0 0) [] := ⟨⟨by rw [← hw4, ← hb]; exact heap_alloc_new w3 _, Kd.R_nil _ _ _ _ _, by rw [← hw4]; exact below_alloc (Below.refl _ _) _, by rw [hb]; exact Nat.le_refl _⟩, scn_start _, Nat.le_refl _, Nat.le_refl _⟩
      have HE3 := Lib.hid (HE2.out.below HB3.out)
      have HOp := Lib.hid (opens_calls HE3.out h4 hbN)
      rw [hw4, hb]
      have HN3 : Hid (∀ W, Below w3.heap.size w3 W → W.cell? P = some .nilIface ∧ W.frozen? P = false) := Lib.hid (fun W hW => HN.out W (below_next HB3.out hW))
      have HB3' := Lib.hid (below_next HB2.out HB3.out)
      clear hw4 hb h4
      go_upto_region 9 with (go_at_call 48; refine HOp.out.mono ?_; rintro e w5 (⟨p, hp, q, rfl, h1, h2⟩ | ⟨md, i, o, vv, R, fn, HFv, rfl, h1, h2⟩))
      · have Hp := Lib.hid hp
        have H1 := Lib.hid h1
        have H2 := Lib.hid h2
        clear hp h1 h2
        refine leaves_cons (f := 47) (args := #[.pointer (some P)]) (by simp) (by simp [go_sem]) ?_
        refine (rcatch_panicking P .nilIface _ _ [] w5 (HN3.out w5 H2.out).1 (HN3.out w5 H2.out).2).mono ?_
        rintro e u' w'' ⟨rfl, rfl, w6, hb6, rfl⟩
        have hc6 := (HN3.out w6 (below_next H2.out hb6)).1
        have hcs := World.cell?_setCell_same (w := w6) (a := P) (v := .iface 121 (.pointer (some ⟨q, 0, none⟩))) hc6
        simp [Leaves, settle, results, Tryd.results29, go_sem, hcs]
        exact readP_no (readE_bad HX.out hbN Hp.out) (by simp) ((H1.out.below hb6).setNil hc6 _) ((below_next (below_next HB3'.out H2.out) hb6).setCell HPb.out _)
      · have H1 := Lib.hid h1
        have hi1 : i ≤ T.size := by have := h1.scn.le; rwa [tl_length] at this
        clear h1
        clear HOp
        go_loopg [8] (T.size + 1 - i) (fun m v wr => ∃ (md : Md) (i o : Nat) (vv : Value) (R : List Int), Hid (fv b md = v) ∧ i ≤ T.size ∧ m = T.size + 1 - i ∧ Hid (RdS w3 wr b T md i o vv R))
        case atStart => exact ⟨md, i, o, vv, R, HFv, hi1, rfl, H1⟩
        case round =>
          clear H1 hi1 h2 HFv
          have hneq : ∀ (fn : Fn) (first cap : Array Value) (w : World), (binOp .neq 98 (.func fn first cap) .nilFunc).run Tryd.prog w = .ok (.bool true) w := fun _ _ _ _ => by kernel_rfl
          have hneq0 : ∀ (w : World), (binOp .neq 98 .nilFunc .nilFunc).run Tryd.prog w = .ok (.bool false) w := fun _ => by kernel_rfl
          obtain ⟨md, i, o, vv, R, HFv3, hi1, hm, H1⟩ := hrel
          obtain ⟨w6, rfl⟩ : ∃ wo : World, wo = wr := ⟨_, rfl⟩
          have HM := Lib.hid hm
          clear hm
          cases md with
          | opens =>
            have HC := Lib.hid (opens_calls HE3.out H1.out hbN)
            obtain rfl := HFv3.out
            clear HFv3
            simp only [fv]
            go_wp2_with (go_at_call 48; refine HC.out.mono ?_; rintro e w7 (⟨p, hp, q, rfl, h1, h2⟩ | ⟨md2, i2, o2, vv2, R2, fn2, HFv2, rfl, h1, h2⟩))
            · have Hp := Lib.hid hp
              have H3 := Lib.hid h1
              have H2 := Lib.hid h2
              clear hp h1 h2
              refine leaves_cons (f := 47) (args := #[.pointer (some P)]) (by simp) (by simp [go_sem]) ?_
              refine (rcatch_panicking P .nilIface _ _ [] w7 (HN3.out w7 H2.out).1 (HN3.out w7 H2.out).2).mono ?_
              rintro e u' w'' ⟨rfl, rfl, w6, hb6, rfl⟩
              have hc6 := (HN3.out w6 (below_next H2.out hb6)).1
              have hcs := World.cell?_setCell_same (w := w6) (a := P) (v := .iface 121 (.pointer (some ⟨q, 0, none⟩))) hc6
              simp [Leaves, settle, results, Tryd.results29, go_sem, hcs]
              exact readP_no (readE_bad HX.out hbN Hp.out) (by simp) ((H3.out.below hb6).setNil hc6 _) ((below_next (below_next HB3'.out H2.out) hb6).setCell HPb.out _)
            · have H3 := Lib.hid h1
              have hi2 : i2 ≤ T.size := by have := h1.scn.le; rwa [tl_length] at this
              clear h1
              go_roundg (T.size + 1 - i2)
              case rel => exact ⟨md2, i2, o2, vv2, R2, HFv2, hi2, rfl, H3⟩
              case measure => have := HM.out; omega
          | within =>
            have HC := Lib.hid (within_calls HE3.out H1.out hbN)
            obtain rfl := HFv3.out
            clear HFv3
            simp only [fv]
            go_wp2_with (go_at_call 66; refine HC.out.mono ?_; rintro e w7 (⟨p, hp, q, rfl, h1, h2⟩ | ⟨md2, i2, o2, vv2, R2, fn2, HFv2, rfl, h1, h2⟩))
            · have Hp := Lib.hid hp
              have H3 := Lib.hid h1
              have H2 := Lib.hid h2
              clear hp h1 h2
              refine leaves_cons (f := 47) (args := #[.pointer (some P)]) (by simp) (by simp [go_sem]) ?_
              refine (rcatch_panicking P .nilIface _ _ [] w7 (HN3.out w7 H2.out).1 (HN3.out w7 H2.out).2).mono ?_
              rintro e u' w'' ⟨rfl, rfl, w6, hb6, rfl⟩
              have hc6 := (HN3.out w6 (below_next H2.out hb6)).1
              have hcs := World.cell?_setCell_same (w := w6) (a := P) (v := .iface 121 (.pointer (some ⟨q, 0, none⟩))) hc6
              simp [Leaves, settle, results, Tryd.results29, go_sem, hcs]
              exact readP_no (readE_bad HX.out hbN Hp.out) (by simp) ((H3.out.below hb6).setNil hc6 _) ((below_next (below_next HB3'.out H2.out) hb6).setCell HPb.out _)
            · have H3 := Lib.hid h1
              have hi2 : i2 ≤ T.size := by have := h1.scn.le; rwa [tl_length] at this
              clear h1
              go_roundg (T.size + 1 - i2)
              case rel => exact ⟨md2, i2, o2, vv2, R2, HFv2, hi2, rfl, H3⟩
              case measure => have := HM.out; omega
          | done =>
            obtain rfl := HFv3.out
            clear HFv3
            simp only [fv]
            have c1 := H1.out.mem.c1
            by_cases hlt : i < T.size
            · have hltI : (i : Int) < (T.size : Int) := by omega
              have HW := Lib.hid (wrong_calls HE3.out H1.out.mem)
              have Hp : Hid (scanS (tl T) 0 ss0 = ([], (i : Int))) := Lib.hid (H1.out.scn.done_end.1 (by rw [tl_length]; exact hlt))
              go_wp2_with (go_at_call 49; refine HW.out.mono ?_; rintro e w7 ⟨q, rfl, h1, h2⟩; have H3 := Lib.hid h1; have H2 := Lib.hid h2; clear h1 h2)
              refine leaves_cons (f := 47) (args := #[.pointer (some P)]) (by simp) (by simp [go_sem]) ?_
              refine (rcatch_panicking P .nilIface _ _ [] w7 (HN3.out w7 H2.out).1 (HN3.out w7 H2.out).2).mono ?_
              rintro e u' w'' ⟨rfl, rfl, w6, hb6, rfl⟩
              have hc6 := (HN3.out w6 (below_next H2.out hb6)).1
              have hcs := World.cell?_setCell_same (w := w6) (a := P) (v := .iface 121 (.pointer (some ⟨q, 0, none⟩))) hc6
              simp [Leaves, settle, results, Tryd.results29, go_sem, hcs]
              exact readP_no (readE_bad HX.out hbN Hp.out) (by simp) ((H3.out.below hb6).setNil hc6 _) ((below_next (below_next HB3'.out H2.out) hb6).setCell HPb.out _)
            · have hltI : ¬ (i : Int) < (T.size : Int) := by omega
              have hie : i = T.size := by omega
              have Hp : Hid (scanS (tl T) 0 ss0 = (R, -1)) := Lib.hid (H1.out.scn.done_end.2 (by rw [tl_length]; exact hie))
              have c3 := H1.out.mem.c3
              have c4 := H1.out.mem.c4
              have Hie := Lib.hid hie
              clear hie hlt
              obtain ⟨A9, c9, e9⟩ := Kd.R_slice H1.out.mem.rl
              subst e9
              have hc9 : R.length ≤ c9 := (Kd.R_reads' H1.out.mem.rl).2.1
              have HBw := Lib.hid (below_next HB3'.out H1.out.mem.bel)
              have ce6 := (HN3.out _ H1.out.mem.bel).1
              have fe6 := (HN3.out _ H1.out.mem.bel).2
              by_cases hbg : grt R = true ∨ 131072 < R.length
              · have HF := Lib.hid (readE_big HX.out hbN Hp.out hbg)
                have d0 : w6.cell? ⟨1, 0, none⟩ = some (.iface 175 (.pointer (some (A 11)))) := (HE0.out.below HBw.out).cells 11 (by omega)
                have D0 : Hid (∀ n, (w6.drewN n).cell? ⟨1, 0, none⟩ = some (.iface 175 (.pointer (some (A 11))))) := Lib.hid (fun n => by rw [World.cell?_drewN]; exact d0)
                have D1 : Hid ((w6.setCell P (.iface 175 (.pointer (some (A 11))))).drew.cell? ⟨1, 0, none⟩ = some (.iface 175 (.pointer (some (A 11))))) := Lib.hid (by
                  rw [World.cell?_drew]; exact put_keep ce6 d0 (by simp) _)
                cases hg : grt R with
                | true =>
                  rw [hg] at c4
                  clear hg hbg
                  go_upto_region 14 with (fail)
                  go_region_held3 (fun w' => w'.cell? ⟨1, 0, none⟩ = some (.iface 175 (.pointer (some (A 11)))))
                    (first
                      | exact D1.out
                      | exact D0.out 1
                      | exact d0)
                    (fail)
                  have hcs := World.cell?_setCell_same (w := w6) (a := P) (v := .iface 175 (.pointer (some (A 11)))) ce6
                  go_wp2
                  refine leaves_cons (f := 47) (args := #[.pointer (some P)]) (by simp) (by simp [go_sem]) ?_
                  refine (rcatch_idle P _).mono ?_
                  rintro e u' w'' ⟨rfl, rfl, hbi⟩
                  have hb2 := (below_drew (Below.refl (w6.setCell P (.iface 175 (.pointer (some (A 11))))).heap.size (w6.setCell P (.iface 175 (.pointer (some (A 11))))))).trans hbi
                  have hcs2 := (hb2.cell (World.block_lt_of_cell? _ _ hcs)).trans hcs
                  simp [Leaves, settle, results, Tryd.results29, go_sem, hcs2]
                  exact readP_no HF.out (by simp) (.sent 11 (by omega)) (below_next (HBw.out.setCell HPb.out _) hb2)
                | false =>
                  rw [hg] at c4
                  have hl : 131072 < R.length := by rcases hbg with h | h <;> simp_all
                  have hlI : (131072 : Int) < (R.length : Int) := by omega
                  clear hg hbg
                  go_upto_region 14 with (fail)
                  go_region_held3 (fun w' => w'.cell? ⟨1, 0, none⟩ = some (.iface 175 (.pointer (some (A 11)))))
                    (first
                      | exact D1.out
                      | exact D0.out 1
                      | exact d0)
                    (fail)
                  have hcs := World.cell?_setCell_same (w := w6) (a := P) (v := .iface 175 (.pointer (some (A 11)))) ce6
                  go_wp2
                  refine leaves_cons (f := 47) (args := #[.pointer (some P)]) (by simp) (by simp [go_sem]) ?_
                  refine (rcatch_idle P _).mono ?_
                  rintro e u' w'' ⟨rfl, rfl, hbi⟩
                  have hb2 := (below_drew (Below.refl (w6.setCell P (.iface 175 (.pointer (some (A 11))))).heap.size (w6.setCell P (.iface 175 (.pointer (some (A 11))))))).trans hbi
                  have hcs2 := (hb2.cell (World.block_lt_of_cell? _ _ hcs)).trans hcs
                  simp [Leaves, settle, results, Tryd.results29, go_sem, hcs2]
                  exact readP_no HF.out (by simp) (.sent 11 (by omega)) (below_next (HBw.out.setCell HPb.out _) hb2)
              · have hg : grt R = false := by cases h : grt R <;> simp_all
                have hl : R.length ≤ 131072 := by omega
                have hlI : ¬ (131072 : Int) < (R.length : Int) := by omega
                rw [hg] at c4
                have HBg := Lib.hid hbg
                clear hbg hg
                go_upto_region 15 with (fail)
                obtain ⟨e0, e1, e2, e3⟩ := gr_blk (blk_below HK2.out (below_next HB3.out H1.out.mem.bel))
                have HS : Hid (∀ W, Below w6.heap.size w6 W → W.cell? ⟨w.heap.size, 0, none⟩ = some (.slice AT g.terms.length cT) ∧ W.cell? ⟨w.heap.size, 1, none⟩ = some (.slice AN g.nonterms.length cN) ∧ W.cell? ⟨w.heap.size, 2, none⟩ = some (.int .i64 g.ax) ∧ W.cell? ⟨w.heap.size, 3, none⟩ = some (.slice AR g.rules.length cR) ∧ W.cell? ⟨b, 3, none⟩ = some (.slice A9 R.length c9)) := Lib.hid (fun W hW =>
                  ⟨(hW.cell (World.block_lt_of_cell? _ _ e0)).trans e0, (hW.cell (World.block_lt_of_cell? _ _ e1)).trans e1, (hW.cell (World.block_lt_of_cell? _ _ e2)).trans e2, (hW.cell (World.block_lt_of_cell? _ _ e3)).trans e3, (hW.cell (World.block_lt_of_cell? _ _ c3)).trans c3⟩)
                have HWk := Lib.hid (fun (W : World) (hW : Below w6.heap.size w6 W) => walk_calls g AT AN AR A9 cT cN cR c9 R A true 0 0 W ((dmayN_zero HX.out).walk (HE0.out.below (below_next HBw.out hW)) (Kd.C_below HR2.out (below_next (below_next HB3.out H1.out.mem.bel) hW)) (Kd.C_below (Kd.R_reads' H1.out.mem.rl).2.2 hW) (by omega)) hc9)
                have HDr : Hid (Below w6.heap.size w6 w6.drew) := Lib.hid (pw_below_drewN (Below.refl _ _) 1)
                have HSP : Hid (∀ W u, Below w6.heap.size w6 W → (W.setCell P u).cell? ⟨w.heap.size, 0, none⟩ = some (.slice AT g.terms.length cT) ∧ (W.setCell P u).cell? ⟨w.heap.size, 1, none⟩ = some (.slice AN g.nonterms.length cN) ∧ (W.setCell P u).cell? ⟨w.heap.size, 2, none⟩ = some (.int .i64 g.ax) ∧ (W.setCell P u).cell? ⟨w.heap.size, 3, none⟩ = some (.slice AR g.rules.length cR) ∧ (W.setCell P u).cell? ⟨b, 3, none⟩ = some (.slice A9 R.length c9)) := Lib.hid (fun W u hW => by
                  obtain ⟨a0, a1, a2, a3, a4⟩ := HS.out W hW
                  have hp := (HN3.out W (below_next H1.out.mem.bel hW)).1
                  exact ⟨put_keep hp a0 (by simp) u, put_keep hp a1 (by simp) u, put_keep hp a2 (by simp) u, put_keep hp a3 (by simp) u, put_keep hp a4 (by simp) u⟩)
                cases hd : grownD g R true 0 0 with
                | none =>
                  have HF := Lib.hid (readE_none HX.out hbN Hp.out HBg.out hd)
                  have HWN : Hid (∀ W, Below w6.heap.size w6 W → Calls Tryd.prog 35 #[.agg #[.slice AT g.terms.length cT, .slice AN g.nonterms.length cN, .int .i64 g.ax, .slice AR g.rules.length cR], .slice A9 R.length c9, .int .i64 0, .int .i64 0, .bool true] W fun e w' => ∃ v, e = .returned (.tuple #[v, .iface 175 (.pointer (some (A 10)))]) ∧ Below W.heap.size W w') := Lib.hid (fun W hW => by
                    have := HWk.out W hW
                    have e : walkG (opsD inc64) g.rules R true 0 ⟨0, [], [], 0⟩ = none := hd
                    rw [e] at this
                    exact this)
                  clear hd HWk
                  go_region_held3 (fun w' => w'.cell? ⟨w.heap.size, 0, none⟩ = some (.slice AT g.terms.length cT) ∧ w'.cell? ⟨w.heap.size, 1, none⟩ = some (.slice AN g.nonterms.length cN) ∧ w'.cell? ⟨w.heap.size, 2, none⟩ = some (.int .i64 g.ax) ∧ w'.cell? ⟨w.heap.size, 3, none⟩ = some (.slice AR g.rules.length cR) ∧ w'.cell? ⟨b, 3, none⟩ = some (.slice A9 R.length c9))
                    (first
                      | exact HS.out _ (Below.refl _ _)
                      | exact HS.out _ HDr.out
                      | exact HS.out _ HB7.out
                      | exact HSP.out _ _ HB7.out
                      | (trace_state; sorry))
                    (first
                      | (go_at_call 35; (with_reducible refine (HWN.out w6.drew HDr.out).mono ?_); rintro e w7 ⟨v7, rfl, hb7⟩; have HB7 := Lib.hid (below_next HDr.out hb7); have ce7 := (HN3.out _ (below_next H1.out.mem.bel HB7.out)).1; have fe7 := (HN3.out _ (below_next H1.out.mem.bel HB7.out)).2; clear hb7)
                      | (go_at_call 35; trace_state; sorry))
                  obtain ⟨w8, hw8⟩ : ∃ w8, w7.setCell P (.iface 175 (.pointer (some (A 10)))) = w8 := ⟨_, rfl⟩
                  have p8 : w8.cell? P = some (.iface 175 (.pointer (some (A 10)))) := by rw [← hw8]; exact World.cell?_setCell_same _ _ _ ce7
                  have f8 : w8.frozen? P = false := by rw [← hw8, World.frozen?_setCell]; exact fe7
                  have HB8 : Hid (Below w.heap.size w w8) := Lib.hid (by rw [← hw8]; exact (below_next HBw.out HB7.out).setCell HPb.out _)
                  have hcs := World.cell?_setCell_same (w := w8) (a := P) (v := .iface 175 (.pointer (some (A 10)))) p8
                  have D1 : Hid ((w8.setCell P (.iface 175 (.pointer (some (A 10))))).drew.cell? P = some (.iface 175 (.pointer (some (A 10))))) := Lib.hid (by rw [World.cell?_drew]; exact hcs)
                  have D0 : Hid (w8.drew.cell? P = some (.iface 175 (.pointer (some (A 10))))) := Lib.hid (by rw [World.cell?_drew]; exact p8)
                  rw [hw8]
                  clear hw8 e0 e1 e2 e3 c1 c3 c4 ce6 fe6 ce7 fe7
                  go_upto_region 17 with (fail)
                  go_region_held3 (fun w' => w'.cell? P = some (.iface 175 (.pointer (some (A 10)))))
                    (first
                      | exact D1.out
                      | exact D0.out
                      | exact p8)
                    (fail)
                  go_wp2
                  refine leaves_cons (f := 47) (args := #[.pointer (some P)]) (by simp) (by simp [go_sem]) ?_
                  refine (rcatch_idle P _).mono ?_
                  rintro e u' w'' ⟨rfl, rfl, hbi⟩
                  have hb2 := (below_drew (Below.refl (w8.setCell P (.iface 175 (.pointer (some (A 10))))).heap.size (w8.setCell P (.iface 175 (.pointer (some (A 10))))))).trans hbi
                  have hcs2 := (hb2.cell (World.block_lt_of_cell? _ _ hcs)).trans hcs
                  simp [Leaves, settle, results, Tryd.results29, go_sem, hcs2]
                  exact readP_no HF.out (by simp) (.sent 10 (by omega)) (below_next (HB8.out.setCell HPb.out _) hb2)
                | some d =>
                  have HF := Lib.hid (readE_some HX.out hbN Hp.out HBg.out hd)
                  have HTr := Lib.hid (text_read HX.out hl hbN (scan_pos Hp.out) hd)
                  have Hd := Lib.hid hd
                  have HWS : Hid (∀ W, Below w6.heap.size w6 W → Calls Tryd.prog 35 #[.agg #[.slice AT g.terms.length cT, .slice AN g.nonterms.length cN, .int .i64 g.ax, .slice AR g.rules.length cR], .slice A9 R.length c9, .int .i64 0, .int .i64 0, .bool true] W fun e w' => ∃ b2 i2 A7 n7 c7 vk, e = .returned (.tuple #[.pointer (some ⟨b2, 0, none⟩), .nilIface]) ∧ Hid (n7 = d.tree.length) ∧ WkAt W w' b2 (.slice AT g.terms.length cT) (.slice AN g.nonterms.length cN) (.slice AR g.rules.length cR) g.ax (.slice A9 R.length c9) i2 d (.slice A7 n7 c7) vk) := Lib.hid (fun W hW => by
                    refine (HWk.out W hW).mono ?_
                    have e : walkG (opsD inc64) g.rules R true 0 ⟨0, [], [], 0⟩ = some d := hd
                    rw [e]
                    rintro e w' ⟨b2, i2, vt, vk, h1, h2⟩
                    obtain ⟨A7, c7, e7⟩ := Kd.R_slice h2.tr
                    subst e7
                    exact ⟨b2, i2, A7, _, c7, vk, h1, Lib.hid rfl, h2⟩)
                  clear hd HWk
                  go_region_held3 (fun w' => w'.cell? ⟨w.heap.size, 0, none⟩ = some (.slice AT g.terms.length cT) ∧ w'.cell? ⟨w.heap.size, 1, none⟩ = some (.slice AN g.nonterms.length cN) ∧ w'.cell? ⟨w.heap.size, 2, none⟩ = some (.int .i64 g.ax) ∧ w'.cell? ⟨w.heap.size, 3, none⟩ = some (.slice AR g.rules.length cR) ∧ w'.cell? ⟨b, 3, none⟩ = some (.slice A9 R.length c9))
                    (first
                      | exact HS.out _ (Below.refl _ _)
                      | exact HS.out _ HDr.out
                      | exact HS.out _ HB7.out
                      | exact HSP.out _ _ HB7.out)
                    ((go_at_call 35; (with_reducible refine (HWS.out w6.drew HDr.out).mono ?_); rintro e w7 ⟨b2, i2, A7, n7, c7, vk, rfl, HN7, hw7⟩; have HW7 := Lib.hid hw7; have HB7 := Lib.hid (below_next HDr.out hw7.bel); have ce7 := (HN3.out _ (below_next H1.out.mem.bel HB7.out)).1; have fe7 := (HN3.out _ (below_next H1.out.mem.bel HB7.out)).2; clear hw7))
                  obtain ⟨w8, hw8⟩ : ∃ w8, w7.setCell P .nilIface = w8 := ⟨_, rfl⟩
                  have p8 : w8.cell? P = some .nilIface := by rw [← hw8]; exact World.cell?_setCell_same _ _ _ ce7
                  have f8 : w8.frozen? P = false := by rw [← hw8, World.frozen?_setCell]; exact fe7
                  have hPlt : P.block < w6.heap.size := World.block_lt_of_cell? _ _ ce6
                  have HB8 : Hid (Below w.heap.size w w8) := Lib.hid (by rw [← hw8]; exact (below_next HBw.out HB7.out).setCell HPb.out _)
                  have HW8 : Hid (WkAt w w8 b2 (.slice AT g.terms.length cT) (.slice AN g.nonterms.length cN) (.slice AR g.rules.length cR) g.ax (.slice A9 R.length c9) i2 d (.slice A7 n7 c7) vk) := Lib.hid (by rw [← hw8]; exact HW7.out.outer (below_next HBw.out HDr.out) P HPb.out hPlt _)
                  obtain ⟨e0, e1, e2, e3, -⟩ := HSP.out w7 .nilIface HB7.out
                  rw [hw8] at e0 e1 e2 e3
                  have e7 : w8.cell? ⟨b2, 7, none⟩ = some (.slice A7 n7 c7) := HW8.out.c7 rfl
                  have HT : Hid (∀ W, Below w8.heap.size w8 W → W.cell? ⟨w.heap.size, 0, none⟩ = some (.slice AT g.terms.length cT) ∧ W.cell? ⟨w.heap.size, 1, none⟩ = some (.slice AN g.nonterms.length cN) ∧ W.cell? ⟨w.heap.size, 2, none⟩ = some (.int .i64 g.ax) ∧ W.cell? ⟨w.heap.size, 3, none⟩ = some (.slice AR g.rules.length cR) ∧ W.cell? ⟨b2, 7, none⟩ = some (.slice A7 n7 c7)) := Lib.hid (fun W hW =>
                    ⟨(hW.cell (World.block_lt_of_cell? _ _ e0)).trans e0, (hW.cell (World.block_lt_of_cell? _ _ e1)).trans e1, (hW.cell (World.block_lt_of_cell? _ _ e2)).trans e2, (hW.cell (World.block_lt_of_cell? _ _ e3)).trans e3, (hW.cell (World.block_lt_of_cell? _ _ e7)).trans e7⟩)
                  obtain ⟨X, hX⟩ : ∃ X, textS g d.tree = X := ⟨_, rfl⟩
                  rw [hX] at HTr
                  have HTx : Hid (∀ W, Below w8.heap.size w8 W → Calls Tryd.prog 28 #[.agg #[.slice AT g.terms.length cT, .slice AN g.nonterms.length cN, .int .i64 g.ax, .slice AR g.rules.length cR], .slice A7 n7 c7] W fun e w' => ∃ u, e = .returned (.tuple #[.string X, u]) ∧ Below W.heap.size W w') := Lib.hid (fun W hW => by
                    have h7 := HN7.out
                    subst h7
                    refine (text18_calls _ g A7 c7 d.tree W A (HE0.out.below (below_next HB8.out hW)) (HV.out.below (below_next HB8.out hW)) (Kd.C_below (Kd.R_reads' HW8.out.tr).2.2 hW) (Kd.R_reads' HW8.out.tr).2.1 (HP0.out.below (below_next HB8.out hW))).mono ?_
                    rw [hX]
                    rintro e w' ⟨u, h1, -, h2⟩
                    exact ⟨u, h1, h2⟩)
                  have HD8 : Hid (Below w8.heap.size w8 w8.drew) := Lib.hid (pw_below_drewN (Below.refl _ _) 1)
                  have HN8 : Hid (∀ W, Below w8.heap.size w8 W → W.cell? P = some .nilIface ∧ W.frozen? P = false) := Lib.hid (fun W hW => ⟨(hW.cell (World.block_lt_of_cell? _ _ p8)).trans p8, (hW.frozen (World.block_lt_of_cell? _ _ p8)).trans f8⟩)
                  have HTree : Hid (∀ W : World, (∀ k, w6.heap.size ≤ k → k < w7.heap.size → W.heap[k]? = w7.heap[k]?) → KStep.R 55 W w.heap.size (fun _ => True) (.slice A7 n7 c7) d.tree) := Lib.hid (fun W hW =>
                    Kd.R_lower (Kd.R_mono (Kd.R_step (Kd.R_bound HW7.out.tr) (fun k hk hlt => hW k (Nat.le_trans HDr.out.size hk.2.1) hlt)) (fun _ _ => trivial)) (Nat.le_trans HBw.out.size HDr.out.size))
                  have HH8 : Hid (∀ k, w6.heap.size ≤ k → w8.heap[k]? = w7.heap[k]?) := Lib.hid (fun k hk => by rw [← hw8]; exact Below.heap_setCell w7 P _ k (by omega))
                  have HZ8 : Hid (w8.heap.size = w7.heap.size) := Lib.hid (by rw [← hw8, World.size_setCell])
                  have HPl := Lib.hid hPlt
                  rw [hw8]
                  clear hw8 c1 c3 c4 ce6 fe6 ce7 fe7 hX hPlt
                  go_upto_region 18 with (fail)
                  go_region_held3 (fun w' => w'.cell? ⟨w.heap.size, 0, none⟩ = some (.slice AT g.terms.length cT) ∧ w'.cell? ⟨w.heap.size, 1, none⟩ = some (.slice AN g.nonterms.length cN) ∧ w'.cell? ⟨w.heap.size, 2, none⟩ = some (.int .i64 g.ax) ∧ w'.cell? ⟨w.heap.size, 3, none⟩ = some (.slice AR g.rules.length cR) ∧ w'.cell? ⟨b2, 7, none⟩ = some (.slice A7 n7 c7))
                    (first
                      | exact HT.out _ (Below.refl _ _)
                      | exact HT.out _ HD8.out
                      | exact HT.out _ HB9.out)
                    ((go_at_call 28; (with_reducible refine (HTx.out w8.drew HD8.out).mono ?_); rintro e w9 ⟨u9, rfl, hb9⟩; have HB9 := Lib.hid (below_next HD8.out hb9); clear hb9))
                  have e7 := (HT.out _ HB9.out).2.2.2.2
                  have p9 := (HN8.out _ HB9.out).1
                  have f9 := (HN8.out _ HB9.out).2
                  have HB9w := Lib.hid (below_next HB8.out HB9.out)
                  clear e0 e1 e2 e3 p8 f8
                  by_cases hrow : rowW g R = tl T
                  · have hXT : X = T := by rw [HTr.out]; exact hrow
                    have HF2 : Hid (readE g T = (0, -1)) := Lib.hid (by rw [HF.out, if_pos hrow])
                    have HL := Lib.hid (readL_yes HF2.out Hp.out Hd.out)
                    subst hXT
                    have hs : (X.toList != X.toList) = false := by simp
                    clear hrow
                    go_wp2
                    have hcs := World.cell?_setCell_same (w := w9) (a := P) (v := .nilIface) p9
                    refine leaves_cons (f := 47) (args := #[.pointer (some P)]) (by simp) (by simp [go_sem]) ?_
                    refine (rcatch_idle P _).mono ?_
                    rintro e u' w'' ⟨rfl, rfl, hbi⟩
                    have hcs2 := (hbi.cell (World.block_lt_of_cell? _ _ hcs)).trans hcs
                    simp [Leaves, settle, results, Tryd.results29, go_sem, hcs2]
                    have hw9 := (HW8.out.below HB9.out)
                    exact ⟨_, _, rfl, by rw [HL.out]; exact HTree.out _ (fun k hk hk2 => (((hbi.block k (by rw [World.size_setCell]; have := HB9.out.size; have := HZ8.out; omega)).trans (Below.heap_setCell w9 P _ k (by have := HPl.out; omega))).trans (HB9.out.block k (by have := HZ8.out; omega))).trans (HH8.out k hk)), by rw [HF2.out]; exact .none, below_next (HB9w.out.setCell HPb.out _) hbi⟩
                  · have hXT : X ≠ T := fun e => hrow (by rw [← HTr.out]; exact e)
                    have HF2 : Hid (readE g T = (11, -1)) := Lib.hid (by rw [HF.out, if_neg hrow])
                    have hs : (X.toList != T.toList) = true := by rw [bne_iff_ne]; exact fun e => hXT (str_inj e)
                    have hs2 : (X.toList == T.toList) = false := by rw [beq_eq_false_iff_ne]; exact fun e => hXT (str_inj e)
                    have hs3 : ¬ X.toList = T.toList := fun e => hXT (str_inj e)
                    clear hrow hXT
                    have d0 : w9.cell? ⟨2, 0, none⟩ = some (.iface 175 (.pointer (some (A 10)))) := (HE0.out.below HB9w.out).cells 10 (by omega)
                    have D0 : Hid (∀ n, (w9.drewN n).cell? ⟨2, 0, none⟩ = some (.iface 175 (.pointer (some (A 10))))) := Lib.hid (fun n => by rw [World.cell?_drewN]; exact d0)
                    have D1 : Hid ((w9.setCell P (.iface 175 (.pointer (some (A 10))))).drew.cell? ⟨2, 0, none⟩ = some (.iface 175 (.pointer (some (A 10))))) := Lib.hid (by
                      rw [World.cell?_drew]; exact put_keep p9 d0 (by simp) _)
                    go_upto_region 20 with (fail)
                    go_region_held3 (fun w' => w'.cell? ⟨2, 0, none⟩ = some (.iface 175 (.pointer (some (A 10)))))
                      (first
                        | exact D1.out
                        | exact D0.out 1
                        | exact d0)
                      (fail)
                    have hcs := World.cell?_setCell_same (w := w9) (a := P) (v := .iface 175 (.pointer (some (A 10)))) p9
                    go_wp2
                    refine leaves_cons (f := 47) (args := #[.pointer (some P)]) (by simp) (by simp [go_sem]) ?_
                    refine (rcatch_idle P _).mono ?_
                    rintro e u' w'' ⟨rfl, rfl, hbi⟩
                    have hb2 := (below_drew (Below.refl (w9.setCell P (.iface 175 (.pointer (some (A 10))))).heap.size (w9.setCell P (.iface 175 (.pointer (some (A 10))))))).trans hbi
                    have hcs2 := (hb2.cell (World.block_lt_of_cell? _ _ hcs)).trans hcs
                    simp [Leaves, settle, results, Tryd.results29, go_sem, hcs2]
                    exact readP_no HF2.out (by simp) (.sent 10 (by omega)) (below_next (HB9w.out.setCell HPb.out _) hb2)
  · have HF : Hid (readE g T = dmayN g 0) := Lib.hid (by unfold readE; rw [if_pos h0])
    have HK : Hid (∀ u W, ErrV W A u (dmayN g 0).1 (dmayN g 0).2 → ∃ t x, u = .iface t x) := Lib.hid (fun u W h => by
      rcases h.nil_iff with ⟨h, _⟩ | ⟨_, t, x, e⟩
      · exact absurd h h0
      · exact ⟨t, x, e⟩)
    have H0 := Lib.hid h0
    clear h0
    go_enter_defers Tryd.func29, Tryd.ntmps29
    go_upto_region 1 with (fail)
    clear hw2' hP2
    go_wp2_with (go_at_call 34; refine HM.out.mono ?_; rintro e w3 ⟨u, rfl, hu, hb3⟩; obtain ⟨t3, x3, e3⟩ := HK.out _ _ hu; subst e3; have HU := Lib.hid hu; have HB3 := Lib.hid hb3; have ce3 := (HN.out _ hb3).1; have fe3 := (HN.out _ hb3).2; clear hu hb3 c0 c1 c2 c3)
    have hcs := World.cell?_setCell_same (w := w3) (a := P) (v := .iface t3 x3) ce3
    unfold bodyPostD Leaves
    simp [results, Tryd.results29, go_sem, hcs]
    exact readP_no HF.out H0.out (HU.out.setNil ce3 _) ((below_next HB2.out HB3.out).setCell HPb.out _)
end Go.Proofs.YtcjcffcbfkimdaaDoor.Hand
/- A tree's text, scanned: its rules come back. Plainly. -/
namespace Go.Proofs.YtcjcffcbfkimdaaDoor.Math

/-- Rules from one place to another. -/
def slL (rs : List Int) (i j : Nat) : List Int := (rs.take j).drop i
theorem slL_same (rs : List Int) (i : Nat) : slL rs i i = [] := by unfold slL; rw [List.drop_eq_nil_of_le]; simp; omega
theorem slL_app {rs : List Int} {i j k : Nat} (h1 : i ≤ j) (h2 : j ≤ k) (h3 : j ≤ rs.length) : slL rs i j ++ slL rs j k = slL rs i k := by
  unfold slL
  have e : rs.take k = rs.take j ++ (rs.take k).drop j := by
    have := (List.take_append_drop j (rs.take k)).symm
    rwa [List.take_take, Nat.min_eq_left h2] at this
  conv => rhs; rw [e]
  rw [List.drop_append_of_le_length (by rw [List.length_take]; omega)]
theorem slL_one {rs : List Int} {i : Nat} {n : Int} (h : rs[i]? = some n) : slL rs i (i + 1) = [n] := by
  unfold slL
  obtain ⟨hl, e⟩ := List.getElem?_eq_some_iff.1 h
  rw [List.take_succ_eq_append_getElem hl, List.drop_append_of_le_length (by rw [List.length_take]; omega), List.drop_eq_nil_of_le (by rw [List.length_take]; omega), e]
  rfl
/-- A number's digits, whatever comes behind them. -/
def DecOk (dec : Int → List UInt8) : Prop := ∀ n : Int, 0 ≤ n → n < 1000 → 0 < (dec n).length ∧ ∀ rest, isDg (nxt rest) = false → numL 0 0 (dec n ++ rest) = (n.toNat, (dec n).length)
theorem scan_dec {dec : Int → List UInt8} (hd : DecOk dec) {n : Int} (h0 : 0 ≤ n) (h1 : n < 1000) {rest : List UInt8} (hr : isDg (nxt rest) = false) {s : SS} (p : Nat) (hb : s.before = 1 ∨ s.before = 4) (hg : s.digits = 0) (hn : s.n = 0) :
    ∃ p' k, scanS (dec n ++ rest) p s = scanS rest p' (ssN s.opn s.rule s.rules k n.toNat) := by
  obtain ⟨d1, d2⟩ := hd n h0 h1
  have d3 := d2 rest hr
  have h := (scan_number (dec n ++ rest) p hb hg hn).2 (by rw [d3]; exact d1)
  rw [d3] at h
  simp only [List.drop_left] at h
  exact ⟨_, _, h⟩
def Rdy (s : SS) : Prop := (s.before = 2 ∨ s.before = 5) ∧ 0 < s.opn
theorem step_blank {s : SS} (h : Rdy s) : stepS s 32 = some ⟨3, s.opn, s.digits, s.n, s.rule, s.rules⟩ := by
  obtain ⟨h1, h2⟩ := h
  have hd : dgOk s 32 = false := dgOk_no (by decide)
  unfold stepS
  rw [if_neg (by omega), if_neg (by omega), if_neg (by omega), if_neg (by rw [hd]; simp), if_pos ⟨rfl, h1⟩]
theorem step_close {s : SS} (h : Rdy s) : stepS s 41 = some ⟨5, s.opn - 1, s.digits, s.n, s.rule, s.rules⟩ := by
  obtain ⟨h1, h2⟩ := h
  have hd : dgOk s 41 = false := dgOk_no (by decide)
  unfold stepS
  rw [if_neg (by omega), if_neg (by omega), if_neg (by omega), if_neg (by rw [hd]; simp), if_neg (by omega), if_pos ⟨rfl, h1⟩]
theorem step_open {s : SS} (h : s.before = 0 ∨ s.before = 3) : stepS s 40 = some ⟨1, s.opn + 1, 0, 0, true, s.rules⟩ := by
  unfold stepS
  rw [if_neg (by omega), if_pos ⟨rfl, h⟩]
theorem step_dot {s : SS} (h : s.before = 3) : stepS s 46 = some ⟨4, s.opn, 0, 0, false, s.rules⟩ := by
  unfold stepS
  rw [if_neg (by omega), if_neg (by omega), if_pos ⟨rfl, h⟩]
/-- A bracket and a rule. -/
theorem scan_open {dec : Int → List UInt8} (hd : DecOk dec) {n : Int} (h0 : 0 ≤ n) (h1 : n < 1000) {rest : List UInt8} (hr : isDg (nxt rest) = false) {s : SS} (p : Nat) (hb : s.before = 0 ∨ s.before = 3) :
    ∃ p' s', scanS (40 :: (dec n ++ rest)) p s = scanS rest p' s' ∧ s'.before = 2 ∧ s'.opn = s.opn + 1 ∧ s'.rules = s.rules ++ [n] := by
  rw [scanS_yes (show stepS s (40 : UInt8).toNat = _ from step_open hb)]
  obtain ⟨p', k, h⟩ := scan_dec hd h0 h1 hr (s := ⟨1, s.opn + 1, 0, 0, true, s.rules⟩) (p + 1) (.inl rfl) rfl rfl
  refine ⟨p', _, h, rfl, rfl, ?_⟩
  show s.rules ++ [((n.toNat : Nat) : Int)] = _
  rw [Int.toNat_of_nonneg h0]
/-- A token. -/
theorem scan_tok {dec : Int → List UInt8} (hd : DecOk dec) {n : Int} (h0 : 0 ≤ n) (h1 : n < 1000) {rest : List UInt8} (hr : isDg (nxt rest) = false) {s : SS} (p : Nat) (hb : Rdy s) :
    ∃ p' s', scanS (32 :: 46 :: (dec n ++ rest)) p s = scanS rest p' s' ∧ Rdy s' ∧ s'.opn = s.opn ∧ s'.rules = s.rules := by
  rw [scanS_yes (show stepS s (32 : UInt8).toNat = _ from step_blank hb)]
  rw [scanS_yes (show stepS ⟨3, s.opn, s.digits, s.n, s.rule, s.rules⟩ (46 : UInt8).toNat = _ from step_dot rfl)]
  obtain ⟨p', k, h⟩ := scan_dec hd h0 h1 hr (s := ⟨4, s.opn, 0, 0, false, s.rules⟩) (p + 1 + 1) (.inr rfl) rfl rfl
  exact ⟨p', _, h, ⟨.inl rfl, hb.2⟩, rfl, rfl⟩
/-- What one node writes, scanned. -/
theorem scan_node {dec : Int → List UInt8} (hd : DecOk dec) (G : List (Int × List Int)) (rs : List Int) (hG : G.length ≤ 1000) (hx : ∀ r ∈ G, ∀ x ∈ r.2, x < 1000) : ∀ (f : Nat) (any : Bool) (nt : Int) (up : Option (Unit × Nat)) (deep : Nat) (st st' : Nat × List UInt8), nodeG (opsW dec) G rs f any nt up deep st = some st' →
    st.1 < st'.1 ∧ st'.1 ≤ rs.length ∧ (∀ x ∈ slL rs st.1 st'.1, 0 ≤ x ∧ x < (G.length : Int)) ∧ ∃ seg, st'.2 = st.2 ++ seg ∧ (up ≠ none → ∃ tail, seg = 32 :: tail) ∧ ∀ (rest : List UInt8) (p : Nat) (s : SS), (up = none → s.before = 0) → (up ≠ none → Rdy s) →
      ∃ p' s', scanS (seg ++ rest) p s = scanS rest p' s' ∧ s'.before = 5 ∧ s'.opn = s.opn ∧ s'.rules = s.rules ++ slL rs st.1 st'.1
  | 0, any, nt, up, deep, st, st', h => by simp [nodeG] at h
  | f + 1, any, nt, up, deep, st, st', h => by
    rw [nodeG] at h
    split at h
    · cases h
    · rename_i n hn
      split at h
      · cases h
      · rename_i hb
        split at h
        · cases h
        · split at h
          · cases h
          · rename_i s1 hs
            simp only [Option.some.injEq] at h
            subst h
            have hlt : st.1 < rs.length := (List.getElem?_eq_some_iff.1 hn).1
            have hRM : ∀ x ∈ (ruleD G n).2, x < 1000 := by
              unfold ruleD
              rw [List.getD_eq_getElem?_getD]
              cases hg : G[n.toNat]? with
              | none => simp
              | some r => exact hx r (List.mem_of_getElem? hg)
            have key : ∀ (φ : Unit) (l : List Int) (k : Nat) (s2 s3 : Nat × List UInt8), (∀ x ∈ l, x < 1000) → symsG (opsW dec) (fun u m s => nodeG (opsW dec) G rs f false m (some u) (deep + 1) s) φ k l s2 = some s3 → s2.1 ≤ rs.length →
                s2.1 ≤ s3.1 ∧ s3.1 ≤ rs.length ∧ (∀ x ∈ slL rs s2.1 s3.1, 0 ≤ x ∧ x < (G.length : Int)) ∧ ∃ seg, s3.2 = s2.2 ++ seg ∧ (∀ rest, isDg (nxt (seg ++ 41 :: rest)) = false) ∧ ∀ (rest : List UInt8) (p : Nat) (s : SS), Rdy s →
                  ∃ p' s', scanS (seg ++ 41 :: rest) p s = scanS (41 :: rest) p' s' ∧ Rdy s' ∧ s'.opn = s.opn ∧ s'.rules = s.rules ++ slL rs s2.1 s3.1 := by
              intro φ l
              induction l with
              | nil =>
                intro k s2 s3 _ h h3
                simp only [symsG, Option.some.injEq] at h
                subst h
                refine ⟨Nat.le_refl _, h3, by rw [slL_same]; simp, [], by simp, fun rest => by simp only [List.nil_append, nxt]; decide, fun rest p s hs => ⟨p, s, rfl, hs, rfl, by rw [slL_same]; simp⟩⟩
              | cons x r ih =>
                intro k s2 s3 hl h h3
                rw [symsG] at h
                split at h
                · split at h
                  · cases h
                  · rename_i s4 h4
                    obtain ⟨a1, a2, a3, seg1, a4, a5, a6⟩ := scan_node hd G rs hG hx f false _ _ _ s2 s4 h4
                    obtain ⟨b1, b2, b3, seg2, b4, b5, b6⟩ := ih _ s4 s3 (fun y hy => hl y (List.mem_cons_of_mem _ hy)) h a2
                    obtain ⟨tail, ht⟩ := a5 (by simp)
                    have e := slL_app (rs := rs) (Nat.le_of_lt a1) b1 a2
                    refine ⟨by omega, b2, ?_, seg1 ++ seg2, by rw [b4, a4, List.append_assoc], fun rest => by rw [ht]; simp only [List.cons_append, nxt]; decide, fun rest p s hs => ?_⟩
                    · intro y hy
                      rw [← e, List.mem_append] at hy
                      rcases hy with hy | hy
                      · exact a3 y hy
                      · exact b3 y hy
                    · obtain ⟨p1, t1, c1, c2, c3, c4⟩ := a6 (seg2 ++ 41 :: rest) p s (fun h => by simp at h) (fun _ => hs)
                      obtain ⟨p2, t2, d1, d2, d3, d4⟩ := b6 rest p1 t1 ⟨.inr c2, by rw [c3]; exact hs.2⟩
                      exact ⟨p2, t2, by rw [List.append_assoc, c1, d1], d2, by rw [d3, c3], by rw [d4, c4, List.append_assoc, e]⟩
                · rename_i hx0
                  obtain ⟨b1, b2, b3, seg2, b4, b5, b6⟩ := ih _ (s2.1, (opsW dec).tok s2.2 φ k x) s3 (fun y hy => hl y (List.mem_cons_of_mem _ hy)) h h3
                  refine ⟨b1, b2, b3, 32 :: 46 :: (dec x ++ seg2), by rw [b4]; simp [opsW], fun rest => by simp only [List.cons_append, nxt]; decide, fun rest p s hs => ?_⟩
                  obtain ⟨p1, t1, c1, c2, c3, c4⟩ := scan_tok hd (by omega) (hl x (List.mem_cons_self ..)) (b5 rest) p hs
                  obtain ⟨p2, t2, d1, d2, d3, d4⟩ := b6 rest p1 t1 c2
                  refine ⟨p2, t2, ?_, d2, by rw [d3, c3], by rw [d4, c4]⟩
                  rw [List.cons_append, List.cons_append, List.append_assoc, c1, d1]
            obtain ⟨b1, b2, b3, seg2, b4, b5, b6⟩ := key _ _ _ _ _ hRM hs (by show st.1 + 1 ≤ rs.length; omega)
            simp only at b1 b2 b3 b4 b6
            have e1 := slL_one hn
            have e := slL_app (rs := rs) (Nat.le_succ st.1) b1 (by show st.1 + 1 ≤ rs.length; omega)
            have hn0 : 0 ≤ n := by omega
            have hn1 : n < 1000 := by omega
            refine ⟨by show st.1 < s1.1; omega, b2, ?_, spW up ++ (40 :: (dec n ++ (seg2 ++ [41]))), ?_, ?_, ?_⟩
            · intro y hy
              rw [← e, List.mem_append, e1, List.mem_singleton] at hy
              rcases hy with rfl | hy
              · omega
              · exact b3 y hy
            · show s1.2 ++ [41] = _
              rw [b4]
              simp [opsW]
            · intro hu
              cases up with
              | none => exact absurd rfl hu
              | some u => exact ⟨_, rfl⟩
            · intro rest p s hu1 hu2
              have main : ∀ (q : Nat) (t : SS), (t.before = 0 ∨ t.before = 3) → t.opn = s.opn → t.rules = s.rules → ∃ p' s', scanS (40 :: (dec n ++ (seg2 ++ 41 :: rest))) q t = scanS rest p' s' ∧ s'.before = 5 ∧ s'.opn = s.opn ∧ s'.rules = s.rules ++ slL rs st.1 s1.1 := by
                intro q t ht1 ht2 ht3
                obtain ⟨p1, t1, c1, c2, c3, c4⟩ := scan_open hd hn0 hn1 (b5 rest) q ht1
                obtain ⟨p2, t2, d1, d2, d3, d4⟩ := b6 rest p1 t1 ⟨.inl c2, by omega⟩
                refine ⟨p2 + 1, _, by rw [c1, d1, scanS_yes (show stepS t2 (41 : UInt8).toNat = _ from step_close d2)], rfl, ?_, ?_⟩
                · show t2.opn - 1 = s.opn
                  omega
                · show t2.rules = _
                  rw [d4, c4, ht3, List.append_assoc, ← e, e1]
              have hl : (spW up ++ (40 :: (dec n ++ (seg2 ++ [41])))) ++ rest = spW up ++ (40 :: (dec n ++ (seg2 ++ 41 :: rest))) := by simp
              rw [hl]
              cases up with
              | none => exact main p s (.inl (hu1 rfl)) rfl rfl
              | some u =>
                have hr := hu2 (by simp)
                show ∃ p' s', scanS (32 :: (40 :: (dec n ++ (seg2 ++ 41 :: rest)))) p s = _ ∧ _
                rw [scanS_yes (show stepS s (32 : UInt8).toNat = _ from step_blank hr)]
                exact main (p + 1) ⟨3, s.opn, s.digits, s.n, s.rule, s.rules⟩ (.inr rfl) rfl rfl
/-- A text that was written is read as its rules. -/
theorem scan_walk {dec : Int → List UInt8} (hd : DecOk dec) {G : List (Int × List Int)} {rs : List Int} (hG : G.length ≤ 1000) (hx : ∀ r ∈ G, ∀ x ∈ r.2, x < 1000) {any : Bool} {nt : Int} {l : List UInt8} (h : walkG (opsW dec) G rs any nt [] = some l) :
    scanS l 0 ss0 = (rs, -1) ∧ ∀ x ∈ rs, 0 ≤ x ∧ x < (G.length : Int) := by
  unfold walkG at h
  cases hn : nodeG (opsW dec) G rs rs.length any nt none 1 (0, []) with
  | none => rw [hn] at h; cases h
  | some a =>
    rw [hn] at h
    simp only at h
    split at h
    · cases h
    · rename_i hl
      simp only [Option.some.injEq] at h
      subst h
      obtain ⟨a1, a2, a3, seg, a4, -, a6⟩ := scan_node hd G rs hG hx rs.length any nt none 1 _ _ hn
      simp only [List.nil_append] at a2 a3 a4 a6
      have e : slL rs 0 a.1 = rs := by unfold slL; rw [List.take_of_length_le (by omega)]; rfl
      rw [e] at a3 a6
      obtain ⟨p', s', b1, b2, b3, b4⟩ := a6 [] 0 ss0 (fun _ => rfl) (fun h => absurd rfl h)
      refine ⟨?_, a3⟩
      rw [List.append_nil, ← a4] at b1
      rw [b1, scanS, if_neg (by rw [b2, b3]; simp [ss0]), b4]
      simp [ss0]
end Go.Proofs.YtcjcffcbfkimdaaDoor.Math
/- Plainly: a grown tree is known, its tokens check, its text is read back. -/
namespace Go.Proofs.YtcjcffcbfkimdaaDoor.Hand
open Go.RowKit Go.Proofs.YtcjcffcbfkimdaaDoorW.PrintWords Go.Proofs.YtcjcffcbfkimdaaDoorW.PrintMore Go.Proofs.YtcjcffcbfkimdaaDoor.Math

theorem numL_cons {k n : Nat} {c : UInt8} {l : List UInt8} (h : more k n c.toNat = true) : numL k n (c :: l) = numL (k + 1) (10 * n + (c.toNat - 48)) l := by rw [numL, if_pos h]
theorem dg_toNat {d : Nat} (h : d < 10) : (UInt8.ofNat (48 + d)).toNat = 48 + d := by
  rw [UInt8.toNat_ofNat']
  omega
theorem isDg_yes {d : Nat} (h : d < 10) : isDg (48 + d) = true := by unfold isDg; simp; omega
theorem more_end {k n : Nat} {l : List UInt8} (h : isDg (nxt l) = false) : more k n (nxt l) = false := by unfold more; rw [h]; rfl
theorem dec1 {u : Nat} (h : u < 10) : Lib.decDigits u = [UInt8.ofNat (48 + u)] := by rw [Lib.decDigits, dif_pos h]
theorem dec2 {u : Nat} (h : ¬ u < 10) : Lib.decDigits u = Lib.decDigits (u / 10) ++ [UInt8.ofNat (48 + u % 10)] := by
  conv => lhs; rw [Lib.decDigits, dif_neg h]
theorem decI_ok : DecOk decI := by
  intro n h0 h1
  unfold decI
  obtain ⟨u, rfl⟩ : ∃ u : Nat, n = (u : Int) := ⟨n.toNat, by omega⟩
  rw [Int.toNat_natCast]
  have hu : u < 1000 := by omega
  by_cases a1 : u < 10
  · rw [dec1 a1]
    refine ⟨by simp, fun rest hr => ?_⟩
    have m1 : more 0 0 (UInt8.ofNat (48 + u)).toNat = true := by rw [dg_toNat a1]; unfold more; rw [isDg_yes a1]; rfl
    rw [List.cons_append, List.nil_append, numL_cons m1, dg_toNat a1, numL_stop (more_end hr)]
    simp
  · by_cases a2 : u < 100
    · rw [dec2 a1, dec1 (show u / 10 < 10 by omega)]
      refine ⟨by simp, fun rest hr => ?_⟩
      have b1 : u / 10 < 10 := by omega
      have b2 : u % 10 < 10 := by omega
      have m1 : more 0 0 (UInt8.ofNat (48 + u / 10)).toNat = true := by rw [dg_toNat b1]; unfold more; rw [isDg_yes b1]; rfl
      have m2 : more 1 (u / 10) (UInt8.ofNat (48 + u % 10)).toNat = true := by rw [dg_toNat b2]; unfold more; rw [isDg_yes b2]; simp; omega
      rw [List.append_assoc, List.cons_append, List.nil_append, List.cons_append, List.nil_append, numL_cons m1, dg_toNat b1, show 10 * 0 + (48 + u / 10 - 48) = u / 10 by omega, show 0 + 1 = 1 from rfl, numL_cons m2, dg_toNat b2, numL_stop (more_end hr)]
      simp
      omega
    · rw [dec2 a1, dec2 (show ¬ u / 10 < 10 by omega), dec1 (show u / 10 / 10 < 10 by omega)]
      refine ⟨by simp, fun rest hr => ?_⟩
      have b0 : u / 10 / 10 < 10 := by omega
      have b1 : u / 10 % 10 < 10 := by omega
      have b2 : u % 10 < 10 := by omega
      have m0 : more 0 0 (UInt8.ofNat (48 + u / 10 / 10)).toNat = true := by rw [dg_toNat b0]; unfold more; rw [isDg_yes b0]; rfl
      have m1 : more 1 (u / 10 / 10) (UInt8.ofNat (48 + u / 10 % 10)).toNat = true := by rw [dg_toNat b1]; unfold more; rw [isDg_yes b1]; simp; omega
      have m2 : more 2 (u / 10) (UInt8.ofNat (48 + u % 10)).toNat = true := by rw [dg_toNat b2]; unfold more; rw [isDg_yes b2]; simp; omega
      rw [List.append_assoc, List.append_assoc, List.cons_append, List.nil_append, List.cons_append, List.nil_append, List.cons_append, List.nil_append, numL_cons m0, dg_toNat b0, show 10 * 0 + (48 + u / 10 / 10 - 48) = u / 10 / 10 by omega, show 0 + 1 = 1 from rfl, numL_cons m1, dg_toNat b1, show 10 * (u / 10 / 10) + (48 + u / 10 % 10 - 48) = u / 10 by omega, show 1 + 1 = 2 from rfl, numL_cons m2, dg_toNat b2, numL_stop (more_end hr)]
      simp
      omega
/-- The tokens of a walk are the rules' own. -/
theorem node_toks (inc : Int → Int) (G : List (Int × List Int)) (rs : List Int) (P : Int → Prop) (hG : ∀ r ∈ G, ∀ x ∈ r.2, ¬ x < 0 → P x) : ∀ (f : Nat) (any : Bool) (nt : Int) (up : Option (Nat × Nat)) (deep : Nat) (st st' : Nat × DS), nodeG (opsD inc) G rs f any nt up deep st = some st' → (∀ x ∈ st.2.tokens, P x) → ∀ x ∈ st'.2.tokens, P x
  | 0, _, _, _, _, _, _, h, _ => by simp [nodeG] at h
  | f + 1, any, nt, up, deep, st, st', h, h0 => by
    rw [nodeG] at h
    split at h
    · cases h
    · rename_i n hn
      split at h
      · cases h
      · split at h
        · cases h
        · split at h
          · cases h
          · rename_i s1 hs
            simp only [Option.some.injEq] at h
            subst h
            have hRM : ∀ x ∈ (ruleD G n).2, ¬ x < 0 → P x := by
              unfold ruleD
              rw [List.getD_eq_getElem?_getD]
              cases hg : G[n.toNat]? with
              | none => simp
              | some r => exact hG r (List.mem_of_getElem? hg)
            have key : ∀ (φ : Nat) (l : List Int) (k : Nat) (s2 s3 : Nat × DS), (∀ x ∈ l, ¬ x < 0 → P x) → symsG (opsD inc) (fun u m s => nodeG (opsD inc) G rs f false m (some u) (deep + 1) s) φ k l s2 = some s3 → (∀ x ∈ s2.2.tokens, P x) → ∀ x ∈ s3.2.tokens, P x := by
              intro φ l
              induction l with
              | nil =>
                intro k s2 s3 _ h h2
                simp only [symsG, Option.some.injEq] at h
                subst h
                exact h2
              | cons y r ih =>
                intro k s2 s3 hl h h2
                rw [symsG] at h
                split at h
                · split at h
                  · cases h
                  · rename_i s4 h4
                    exact ih _ s4 s3 (fun z hz => hl z (List.mem_cons_of_mem _ hz)) h (node_toks inc G rs P hG f false _ _ _ s2 s4 h4 h2)
                · rename_i hy
                  refine ih _ (s2.1, (opsD inc).tok s2.2 φ k y) s3 (fun z hz => hl z (List.mem_cons_of_mem _ hz)) h (fun x hx => ?_)
                  simp only [opsD, List.mem_append, List.mem_singleton] at hx
                  rcases hx with hx | rfl
                  · exact h2 x hx
                  · exact hl x (List.mem_cons_self ..) hy
            have hk := key _ _ _ _ _ hRM hs h0
            exact hk
theorem walk_toks {inc : Int → Int} {G : List (Int × List Int)} {rs : List Int} {any : Bool} {nt fr : Int} {d : DS} (h : walkG (opsD inc) G rs any nt ⟨fr, [], [], 0⟩ = some d) (P : Int → Prop) (hG : ∀ r ∈ G, ∀ x ∈ r.2, ¬ x < 0 → P x) : ∀ x ∈ d.tokens, P x := by
  unfold walkG at h
  cases hn : nodeG (opsD inc) G rs rs.length any nt none 1 (0, ⟨fr, [], [], 0⟩) with
  | none => rw [hn] at h; cases h
  | some a =>
    rw [hn] at h
    simp only at h
    split at h
    · cases h
    · simp only [Option.some.injEq] at h
      subst h
      exact node_toks inc G rs P hG rs.length any nt none 1 _ _ hn (by simp)
theorem sym_term {t n : Nat} {r : Int × List Int} (h : Hand.ruleN t n r = 0) : ∀ s ∈ r.2, s < (t : Int) := by
  intro s hs
  unfold Hand.ruleN at h
  split at h
  · cases h
  · split at h
    · cases h
    · rename_i h1 h2
      have h3 : ¬ r.2.any (symBad t n) = true := fun h => h2 (.inr (.inr h))
      rw [List.any_eq_true] at h3
      have h4 : ¬ symBad t n s = true := fun h => h3 ⟨s, hs, h⟩
      unfold symBad at h4
      simp at h4
      omega
theorem dmay_any {g : Gr} {n m : Nat} (h : (dmayN g n).1 = 0) (hm : m ≤ 131072) : (dmayN g m).1 = 0 := by
  unfold dmayN at h ⊢
  split at h
  · rename_i h1; exact absurd h h1
  · rename_i h1
    rw [if_neg h1]
    split at h
    · cases h
    · rename_i h2
      rw [if_neg h2, if_neg (by omega)]
/-- A tree that is walked from the first place is known. -/
theorem walk_known {g : Gr} {rs : List Int} {d : DS} (h0 : (dmayN g rs.length).1 = 0) (hd : grownD g rs true 0 0 = some d) :
    d.tree.map (·.1) = rs ∧ d.tree.length = rs.length ∧ 0 < rs.length ∧ treeD g d.tree = some d ∧ knownE g d.tree = (0, -1) ∧ knownD g d.tree = (d.tokens, rs, d.depth) ∧ (d.tree.getD 0 (0, 0, 0)).2.1 = 0 ∧ (d.tree.getD 0 (0, 0, 0)).2.2 = (d.tokens.length : Int) ∧ d.tokens.length ≤ 4194304 := by
  have hr : d.tree.map (·.1) = rs := walk_rules hd
  have hf := (walk_first hd).1
  have hlen : d.tree.length = rs.length := by have := congrArg List.length hr; simpa using this
  have hm := dmayN_zero h0
  have hml := hm.len
  have hpl : ∃ n N, d.tree = (n, 0, d.place) :: N ∧ d.place = (d.tokens.length : Int) ∧ d.tokens.length ≤ 4194304 := by
    unfold grownD at hd
    have hB : ∀ r ∈ g.rules, r.2.length ≤ 32 := fun r hr => ruleN_len (hm.right.ruleN r hr)
    have hw2 := hd
    unfold walkG at hw2
    cases hn : nodeG (opsD inc64) g.rules rs rs.length true 0 none 1 (0, ⟨0, [], [], 0⟩) with
    | none => rw [hn] at hw2; cases hw2
    | some a =>
      rw [hn] at hw2
      simp only at hw2
      split at hw2
      · cases hw2
      · simp only [Option.some.injEq] at hw2
        subst hw2
        obtain ⟨s1, s2, s3, s4⟩ := node_size inc64 g.rules rs 32 hB _ _ _ _ _ _ _ hn rfl
        simp only [List.length_nil] at s4
        obtain ⟨o1, n, N, o2, o3, o4⟩ := node_order inc64 g.rules rs 0 a.2.tokens.length (fun x hx1 hx2 => inc64_low x (by omega) (by omega)) hm.ne rs.length true 0 none 1 _ _ hn rfl (by simp) (Nat.le_refl _)
        simp only [List.nil_append] at o2
        exact ⟨n, N, o2, by omega, by omega⟩
  obtain ⟨n, N, e1, e2, e3⟩ := hpl
  have ht : treeD g d.tree = some d := by unfold treeD; rw [hr, e1]; exact hd
  have hk : knownE g d.tree = (0, -1) := known_mk (by rw [hlen]; exact h0) (by omega) (by rw [e1]; exact Int.le_refl _) (by rw [e1]; show (0 : Int) ≤ d.place; omega) ht rfl
  refine ⟨hr, hlen, hf, ht, hk, ?_, by rw [e1]; rfl, by rw [e1]; exact e2, e3⟩
  rw [knownD_yes hk ht, hr]
/-- A grown tree: it is known, its own tokens check, its text is read back. -/
theorem back_law {g : Gr} {nt : Int} {rs : List Int} (h : (growE g nt rs).1 = 0) : ∃ d, grownD g rs true 0 0 = some d ∧ growL g nt rs = d.tree ∧ (dmayN g rs.length).1 = 0 ∧ d.tokens.length ≤ 65536 ∧
    checkE g d.tokens d.tree = (if nt = g.ax then (0, -1) else (11, -1)) ∧ ((textE g d.tree).1 = 0 → readE g (textS g d.tree) = (0, -1) ∧ readL g (textS g d.tree) = d.tree) := by
  obtain ⟨-, h0, h1, h2, d, hd, hL, hT⟩ := grow_ok h
  obtain ⟨hda, n, hn, hnl⟩ := walk_any 0 hd
  obtain ⟨k1, k2, k3, k4, k5, k6, k7, k8, k9⟩ := walk_known h0 hda
  have hm := dmayN_zero h0
  refine ⟨d, hda, hL, h0, hT, ?_, ?_⟩
  · have hfirst : (d.tree.getD 0 (0, 0, 0)).1 = n := by
      have e : (d.tree.map (·.1)).getD 0 0 = (d.tree.getD 0 (0, 0, 0)).1 := by
        cases hc : d.tree with
        | nil => rw [hc] at k2; simp at k2; omega
        | cons x t => simp
      rw [← e, k1, List.getD_eq_getElem?_getD, hn]
      rfl
    have hbt : ¬ d.tokens.any (badTok g.terms.length) = true := by
      intro hb
      obtain ⟨x, hx, hb⟩ := List.any_eq_true.1 hb
      have := walk_toks hda (fun x => 0 ≤ x ∧ x < (g.terms.length : Int)) (fun r hr x hx h0 => ⟨by omega, sym_term (hm.right.ruleN r hr) x hx⟩) x hx
      unfold badTok at hb
      simp at hb
      omega
    unfold checkE
    rw [if_neg (by rw [k2, h0]; simp), if_neg (by omega), if_neg hbt, k6]
    by_cases ha : nt = g.ax
    · rw [if_pos ⟨k5, k7, by rw [hfirst, hnl]; exact ha, rfl⟩, if_pos ha]
    · rw [if_neg (fun hh => ha (by have := hh.2.2.1; rw [hfirst, hnl] at this; exact this)), if_neg ha]
  · intro ht
    have hw : textW g d.tree = rowW g rs := by rw [textW_row, k1]
    have hte : textE g d.tree = if 1048576 < (rowW g rs).length then (12, -1) else (0, -1) := by
      unfold textE
      rw [k5, hw]
      rfl
    have hbig : ¬ 1048576 < (rowW g rs).length := fun hb => by rw [hte, if_pos hb] at ht; simp at ht
    have hS : textS g d.tree = ⟨(rowW g rs).toArray⟩ := by unfold textS; rw [if_pos ht, hw]
    have htl : tl (textS g d.tree) = rowW g rs := by rw [hS]; rfl
    have hsz : (textS g d.tree).size ≤ 1048576 := by rw [← tl_length, htl]; omega
    have hwk : walkG (opsW decI) g.rules rs true 0 [] = some (rowW g rs) := by
      obtain ⟨i, hi⟩ := text_node k4
      rw [k1, hw] at hi
      have hc := node_ctl (opsD inc64) (opsW decI) g.rules rs rs.length true 0 none none 1 1 0 ⟨0, [], [], 0⟩ ([] : List UInt8)
      have hda2 := hda
      unfold grownD walkG at hda2
      unfold walkG
      rw [hi] at hc ⊢
      cases hn2 : nodeG (opsD inc64) g.rules rs rs.length true 0 none 1 (0, ⟨0, [], [], 0⟩) with
      | none => rw [hn2] at hda2; cases hda2
      | some a =>
        rw [hn2] at hda2 hc
        simp only at hda2
        split at hda2
        · cases hda2
        · rename_i hl
          simp only [Option.map_some, Option.some.injEq] at hc
          simp only
          rw [if_neg (by omega)]
    obtain ⟨hsc, hrg⟩ := scan_walk decI_ok (by have := hm.right.rules; omega) (fun r hr x hx => by have := sym_bound (hm.right.ruleN r hr) hm.right.size x hx; omega) hwk
    rw [← htl] at hsc
    have hgr : ¬ (grt rs = true ∨ 131072 < rs.length) := by
      rintro (h | h)
      · unfold grt at h
        obtain ⟨x, hx, hb⟩ := List.any_eq_true.1 h
        have := hrg x hx
        have := hm.right.rules
        simp at hb
        omega
      · have := hm.len; omega
    have h00 := dmay_any h0 (Nat.zero_le 131072)
    have hE : readE g (textS g d.tree) = (0, -1) := by rw [readE_some h00 hsz hsc hgr hda, if_pos htl.symm]
    exact ⟨hE, readL_yes hE hsc hda⟩
/-- A text that is read is the text of what was read. -/
theorem read_text {g : Gr} {T : ByteArray} (h : (readE g T).1 = 0) : ∃ d : DS, readL g T = d.tree ∧ textE g d.tree = (0, -1) ∧ textS g d.tree = T ∧ d.tree.length ≤ 131072 := by
  have hh := h
  unfold readE at h
  split at h
  · rename_i h1; exact absurd h h1
  · rename_i h0
    split at h
    · cases h
    · rename_i hT
      split at h
      · cases h
      · rename_i hp
        split at h
        · cases h
        · rename_i hg
          split at h
          · cases h
          · rename_i d hd
            split at h
            · rename_i hrow
              have h00 : (dmayN g 0).1 = 0 := by omega
              have hl : (scanS (tl T) 0 ss0).1.length ≤ 131072 := by omega
              have hT0 : 0 < T.size := by
                have := (walk_first hd).1
                rw [← tl_length]
                cases hc : tl T with
                | nil => rw [hc] at this; simp [scanS, ss0] at this
                | cons c l => simp
              have ht := text_read h00 hl (by omega) hT0 hd
              obtain ⟨k1, k2, k3, k4, k5, k6, k7, k8, k9⟩ := walk_known (dmay_any h00 hl) hd
              refine ⟨d, ?_, ?_, ht.symm ▸ hrow, by omega⟩
              · unfold readL
                rw [if_pos hh, hd]
              · unfold textE
                rw [k5, textW_row, k1, hrow, tl_length]
                simp
                omega
            · cases h
end Go.Proofs.YtcjcffcbfkimdaaDoor.Hand
/- A slice's head; lists by their elements. -/
namespace Go.Proofs.YtcjcffcbfkimdaaDoor.Hand
open Go.RowKit Go.Proofs.YtcjcffcbfkimdaaDoorW.PrintWords Go.Proofs.YtcjcffcbfkimdaaDoorW.PrintMore Go.Proofs.YtcjcffcbfkimdaaDoor.Math

theorem list_of {α : Type} {p : Nat → α → Prop} : ∀ {n : Nat} (_ : ∀ i, i < n → ∃ x, p i x), ∃ l : List α, l.length = n ∧ ∀ i x, l[i]? = some x → p i x
  | 0, _ => ⟨[], rfl, fun i x h => by simp at h⟩
  | n + 1, h => by
    obtain ⟨l, hl, hp⟩ := list_of (n := n) (fun i hi => h i (by omega))
    obtain ⟨x, hx⟩ := h n (by omega)
    refine ⟨l ++ [x], by simp [hl], fun i y hy => ?_⟩
    rcases Nat.lt_or_ge i l.length with hi | hi
    · rw [List.getElem?_append_left hi] at hy; exact hp i y hy
    · rw [List.getElem?_append_right hi] at hy
      have h0 : i - l.length = 0 := by
        rcases Nat.eq_zero_or_pos (i - l.length) with h | h
        · exact h
        · rw [List.getElem?_eq_none (by simp; omega)] at hy; cases hy
      rw [h0] at hy
      simp at hy
      subst hy
      have : i = n := by omega
      subst this
      exact hx
/-- A slice's head: where, how many, room. -/
structure Hd where
  ad : Option Addr
  n : Nat
  c : Nat
def Hd.v (h : Hd) : Value := .slice h.ad h.n h.c
end Go.Proofs.YtcjcffcbfkimdaaDoor.Hand
/- Arguments of whatever kind, opened: the reading of memory gives the plain datum that it spells. -/
namespace Go.Proofs.YtcjcffcbfkimdaaDoor.Hand
open Go.ChangeShapes Go.WideShapes Go.ChangeAt
open Go.RowKit Go.Proofs.YtcjcffcbfkimdaaDoorW.PrintWords Go.Proofs.YtcjcffcbfkimdaaDoorW.PrintMore Go.Proofs.YtcjcffcbfkimdaaDoor.Math

/-- Whatever reads by this type spells a datum of this kind. -/
def Opens {α : Type} (t : TypeId) (d : Kd α) (good : α → Prop) : Prop :=
  ∀ (H : Type) (enc : TypeId × Value → H) (W : World) (base : Nat) (spare : Nat → Bool) (held : Bool) (fuel : Nat) (cs : List Value) (x : DataW H × List MemPlace), DataW.trod enc Tryd.prog W base spare held fuel t cs = some x →
    (∀ n ∈ x.1.weights Tryd.prog t, n ≤ reachBytes) → ∃ a, d.K W a cs ∧ good a
theorem Opens.int {t : TypeId} {k : IntKind} (ht : Tryd.prog.underlying t = some (.int k)) : Opens t (Kd.int k) (fun a => (Lit.int k a).wf = true) := by
  intro H enc W base spare held fuel cs x h _
  obtain ⟨n, rfl, _, hw⟩ := DataW.trod_int ht h
  exact ⟨n, rfl, hw⟩
theorem Opens.string {t : TypeId} (ht : Tryd.prog.underlying t = some .string) : Opens t Kd.string (fun s => s.size ≤ 140737488351232) := by
  intro H enc W base spare held fuel cs x h hw
  obtain ⟨s, rfl, rfl, _⟩ := DataW.trod_string ht h
  refine ⟨s, rfl, ?_⟩
  have := hw s.data.toList.length (by simp [DataW.weights])
  simpa [reachBytes] using this
theorem weightsAll_mem {H : Type} {P : Program} {e : TypeId} {d : DataW H} {n : Nat} : ∀ {l : List (DataW H)}, d ∈ l → n ∈ d.weights P e → n ∈ DataW.weightsAll P e l
  | [], h, _ => by cases h
  | a :: r, h, hn => by
    simp only [DataW.weightsAll, List.mem_append]
    rcases List.mem_cons.1 h with rfl | h
    · exact .inl hn
    · exact .inr (weightsAll_mem h hn)
theorem Opens.slice {α : Type} {t e : TypeId} {B : Nat} {d : Kd α} {good : α → Prop} (ht : Tryd.prog.underlying t = some (.slice e)) (he : Opens e d good) (hc : Tryd.prog.cellsOf e = d.sz) (hB : Tryd.prog.bytesOf e = B) :
    Opens t (Kd.slice e d) (fun l => l.length * B ≤ 140737488351232 ∧ ∀ x ∈ l, good x) := by
  intro H enc W base spare held fuel cs x h hw
  rcases Deep.open_slice ht h with ⟨rfl, rfl⟩ | ⟨a, len, cap, m, n, D, Pl, rfl, hb, hl, hm, hmm, rfl, hx⟩
  · exact ⟨[], ⟨none, 0, rfl, Nat.le_refl _, Kd.C_nil d W⟩, by simp, fun x hx => absurd hx (List.not_mem_nil)⟩
  · have hlm : len ≤ m := by rw [hmm]; split <;> omega
    simp only [DataW.weights, ht] at hw
    have hw1 := hw _ (List.mem_cons_self ..)
    simp only [List.length_map, List.length_range] at hw1
    have hw2 : ∀ i, i < len → ∀ k ∈ (D i).weights Tryd.prog e, k ≤ reachBytes := fun i hi k hk =>
      hw k (List.mem_cons_of_mem _ (List.mem_append_left _ (weightsAll_mem (List.mem_map.2 ⟨i, List.mem_range.2 hi, rfl⟩) hk)))
    obtain ⟨l, hll, hp⟩ := list_of (n := len) (p := fun i p => good p ∧ ∃ cs', d.K W p cs' ∧ ∀ j u, cs'[j]? = some u → W.cell? (a.add (i * d.sz + j)) = some u) (fun i hi => by
      obtain ⟨cs', h1, h2⟩ := hx i (by omega)
      obtain ⟨p, hk, hg⟩ := he H enc W base spare held n cs' _ h2 (hw2 i hi)
      obtain ⟨_, hlen, hcell⟩ := World.cells?_some h1
      refine ⟨p, hg, cs', hk, fun j u hu => ?_⟩
      have hj : j < Tryd.prog.cellsOf e := by rw [← hlen]; exact (List.getElem?_eq_some_iff.1 hu).1
      have := hcell j hj
      rw [Deep.add_add, hu, hc] at this
      exact this)
    subst hll
    refine ⟨l, ⟨some a, cap, rfl, hl, rfl, ?_, fun _ => ⟨a, rfl, fun j p hj => ?_⟩⟩, ?_, fun x hx => ?_⟩
    · have : maxLen = 9223372036854775807 := by decide
      omega
    · obtain ⟨_, cs', hk, hcell⟩ := hp j p hj
      exact ⟨cs', d.K_len hk, hk, hcell⟩
    · rw [hB] at hw1
      have h3 : l.length * B ≤ (l.length + (m - l.length)) * B := Nat.mul_le_mul_right _ (by omega)
      have h4 : (reachBytes : Nat) = 140737488351232 := by decide
      omega
    · obtain ⟨i, hi⟩ := List.getElem?_of_mem hx
      exact (hp i x hi).1
theorem Opens.pair {α β : Type} {t : TypeId} {f0 f1 : Field} {a : Kd α} {b : Kd β} {ga : α → Prop} {gb : β → Prop} (ht : Tryd.prog.underlying t = some (.struct #[f0, f1])) (o0 : f0.offset = 0) (o1 : f1.offset = a.sz) (c0 : Tryd.prog.cellsOf f0.type = a.sz) (c1 : Tryd.prog.cellsOf f1.type = b.sz) (ct : Tryd.prog.cellsOf t = a.sz + b.sz)
    (h0 : Opens f0.type a ga) (h1 : Opens f1.type b gb) : Opens t (Kd.pair a b) (fun x => ga x.1 ∧ gb x.2) := by
  intro H enc W base spare held fuel cs x h hw
  obtain ⟨y0, y1, n, rfl, hl, k0, k1⟩ := trod_struct2 ht h
  simp only [DataW.weights, ht, List.map_cons, List.map_nil, DataW.weightsEach, List.append_nil] at hw
  rw [o0, c0, List.drop_zero] at k0
  rw [o1, c1] at k1
  obtain ⟨x0, q0, g0⟩ := h0 H enc W base spare held n _ _ k0 (fun n hn => hw n (List.mem_append_left _ hn))
  obtain ⟨x1, q1, g1⟩ := h1 H enc W base spare held n _ _ k1 (fun n hn => hw n (List.mem_append_right _ hn))
  refine ⟨(x0, x1), ⟨cs.take a.sz, (cs.drop a.sz).take b.sz, ?_, q0, q1⟩, g0, g1⟩
  rw [List.take_of_length_le (show (cs.drop a.sz).length ≤ b.sz by rw [List.length_drop, hl, ct]; omega), List.take_append_drop]
section
set_option maxRecDepth 20000
variable {H : Type} {enc : TypeId × Value → H} {W : World} {base : Nat} {r : Reach} {b0 : Nat} {spare : Nat → Bool} {held : Bool} {v : Value} {d : DataW H} {ps : List MemPlace} {ts : List TypeId} {ds : List (DataW H)} {j : Nat}

theorem openSlice {α : Type} {t e : TypeId} {B : Nat} {k : Kd α} {good : α → Prop} (hu : Tryd.prog.underlying t = some (.slice e)) (he : Opens e k good) (hc : Tryd.prog.cellsOf e = k.sz) (hB : Tryd.prog.bytesOf e = B)
    (hsz : (DataW.weightsEach Tryd.prog ts ds).all (· ≤ reachBytes) = true) (ht : ts[j]? = some t) (hd : ds[j]? = some d) (hv : Value.okWide Tryd.prog W r b0 t v) (h : DataW.Trod enc Tryd.prog W base spare held t v d ps) :
    ∃ (A : Option Addr) (c : Nat) (l : List α), v = .slice A l.length c ∧ k.C W A l.length l ∧ l.length * B ≤ 140737488351232 ∧ l.length ≤ c ∧ ∀ x ∈ l, good x := by
  obtain ⟨a, len, cap, rfl⟩ := okWide_slice hu hv
  obtain ⟨fuel, hf⟩ := h
  obtain ⟨l, ⟨A, c, hcs, hlc, hC⟩, hb, hg⟩ := (Opens.slice hu he hc hB) H enc W base spare held fuel _ _ hf (fun n hn => by
    have := List.all_eq_true.1 hsz n (DataW.weights_mem_each ht hd n hn)
    simpa using this)
  simp [Value.cells] at hcs
  obtain ⟨rfl, rfl, rfl⟩ := hcs
  exact ⟨_, _, l, rfl, hC, hb, hlc, hg⟩
theorem opens_i64 : Opens 3 (Kd.int .i64) (fun a => (Lit.int .i64 a).wf = true) := Opens.int Tryd.underlying3
theorem opens_ints : Opens 26 (Kd.slice 3 (Kd.int .i64)) (fun l => l.length * 8 ≤ 140737488351232 ∧ ∀ x ∈ l, (Lit.int .i64 x).wf = true) := Opens.slice Tryd.underlying26 opens_i64 (by kernel_rfl) (by kernel_rfl)
theorem openInts (hsz : (DataW.weightsEach Tryd.prog ts ds).all (· ≤ reachBytes) = true) (ht : ts[j]? = some 26) (hd : ds[j]? = some d) (hv : Value.okWide Tryd.prog W r b0 26 v) (h : DataW.Trod enc Tryd.prog W base spare held 26 v d ps) :
    ∃ (A : Option Addr) (c : Nat) (l : List Int), v = .slice A l.length c ∧ Kd.C (Kd.int .i64) W A l.length l ∧ l.length * 8 ≤ 140737488351232 ∧ l.length ≤ c ∧ ∀ x ∈ l, (Lit.int .i64 x).wf = true :=
  openSlice Tryd.underlying26 opens_i64 (by kernel_rfl) (by kernel_rfl) hsz ht hd hv h
theorem opens_strings : Opens 22 (Kd.slice 9 Kd.string) (fun l => l.length * 16 ≤ 140737488351232 ∧ ∀ x ∈ l, x.size ≤ 140737488351232) := Opens.slice Tryd.underlying22 (Opens.string Tryd.underlying9) (by kernel_rfl) (by kernel_rfl)
theorem openStrings (hsz : (DataW.weightsEach Tryd.prog ts ds).all (· ≤ reachBytes) = true) (ht : ts[j]? = some 22) (hd : ds[j]? = some d) (hv : Value.okWide Tryd.prog W r b0 22 v) (h : DataW.Trod enc Tryd.prog W base spare held 22 v d ps) :
    ∃ (A : Option Addr) (c : Nat) (l : List ByteArray), v = .slice A l.length c ∧ Kd.C Kd.string W A l.length l ∧ l.length * 16 ≤ 140737488351232 ∧ l.length ≤ c ∧ ∀ x ∈ l, x.size ≤ 140737488351232 :=
  openSlice Tryd.underlying22 (Opens.string Tryd.underlying9) (by kernel_rfl) (by kernel_rfl) hsz ht hd hv h
theorem opens_rule : Opens 80 KRule (fun x => (Lit.int .i64 x.1).wf = true ∧ x.2.length * 8 ≤ 140737488351232 ∧ ∀ s ∈ x.2, (Lit.int .i64 s).wf = true) := Opens.pair Tryd.underlying80 rfl rfl (by kernel_rfl) (by kernel_rfl) (by kernel_rfl) opens_i64 opens_ints
theorem openRules (hsz : (DataW.weightsEach Tryd.prog ts ds).all (· ≤ reachBytes) = true) (ht : ts[j]? = some 23) (hd : ds[j]? = some d) (hv : Value.okWide Tryd.prog W r b0 23 v) (h : DataW.Trod enc Tryd.prog W base spare held 23 v d ps) :
    ∃ (A : Option Addr) (c : Nat) (l : List (Int × List Int)), v = .slice A l.length c ∧ KRule.C W A l.length l ∧ l.length * 32 ≤ 140737488351232 ∧ l.length ≤ c ∧ ∀ x ∈ l, (Lit.int .i64 x.1).wf = true ∧ x.2.length * 8 ≤ 140737488351232 ∧ ∀ s ∈ x.2, (Lit.int .i64 s).wf = true :=
  openSlice Tryd.underlying23 opens_rule (by kernel_rfl) (by kernel_rfl) hsz ht hd hv h
/-- What the weights allow. -/
structure GramB (g : Gr) : Prop where
  terms : g.terms.length * 16 ≤ 140737488351232
  nonterms : g.nonterms.length * 16 ≤ 140737488351232
  rules : g.rules.length * 32 ≤ 140737488351232
  right : ∀ r ∈ g.rules, r.2.length * 8 ≤ 140737488351232
  ax : (Lit.int .i64 g.ax).wf = true
  nums : ∀ r ∈ g.rules, (Lit.int .i64 r.1).wf = true ∧ ∀ s ∈ r.2, (Lit.int .i64 s).wf = true
  names : (∀ s ∈ g.terms, s.size ≤ 140737488351232) ∧ ∀ s ∈ g.nonterms, s.size ≤ 140737488351232
theorem openGrammar (hsz : (DataW.weightsEach Tryd.prog ts ds).all (· ≤ reachBytes) = true) (ht : ts[j]? = some 25) (hd : ds[j]? = some d) (hv : Value.okWide Tryd.prog W r b0 25 v) (h : DataW.Trod enc Tryd.prog W base spare held 25 v d ps) :
    ∃ (g : Gr) (u : Value), v = u ∧ GramAt W u g ∧ GramB g := by
  obtain ⟨v0, v1, v2, v3, y0, y1, y2, y3, n, rfl, rfl, rfl, h0, h1, h2, h3⟩ := Joins.open_agg4 Tryd.underlying25 (by kernel_rfl) (by kernel_rfl) hv h
  have hw : ∀ k ∈ (DataW.agg [y0.1, y1.1, y2.1, y3.1]).weights Tryd.prog 25, k ≤ reachBytes := fun k hk => by
    have := List.all_eq_true.1 hsz k (DataW.weights_mem_each ht hd k hk)
    simpa using this
  simp only [DataW.weights, Tryd.underlying25, List.map_cons, List.map_nil, DataW.weightsEach, List.append_nil, List.mem_append] at hw
  obtain ⟨lT, ⟨AT, cT, e0, p0, q0⟩, b0, g0⟩ := opens_strings H enc W base spare held n _ _ h0 (fun k hk => hw k (.inl hk))
  obtain ⟨lN, ⟨AN, cN, e1, p1, q1⟩, b1, g1⟩ := opens_strings H enc W base spare held n _ _ h1 (fun k hk => hw k (.inr (.inl hk)))
  obtain ⟨ax, e2, _, b2⟩ := DataW.trod_int Tryd.underlying3 h2
  obtain ⟨lR, ⟨AR, cR, e3, p3, q3⟩, b3, g3⟩ := (Opens.slice Tryd.underlying23 opens_rule (by kernel_rfl) (by kernel_rfl) : Opens _ (Kd.slice 80 KRule) (fun l => l.length * 32 ≤ 140737488351232 ∧ _)) H enc W base spare held n _ _ h3 (fun k hk => hw k (.inr (.inr (.inr hk))))
  simp only [List.cons.injEq, and_true] at e0 e1 e2 e3
  subst e0 e1 e2 e3
  exact ⟨⟨lT, lN, ax, lR⟩, _, rfl, ⟨AT, cT, AN, cN, AR, cR, rfl, p0, p1, p3, q0, q1, q3⟩, ⟨b0, b1, b3, fun r hr => (g3 r hr).2.1, b2, fun r hr => ⟨(g3 r hr).1, (g3 r hr).2.2⟩, g0, g1⟩⟩
end
end Go.Proofs.YtcjcffcbfkimdaaDoor.Hand
/- The walk of DerivBack: it answers true and leaves the memory that it was given as it was, where the errors' variables and the table of powers stand. -/
namespace Go.Proofs.YtcjcffcbfkimdaaDoor.Hand
open Go.RowKit Go.Proofs.YtcjcffcbfkimdaaDoorW.PrintWords Go.Proofs.YtcjcffcbfkimdaaDoorW.PrintMore Go.Proofs.YtcjcffcbfkimdaaDoor.Math

set_option maxHeartbeats 4000000 in
set_option maxRecDepth 100000 in
theorem derivBack_walk {w : World} (g : Gr) (v : Value) (hg : GramAt w v g ∧ GramB g) (nt : Int) (_hnt : (Lit.int .i64 nt).wf = true) (At : Option Addr) (ct : Nat) (rs : List Int)
    (ht : Kd.C (Kd.int .i64) w At rs.length rs ∧ rs.length * 8 ≤ 140737488351232 ∧ rs.length ≤ ct ∧ ∀ x ∈ rs, (Lit.int .i64 x).wf = true) (T : ByteArray) (_hT : T.size ≤ 140737488351232) (hE : ∃ A, Errs w A) (hp : Pow10 w) :
    Calls Tryd.prog 7 #[v, .int .i64 nt, .slice At rs.length ct, .string T] w fun e w' => e = .returned (.bool true) ∧ Below w.heap.size w w' := by
  obtain ⟨hv, hB⟩ := hg
  obtain ⟨hr, hl8, hlc, -⟩ := ht
  obtain ⟨A, hE⟩ := hE
  have HV := Lib.hid hv
  obtain ⟨AT, cT, AN, cN, AR, cR, rfl, q1, q2, q3, q4, q5, q6⟩ := hv
  clear q4 q5 q6
  obtain ⟨w1, hw1⟩ : ∃ w1, w.alloc (.cells #[.slice AT g.terms.length cT, .slice AN g.nonterms.length cN, .int .i64 g.ax, .slice AR g.rules.length cR] 25) = w1 := ⟨_, rfl⟩
  have hb1 : Below w.heap.size w w1 := by rw [← hw1]; exact below_alloc (Below.refl _ _) _
  have hk1 : w1.heap[w.heap.size]? = some (.cells #[.slice AT g.terms.length cT, .slice AN g.nonterms.length cN, .int .i64 g.ax, .slice AR g.rules.length cR] 25 (0, 0)) := by rw [← hw1]; exact heap_alloc_new w _
  have HB1 := Lib.hid hb1
  have HK1 := Lib.hid hk1
  have HG1 := Lib.hid (HV.out.below hb1)
  have HT1 := Lib.hid (Kd.C_below hr hb1)
  have HE1 := Lib.hid (hE.below hb1)
  have HP1 := Lib.hid (hp.below hb1)
  have HKn := Lib.hid (lawKnown_calls w1 A (hE.below hb1) (hp.below hb1))
  have HLG := Lib.hid (fun (W : World) (hW : Below w1.heap.size w1 W) => lentGrammar_calls _ g W (HG1.out.below hW) (by have := hB.terms; omega) (by have := hB.nonterms; omega) (by have := hB.rules; omega) (fun r hr => by have := hB.right r hr; omega))
  have HLI := Lib.hid (fun (W : World) (hW : Below w1.heap.size w1 W) => lentInts_calls At ct rs W (Kd.C_below HT1.out hW) (by omega))
  have HGr := Lib.hid (fun (W : World) (u : Value) (Al : Option Addr) (cl : Nat) (l : List Int) (hu : GramAt W u g) (hl : (Kd.int .i64).C W Al l.length l) (hlc : l.length ≤ cl) (hW : Below w1.heap.size w1 W) => grow_calls u g nt Al cl l W A (HE1.out.below hW) hu hl hlc)
  have HRn : Hid ((readE g T).1 ≠ 0 → ∀ (W : World) (u : Value), GramAt W u g → Below w1.heap.size w1 W → Calls Tryd.prog 29 #[u, .string T] W fun e w' => ∃ A5 c5 t x, e = .returned (.tuple #[.slice A5 0 c5, .iface t x]) ∧ Below W.heap.size W w') := Lib.hid (fun hr W u hu hW => (read_calls u g T W A (HE1.out.below hW) hu (HP1.out.below hW)).mono (by
    rintro e w' ⟨v5, u5, rfl, h1, h2, h3⟩
    rw [readL_no hr] at h1
    obtain ⟨A5, c5, e5⟩ := Kd.R_slice h1
    subst e5
    rcases h2.nil_iff with ⟨h, _⟩ | ⟨_, t, x, rfl⟩
    · exact absurd h hr
    · exact ⟨A5, c5, t, x, rfl, h3⟩))
  obtain ⟨nT, hnT⟩ : ∃ n, (readL g T).length = n := ⟨_, rfl⟩
  have HRo : Hid ((readE g T).1 = 0 → ∀ (W : World) (u : Value), GramAt W u g → Below w1.heap.size w1 W → Calls Tryd.prog 29 #[u, .string T] W fun e w' => ∃ A5 c5, e = .returned (.tuple #[.slice A5 nT c5, .nilIface]) ∧ nT ≤ c5 ∧ KStep.C w' A5 nT (readL g T) ∧ Below W.heap.size W w') := Lib.hid (fun hr W u hu hW => (read_calls u g T W A (HE1.out.below hW) hu (HP1.out.below hW)).mono (by
    rintro e w' ⟨v5, u5, rfl, h1, h2, h3⟩
    rw [hr] at h2
    obtain ⟨A5, c5, e5⟩ := Kd.R_slice h1
    subst e5
    rcases h2.nil_iff with ⟨_, rfl⟩ | ⟨h, _⟩
    · rw [hnT] at h1 ⊢
      have := Kd.R_reads' h1
      rw [hnT] at this
      exact ⟨A5, c5, rfl, this.2.1, this.2.2, h3⟩
    · omega))
  have HTt : Hid ((readE g T).1 = 0 → ∀ (W : World) (u : Value) (A5 : Option Addr) (c5 : Nat), GramAt W u g → KStep.C W A5 nT (readL g T) → nT ≤ c5 → Below w1.heap.size w1 W → Calls Tryd.prog 28 #[u, .slice A5 nT c5] W fun e w' => e = .returned (.tuple #[.string T, .nilIface]) ∧ Below W.heap.size W w') := Lib.hid (fun hr W u A5 c5 hu h1 h2 hW => by
    subst hnT
    refine (text18_calls u g A5 c5 (readL g T) W A (HE1.out.below hW) hu h1 h2 (HP1.out.below hW)).mono ?_
    rintro e w' ⟨u5, rfl, h3, h4⟩
    refine ⟨?_, h4⟩
    obtain ⟨d, k1, k2, k3, -⟩ := read_text hr
    rw [k1] at h3 ⊢
    rw [k2] at h3
    rw [k3]
    rcases h3.nil_iff with ⟨_, rfl⟩ | ⟨h, _⟩
    · rfl
    · omega)
  have hl64 : rs.length ≤ 9223372036854775807 := by omega
  have HL8 := Lib.hid hl8
  obtain ⟨E, hEe⟩ : ∃ E, growE g nt rs = E := ⟨_, rfl⟩
  obtain ⟨ek, er⟩ := E
  by_cases h0 : ek = 0
  · subst h0
    have h1 : (growE g nt rs).1 = 0 := by rw [hEe]
    obtain ⟨d, k1, k2, k3, k4, k5, k6⟩ := back_law h1
    obtain ⟨l1, l2, l3, l4, l5, l6, l7, l8, l9⟩ := walk_known k3 k1
    have hml := (dmayN_zero k3).len
    obtain ⟨n5, hn5⟩ : ∃ n, d.tree.length = n := ⟨_, rfl⟩
    obtain ⟨m5, hm5⟩ : ∃ n, d.tokens.length = n := ⟨_, rfl⟩
    rw [hm5] at l8 k4
    rw [hn5] at l2
    have Hn5 := Lib.hid hn5
    have Hm5 := Lib.hid hm5
    have HG0 : Hid (∀ W e w', GrowP W g nt rs A e w' → ∃ A5 c5, e = .returned (.tuple #[.slice A5 n5 c5, .nilIface]) ∧ n5 ≤ c5 ∧ KStep.C w' A5 n5 d.tree ∧ Below W.heap.size W w') := Lib.hid (by
      rintro W e w' ⟨va, ua, rfl, hra, hua, hb⟩
      rw [k2] at hra
      obtain ⟨A5, c5, e5⟩ := Kd.R_slice hra
      subst e5
      rw [h1] at hua
      rcases hua.nil_iff with ⟨_, rfl⟩ | ⟨h, _⟩
      · have := Kd.R_reads' hra
        rw [hn5] at this ⊢
        exact ⟨A5, c5, rfl, this.2.1, this.2.2, hb⟩
      · omega)
    have HLS : Hid (∀ (W : World) (A5 : Option Addr) (c5 : Nat), KStep.C W A5 n5 d.tree → Calls Tryd.prog 17 #[.slice A5 n5 c5] W fun e w' => ∃ A c, e = .returned (.slice A n5 c) ∧ n5 ≤ c ∧ KStep.C w' A n5 d.tree ∧ Below W.heap.size W w') := Lib.hid (fun W A5 c5 h => by
      subst hn5
      refine (lentSteps_calls A5 c5 d.tree W h (by omega)).mono ?_
      rintro e w' ⟨A6, c6, rfl, h1, h2, h3⟩
      have h := Kd.R_reads' h2
      have h4 := h.2.2
      rw [← h.1] at h4
      exact ⟨A6, c6, rfl, by omega, lent_C (a := KStep) h4, h3⟩)
    have HRu : Hid (∀ (W : World) (u : Value) (A5 : Option Addr) (c5 : Nat), GramAt W u g → KStep.C W A5 n5 d.tree → n5 ≤ c5 → Below w1.heap.size w1 W → Calls Tryd.prog 21 #[u, .slice A5 n5 c5] W fun e w' => ∃ A' c', e = .returned (.tuple #[.slice A' rs.length c', .nilIface]) ∧ (Kd.int .i64).C w' A' rs.length rs ∧ Below W.heap.size W w') := Lib.hid (fun W u A5 c5 hu h hc hW => by
      subst hn5
      refine (drules_calls u g A5 c5 d.tree W A (HE1.out.below hW) hu h hc).mono ?_
      rintro e w' ⟨v1, u1, rfl, hr, hu1, hb⟩
      rw [l5] at hu1
      rw [l6] at hr
      obtain ⟨A6, c6, e6⟩ := Kd.R_slice hr
      subst e6
      rcases hu1.nil_iff with ⟨_, rfl⟩ | ⟨h, _⟩
      · exact ⟨A6, c6, rfl, (Kd.R_reads' hr).2.2, hb⟩
      · omega)
    have HFr : Hid (∀ (W : World) (u : Value) (A5 : Option Addr) (c5 : Nat), GramAt W u g → KStep.C W A5 n5 d.tree → n5 ≤ c5 → Below w1.heap.size w1 W → Calls Tryd.prog 20 #[u, .slice A5 n5 c5] W fun e w' => ∃ A' c', e = .returned (.tuple #[.slice A' m5 c', .nilIface]) ∧ (Kd.int .i64).C w' A' m5 d.tokens ∧ Below W.heap.size W w') := Lib.hid (fun W u A5 c5 hu h hc hW => by
      subst hn5
      refine (frontier_calls u g A5 c5 d.tree W A (HE1.out.below hW) hu h hc).mono ?_
      rintro e w' ⟨v1, u1, rfl, hr, hu1, hb⟩
      rw [l5] at hu1
      rw [l6] at hr
      obtain ⟨A6, c6, e6⟩ := Kd.R_slice hr
      subst e6
      rcases hu1.nil_iff with ⟨_, rfl⟩ | ⟨h, _⟩
      · have := (Kd.R_reads' hr).2.2
        simp only [hm5] at this ⊢
        exact ⟨A6, c6, rfl, this, hb⟩
      · omega)
    have HCk : Hid (∀ (W : World) (u : Value) (A5 A6 : Option Addr) (c5 c6 : Nat), GramAt W u g → (Kd.int .i64).C W A6 m5 d.tokens → KStep.C W A5 n5 d.tree → n5 ≤ c5 → Below w1.heap.size w1 W → Calls Tryd.prog 19 #[u, .slice A6 m5 c6, .slice A5 n5 c5] W fun e w' => ∃ u', e = .returned u' ∧ ErrV w' A u' (checkE g d.tokens d.tree).1 (checkE g d.tokens d.tree).2 ∧ Below W.heap.size W w') := Lib.hid (fun W u A5 A6 c5 c6 hu h6 h hc hW => by
      subst hn5 hm5
      exact check18_calls u g A6 c6 d.tokens A5 c5 d.tree W A (HE1.out.below hW) hu h6 h hc)
    have HTx : Hid (∀ (W : World) (u : Value) (A5 : Option Addr) (c5 : Nat), GramAt W u g → KStep.C W A5 n5 d.tree → n5 ≤ c5 → Below w1.heap.size w1 W → Calls Tryd.prog 28 #[u, .slice A5 n5 c5] W fun e w' => ∃ u', e = .returned (.tuple #[.string (textS g d.tree), u']) ∧ ErrV w' A u' (textE g d.tree).1 (textE g d.tree).2 ∧ Below W.heap.size W w') := Lib.hid (fun W u A5 c5 hu h hc hW => by
      subst hn5
      exact text18_calls u g A5 c5 d.tree W A (HE1.out.below hW) hu h hc (HP1.out.below hW))
    have HRd : Hid ((textE g d.tree).1 = 0 → ∀ (W : World) (u : Value), GramAt W u g → Below w1.heap.size w1 W → Calls Tryd.prog 29 #[u, .string (textS g d.tree)] W fun e w' => ∃ A5 c5, e = .returned (.tuple #[.slice A5 n5 c5, .nilIface]) ∧ KStep.C w' A5 n5 d.tree ∧ Below W.heap.size W w') := Lib.hid (fun hx W u hu hW => (read_calls u g (textS g d.tree) W A (HE1.out.below hW) hu (HP1.out.below hW)).mono (by
      obtain ⟨e1, e2⟩ := k6 hx
      rintro e w' ⟨v5, u5, rfl, h1, h2, h3⟩
      rw [e2] at h1
      rw [e1] at h2
      obtain ⟨A5, c5, e5⟩ := Kd.R_slice h1
      subst e5
      rcases h2.nil_iff with ⟨_, rfl⟩ | ⟨h, _⟩
      · have := (Kd.R_reads' h1).2.2
        rw [hn5] at this ⊢
        exact ⟨A5, c5, rfl, this, h3⟩
      · omega))
    have HIn : Hid (∀ (W : World) (Aa Ab : Option Addr) (ca cb : Nat), (Kd.int .i64).C W Aa rs.length rs → (Kd.int .i64).C W Ab rs.length rs → Calls Tryd.prog 24 #[.slice Aa rs.length ca, .slice Ab rs.length cb] W fun e w' => e = .returned (.bool true) ∧ Below W.heap.size W w') := Lib.hid (fun W Aa Ab ca cb h1 h2 => (ints_calls Aa Ab ca cb rs rs W h1 h2).mono (by
      rw [decide_eq_true (show rs = rs from rfl)]
      rintro e w' ⟨rfl, n, rfl⟩
      exact ⟨rfl, pw_below_drewN (Below.refl _ _) n⟩))
    have HSs : Hid (∀ (W : World) (Aa Ab : Option Addr) (ca cb : Nat), KStep.C W Aa n5 d.tree → KStep.C W Ab n5 d.tree → Calls Tryd.prog 14 #[.slice Aa n5 ca, .slice Ab n5 cb] W fun e w' => e = .returned (.bool true) ∧ Below W.heap.size W w') := Lib.hid (fun W Aa Ab ca cb h1 h2 => by
      subst hn5
      refine (ksteps_calls Aa Ab ca cb d.tree d.tree W h1 h2).mono ?_
      rw [decide_eq_true (show d.tree = d.tree from rfl)]
      rintro e w' ⟨rfl, n, rfl⟩
      exact ⟨rfl, pw_below_drewN (Below.refl _ _) n⟩)
    have H78 : Hid ((d.tree.getD 0 (0, 0, 0)).2.1 = 0 ∧ (d.tree.getD 0 (0, 0, 0)).2.2 = (m5 : Int)) := Lib.hid ⟨l7, l8⟩
    have HCe := Lib.hid k5
    have hnn : ((n5 : Int) != (rs.length : Int)) = false := by rw [l2]; simp
    have hn0 : (0 : Int) < (n5 : Int) := by omega
    have hnp : 0 < n5 := by omega
    clear hEe hb1 hk1 hr hE hB hl8 hp hnT h1 k1 k2 k3 k5 k6 l1 l4 l5 l6 l7 l8 hn5 hm5 l2 l3
    go_enter Tryd.func7, Tryd.ntmps7
    go_upto_region 1 with (fail)
    clear hw1
    go_upto_region 5 with (first
      | (go_at_call 26; refine HKn.out.mono ?_; rintro e w2 ⟨rfl, hb2⟩; obtain ⟨c0, c1, c2, c3⟩ := gr_blk (blk_below HK1.out hb2); have HB2 := Lib.hid hb2; clear hb2)
      | (go_at_call 9; refine (HLG.out w2 HB2.out).mono ?_; rintro e w3 ⟨u3, rfl, hu, hb3⟩; have HU := Lib.hid hu.plain; have HB3 := Lib.hid (below_next HB2.out hb3); clear hu hb3 c0 c1 c2 c3)
      | (go_at_call 10; refine (HLI.out w3 HB3.out).mono ?_; rintro e w4 ⟨Al, cl, rfl, hcl, hrl, hb4⟩; have HRl : Hid (KMInt.C w4 Al (rs.length + 1) (rs.map some ++ [none])) := Lib.hid (by have := (Kd.R_reads' hrl).2.2; rwa [← (Kd.R_reads' hrl).1] at this); have HU4 := Lib.hid (HU.out.below hb4); have HB4 := Lib.hid (below_next HB3.out hb4); clear hrl hb4)
      | (go_at_call 11; refine (HGr.out w4 u3 Al cl rs HU4.out (lent_C (a := Kd.int .i64) HRl.out) (by omega) HB4.out).mono ?_; rintro e w5 h5; obtain ⟨A5, c5, rfl, hc5, hcc, hb5⟩ := HG0.out _ _ _ h5; have HC5 := Lib.hid hcc; have HB5 := Lib.hid (below_next HB4.out hb5); clear h5 hb5 hcc))
    have HLG5 := Lib.hid (fun (W : World) (hW : Below w5.heap.size w5 W) => HLG.out W (below_next HB5.out hW))
    have HLS5 := Lib.hid (fun (W : World) (hW : Below w5.heap.size w5 W) => HLS.out W A5 c5 (Kd.C_below HC5.out hW))
    have HK5 := Lib.hid (blk_below HK1.out HB5.out)
    obtain ⟨ad, x0, y0, z0, rfl, k0, k1, k2, HX0⟩ := at_step (by have := HC5.out; rw [← Hn5.out] at this; exact this) 0 (by rw [Hn5.out]; exact hnp)
    rw [HX0.out] at H78
    obtain ⟨rfl, rfl⟩ : y0 = 0 ∧ z0 = (m5 : Int) := H78.out
    rw [Nat.zero_mul, addr_zero] at k0 k1 k2
    have HCl : Hid (∀ W : World, Below w5.heap.size w5 W → W.cell? ⟨ad.block, ad.off + 1, none⟩ = some (.int .i64 0) ∧ W.cell? ⟨ad.block, ad.off + 2, none⟩ = some (.int .i64 (m5 : Int))) := Lib.hid (fun W hW => ⟨(hW.cell (World.block_lt_of_cell? _ _ k1)).trans k1, (hW.cell (World.block_lt_of_cell? _ _ k2)).trans k2⟩)
    clear k0 k1 k2 H78
    obtain ⟨c0, c1, c2, c3⟩ := gr_blk (blk_below HK5.out (Below.refl _ _))
    go_upto_region 6 with (first | (go_at_call 9; refine (HLG5.out w5 (Below.refl w5.heap.size w5)).mono ?_; rintro e wga ⟨uga, rfl, hu, hb⟩; have HUga := Lib.hid hu.plain; have HBra := Lib.hid hb; have HBga := Lib.hid (below_next (Below.refl w5.heap.size w5) hb); clear hu hb c0 c1 c2 c3) | (go_at_call 17; refine (HLS5.out wga HBga.out).mono ?_; rintro e wsa ⟨Asa, csa, rfl, hcla, hcc, hb⟩; have HCa := Lib.hid hcc; have HUa := Lib.hid (HUga.out.below hb); have HBqa := Lib.hid (below_next HBra.out hb); have HBsa := Lib.hid (below_next HBga.out hb); clear hb hcc) | (go_at_call 21; refine (HRu.out wsa uga Asa csa HUa.out HCa.out hcla (below_next HB5.out HBsa.out)).mono ?_; rintro e wp1 ⟨A6, c6, rfl, hcc, hb⟩; have HC6 := Lib.hid hcc; have HP1w := Lib.hid (below_next HBsa.out hb); clear hcc hb))
    obtain ⟨c0, c1, c2, c3⟩ := gr_blk (blk_below HK5.out HP1w.out)
    go_upto_region 7 with (first | (go_at_call 9; refine (HLG5.out wp1 HP1w.out).mono ?_; rintro e wgb ⟨ugb, rfl, hu, hb⟩; have HUgb := Lib.hid hu.plain; have HBrb := Lib.hid hb; have HBgb := Lib.hid (below_next HP1w.out hb); clear hu hb c0 c1 c2 c3) | (go_at_call 17; refine (HLS5.out wgb HBgb.out).mono ?_; rintro e wsb ⟨Asb, csb, rfl, hclb, hcc, hb⟩; have HCb := Lib.hid hcc; have HUb := Lib.hid (HUgb.out.below hb); have HBqb := Lib.hid (below_next HBrb.out hb); have HBsb := Lib.hid (below_next HBgb.out hb); clear hb hcc) | (go_at_call 20; refine (HFr.out wsb ugb Asb csb HUb.out HCb.out hclb (below_next HB5.out HBsb.out)).mono ?_; rintro e wp2 ⟨A7, c7, rfl, hcc, hb⟩; have HC7 := Lib.hid hcc; have HC62 := Lib.hid (Kd.C_below HC6.out (below_next HBqb.out hb)); have HP2w := Lib.hid (below_next HBsb.out hb); clear hcc hb))
    have hj0 : ((0 : Int) != 0) = false := by simp
    have hjm : ((m5 : Int) != (m5 : Int)) = false := by simp
    obtain ⟨e1, e2⟩ := HCl.out _ HP2w.out
    have HInt : Hid (Calls Tryd.prog 24 #[.slice A6 rs.length c6, .slice At rs.length ct] wp2 fun e w' => e = .returned (.bool true) ∧ Below wp2.heap.size wp2 w' ∧ (w'.cell? ⟨ad.block, ad.off + 1, none⟩ = some (.int .i64 0) ∧ w'.cell? ⟨ad.block, ad.off + 2, none⟩ = some (.int .i64 (m5 : Int)))) := Lib.hid ((HIn.out wp2 A6 At c6 ct HC62.out (Kd.C_below HT1.out (below_next HB5.out HP2w.out))).mono (by
      rintro e w' ⟨h1, h2⟩
      exact ⟨h1, h2, HCl.out _ (below_next HP2w.out h2)⟩))
    clear e1 e2
    go_upto_region 9 with (go_at_call 24; refine HInt.out.mono ?_; rintro e wp3 ⟨rfl, hb, e1, e2⟩; have HC73 := Lib.hid (Kd.C_below HC7.out hb); have HP3w := Lib.hid (below_next HP2w.out hb); clear hb)
    obtain ⟨c0, c1, c2, c3⟩ := gr_blk (blk_below HK5.out HP3w.out)
    clear e1 e2
    go_upto_region 10 with (first | (go_at_call 9; refine (HLG5.out wp3 HP3w.out).mono ?_; rintro e wgc ⟨ugc, rfl, hu, hb⟩; have HUgc := Lib.hid hu.plain; have HBrc := Lib.hid hb; have HBgc := Lib.hid (below_next HP3w.out hb); clear hu hb c0 c1 c2 c3) | (go_at_call 17; refine (HLS5.out wgc HBgc.out).mono ?_; rintro e wsc ⟨Asc, csc, rfl, hclc, hcc, hb⟩; have HCc := Lib.hid hcc; have HUc := Lib.hid (HUgc.out.below hb); have HBqc := Lib.hid (below_next HBrc.out hb); have HBsc := Lib.hid (below_next HBgc.out hb); clear hb hcc) | (go_at_call 19; refine (HCk.out wsc ugc Asc A7 csc c7 HUc.out (Kd.C_below HC73.out HBqc.out) HCc.out hclc (below_next HB5.out HBsc.out)).mono ?_; rintro e wp4 ⟨u4, rfl, hu, hb⟩; have HU4x := Lib.hid hu; have HP4w := Lib.hid (below_next HBsc.out hb); clear hu hb))
    obtain ⟨c0, c1, c2, c3⟩ := gr_blk (blk_below HK5.out HP4w.out)
    by_cases hax : nt = g.ax
    · have hu4 := HU4x.out
      rw [HCe.out, if_pos hax] at hu4
      obtain rfl : u4 = .nilIface := by cases hu4; rfl
      have haI : (nt == g.ax) = true := by rw [beq_iff_eq]; exact hax
      have haJ : decide (nt = g.ax) = true := decide_eq_true hax
      clear hax hu4
      go_quiet (fail)
      rename Nat => nq
      obtain ⟨wp5, hw5⟩ : ∃ w, wp4.drewN nq = w := ⟨_, rfl⟩
      have HP5w : Hid (Below w5.heap.size w5 wp5) := Lib.hid (by rw [← hw5]; exact pw_below_drewN HP4w.out nq)
      rw [hw5]
      clear hw5 c0 c1 c2 c3
      obtain ⟨c0, c1, c2, c3⟩ := gr_blk (blk_below HK5.out HP5w.out)
      go_upto_region 13 with (first | (go_at_call 9; refine (HLG5.out wp5 HP5w.out).mono ?_; rintro e wgdg ⟨ugdg, rfl, hu, hb⟩; have HUgdg := Lib.hid hu.plain; have HBrdg := Lib.hid hb; have HBgdg := Lib.hid (below_next HP5w.out hb); clear hu hb c0 c1 c2 c3) | (go_at_call 17; refine (HLS5.out wgdg HBgdg.out).mono ?_; rintro e wsdg ⟨Asdg, csdg, rfl, hcldg, hcc, hb⟩; have HCdg := Lib.hid hcc; have HUdg := Lib.hid (HUgdg.out.below hb); have HBqdg := Lib.hid (below_next HBrdg.out hb); have HBsdg := Lib.hid (below_next HBgdg.out hb); clear hb hcc) | (go_at_call 28; refine (HTx.out wsdg ugdg Asdg csdg HUdg.out HCdg.out hcldg (below_next HB5.out HBsdg.out)).mono ?_; rintro e wp6 ⟨u6, rfl, hu, hb⟩; have HU6x := Lib.hid hu; have HP6w := Lib.hid (below_next HBsdg.out hb); clear hu hb))
      by_cases hx : (textE g d.tree).1 = 0
      · have HRd2 := Lib.hid (HRd.out hx)
        obtain rfl : u6 = .nilIface := by
          rcases HU6x.out.nil_iff with ⟨_, h⟩ | ⟨h, _⟩
          · exact h
          · omega
        clear hx
        obtain ⟨c0, c1, c2, c3⟩ := gr_blk (blk_below HK5.out HP6w.out)
        go_upto_region 17 with (first
          | (go_at_call 9; refine (HLG5.out wp6 HP6w.out).mono ?_; rintro e wp7 ⟨ug7, rfl, hu, hb⟩; have HU7 := Lib.hid hu.plain; have HP7w := Lib.hid (below_next HP6w.out hb); clear hu hb c0 c1 c2 c3)
          | (go_at_call 29; refine (HRd2.out wp7 ug7 HU7.out (below_next HB5.out HP7w.out)).mono ?_; rintro e wp8 ⟨A8, c8, rfl, hcc, hb⟩; have HC8 := Lib.hid hcc; have HP8w := Lib.hid (below_next HP7w.out hb); clear hcc hb)
          | (go_at_call 14; refine (HSs.out wp8 A8 (some ad) c8 c5 HC8.out (Kd.C_below HC5.out HP8w.out)).mono ?_; rintro e wp9 ⟨rfl, hb⟩; have HP9w := Lib.hid (below_next HP8w.out hb); clear hb))
        obtain ⟨c0, c1, c2, c3⟩ := gr_blk (blk_below HK1.out (below_next HB5.out HP9w.out))
        have HBte := Lib.hid (below_next HB5.out HP9w.out)
        by_cases hr : (readE g T).1 = 0
        · have HRt := Lib.hid (HRo.out hr)
          have HTu := Lib.hid (HTt.out hr)
          clear hr
          go_wp2_with (first
            | (go_at_call 28; refine (HTu.out _ uue Ate cte HUue.out HCte.out hcte HBue.out).mono ?_; rintro e wxe ⟨rfl, hb⟩; have HBxe := Lib.hid (below_next HBue.out hb); clear hb)
            | (go_at_call 9; refine (HLG.out _ HBre.out).mono ?_; rintro e wue ⟨uue, rfl, hu, hb⟩; have HUue := Lib.hid hu.plain; have HBue := Lib.hid (below_next HBre.out hb); have HCte := Lib.hid (Kd.C_below HCre.out hb); clear hu hb c0 c1 c2 c3)
            | (go_at_call 29; refine (HRt.out _ ute HUte.out HBve.out).mono ?_; rintro e wre ⟨Ate, cte, rfl, hcte, hcc, hb⟩; have HCre := Lib.hid hcc; have HBre := Lib.hid (below_next HBve.out hb); obtain ⟨c0, c1, c2, c3⟩ := gr_blk (blk_below HK1.out HBre.out); clear hcc hb)
            | (go_at_call 9; refine (HLG.out _ HBte.out).mono ?_; rintro e wve ⟨ute, rfl, hu, hb⟩; have HUte := Lib.hid hu.plain; have HBve := Lib.hid (below_next HBte.out hb); clear hu hb c0 c1 c2 c3))
          go_ret
          exact ⟨rfl, below_next HB1.out HBxe.out⟩
        · have HRt := Lib.hid (HRn.out hr)
          clear hr
          go_wp2_with (first
            | (go_at_call 29; refine (HRt.out _ ute HUte.out HBve.out).mono ?_; rintro e wre ⟨Ate, cte, tte, xte, rfl, hb⟩; have HBre := Lib.hid (below_next HBve.out hb); clear hb)
            | (go_at_call 9; refine (HLG.out _ HBte.out).mono ?_; rintro e wve ⟨ute, rfl, hu, hb⟩; have HUte := Lib.hid hu.plain; have HBve := Lib.hid (below_next HBte.out hb); clear hu hb c0 c1 c2 c3))
          go_ret
          exact ⟨rfl, below_next HB1.out HBre.out⟩
      · obtain ⟨t6, x6, rfl⟩ : ∃ t x, u6 = .iface t x := by
          rcases HU6x.out.nil_iff with ⟨h, _⟩ | ⟨_, t, x, h⟩
          · exact absurd h hx
          · exact ⟨t, x, h⟩
        clear hx
        go_upto_region 17 with (fail)
        obtain ⟨c0, c1, c2, c3⟩ := gr_blk (blk_below HK1.out (below_next HB5.out HP6w.out))
        have HBtf := Lib.hid (below_next HB5.out HP6w.out)
        by_cases hr : (readE g T).1 = 0
        · have HRt := Lib.hid (HRo.out hr)
          have HTu := Lib.hid (HTt.out hr)
          clear hr
          go_wp2_with (first
            | (go_at_call 28; refine (HTu.out _ uuf Atf ctf HUuf.out HCtf.out hctf HBuf.out).mono ?_; rintro e wxf ⟨rfl, hb⟩; have HBxf := Lib.hid (below_next HBuf.out hb); clear hb)
            | (go_at_call 9; refine (HLG.out _ HBrf.out).mono ?_; rintro e wuf ⟨uuf, rfl, hu, hb⟩; have HUuf := Lib.hid hu.plain; have HBuf := Lib.hid (below_next HBrf.out hb); have HCtf := Lib.hid (Kd.C_below HCrf.out hb); clear hu hb c0 c1 c2 c3)
            | (go_at_call 29; refine (HRt.out _ utf HUtf.out HBvf.out).mono ?_; rintro e wrf ⟨Atf, ctf, rfl, hctf, hcc, hb⟩; have HCrf := Lib.hid hcc; have HBrf := Lib.hid (below_next HBvf.out hb); obtain ⟨c0, c1, c2, c3⟩ := gr_blk (blk_below HK1.out HBrf.out); clear hcc hb)
            | (go_at_call 9; refine (HLG.out _ HBtf.out).mono ?_; rintro e wvf ⟨utf, rfl, hu, hb⟩; have HUtf := Lib.hid hu.plain; have HBvf := Lib.hid (below_next HBtf.out hb); clear hu hb c0 c1 c2 c3))
          go_ret
          exact ⟨rfl, below_next HB1.out HBxf.out⟩
        · have HRt := Lib.hid (HRn.out hr)
          clear hr
          go_wp2_with (first
            | (go_at_call 29; refine (HRt.out _ utf HUtf.out HBvf.out).mono ?_; rintro e wrf ⟨Atf, ctf, ttf, xtf, rfl, hb⟩; have HBrf := Lib.hid (below_next HBvf.out hb); clear hb)
            | (go_at_call 9; refine (HLG.out _ HBtf.out).mono ?_; rintro e wvf ⟨utf, rfl, hu, hb⟩; have HUtf := Lib.hid hu.plain; have HBvf := Lib.hid (below_next HBtf.out hb); clear hu hb c0 c1 c2 c3))
          go_ret
          exact ⟨rfl, below_next HB1.out HBrf.out⟩
    · have hu4 := HU4x.out
      rw [HCe.out, if_neg hax] at hu4
      obtain ⟨t4, x4, rfl⟩ : ∃ t x, u4 = .iface t x := by
        rcases hu4.nil_iff with ⟨h, _⟩ | ⟨_, t, x, h⟩
        · omega
        · exact ⟨t, x, h⟩
      have HU4y := Lib.hid hu4
      have haI : (nt == g.ax) = false := beq_eq_false_iff_ne.2 hax
      have haJ : decide (nt = g.ax) = false := decide_eq_false hax
      have HDr : Hid (Below wp4.heap.size wp4 wp4.drew) := Lib.hid (pw_below_drewN (Below.refl _ _) 1)
      have HS : Hid (∀ W, Below wp4.heap.size wp4 W → W.cell? ⟨w.heap.size, 2, none⟩ = some (.int .i64 g.ax)) := Lib.hid (fun W hW => (hW.cell (World.block_lt_of_cell? _ _ c2)).trans c2)
      have HKd := Lib.hid (fun (W : World) (hW : Below wp4.heap.size wp4 W) => kind_calls (HE1.out.below (below_next (below_next HB5.out HP4w.out) hW)) (HU4y.out.below hW))
      clear hax hu4
      go_region_held3 (fun w' => w'.cell? ⟨w.heap.size, 2, none⟩ = some (.int .i64 g.ax))
        (first
          | exact HS.out _ (Below.refl _ _)
          | exact HS.out _ HDr.out
          | exact HS.out _ HB45.out
          | exact HS.out _ (pw_below_drewN HB45.out 1))
        (first
          | ((go_at_call 27; (with_reducible refine (HKd.out wp4.drew HDr.out).mono ?_); rintro e wp5 ⟨rfl, hb⟩; have HB45 := Lib.hid (below_next HDr.out hb); clear hb))
          | ((go_at_call 27; trace_state; sorry)))
      clear c0 c1 c2 c3
      obtain ⟨c0, c1, c2, c3⟩ := gr_blk (blk_below HK5.out (below_next HP4w.out HB45.out))
      go_upto_region 13 with (first | (go_at_call 9; refine (HLG5.out wp5 (below_next HP4w.out HB45.out)).mono ?_; rintro e wgdh ⟨ugdh, rfl, hu, hb⟩; have HUgdh := Lib.hid hu.plain; have HBrdh := Lib.hid hb; have HBgdh := Lib.hid (below_next (below_next HP4w.out HB45.out) hb); clear hu hb c0 c1 c2 c3) | (go_at_call 17; refine (HLS5.out wgdh HBgdh.out).mono ?_; rintro e wsdh ⟨Asdh, csdh, rfl, hcldh, hcc, hb⟩; have HCdh := Lib.hid hcc; have HUdh := Lib.hid (HUgdh.out.below hb); have HBqdh := Lib.hid (below_next HBrdh.out hb); have HBsdh := Lib.hid (below_next HBgdh.out hb); clear hb hcc) | (go_at_call 28; refine (HTx.out wsdh ugdh Asdh csdh HUdh.out HCdh.out hcldh (below_next HB5.out HBsdh.out)).mono ?_; rintro e wp6 ⟨u6, rfl, hu, hb⟩; have HU6x := Lib.hid hu; have HP6w := Lib.hid (below_next HBsdh.out hb); clear hu hb))
      by_cases hx : (textE g d.tree).1 = 0
      · have HRd2 := Lib.hid (HRd.out hx)
        obtain rfl : u6 = .nilIface := by
          rcases HU6x.out.nil_iff with ⟨_, h⟩ | ⟨h, _⟩
          · exact h
          · omega
        clear hx
        obtain ⟨c0, c1, c2, c3⟩ := gr_blk (blk_below HK5.out HP6w.out)
        go_upto_region 17 with (first
          | (go_at_call 9; refine (HLG5.out wp6 HP6w.out).mono ?_; rintro e wp7 ⟨ug7, rfl, hu, hb⟩; have HU7 := Lib.hid hu.plain; have HP7w := Lib.hid (below_next HP6w.out hb); clear hu hb c0 c1 c2 c3)
          | (go_at_call 29; refine (HRd2.out wp7 ug7 HU7.out (below_next HB5.out HP7w.out)).mono ?_; rintro e wp8 ⟨A8, c8, rfl, hcc, hb⟩; have HC8 := Lib.hid hcc; have HP8w := Lib.hid (below_next HP7w.out hb); clear hcc hb)
          | (go_at_call 14; refine (HSs.out wp8 A8 (some ad) c8 c5 HC8.out (Kd.C_below HC5.out HP8w.out)).mono ?_; rintro e wp9 ⟨rfl, hb⟩; have HP9w := Lib.hid (below_next HP8w.out hb); clear hb))
        obtain ⟨c0, c1, c2, c3⟩ := gr_blk (blk_below HK1.out (below_next HB5.out HP9w.out))
        have HBte := Lib.hid (below_next HB5.out HP9w.out)
        by_cases hr : (readE g T).1 = 0
        · have HRt := Lib.hid (HRo.out hr)
          have HTu := Lib.hid (HTt.out hr)
          clear hr
          go_wp2_with (first
            | (go_at_call 28; refine (HTu.out _ uue Ate cte HUue.out HCte.out hcte HBue.out).mono ?_; rintro e wxe ⟨rfl, hb⟩; have HBxe := Lib.hid (below_next HBue.out hb); clear hb)
            | (go_at_call 9; refine (HLG.out _ HBre.out).mono ?_; rintro e wue ⟨uue, rfl, hu, hb⟩; have HUue := Lib.hid hu.plain; have HBue := Lib.hid (below_next HBre.out hb); have HCte := Lib.hid (Kd.C_below HCre.out hb); clear hu hb c0 c1 c2 c3)
            | (go_at_call 29; refine (HRt.out _ ute HUte.out HBve.out).mono ?_; rintro e wre ⟨Ate, cte, rfl, hcte, hcc, hb⟩; have HCre := Lib.hid hcc; have HBre := Lib.hid (below_next HBve.out hb); obtain ⟨c0, c1, c2, c3⟩ := gr_blk (blk_below HK1.out HBre.out); clear hcc hb)
            | (go_at_call 9; refine (HLG.out _ HBte.out).mono ?_; rintro e wve ⟨ute, rfl, hu, hb⟩; have HUte := Lib.hid hu.plain; have HBve := Lib.hid (below_next HBte.out hb); clear hu hb c0 c1 c2 c3))
          go_ret
          exact ⟨rfl, below_next HB1.out HBxe.out⟩
        · have HRt := Lib.hid (HRn.out hr)
          clear hr
          go_wp2_with (first
            | (go_at_call 29; refine (HRt.out _ ute HUte.out HBve.out).mono ?_; rintro e wre ⟨Ate, cte, tte, xte, rfl, hb⟩; have HBre := Lib.hid (below_next HBve.out hb); clear hb)
            | (go_at_call 9; refine (HLG.out _ HBte.out).mono ?_; rintro e wve ⟨ute, rfl, hu, hb⟩; have HUte := Lib.hid hu.plain; have HBve := Lib.hid (below_next HBte.out hb); clear hu hb c0 c1 c2 c3))
          go_ret
          exact ⟨rfl, below_next HB1.out HBre.out⟩
      · obtain ⟨t6, x6, rfl⟩ : ∃ t x, u6 = .iface t x := by
          rcases HU6x.out.nil_iff with ⟨h, _⟩ | ⟨_, t, x, h⟩
          · exact absurd h hx
          · exact ⟨t, x, h⟩
        clear hx
        go_upto_region 17 with (fail)
        obtain ⟨c0, c1, c2, c3⟩ := gr_blk (blk_below HK1.out (below_next HB5.out HP6w.out))
        have HBtf := Lib.hid (below_next HB5.out HP6w.out)
        by_cases hr : (readE g T).1 = 0
        · have HRt := Lib.hid (HRo.out hr)
          have HTu := Lib.hid (HTt.out hr)
          clear hr
          go_wp2_with (first
            | (go_at_call 28; refine (HTu.out _ uuf Atf ctf HUuf.out HCtf.out hctf HBuf.out).mono ?_; rintro e wxf ⟨rfl, hb⟩; have HBxf := Lib.hid (below_next HBuf.out hb); clear hb)
            | (go_at_call 9; refine (HLG.out _ HBrf.out).mono ?_; rintro e wuf ⟨uuf, rfl, hu, hb⟩; have HUuf := Lib.hid hu.plain; have HBuf := Lib.hid (below_next HBrf.out hb); have HCtf := Lib.hid (Kd.C_below HCrf.out hb); clear hu hb c0 c1 c2 c3)
            | (go_at_call 29; refine (HRt.out _ utf HUtf.out HBvf.out).mono ?_; rintro e wrf ⟨Atf, ctf, rfl, hctf, hcc, hb⟩; have HCrf := Lib.hid hcc; have HBrf := Lib.hid (below_next HBvf.out hb); obtain ⟨c0, c1, c2, c3⟩ := gr_blk (blk_below HK1.out HBrf.out); clear hcc hb)
            | (go_at_call 9; refine (HLG.out _ HBtf.out).mono ?_; rintro e wvf ⟨utf, rfl, hu, hb⟩; have HUtf := Lib.hid hu.plain; have HBvf := Lib.hid (below_next HBtf.out hb); clear hu hb c0 c1 c2 c3))
          go_ret
          exact ⟨rfl, below_next HB1.out HBxf.out⟩
        · have HRt := Lib.hid (HRn.out hr)
          clear hr
          go_wp2_with (first
            | (go_at_call 29; refine (HRt.out _ utf HUtf.out HBvf.out).mono ?_; rintro e wrf ⟨Atf, ctf, ttf, xtf, rfl, hb⟩; have HBrf := Lib.hid (below_next HBvf.out hb); clear hb)
            | (go_at_call 9; refine (HLG.out _ HBtf.out).mono ?_; rintro e wvf ⟨utf, rfl, hu, hb⟩; have HUtf := Lib.hid hu.plain; have HBvf := Lib.hid (below_next HBtf.out hb); clear hu hb c0 c1 c2 c3))
          go_ret
          exact ⟨rfl, below_next HB1.out HBrf.out⟩
  · have HNo : Hid (∀ W e w', GrowP W g nt rs A e w' → ∃ A5 c5 t x, e = .returned (.tuple #[.slice A5 0 c5, .iface t x]) ∧ Below W.heap.size W w') := Lib.hid (by
      rintro W e w' ⟨va, ua, rfl, hra, hua, hb⟩
      rw [growL_no (by rw [hEe]; exact h0)] at hra
      rw [hEe] at hua
      obtain ⟨A5, c5, e5⟩ := Kd.R_slice hra
      subst e5
      rcases hua.nil_iff with ⟨h, _⟩ | ⟨_, t, x, rfl⟩
      · exact absurd h h0
      · exact ⟨A5, c5, t, x, rfl, hb⟩)
    clear hEe h0 hb1 hk1 hr hE hB hl8 hp hnT
    go_enter Tryd.func7, Tryd.ntmps7
    go_upto_region 1 with (fail)
    clear hw1
    go_upto_region 17 with (first
      | (go_at_call 26; refine HKn.out.mono ?_; rintro e w2 ⟨rfl, hb2⟩; obtain ⟨c0, c1, c2, c3⟩ := gr_blk (blk_below HK1.out hb2); have HB2 := Lib.hid hb2; clear hb2)
      | (go_at_call 9; refine (HLG.out w2 HB2.out).mono ?_; rintro e w3 ⟨u3, rfl, hu, hb3⟩; have HU := Lib.hid hu.plain; have HB3 := Lib.hid (below_next HB2.out hb3); clear hu hb3 c0 c1 c2 c3)
      | (go_at_call 10; refine (HLI.out w3 HB3.out).mono ?_; rintro e w4 ⟨Al, cl, rfl, hcl, hrl, hb4⟩; have HRl : Hid (KMInt.C w4 Al (rs.length + 1) (rs.map some ++ [none])) := Lib.hid (by have := (Kd.R_reads' hrl).2.2; rwa [← (Kd.R_reads' hrl).1] at this); have HU4 := Lib.hid (HU.out.below hb4); have HB4 := Lib.hid (below_next HB3.out hb4); clear hrl hb4)
      | (go_at_call 11; refine (HGr.out w4 u3 Al cl rs HU4.out (lent_C (a := Kd.int .i64) HRl.out) (by omega) HB4.out).mono ?_; rintro e w5 h5; obtain ⟨A5, c5, t5, x5, rfl, hb5⟩ := HNo.out _ _ _ h5; have HB5 := Lib.hid (below_next HB4.out hb5); clear h5 hb5))
    obtain ⟨c0, c1, c2, c3⟩ := gr_blk (blk_below HK1.out HB5.out)
    have HBta := Lib.hid HB5.out
    by_cases hr : (readE g T).1 = 0
    · have HRt := Lib.hid (HRo.out hr)
      have HTu := Lib.hid (HTt.out hr)
      clear hr
      go_wp2_with (first
        | (go_at_call 28; refine (HTu.out _ uua Ata cta HUua.out HCta.out hcta HBua.out).mono ?_; rintro e wxa ⟨rfl, hb⟩; have HBxa := Lib.hid (below_next HBua.out hb); clear hb)
        | (go_at_call 9; refine (HLG.out _ HBra.out).mono ?_; rintro e wua ⟨uua, rfl, hu, hb⟩; have HUua := Lib.hid hu.plain; have HBua := Lib.hid (below_next HBra.out hb); have HCta := Lib.hid (Kd.C_below HCra.out hb); clear hu hb c0 c1 c2 c3)
        | (go_at_call 29; refine (HRt.out _ uta HUta.out HBva.out).mono ?_; rintro e wra ⟨Ata, cta, rfl, hcta, hcc, hb⟩; have HCra := Lib.hid hcc; have HBra := Lib.hid (below_next HBva.out hb); obtain ⟨c0, c1, c2, c3⟩ := gr_blk (blk_below HK1.out HBra.out); clear hcc hb)
        | (go_at_call 9; refine (HLG.out _ HBta.out).mono ?_; rintro e wva ⟨uta, rfl, hu, hb⟩; have HUta := Lib.hid hu.plain; have HBva := Lib.hid (below_next HBta.out hb); clear hu hb c0 c1 c2 c3))
      go_ret
      exact ⟨rfl, below_next HB1.out HBxa.out⟩
    · have HRt := Lib.hid (HRn.out hr)
      clear hr
      go_wp2_with (first
        | (go_at_call 29; refine (HRt.out _ uta HUta.out HBva.out).mono ?_; rintro e wra ⟨Ata, cta, tta, xta, rfl, hb⟩; have HBra := Lib.hid (below_next HBva.out hb); clear hb)
        | (go_at_call 9; refine (HLG.out _ HBta.out).mono ?_; rintro e wva ⟨uta, rfl, hu, hb⟩; have HUta := Lib.hid hu.plain; have HBva := Lib.hid (below_next HBta.out hb); clear hu hb c0 c1 c2 c3))
      go_ret
      exact ⟨rfl, below_next HB1.out HBra.out⟩
end Go.Proofs.YtcjcffcbfkimdaaDoor.Hand
