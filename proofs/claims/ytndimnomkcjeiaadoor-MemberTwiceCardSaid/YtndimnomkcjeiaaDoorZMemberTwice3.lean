/- The texts that the statement's proof stands on, part 3: XCount XEq XKit XOpens XHead XKitO XMore XKnMath XLit XKn XLaid. -/
import Derived.Test.YtndimnomkcjeiaaDoorZMemberTwice2
import Derived.Tactics2
import Derived.Defers
import Derived.Recover
import Derived.Deep.Slices
import Derived.ChangeSame
import Derived.SizedLaws
import Derived.Lib.SmallJoins
import Derived.Test.YtndimnomkcjeiaaDoorRows
import Derived.Stop.LaidErr
import Derived.LaidSub
import Derived.LaidMore
import Derived.Stop.Joined
import Derived.MakeChecks
/- Contracts of member.Count and of its deferred closure. -/
namespace Go.Proofs.YtndimnomkcjeiaaDoor.Hand
open Go.RowKit Go.Proofs.YtndimnomkcjeiaaDoorW.PrintWords Go.Proofs.YtndimnomkcjeiaaDoorW.PrintMore Go.Proofs.YtndimnomkcjeiaaDoor.Math
open Go.Maps (Keyed)

theorem catch_idle (p q : Addr) (w : World) :
    CallsD Tryd.prog 39 #[.pointer (some p), .pointer (some q)] .returning w fun e u' w' => e = .returned (.tuple #[]) ∧ u' = .returning ∧ w' = w := by
  refine callsD_of_wpS Tryd.func39 rfl fun c₀ cs hu => ?_
  apply wpS_seq
  apply wpS_region
  simp [wpOpsS, go_sem, recoverD, hu, Tryd.ntmps39, Exit.thenS]
  refine wpS_of_wp ?_
  change Code.wp _ _ _ ⟨#[.pointer (some p), .pointer (some q), .nilIface, undef, undef, .nilIface, undef, undef, undef, undef, undef, undef, undef, undef, undef, undef], []⟩ _
  go_wp2
  cases c₀
  simp_all [bodyPostS, results, Tryd.results39]
set_option maxRecDepth 20000 in
theorem catch_panicking (p q : Addr) (x y : Value) (older : List PanicEntry) (w : World) (hp : w.cell? p = some x) (hpz : w.frozen? p = false) (hq : w.cell? q = some y) (hqz : w.frozen? q = false) (hne : p.block ≠ q.block) :
    CallsD Tryd.prog 39 #[.pointer (some p), .pointer (some q)] (.panicking ({ v := .iface 84 (.agg #[]), recovered := false } :: older)) w fun e u' w' =>
      e = .returned (.tuple #[]) ∧ u' = .panicking ({ v := .iface 84 (.agg #[]), recovered := true } :: older) ∧ w' = ((w.alloc (.cells #[] 84)).setCell p (.int .u64 0)).setCell q (.bool true) := by
  obtain ⟨wA, hwA⟩ : ∃ wA, w.alloc (.cells #[] 84) = wA := ⟨_, rfl⟩
  rw [hwA]
  have hbA : Below w.heap.size w wA := by rw [← hwA]; exact below_alloc (Below.refl _ _) _
  have a1 := (hbA.cell (World.block_lt_of_cell? w _ hp)).trans hp
  have a2 := (hbA.cell (World.block_lt_of_cell? w _ hq)).trans hq
  have a3 := (hbA.frozen (p := p) (World.block_lt_of_cell? w _ hp)).trans hpz
  have a4 := (hbA.frozen (p := q) (World.block_lt_of_cell? w _ hq)).trans hqz
  have a5 : (wA.setCell p (.int .u64 0)).cell? q = some y := (World.cell?_setCell_other wA p q _ (fun e => hne (by rw [e]))).trans a2
  have a6 : (wA.setCell p (.int .u64 0)).frozen? q = false := by rw [World.frozen?_setCell]; exact a4
  clear hbA hp hpz hq hqz
  have hTA : ∀ w, (Instr.typeAssert (.iface 84 (.agg #[])) 20 84 true).run Tryd.prog w = .ok (.tuple #[.agg #[], .bool true]) w := fun w => by kernel_rfl
  refine callsD_of_wpS Tryd.func39 rfl fun c₀ cs hu => ?_
  apply wpS_seq
  apply wpS_region
  simp [wpOpsS, go_sem, recoverD, hu, Tryd.ntmps39, Exit.thenS]
  refine wpS_of_wp ?_
  change Code.wp _ _ _ ⟨#[.pointer (some p), .pointer (some q), .iface 84 (.agg #[]), undef, undef, .iface 84 (.agg #[]), undef, undef, undef, undef, undef, undef, undef, undef, undef, undef], []⟩ _
  go_wp2
  cases c₀
  simp_all [bodyPostS, results, Tryd.results39]
/-- What Count answers. -/
noncomputable def cntT (g : Gr) (tk : List Int) : Option Nat := treeD g.rules tk g.ax.toNat 0 tk.length
noncomputable def cntV (g : Gr) (tk : List Int) : Nat := if (mayN g tk).1 = 0 then (match cntT g tk with | some m => sat m | none => 0) else 0
noncomputable def cntX (g : Gr) (tk : List Int) : Bool := if (mayN g tk).1 = 0 then (cntT g tk).isNone else false
def CntRes (w0 : World) (A : Nat → Addr) (g : Gr) (tk : List Int) (e : Ending) (w' : World) : Prop := ∃ u r, e = .returned (.tuple #[.int .u64 ((cntV g tk : Nat) : Int), .bool (cntX g tk), u]) ∧ ErrV w' A u (mayN g tk).1 r ∧ Below w0.heap.size w0 w'
theorem cst_made (w4 : World) (b : Nat) (_hb : b < w4.heap.size) : CSt w4 b (w4.heap.size + 1 + 1 + 1) w4.heap.size (w4.heap.size + 1) (w4.heap.size + 1 + 1) (fun _ => none) (fun _ => none) (fun _ => none)
    ((((w4.alloc (.map #[] 0)).alloc (.map #[] 0)).alloc (.map #[] 0)).alloc (.cells #[.pointer (some ⟨b, 0, none⟩), .map (some w4.heap.size), .map (some (w4.heap.size + 1)), .map (some (w4.heap.size + 1 + 1))] 90)) := by
  have m1 := MapN.made w4 111 52 .u64 KeyIn
  have m2 := MapN.made (w4.alloc (.map #[] 0)) 111 3 .i64 KeyIn
  have m3 := MapN.made ((w4.alloc (.map #[] 0)).alloc (.map #[] 0)) 111 3 .i64 KeyIn
  have s1 : (w4.alloc (.map #[] 0)).heap.size = w4.heap.size + 1 := World.size_alloc _ _
  have b1 := below_alloc (Below.refl w4.heap.size w4) (.map #[] 0)
  generalize w4.alloc (.map #[] 0) = W1 at *
  have s2 : (W1.alloc (.map #[] 0)).heap.size = W1.heap.size + 1 := World.size_alloc _ _
  have b2 := below_alloc (Below.refl W1.heap.size W1) (.map #[] 0)
  generalize W1.alloc (.map #[] 0) = W2 at *
  have s3 : (W2.alloc (.map #[] 0)).heap.size = W2.heap.size + 1 := World.size_alloc _ _
  have b3 := below_alloc (Below.refl W2.heap.size W2) (.map #[] 0)
  generalize W2.alloc (.map #[] 0) = W3 at *
  have e3 : W3.heap.size = w4.heap.size + 1 + 1 + 1 := by omega
  have e2 : W2.heap.size = w4.heap.size + 1 + 1 := by omega
  have hc : ∀ i, (W3.alloc (.cells #[.pointer (some ⟨b, 0, none⟩), .map (some w4.heap.size), .map (some (w4.heap.size + 1)), .map (some (w4.heap.size + 1 + 1))] 90)).cell? ⟨w4.heap.size + 1 + 1 + 1, i, none⟩ = (#[.pointer (some ⟨b, 0, none⟩), .map (some w4.heap.size), .map (some (w4.heap.size + 1)), .map (some (w4.heap.size + 1 + 1))] : Array Value)[i]? := fun i => by rw [← e3]; exact World.cell?_alloc_new _ _ _ _
  have b4 := below_alloc (Below.refl W3.heap.size W3) (.cells #[.pointer (some ⟨b, 0, none⟩), .map (some w4.heap.size), .map (some (w4.heap.size + 1)), .map (some (w4.heap.size + 1 + 1))] 90)
  generalize W3.alloc (.cells #[.pointer (some ⟨b, 0, none⟩), .map (some w4.heap.size), .map (some (w4.heap.size + 1)), .map (some (w4.heap.size + 1 + 1))] 90) = W4 at *
  rw [s1] at m2
  rw [e2] at m3
  exact ⟨below_next (below_next (below_next b1 b2) b3) b4, hc 0, hc 1, hc 2, hc 3, (((m1.below b2).below b3).below b4).le (Nat.zero_le _), ((m2.below b3).below b4).le (Nat.zero_le _), (m3.below b4).le (Nat.zero_le _), by omega, by omega⟩
theorem ChartIs.chart_bel {w0 w : World} {R : List (Int × List Int)} {tk : List Int} {N b O : Nat} {Bs : Nat → Nat} {P : Nat → Nat → Prop} (h : ChartIs w0 R tk N b O Bs P w) : Below w0.heap.size w0 w := by
  obtain ⟨Tn, h1, _⟩ := h
  exact h1.bel
theorem nv_facts {a b : Nat} {w3 w4 : World} {x y : Value} (h : w3.cell? ⟨b, 0, none⟩ = some y ∧ w3.frozen? ⟨b, 0, none⟩ = false ∧ w3.cell? ⟨a, 0, none⟩ = some x ∧ w3.frozen? ⟨a, 0, none⟩ = false) (hb : Below w3.heap.size w3 w4) (hne : a ≠ b) (v : Value) :
    w4.cell? ⟨b, 0, none⟩ = some y ∧ w4.frozen? ⟨b, 0, none⟩ = false ∧ w4.cell? ⟨a, 0, none⟩ = some x ∧ w4.frozen? ⟨a, 0, none⟩ = false ∧ (w4.setCell ⟨a, 0, none⟩ v).cell? ⟨b, 0, none⟩ = some y ∧ (w4.setCell ⟨a, 0, none⟩ v).frozen? ⟨b, 0, none⟩ = false := by
  obtain ⟨h1, h2, h3, h4⟩ := h
  have l1 := World.block_lt_of_cell? _ _ h1
  have l3 := World.block_lt_of_cell? _ _ h3
  have k1 := (hb.cell l1).trans h1
  have k2 := (hb.frozen (p := ⟨b, 0, none⟩) l1).trans h2
  refine ⟨k1, k2, (hb.cell l3).trans h3, (hb.frozen (p := ⟨a, 0, none⟩) l3).trans h4, (World.cell?_setCell_other w4 _ _ _ (fun e => hne (by injection e))).trans k1, by rw [World.frozen?_setCell]; exact k2⟩
theorem one_cell {w : World} {g : Nat} {x : Value} {T : TypeId} {c : Nat × Nat} (h : w.heap[g]? = some (.cells #[x] T c)) (o : Nat) : w.cell? ⟨g, o + 1, none⟩ = none := by
  simp [World.cell?, h]
theorem ErrV.put {w : World} {A : Nat → Addr} {v : Value} {k : Nat} {r : Int} (h : ErrV w A v k r) {g : Nat} (hg : ∀ o, w.cell? ⟨g, o + 1, Option.none⟩ = Option.none) (u : Value) : ErrV (w.setCell ⟨g, 0, Option.none⟩ u) A v k r := by
  have hc : ∀ p o x, w.cell? ⟨p, o + 1, Option.none⟩ = some x → p ≠ g := fun p o x h e => by rw [e, hg] at h; cases h
  cases h with
  | none => exact .none
  | sent i hi => exact .sent i hi
  | rule i hi pb po r h0 h1 => exact .rule i hi pb po r ((World.cell?_setCell_other w _ _ _ (fun e => hc _ _ _ h1 (by injection e with e; exact e.symm))).trans h0) ((World.cell?_setCell_other w _ _ _ (fun e => hc _ _ _ h1 (by injection e with e; exact e.symm))).trans h1)
set_option maxHeartbeats 2000000 in
set_option maxRecDepth 20000 in
theorem count_calls (v : Value) (g : Gr) (At : Option Addr) (ct : Nat) (tk : List Int) (w : World) (A : Nat → Addr) (hE : ErrsW w A) (hv : GramAt w v g) (hlc : tk.length ≤ ct) (hr : Kd.C (Kd.int .i64) w At tk.length tk) :
    Calls Tryd.prog 23 #[v, .slice At tk.length ct] w (CntRes w A g tk) := by
  have HV := Lib.hid hv
  obtain ⟨AT, cT, AN, cN, AR, cR, rfl, q1, q2, q3, q4, q5, q6⟩ := hv
  have hlen := hr.2.1
  obtain ⟨w1, hw1⟩ : ∃ w1, w.alloc (.cells #[.slice AT g.terms.length cT, .slice AN g.nonterms.length cN, .int .i64 g.ax, .slice AR g.rules.length cR] 25) = w1 := ⟨_, rfl⟩
  have hb1 : Below w.heap.size w w1 := by rw [← hw1]; exact below_alloc (Below.refl _ _) _
  have hk1 : w1.heap[w.heap.size]? = some (.cells #[.slice AT g.terms.length cT, .slice AN g.nonterms.length cN, .int .i64 g.ax, .slice AR g.rules.length cR] 25 (0, 0)) := by rw [← hw1]; exact heap_alloc_new w _
  have s1 : w1.heap.size = w.heap.size + 1 := by rw [← hw1]; exact World.size_alloc _ _
  obtain ⟨w2, hw2⟩ : ∃ w2, w1.alloc (.cells #[.int .u64 0] 52) = w2 := ⟨_, rfl⟩
  have hb2 : Below w1.heap.size w1 w2 := by rw [← hw2]; exact below_alloc (Below.refl _ _) _
  have s2 : w2.heap.size = w1.heap.size + 1 := by rw [← hw2]; exact World.size_alloc _ _
  have p1 : w2.cell? ⟨w1.heap.size, 0, none⟩ = some (.int .u64 0) := by rw [← hw2]; simp [go_sem]
  have p2 : w2.frozen? ⟨w1.heap.size, 0, none⟩ = false := by rw [← hw2]; simp [go_sem]
  obtain ⟨w3, hw3⟩ : ∃ w3, w2.alloc (.cells #[.bool false] 4) = w3 := ⟨_, rfl⟩
  have hb3 : Below w2.heap.size w2 w3 := by rw [← hw3]; exact below_alloc (Below.refl _ _) _
  have s3 : w3.heap.size = w2.heap.size + 1 := by rw [← hw3]; exact World.size_alloc _ _
  have r1 : w3.cell? ⟨w2.heap.size, 0, none⟩ = some (.bool false) := by rw [← hw3]; simp [go_sem]
  have r2 : w3.frozen? ⟨w2.heap.size, 0, none⟩ = false := by rw [← hw3]; simp [go_sem]
  have r3 := (hb3.cell (p := ⟨w1.heap.size, 0, none⟩) (by show w1.heap.size < _; omega)).trans p1
  have r4 := (hb3.frozen (p := ⟨w1.heap.size, 0, none⟩) (by show w1.heap.size < _; omega)).trans p2
  have HB1 := Lib.hid (below_next hb1 (below_next hb2 hb3))
  have HK1 := Lib.hid (gblk_keep' hk1 (below_next hb2 hb3))
  have HE := Lib.hid (hE.below HB1.out)
  have HG := Lib.hid (HV.out.below HB1.out)
  have HT := Lib.hid (Kd.C_below hr HB1.out)
  have hz3 : w1.heap.size = w.heap.size + 1 ∧ w2.heap.size = w.heap.size + 2 ∧ w3.heap.size = w.heap.size + 3 := by omega
  have HZ3 := Lib.hid hz3
  have HO1 := Lib.hid (gblk_keep' (show w2.heap[w1.heap.size]? = some (.cells #[.int .u64 0] 52 (0, 0)) by rw [← hw2]; exact heap_alloc_new w1 _) hb3)
  have HO2 : Hid (w3.heap[w2.heap.size]? = some (.cells #[.bool false] 4 (0, 0))) := Lib.hid (by rw [← hw3]; exact heap_alloc_new w2 _)
  have HR4 := Lib.hid (And.intro r1 (And.intro r2 (And.intro r3 r4)))
  obtain ⟨c0, c1, c2, c3⟩ := blk_cells2 HK1.out
  clear hb1 hk1 hE q4 q5 q6 hr hb2 hb3 p1 p2 s1 s2 s3 hz3 r1 r2 r3 r4
  have hmf : ∀ (fn : Fn) (first cap : Array Value) (w : World), (Instr.makeFunc fn first cap).run Tryd.prog w = .ok (.func fn first cap) w := fun _ _ _ _ => rfl
  by_cases hok : (mayN g tk).1 = 0
  · have HM := Lib.hid (charted_calls _ g At ct tk w3 A HE.out HG.out hlc HT.out hok)
    have HOK := Lib.hid hok
    have hok2 : (checkN g).1 = 0 ∧ tk.length ≤ 40 := by
      unfold mayN at hok
      split at hok
      · rename_i h; exact absurd hok h
      · rename_i h
        split at hok
        · cases hok
        · exact ⟨by omega, by omega⟩
    obtain ⟨hc0, hn⟩ := hok2
    obtain ⟨z1, z2, z3, z4, z5, z6, z7⟩ := checkN_zero hc0
    have hax : ((g.ax.toNat : Nat) : Int) = g.ax := Int.toNat_of_nonneg z5
    have HAx := Lib.hid hax
    have HCx := Lib.hid (fun (b O : Nat) (Bs : Nat → Nat) (w4 : World) (h : ChartIs w3 g.rules tk g.nonterms.length b O Bs (fun a c => a ≤ c ∧ c ≤ tk.length) w4) => h.ctx (t := g.terms.length) (by omega) z2 hn (by omega) z7)
    have hxn : g.ax.toNat < g.nonterms.length := by omega
    clear z3 z4 z7 hc0 hok hax
    go_enter_defers Tryd.func23, Tryd.ntmps23
    go_upto_region 5 with (go_at_call 32; refine HM.out.mono ?_; rintro e w4 ⟨b, O, Bs, rfl, hch⟩; obtain ⟨ARx, cRx, hctx⟩ := HCx.out b O Bs w4 hch; have HCtx := Lib.hid hctx; have HB4 := Lib.hid hch.chart_bel; obtain ⟨e1, e2, e3, e4, e5, e6⟩ := nv_facts HR4.out HB4.out (fun e => by have := HZ3.out; omega) (.int .u64 0); clear hch hctx)
    have hmk1 := fun W : World => run_makeMap (P := Tryd.prog) 87 W
    have hmk2 := fun W : World => run_makeMap (P := Tryd.prog) 88 W
    go_upto_region 6 with fail
    have hblt : b < w4.heap.size := World.block_lt_of_cell? _ _ HCtx.out.cell
    have hS5 := cst_made w4 b hblt
    obtain ⟨w5, hw5⟩ : ∃ w5, ((((w4.alloc (.map #[] 0)).alloc (.map #[] 0)).alloc (.map #[] 0)).alloc (.cells #[.pointer (some ⟨b, 0, none⟩), .map (some w4.heap.size), .map (some (w4.heap.size + 1)), .map (some (w4.heap.size + 1 + 1))] 90)) = w5 := ⟨_, rfl⟩
    rw [hw5] at hS5 ⊢
    obtain ⟨c0, c1, c2, c3⟩ := blk_cells2 (gblk_keep' HK1.out (below_next HB4.out hS5.bel))
    obtain ⟨kb, hkb⟩ : ∃ kb, w4.heap.size + 1 + 1 + 1 = kb := ⟨_, rfl⟩
    obtain ⟨bo, hbo⟩ : ∃ kb, w4.heap.size + 1 = kb := ⟨_, rfl⟩
    obtain ⟨bk, hbk⟩ : ∃ kb, w4.heap.size + 1 + 1 = kb := ⟨_, rfl⟩
    rw [hkb, hbk, hbo] at hS5
    rw [hkb]
    have HB5 := Aside0.mk (below_next HB4.out hS5.bel)
    have HWh := Lib.hid (counted HCtx.out kb w4.heap.size bo bk _ g.ax.toNat 0 tk.length _ _ _ w5 hxn (by omega) (Nat.le_refl _) hS5 ⟨(fun k i j c h => by cases h), (fun n a i j c h => by cases h)⟩ (fun n a i j c _ h => by cases h) (fun k i j h => by cases h) (Nat.le_refl _))
    rw [HAx.out, show ((0 : Nat) : Int) = 0 from rfl] at HWh
    clear hw5 hS5 hkb hbo hbk hblt hmk1 hmk2 e1 e2 e3 e4 e5 e6 hmf
    cases hT : cntT g tk with
    | none =>
      have HVx : Hid (cntV g tk = 0 ∧ cntX g tk = true) := Lib.hid ⟨by unfold cntV; rw [if_pos HOK.out, hT], by unfold cntX; rw [if_pos HOK.out, hT]; rfl⟩
      rw [show treeD g.rules tk g.ax.toNat 0 tk.length = none from hT] at HWh
      clear hT
      go_wp2_with (go_at_call 40; refine HWh.out.mono ?_; rintro e w6 h6; obtain ⟨rfl, hb6⟩ := h6.no; have HB6 := Lib.hid (below_next HB4.out hb6); obtain ⟨e1, e2, e3, e4, e5, e6⟩ := nv_facts HR4.out HB6.out (fun e => by have := HZ3.out; omega) (.int .u64 0); clear h6 hb6)
      refine leaves_cons (f := 39) (args := #[.pointer (some ⟨w1.heap.size, 0, none⟩), .pointer (some ⟨w2.heap.size, 0, none⟩)]) (by simp) (by simp [go_sem]) ?_
      refine (catch_panicking _ _ _ _ [] w6 e3 e4 e1 e2 (fun e => by have := HZ3.out; simp at e; omega)).mono ?_
      rintro e u' w'' ⟨rfl, rfl, rfl⟩
      have hbA : Below w6.heap.size w6 (w6.alloc (.cells #[] 84)) := below_alloc (Below.refl _ _) _
      have k3 := (hbA.cell (World.block_lt_of_cell? _ _ e3)).trans e3
      have k1 := (hbA.cell (World.block_lt_of_cell? _ _ e1)).trans e1
      have HB7 := Lib.hid (below_next HB6.out hbA)
      generalize w6.alloc (.cells #[] 84) = w7 at *
      obtain ⟨w8, hw8⟩ : ∃ w8, (w7.setCell ⟨w1.heap.size, 0, none⟩ (.int .u64 0)).setCell ⟨w2.heap.size, 0, none⟩ (.bool true) = w8 := ⟨_, rfl⟩
      have k5 : (w7.setCell ⟨w1.heap.size, 0, none⟩ (.int .u64 0)).cell? ⟨w2.heap.size, 0, none⟩ = some (.bool false) := (World.cell?_setCell_other _ _ _ _ (fun e => by injection e with e; have := HZ3.out; omega)).trans k1
      have f1 : w8.cell? ⟨w1.heap.size, 0, none⟩ = some (.int .u64 0) := by rw [← hw8]; exact (World.cell?_setCell_other _ _ _ _ (fun e => by injection e with e; have := HZ3.out; omega)).trans (World.cell?_setCell_same _ _ _ k3)
      have f2 : w8.cell? ⟨w2.heap.size, 0, none⟩ = some (.bool true) := by rw [← hw8]; exact World.cell?_setCell_same _ _ _ k5
      have HB8 := Lib.hid (show Below w.heap.size w w8 by rw [← hw8]; have := HZ3.out; exact ((below_next HB1.out HB7.out).setCell (by show w.heap.size ≤ w1.heap.size; omega) _).setCell (by show w.heap.size ≤ w2.heap.size; omega) _)
      rw [hw8]
      clear hw8 e1 e2 e3 e4 e5 e6 k1 k3 k5
      simp [Leaves, settle, results, Tryd.results23, go_sem, f1, f2]
      exact ⟨_, _, by rw [HVx.out.1, HVx.out.2] <;> rfl, by rw [HOK.out]; exact .none, HB8.out⟩
    | some m =>
      have HVx : Hid (cntV g tk = sat m ∧ cntX g tk = false) := Lib.hid ⟨by unfold cntV; rw [if_pos HOK.out, hT], by unfold cntX; rw [if_pos HOK.out, hT]; rfl⟩
      rw [show treeD g.rules tk g.ax.toNat 0 tk.length = some m from hT] at HWh
      clear hT
      go_wp2_with (go_at_call 40; refine HWh.out.mono ?_; rintro e w6 h6; obtain ⟨rfl, hm6⟩ := h6.yes; have HB6 := Lib.hid (below_next HB4.out hm6.bel); obtain ⟨e1, e2, e3, e4, e5, e6⟩ := nv_facts HR4.out HB6.out (fun e => by have := HZ3.out; omega) (.int .u64 ((sat m : Nat) : Int)); clear h6 hm6)
      obtain ⟨w8, hw8⟩ : ∃ w8, (w6.setCell ⟨w1.heap.size, 0, none⟩ (.int .u64 ((sat m : Nat) : Int))).setCell ⟨w2.heap.size, 0, none⟩ (.bool false) = w8 := ⟨_, rfl⟩
      have f1 : w8.cell? ⟨w1.heap.size, 0, none⟩ = some (.int .u64 ((sat m : Nat) : Int)) := by rw [← hw8]; exact (World.cell?_setCell_other _ _ _ _ (fun e => by injection e with e; have := HZ3.out; omega)).trans (World.cell?_setCell_same _ _ _ e3)
      have f2 : w8.cell? ⟨w2.heap.size, 0, none⟩ = some (.bool false) := by rw [← hw8]; exact World.cell?_setCell_same _ _ _ e5
      have HB8 := Lib.hid (show Below w.heap.size w w8 by rw [← hw8]; have := HZ3.out; exact ((below_next HB1.out HB6.out).setCell (by show w.heap.size ≤ w1.heap.size; omega) _).setCell (by show w.heap.size ≤ w2.heap.size; omega) _)
      rw [hw8]
      clear hw8 e1 e2 e3 e4 e5 e6
      refine leaves_cons (f := 39) (args := #[.pointer (some ⟨w1.heap.size, 0, none⟩), .pointer (some ⟨w2.heap.size, 0, none⟩)]) (by simp) (by simp [go_sem]) ?_
      refine (catch_idle _ _ w8).mono ?_
      rintro e u' w'' ⟨rfl, rfl, rfl⟩
      simp [Leaves, settle, results, Tryd.results23, go_sem, f1, f2]
      exact ⟨_, _, by rw [HVx.out.1, HVx.out.2] <;> rfl, by rw [HOK.out]; exact .none, HB8.out⟩
  · have HM := Lib.hid (charted_err _ g At ct tk w3 A HE.out HG.out hlc HT.out hok)
    have HOK := Lib.hid hok
    have HVx : Hid (cntV g tk = 0 ∧ cntX g tk = false) := Lib.hid ⟨by unfold cntV; rw [if_neg hok], by unfold cntX; rw [if_neg hok]⟩
    clear hok
    go_enter_defers Tryd.func23, Tryd.ntmps23
    go_wp2_with (go_at_call 32; refine HM.out.mono ?_; rintro e w4 ⟨u, rfl, hu, hb4⟩; have HU := Lib.hid hu; have HB4 := Lib.hid hb4; obtain ⟨e1, e2, e3, e4, e5, e6⟩ := nv_facts HR4.out hb4 (fun e => by have := HZ3.out; omega) (.int .u64 0); obtain ⟨T, p, hT, rfl⟩ := hu.iface_of HOK.out; clear hu hb4 hT)
    obtain ⟨w6, hw6⟩ : ∃ w6, (w4.setCell ⟨w1.heap.size, 0, none⟩ (.int .u64 0)).setCell ⟨w2.heap.size, 0, none⟩ (.bool false) = w6 := ⟨_, rfl⟩
    have f1 : w6.cell? ⟨w1.heap.size, 0, none⟩ = some (.int .u64 0) := by rw [← hw6]; exact (World.cell?_setCell_other _ _ _ _ (fun e => by injection e with e; have := HZ3.out; omega)).trans (World.cell?_setCell_same _ _ _ e3)
    have f2 : w6.cell? ⟨w2.heap.size, 0, none⟩ = some (.bool false) := by rw [← hw6]; exact World.cell?_setCell_same _ _ _ e5
    have HB6 := Lib.hid (show Below w.heap.size w w6 by rw [← hw6]; have := HZ3.out; exact ((below_next HB1.out HB4.out).setCell (by show w.heap.size ≤ w1.heap.size; omega) _).setCell (by show w.heap.size ≤ w2.heap.size; omega) _)
    have HU6 : Hid (ErrV w6 A (.iface T (.pointer p)) (mayN g tk).1 (mayN g tk).2) := Lib.hid (by
      rw [← hw6]
      have g1 := gblk_keep' HO1.out HB4.out
      have g2 := gblk_keep' HO2.out HB4.out
      refine (HU.out.put (one_cell g1) _).put (fun o => ?_) _
      rw [World.cell?_setCell_other w4 _ _ _ (fun e => by injection e with e; have := HZ3.out; omega)]
      exact one_cell g2 o)
    rw [hw6]
    clear hw6 e1 e2 e3 e4 e5 e6
    unfold bodyPostD Leaves
    simp [results, Tryd.results23, go_sem, f1, f2]
    exact ⟨_, _, by rw [HVx.out.1, HVx.out.2] <;> rfl, HU6.out, HB6.out⟩
end Go.Proofs.YtndimnomkcjeiaaDoor.Hand
/- Contracts of dovetailkit: are two lists the same? -/
namespace Go.Proofs.YtndimnomkcjeiaaDoor.Hand
open Go.RowKit Go.Proofs.YtndimnomkcjeiaaDoorW.PrintWords Go.Proofs.YtndimnomkcjeiaaDoorW.PrintMore Go.Proofs.YtndimnomkcjeiaaDoor.Math

/-- Are two lists the same? -/
theorem ints_calls (A B : Option Addr) (c d : Nat) (l m : List Int) (w : World) (hr : Kd.C (Kd.int .i64) w A l.length l) (hq : Kd.C (Kd.int .i64) w B m.length m) : Quiet 24 #[.slice A l.length c, .slice B m.length d] w (.bool (decide (l = m))) := by
  unfold Quiet
  have hlen := hr.2.1
  have hlen2 := hq.2.1
  have HR := Lib.hid hr
  have HQ := Lib.hid hq
  clear hr hq
  by_cases hl : l.length = m.length
  · have hlI : ((l.length : Int) == (m.length : Int)) = true := by simp [hl]
    have HL := Lib.hid hl
    go_enter Tryd.func24, Tryd.ntmps24
    go_wp2
    go_loopw [5] (fun i wr => ∃ (j d : Nat), j ≤ l.length ∧ i = .int .i64 j ∧ wr = w.drewN d ∧ Hid (l.take j = m.take j)) (fun i _ => l.length - (intOf i).toNat)
    case atStart => exact ⟨0, 0, by omega, rfl, rfl, Lib.hid (by simp)⟩
    case round =>
      obtain ⟨j, d, hj, rfl, rfl, HT⟩ := hrel
      by_cases hlt : j < l.length
      · obtain ⟨ad, y, rfl, hc, HY⟩ := at_scalar HR.out j hlt 0
        obtain ⟨ad2, y2, rfl, hc2, HY2⟩ := at_scalar HQ.out j (by omega) 0
        have hlt2 : j < m.length := by omega
        by_cases e : y = y2
        · subst e
          go_wp2
          go_quiet (fail)
          go_wp2
          go_roundw
          case rel => exact ⟨j + 1, _, by omega, by go_num, rfl, Lib.hid (by rw [take_snocD l j 0 hlt, take_snocD m j 0 hlt2, HT.out, HY.out, HY2.out])⟩
          case measure => simp [intOf]; omega
        · have HE : Hid (decide (l = m) = false) := Lib.hid (decide_eq_false (fun h => e (by rw [← HY.out, ← HY2.out, h])))
          have HN := Lib.hid e
          have hn : ((y : Int) == y2) = false := by simpa using e
          clear e
          go_wp2
          go_quiet (fail)
          go_wp2
          go_ret
          exact ⟨ret_bool HE.out.symm, _, World.drewN_drewN _ _ _⟩
      · have HE : Hid (decide (l = m) = true) := Lib.hid (decide_eq_true (by
          have := HT.out
          rwa [List.take_of_length_le (by omega), List.take_of_length_le (by have := HL.out; omega)] at this))
        go_wp2
        go_ret
        exact ⟨ret_bool HE.out.symm, _, rfl⟩
  · have HE : Hid (decide (l = m) = false) := Lib.hid (decide_eq_false (fun h => hl (by rw [h])))
    have hlI : ((l.length : Int) == (m.length : Int)) = false := by simp; omega
    have hlN : decide (l.length = m.length) = false := by simp [hl]
    have HL := Lib.hid hl
    clear hl
    go_enter Tryd.func24, Tryd.ntmps24
    go_wp2
    go_ret
    exact ⟨ret_bool HE.out.symm, 0, rfl⟩
/-- Are two lists the same? -/
theorem ksets_calls (A B : Option Addr) (c d : Nat) (l m : List Nat) (w : World) (hr : Kd.C KSet w A l.length l) (hq : Kd.C KSet w B m.length m) : Quiet 17 #[.slice A l.length c, .slice B m.length d] w (.bool (decide (l = m))) := by
  unfold Quiet
  have hlen := hr.2.1
  have hlen2 := hq.2.1
  have HR := Lib.hid hr
  have HQ := Lib.hid hq
  clear hr hq
  by_cases hl : l.length = m.length
  · have hlI : ((l.length : Int) == (m.length : Int)) = true := by simp [hl]
    have HL := Lib.hid hl
    go_enter Tryd.func17, Tryd.ntmps17
    go_wp2
    go_loopw [5] (fun i wr => ∃ (j d : Nat), j ≤ l.length ∧ i = .int .i64 j ∧ wr = w.drewN d ∧ Hid (l.take j = m.take j)) (fun i _ => l.length - (intOf i).toNat)
    case atStart => exact ⟨0, 0, by omega, rfl, rfl, Lib.hid (by simp)⟩
    case round =>
      obtain ⟨j, d, hj, rfl, rfl, HT⟩ := hrel
      by_cases hlt : j < l.length
      · obtain ⟨ad, y, rfl, hc, HY⟩ := at_scalar HR.out j hlt 0
        obtain ⟨ad2, y2, rfl, hc2, HY2⟩ := at_scalar HQ.out j (by omega) 0
        have hlt2 : j < m.length := by omega
        by_cases e : y = y2
        · subst e
          go_wp2
          go_quiet (fail)
          go_wp2
          go_roundw
          case rel => exact ⟨j + 1, _, by omega, by go_num, rfl, Lib.hid (by rw [take_snocD l j 0 hlt, take_snocD m j 0 hlt2, HT.out, HY.out, HY2.out])⟩
          case measure => simp [intOf]; omega
        · have HE : Hid (decide (l = m) = false) := Lib.hid (decide_eq_false (fun h => e (by rw [← HY.out, ← HY2.out, h])))
          have HN := Lib.hid e
          have hn : ((y : Int) == (y2 : Int)) = false := by simpa using (fun h => e (Int.natCast_inj.1 h))
          clear e
          go_wp2
          go_quiet (fail)
          go_wp2
          go_ret
          exact ⟨ret_bool HE.out.symm, _, World.drewN_drewN _ _ _⟩
      · have HE : Hid (decide (l = m) = true) := Lib.hid (decide_eq_true (by
          have := HT.out
          rwa [List.take_of_length_le (by omega), List.take_of_length_le (by have := HL.out; omega)] at this))
        go_wp2
        go_ret
        exact ⟨ret_bool HE.out.symm, _, rfl⟩
  · have HE : Hid (decide (l = m) = false) := Lib.hid (decide_eq_false (fun h => hl (by rw [h])))
    have hlI : ((l.length : Int) == (m.length : Int)) = false := by simp; omega
    have hlN : decide (l.length = m.length) = false := by simp [hl]
    have HL := Lib.hid hl
    clear hl
    go_enter Tryd.func17, Tryd.ntmps17
    go_wp2
    go_ret
    exact ⟨ret_bool HE.out.symm, 0, rfl⟩
/-- Are two lists the same? -/
theorem kstrings_calls (A B : Option Addr) (c d : Nat) (l m : List ByteArray) (w : World) (hr : Kd.C Kd.string w A l.length l) (hq : Kd.C Kd.string w B m.length m) : Quiet 49 #[.slice A l.length c, .slice B m.length d] w (.bool (decide (l = m))) := by
  unfold Quiet
  have hlen := hr.2.1
  have hlen2 := hq.2.1
  have HR := Lib.hid hr
  have HQ := Lib.hid hq
  clear hr hq
  by_cases hl : l.length = m.length
  · have hlI : ((l.length : Int) == (m.length : Int)) = true := by simp [hl]
    have HL := Lib.hid hl
    go_enter Tryd.func49, Tryd.ntmps49
    go_wp2
    go_loopw [5] (fun i wr => ∃ (j d : Nat), j ≤ l.length ∧ i = .int .i64 j ∧ wr = w.drewN d ∧ Hid (l.take j = m.take j)) (fun i _ => l.length - (intOf i).toNat)
    case atStart => exact ⟨0, 0, by omega, rfl, rfl, Lib.hid (by simp)⟩
    case round =>
      obtain ⟨j, d, hj, rfl, rfl, HT⟩ := hrel
      by_cases hlt : j < l.length
      · obtain ⟨ad, y, rfl, hc, HY⟩ := at_scalar HR.out j hlt ByteArray.empty
        obtain ⟨ad2, y2, rfl, hc2, HY2⟩ := at_scalar HQ.out j (by omega) ByteArray.empty
        have hlt2 : j < m.length := by omega
        by_cases e : y = y2
        · subst e
          go_wp2
          go_quiet (fail)
          go_wp2
          go_roundw
          case rel => exact ⟨j + 1, _, by omega, by go_num, rfl, Lib.hid (by rw [take_snocD l j ByteArray.empty hlt, take_snocD m j ByteArray.empty hlt2, HT.out, HY.out, HY2.out])⟩
          case measure => simp [intOf]; omega
        · have HE : Hid (decide (l = m) = false) := Lib.hid (decide_eq_false (fun h => e (by rw [← HY.out, ← HY2.out, h])))
          have HN := Lib.hid e
          (have hn3 : (y.toList == y2.toList) = false := beq_eq_false_iff_ne.mpr (fun h => e (str_inj h)); have hn4 : (y.toList != y2.toList) = true := bne_iff_ne.mpr (fun h => e (str_inj h)))
          clear e
          go_wp2
          go_quiet (fail)
          go_wp2
          go_ret
          exact ⟨ret_bool HE.out.symm, _, World.drewN_drewN _ _ _⟩
      · have HE : Hid (decide (l = m) = true) := Lib.hid (decide_eq_true (by
          have := HT.out
          rwa [List.take_of_length_le (by omega), List.take_of_length_le (by have := HL.out; omega)] at this))
        go_wp2
        go_ret
        exact ⟨ret_bool HE.out.symm, _, rfl⟩
  · have HE : Hid (decide (l = m) = false) := Lib.hid (decide_eq_false (fun h => hl (by rw [h])))
    have hlI : ((l.length : Int) == (m.length : Int)) = false := by simp; omega
    have hlN : decide (l.length = m.length) = false := by simp [hl]
    have HL := Lib.hid hl
    clear hl
    go_enter Tryd.func49, Tryd.ntmps49
    go_wp2
    go_ret
    exact ⟨ret_bool HE.out.symm, 0, rfl⟩
end Go.Proofs.YtndimnomkcjeiaaDoor.Hand
/- Contracts of dovetailkit's lent and kept lists, rules, grammars. -/
namespace Go.Proofs.YtndimnomkcjeiaaDoor.Hand
open Go.RowKit Go.Proofs.YtndimnomkcjeiaaDoorW.PrintWords Go.Proofs.YtndimnomkcjeiaaDoorW.PrintMore Go.Proofs.YtndimnomkcjeiaaDoor.Math

theorem lentInts_calls (A0 : Option Addr) (c0 : Nat) (l0 : List Int) (w : World) (hr0 : Kd.C (Kd.int .i64) w A0 l0.length l0) (hl : (l0.length + 1) * 8 ≤ 140737488355328) :
    Calls Tryd.prog 11 #[.slice A0 l0.length c0] w fun e w' => ∃ A c, e = .returned (.slice A l0.length c) ∧ l0.length + 1 ≤ c ∧ KMInt.R 3 w' w.heap.size (fun _ => True) (.slice A (l0.length + 1) c) (l0.map some ++ [none]) ∧ Below w.heap.size w w' := by
  have HR0 := Aside0.mk (C_some (a := (Kd.int .i64)) (b := KMInt) rfl hr0 (fun _ _ h => h))
  have HL := Aside0.mk hl
  clear hr0 hl
  have HB := Aside0.mk (Below.refl w.heap.size w)
  go_enter Tryd.func11, Tryd.ntmps11
  go_wp2_with (first
    | ((with_reducible refine gate_builtin (b := .append) (xs := #[.tmp 4, .tmp 5]) rfl ?_); at_builtin; refine Kd.R_append_rows KMInt (w0 := w) w.heap.size rfl (.tmp 4) (.tmp 5) 26 3 (.int .i64 0) 8 rfl Tryd.underlying26 infoInt rfl (by decide) (by omega) (.slice none 0 0) ([] : List (Option Int)) (l0.map some) _ _ _ (fun _ => True) (fun _ => False) rfl rfl (Kd.R_nil _ _ _ _ _) HR0.out (fun _ _ h => h) (fun _ h => h.elim) (fun _ _ => trivial) HB.out (Nat.le_refl _) (by have := HL.out; simp at this ⊢; omega) ?_; intro v1 w1 ho hb _ _; have HO := Aside0.mk ho; have HB1 := Aside0.mk hb; clear ho hb)
    | ((with_reducible refine gate_builtin (b := .append) (xs := #[.tmp 7, .tmp 8]) rfl ?_); at_builtin; refine Kd.R_append KMInt (w0 := w) w.heap.size rfl (.tmp 7) (.tmp 8) 26 3 (.int .i64 0) 8 rfl Tryd.underlying26 infoInt rfl (by decide) (by omega) v1 ([] ++ l0.map some) none [.int .i64 (-7171)] (fun _ => True) (fun _ => False) rfl rfl rfl (fun _ hk => hk.elim) (fun _ _ => trivial) HO.out HB1.out (Below.size HB1.out) (by have := HL.out; simp at this ⊢; omega) ?_; intro v2 w2 ho hb _ _; have HO2 := Aside0.mk ho; have HB2 := Aside0.mk hb; clear ho hb; (obtain ⟨A, c, rfl⟩ := Kd.R_slice HO2.out; have hc : l0.length + 1 ≤ c := (by have := (Kd.R_reads' HO2.out).2.1; simpa using this); have hc2 : l0.length ≤ c := (by omega))))
  go_ret
  exact ⟨A, c, rfl, hc, by simpa using HO2.out, HB2.out⟩
theorem lentStrings_calls (A0 : Option Addr) (c0 : Nat) (l0 : List ByteArray) (w : World) (hr0 : Kd.C Kd.string w A0 l0.length l0) (hl : (l0.length + 1) * 16 ≤ 140737488355328) :
    Calls Tryd.prog 31 #[.slice A0 l0.length c0] w fun e w' => ∃ A c, e = .returned (.slice A l0.length c) ∧ l0.length + 1 ≤ c ∧ KMString.R 9 w' w.heap.size (fun _ => True) (.slice A (l0.length + 1) c) (l0.map some ++ [none]) ∧ Below w.heap.size w w' := by
  have HR0 := Aside0.mk (C_some (a := Kd.string) (b := KMString) rfl hr0 (fun _ _ h => h))
  have HL := Aside0.mk hl
  clear hr0 hl
  have HB := Aside0.mk (Below.refl w.heap.size w)
  go_enter Tryd.func31, Tryd.ntmps31
  go_wp2_with (first
    | ((with_reducible refine gate_builtin (b := .append) (xs := #[.tmp 4, .tmp 5]) rfl ?_); at_builtin; refine Kd.R_append_rows KMString (w0 := w) w.heap.size rfl (.tmp 4) (.tmp 5) 22 9 (.string ⟨#[]⟩) 16 rfl Tryd.underlying22 infoString rfl (by decide) (by omega) (.slice none 0 0) ([] : List (Option ByteArray)) (l0.map some) _ _ _ (fun _ => True) (fun _ => False) rfl rfl (Kd.R_nil _ _ _ _ _) HR0.out (fun _ _ h => h) (fun _ h => h.elim) (fun _ _ => trivial) HB.out (Nat.le_refl _) (by have := HL.out; simp at this ⊢; omega) ?_; intro v1 w1 ho hb _ _; have HO := Aside0.mk ho; have HB1 := Aside0.mk hb; clear ho hb)
    | ((with_reducible refine gate_builtin (b := .append) (xs := #[.tmp 7, .tmp 8]) rfl ?_); at_builtin; refine Kd.R_append KMString (w0 := w) w.heap.size rfl (.tmp 7) (.tmp 8) 22 9 (.string ⟨#[]⟩) 16 rfl Tryd.underlying22 infoString rfl (by decide) (by omega) v1 ([] ++ l0.map some) none [.string ⟨#[109, 97, 114, 107]⟩] (fun _ => True) (fun _ => False) rfl rfl rfl (fun _ hk => hk.elim) (fun _ _ => trivial) HO.out HB1.out (Below.size HB1.out) (by have := HL.out; simp at this ⊢; omega) ?_; intro v2 w2 ho hb _ _; have HO2 := Aside0.mk ho; have HB2 := Aside0.mk hb; clear ho hb; (obtain ⟨A, c, rfl⟩ := Kd.R_slice HO2.out; have hc : l0.length + 1 ≤ c := (by have := (Kd.R_reads' HO2.out).2.1; simpa using this); have hc2 : l0.length ≤ c := (by omega))))
  go_ret
  exact ⟨A, c, rfl, hc, by simpa using HO2.out, HB2.out⟩
theorem keptInts_calls (A B : Option Addr) (c d : Nat) (l : List Int) (w : World) (hv : KMInt.C w A (l.length + 1) (l.map some ++ [none])) (hc : l.length + 1 ≤ c) (hq : Kd.C (Kd.int .i64) w B l.length l) : Quiet 16 #[.slice A l.length c, .slice B l.length d] w (.bool true) := by
  unfold Quiet
  have hlen := hv.2.1
  obtain ⟨ad, rfl, hm⟩ := lent_mark (a := (Kd.int .i64)) hv
  have hcell : w.cell? (ad.add l.length) = some (.int .i64 (-7171)) := by simpa [show Kd.sz (Kd.int .i64) = 1 from rfl] using hm 0 _ rfl
  have HR := Lib.hid (lent_C (a := (Kd.int .i64)) hv)
  have HQ := Lib.hid hq
  clear hv hq hm
  go_enter Tryd.func16, Tryd.ntmps16
  go_wp2_with (go_at_call 24; refine (ints_calls (some ad) B c d l l _ HR.out HQ.out).mono ?_; rintro e w' ⟨rfl, n, rfl⟩; rw [decide_eq_true (show l = l from rfl)])
  go_ret
  exact ⟨rfl, _, rfl⟩
theorem keptStrings_calls (A B : Option Addr) (c d : Nat) (l : List ByteArray) (w : World) (hv : KMString.C w A (l.length + 1) (l.map some ++ [none])) (hc : l.length + 1 ≤ c) (hq : Kd.C Kd.string w B l.length l) : Quiet 36 #[.slice A l.length c, .slice B l.length d] w (.bool true) := by
  unfold Quiet
  have hlen := hv.2.1
  obtain ⟨ad, rfl, hm⟩ := lent_mark (a := Kd.string) hv
  have hcell : w.cell? (ad.add l.length) = some (.string ⟨#[109, 97, 114, 107]⟩) := by simpa [show Kd.sz Kd.string = 1 from rfl] using hm 0 _ rfl
  have HR := Lib.hid (lent_C (a := Kd.string) hv)
  have HQ := Lib.hid hq
  clear hv hq hm
  go_enter Tryd.func36, Tryd.ntmps36
  go_wp2_with (go_at_call 49; refine (kstrings_calls (some ad) B c d l l _ HR.out HQ.out).mono ?_; rintro e w' ⟨rfl, n, rfl⟩; rw [decide_eq_true (show l = l from rfl)])
  go_ret
  exact ⟨rfl, _, rfl⟩
theorem infoRule : (Tryd.prog.info? 51).map (fun i => (i.zero, i.size, i.bytes)) = some (some (.agg #[.int .i64 0, .slice none 0 0]), 2, 32) := by kernel_rfl
theorem lent_made {d : Kd (Option (Int × List Int))} {w1 w2 : World} {base e1 : Nat} {A2 : Option Addr} {c2 : Nat} {r : List Int} {u : Value} {xs : List (Option (Int × List Int))} (hR : KMInt.R 3 w2 w1.heap.size (fun _ => True) (.slice A2 (r.length + 1) c2) (r.map some ++ [none])) (hq : r.length + 1 ≤ c2) (ho : d.R e1 w1 base (fun _ => True) u xs) (hb : base ≤ w1.heap.size) :
    KLInts.M w2 base (fun k => True ∧ some k ≠ u.ownBlock) r [.slice A2 r.length c2] := by
  obtain ⟨inner, hown⟩ := Kd.R_own ho
  exact KLInts.M_lower hb (Kd.M_new (d := KLInts) ⟨A2, c2, rfl, hq, hR⟩ hown)
theorem lent_pair {w : World} {base : Nat} {ok : Nat → Prop} {x : Int} {r : List Int} {v : Value} (h : KLInts.M w base ok r [v]) : KMRule.M w base ok (some (x, r)) [.int .i64 x, v] := ⟨[.int .i64 x], [v], rfl, rfl, h⟩
theorem lentRules_calls (A0 : Option Addr) (c0 : Nat) (l0 : List (Int × List Int)) (w : World) (hr0 : KRule.C w A0 l0.length l0) (hl : (l0.length + 1) * 32 ≤ 140737488355328) (hi : ∀ r ∈ l0, (r.2.length + 1) * 8 ≤ 140737488355328) :
    Calls Tryd.prog 25 #[.slice A0 l0.length c0] w fun e w' => ∃ A c, e = .returned (.slice A l0.length c) ∧ l0.length + 1 ≤ c ∧ KMRule.R 51 w' w.heap.size (fun _ => True) (.slice A (l0.length + 1) c) (l0.map some ++ [none]) ∧ Below w.heap.size w w' := by
  have hlen := hr0.2.1
  have HR0 := Aside0.mk hr0
  have HL := Aside0.mk hl
  have HI := Aside0.mk hi
  clear hr0 hl hi
  go_enter Tryd.func25, Tryd.ntmps25
  go_wp2
  go_loopw [3, 4] (fun v i wr => ∃ (j : Nat), j ≤ l0.length ∧ i = .int .i64 j ∧ Aside0 (KMRule.R 51 wr w.heap.size (fun _ => True) v ((l0.take j).map some)) ∧ Aside0 (Below w.heap.size w wr)) (fun _ i _ => l0.length - (intOf i).toNat)
  case atStart => exact ⟨0, by omega, rfl, ⟨Kd.R_nil _ _ _ _ _⟩, ⟨Below.refl _ _⟩⟩
  case round =>
    obtain ⟨j, hj, rfl, HO, HB⟩ := hrel
    obtain ⟨w1, rfl⟩ : ∃ w1, wr = w1 := ⟨_, rfl⟩
    have hlj : ((l0.take j).map some).length = j := by simp; omega
    by_cases hlt : j < l0.length
    · obtain ⟨ad, x, B, c, r, rfl, hc1, hc2, hrc, hr, HD⟩ := at_rule (Kd.C_below HR0.out HB.out) j hlt
      have HIr := Aside0.mk (HI.out (x, r) (by rw [← HD.out]; exact getD_mem l0 j (0, []) hlt))
      have HRr := Aside0.mk hr
      have HTk := Lib.hid (take_snocD l0 j (0, []) hlt)
      clear hr
      go_wp2_with (first
        | (go_at_call 11; refine (lentInts_calls B c r _ HRr.out HIr.out).mono ?_; rintro e w2 ⟨A2, c2, rfl, hq, hR2, hB2⟩; have HB2 := Aside0.mk (below_next HB.out hB2); have HM := Aside0.mk (lent_made hR2 hq HO.out HB.out.size); have HO2 := Aside0.mk (Kd.R_below HO.out hB2); have hc3 := (hB2.cell (p := ad.add (j * 2)) (World.block_lt_of_cell? _ _ hc1)).trans hc1; clear hR2 hB2 hq)
        | ((with_reducible refine gate_builtin (b := .append) (xs := #[.tmp 18, .tmp 26]) rfl ?_); at_builtin; refine Kd.R_append KMRule (w0 := w) w.heap.size rfl (.tmp 18) (.tmp 26) 23 51 (.agg #[.int .i64 0, .slice none 0 0]) 32 rfl Tryd.underlying23 infoRule rfl (by decide) (by omega) u3 ((l0.take j).map some) (some (x, r)) [.int .i64 x, .slice A2 r.length c2] (fun _ => True) (fun k => True ∧ some k ≠ Value.ownBlock u3) rfl rfl (lent_pair HM.out) (fun k h => h) (fun _ _ => trivial) HO2.out HB2.out (Below.size HB2.out) (by have := HL.out; rw [hlj]; omega) ?_; intro v3 w3 ho hb _ _; have HO3 := Aside0.mk ho; have HB3 := Aside0.mk hb; clear ho hb; skip))
      go_roundw
      case rel => exact ⟨j + 1, by omega, by go_num, ⟨by rw [HTk.out, HD.out, List.map_append]; exact HO3.out⟩, HB3⟩
      case measure => simp [intOf]; omega
    · obtain rfl : j = l0.length := by omega
      have HT : Hid (l0.take l0.length = l0) := Lib.hid (List.take_of_length_le (Nat.le_refl _))
      go_wp2_with (first
        | ((with_reducible refine gate_builtin (b := .append) (xs := #[.tmp 28, .tmp 30]) rfl ?_); at_builtin; refine Kd.R_append KMRule (w0 := w) w.heap.size rfl (.tmp 28) (.tmp 30) 23 51 (.agg #[.int .i64 0, .slice none 0 0]) 32 rfl Tryd.underlying23 infoRule rfl (by decide) (by omega) u3 ((l0.take l0.length).map some) none [.int .i64 (-7171), .slice none 0 0] (fun _ => True) (fun _ => False) rfl rfl rfl (fun _ hk => hk.elim) (fun _ _ => trivial) HO.out HB.out (Below.size HB.out) (by have := HL.out; rw [hlj]; omega) ?_; intro v2 w2 ho hb _ _; have HO2 := Aside0.mk ho; have HB2 := Aside0.mk hb; clear ho hb; (rw [HT.out] at HO2; obtain ⟨A, c, rfl⟩ := Kd.R_slice HO2.out; have hc : l0.length + 1 ≤ c := (by have := (Kd.R_reads' HO2.out).2.1; simpa using this); have hc2 : l0.length ≤ c := (by omega))))
      go_ret
      exact ⟨A, c, rfl, hc, by simpa using HO2.out, HB2.out⟩
theorem keptRules_calls (A B : Option Addr) (c d : Nat) (l : List (Int × List Int)) (w : World) (hv : KMRule.C w A (l.length + 1) (l.map some ++ [none])) (hc : l.length + 1 ≤ c) (hq : KRule.C w B l.length l) : Quiet 37 #[.slice A l.length c, .slice B l.length d] w (.bool true) := by
  unfold Quiet
  have hlen := hv.2.1
  obtain ⟨ad, rfl, hm⟩ := lent_mark (a := KLRule) hv
  have hcell : w.cell? (ad.add (l.length * 2)) = some (.int .i64 (-7171)) := by simpa [show KLRule.sz = 2 from rfl] using hm 0 _ rfl
  have HV := Lib.hid hv
  have HQ := Lib.hid hq
  clear hv hq hm
  go_enter Tryd.func37, Tryd.ntmps37
  go_wp2
  go_loopw [5] (fun i wr => ∃ (j : Nat), j ≤ l.length ∧ i = .int .i64 j ∧ Hid (∃ n, wr = w.drewN n)) (fun i _ => l.length - (intOf i).toNat)
  case atStart => exact ⟨0, by omega, rfl, Lib.hid ⟨0, rfl⟩⟩
  case round =>
    obtain ⟨j, hj, rfl, HW⟩ := hrel
    have HV1 := Lib.hid (show KMRule.C wr (some ad) (l.length + 1) (l.map some ++ [none]) by obtain ⟨n, e⟩ := HW.out; rw [e]; exact Kd.C_drewN HV.out n)
    have HQ1 := Lib.hid (show KRule.C wr B l.length l by obtain ⟨n, e⟩ := HW.out; rw [e]; exact Kd.C_drewN HQ.out n)
    by_cases hlt : j < l.length
    · obtain ⟨ad1, x, B1, c1, r, e1, h1, h2, h3, h4, HD⟩ := at_lrule HV1.out j hlt
      simp only [Option.some.injEq] at e1
      subst e1
      obtain ⟨ad2, x2, B2, c2, r2, rfl, g1, g2, g3, g4, HD2⟩ := at_rule HQ1.out j hlt
      have e := HD.out.symm.trans HD2.out
      simp only [Prod.mk.injEq] at e
      obtain ⟨rfl, rfl⟩ := e
      have H4 := Lib.hid h4
      have G4 := Lib.hid g4
      have hxx : ((x : Int) == x) = true := by simp
      have hxn : ((x : Int) != x) = false := by simp
      clear h4 g4
      go_wp2
      go_quiet ((go_at_call 16; exact Calls.quiet_of (keptInts_calls _ _ _ _ _ _ (Kd.C_drewN H4.out _) h3 (Kd.C_drewN G4.out _))))
      go_wp2
      go_roundw
      case rel => exact ⟨j + 1, by omega, by go_num, Lib.hid (by obtain ⟨n, e⟩ := HW.out; exact ⟨_, by rw [e, World.drewN_drewN]⟩)⟩
      case measure => simp [intOf]; omega
    · go_wp2
      go_ret
      exact ⟨rfl, HW.out⟩
theorem keptGrammar_calls (v u : Value) (g : Gr) (w : World) (hv : GramL w v g) (hu : GramAt w u g) :
    Calls Tryd.prog 15 #[v, u] w fun e w' => e = .returned (.bool true) ∧ Below w.heap.size w w' := by
  obtain ⟨AT, cT, AN, cN, AR, cR, rfl, h1, h2, h3, h4, h5, h6⟩ := hv
  obtain ⟨BT, dT, BN, dN, BR, dR, rfl, q1, q2, q3, q4, q5, q6⟩ := hu
  have H4 := Lib.hid h4
  have H5 := Lib.hid h5
  have H6 := Lib.hid h6
  have Q4 := Lib.hid q4
  have Q5 := Lib.hid q5
  have Q6 := Lib.hid q6
  clear h4 h5 h6 q4 q5 q6
  have hB2 := below_alloc (below_alloc (Below.refl w.heap.size w) (.cells #[.slice AT g.terms.length cT, .slice AN g.nonterms.length cN, .int .i64 g.ax, .slice AR g.rules.length cR] 25)) (.cells #[.slice BT g.terms.length dT, .slice BN g.nonterms.length dN, .int .i64 g.ax, .slice BR g.rules.length dR] 25)
  have HB := Lib.hid hB2
  clear hB2
  go_enter Tryd.func15, Tryd.ntmps15
  go_wp2_with (first
    | (go_at_call 36; refine (keptStrings_calls _ _ _ _ _ _ (Kd.C_below (by first | exact H4.out | exact H5.out) (by first | exact HB.out | exact pw_below_drewN HB.out _)) (by assumption) (Kd.C_below (by first | exact Q4.out | exact Q5.out) (by first | exact HB.out | exact pw_below_drewN HB.out _))).mono ?_; rintro e w' ⟨rfl, n, rfl⟩)
    | (go_at_call 37; refine (keptRules_calls _ _ _ _ _ _ (Kd.C_below H6.out (by first | exact HB.out | exact pw_below_drewN HB.out _)) (by assumption) (Kd.C_below Q6.out (by first | exact HB.out | exact pw_below_drewN HB.out _))).mono ?_; rintro e w' ⟨rfl, n2, rfl⟩))
  go_ret
  exact ⟨rfl, pw_below_drewN HB.out _⟩
theorem blk_below {g : Nat} {o : Obj} {w w' : World} (h : w.heap[g]? = some o) (hb : Below w.heap.size w w') : w'.heap[g]? = some o := (hb.block g (Array.getElem?_eq_some_iff.1 h).1).trans h
theorem blk_set {g t : Nat} {c : Array Value} {w : World} (h : w.heap[g]? = some (.cells c t (0, 0))) (j : Nat) (u : Value) : (w.setCell ⟨g, j, none⟩ u).heap[g]? = some (.cells (c.setIfInBounds j u) t (0, 0)) := by
  obtain ⟨hlt, hk⟩ := Array.getElem?_eq_some_iff.1 h
  show (w.heap.modify g _)[g]? = _
  rw [Array.getElem?_eq_getElem (by rw [Array.size_modify]; exact hlt), Array.getElem_modify_self, hk]
  rfl
theorem held_set {w W : World} {b j : Nat} {u a0 a1 a2 a3 : Value} (h : W.cell? ⟨b, 0, none⟩ = some a0 ∧ W.cell? ⟨b, 1, none⟩ = some a1 ∧ W.cell? ⟨b, 2, none⟩ = some a2 ∧ W.cell? ⟨b, 3, none⟩ = some a3 ∧ Aside0 (Below w.heap.size w W) ∧ b + 1 < W.heap.size) (hb : w.heap.size ≤ b + 1 := by omega) :
    (W.setCell ⟨b + 1, j, none⟩ u).cell? ⟨b, 0, none⟩ = some a0 ∧ (W.setCell ⟨b + 1, j, none⟩ u).cell? ⟨b, 1, none⟩ = some a1 ∧ (W.setCell ⟨b + 1, j, none⟩ u).cell? ⟨b, 2, none⟩ = some a2 ∧ (W.setCell ⟨b + 1, j, none⟩ u).cell? ⟨b, 3, none⟩ = some a3 ∧ Aside0 (Below w.heap.size w (W.setCell ⟨b + 1, j, none⟩ u)) ∧ b + 1 < (W.setCell ⟨b + 1, j, none⟩ u).heap.size := by
  obtain ⟨h0, h1, h2, h3, h4, h5⟩ := h
  have hk := Below.heap_setCell W ⟨b + 1, j, none⟩ u b (by simp)
  refine ⟨(World.cell?_of_block (w := W) hk).trans h0, (World.cell?_of_block (w := W) hk).trans h1, (World.cell?_of_block (w := W) hk).trans h2, (World.cell?_of_block (w := W) hk).trans h3, ⟨h4.out.setCell hb u⟩, ?_⟩
  simpa [World.setCell] using h5
theorem R_sets4 {α : Type} {d : Kd α} {e : Nat} {w : World} {base : Nat} {ok : Nat → Prop} {v : Value} {xs : List α} {g t : Nat} {a b c a' : Value} (h : d.R e w base ok v xs) (hb : w.heap[g]? = some (.cells #[a, b, c, a'] t (0, 0))) (ht : ∀ q, q ∈ e :: d.E → q ≠ t) (u0 u1 u2 u3 : Value) :
    d.R e ((((w.setCell ⟨g, 0, none⟩ u0).setCell ⟨g, 1, none⟩ u1).setCell ⟨g, 2, none⟩ u2).setCell ⟨g, 3, none⟩ u3) base ok v xs := by
  have h1 := Kd.R_set h hb ht 0 u0
  have b1 := blk_set hb 0 u0
  have h2 := Kd.R_set h1 b1 ht 1 u1
  have b2 := blk_set b1 1 u1
  have h3 := Kd.R_set h2 b2 ht 2 u2
  have b3 := blk_set b2 2 u2
  exact Kd.R_set h3 b3 ht 3 u3
theorem blk_sets4 {w : World} {g t : Nat} {a b c a' : Value} (hb : w.heap[g]? = some (.cells #[a, b, c, a'] t (0, 0))) (u0 u1 u2 u3 : Value) :
    ((((w.setCell ⟨g, 0, none⟩ u0).setCell ⟨g, 1, none⟩ u1).setCell ⟨g, 2, none⟩ u2).setCell ⟨g, 3, none⟩ u3).heap[g]? = some (.cells #[u0, u1, u2, u3] t (0, 0)) :=
  blk_set (blk_set (blk_set (blk_set hb 0 u0) 1 u1) 2 u2) 3 u3
theorem blk_cells4 {g : Nat} {a b c d : Value} {t : TypeId} {w : World} (h : w.heap[g]? = some (.cells #[a, b, c, d] t (0, 0))) :
    (w.cell? ⟨g, 0, none⟩ = some a ∧ w.cell? ⟨g, 1, none⟩ = some b ∧ w.cell? ⟨g, 2, none⟩ = some c ∧ w.cell? ⟨g, 3, none⟩ = some d) ∧ w.frozen? ⟨g, 0, none⟩ = false ∧ w.frozen? ⟨g, 1, none⟩ = false ∧ w.frozen? ⟨g, 2, none⟩ = false ∧ w.frozen? ⟨g, 3, none⟩ = false := by
  refine ⟨⟨?_, ?_, ?_, ?_⟩, ?_, ?_, ?_, ?_⟩ <;> simp [World.cell?, World.frozen?, h]
theorem held_step {w W w' : World} {b : Nat} {a0 a1 a2 a3 : Value} (h : W.cell? ⟨b, 0, none⟩ = some a0 ∧ W.cell? ⟨b, 1, none⟩ = some a1 ∧ W.cell? ⟨b, 2, none⟩ = some a2 ∧ W.cell? ⟨b, 3, none⟩ = some a3 ∧ Aside0 (Below w.heap.size w W) ∧ b + 1 < W.heap.size) (hb : Below W.heap.size W w') :
    w'.cell? ⟨b, 0, none⟩ = some a0 ∧ w'.cell? ⟨b, 1, none⟩ = some a1 ∧ w'.cell? ⟨b, 2, none⟩ = some a2 ∧ w'.cell? ⟨b, 3, none⟩ = some a3 ∧ Aside0 (Below w.heap.size w w') ∧ b + 1 < w'.heap.size := by
  obtain ⟨h0, h1, h2, h3, h4, h5⟩ := h
  have hl : b < W.heap.size := by omega
  exact ⟨(hb.cell (p := ⟨b, 0, none⟩) hl).trans h0, (hb.cell (p := ⟨b, 1, none⟩) hl).trans h1, (hb.cell (p := ⟨b, 2, none⟩) hl).trans h2, (hb.cell (p := ⟨b, 3, none⟩) hl).trans h3, ⟨below_next h4.out hb⟩, Nat.lt_of_lt_of_le h5 hb.size⟩
theorem lentGrammar_calls (v : Value) (g : Gr) (w : World) (hv : GramAt w v g) (ht : (g.terms.length + 1) * 16 ≤ 140737488355328) (hn : (g.nonterms.length + 1) * 16 ≤ 140737488355328) (hl : (g.rules.length + 1) * 32 ≤ 140737488355328) (hi : ∀ r ∈ g.rules, (r.2.length + 1) * 8 ≤ 140737488355328) :
    Calls Tryd.prog 10 #[v] w fun e w' => ∃ u, e = .returned u ∧ GramL w' u g ∧ Below w.heap.size w w' := by
  obtain ⟨AT, cT, AN, cN, AR, cR, rfl, h1, h2, h3, h4, h5, h6⟩ := hv
  have HT := Lib.hid ht
  have HN := Lib.hid hn
  have HL := Lib.hid hl
  have HI := Lib.hid hi
  clear ht hn hl hi
  obtain ⟨w0, hw0⟩ : ∃ w0, (w.alloc (.cells #[.slice AT g.terms.length cT, .slice AN g.nonterms.length cN, .int .i64 g.ax, .slice AR g.rules.length cR] 25)).alloc (.cells #[.slice none 0 0, .slice none 0 0, .int .i64 0, .slice none 0 0] 25) = w0 := ⟨_, rfl⟩
  have HB := Aside0.mk (show Below w.heap.size w w0 by rw [← hw0]; exact below_alloc (below_alloc (Below.refl w.heap.size w) _) _)
  have hsz : w.heap.size + 1 < w0.heap.size := by rw [← hw0]; simp
  have hc0 : w0.cell? ⟨w.heap.size, 0, none⟩ = some (.slice AT g.terms.length cT) := by rw [← hw0]; simp [go_sem]
  have hc1 : w0.cell? ⟨w.heap.size, 1, none⟩ = some (.slice AN g.nonterms.length cN) := by rw [← hw0]; simp [go_sem]
  have hc2 : w0.cell? ⟨w.heap.size, 2, none⟩ = some (.int .i64 g.ax) := by rw [← hw0]; simp [go_sem]
  have hc3 : w0.cell? ⟨w.heap.size, 3, none⟩ = some (.slice AR g.rules.length cR) := by rw [← hw0]; simp [go_sem]
  have HBlk := Lib.hid (show w0.heap[w.heap.size + 1]? = some (.cells #[.slice none 0 0, .slice none 0 0, .int .i64 0, .slice none 0 0] 25 (0, 0)) by rw [← hw0]; have h := heap_alloc_new (w.alloc (.cells #[.slice AT g.terms.length cT, .slice AN g.nonterms.length cN, .int .i64 g.ax, .slice AR g.rules.length cR] 25)) (.cells #[.slice none 0 0, .slice none 0 0, .int .i64 0, .slice none 0 0] 25); rwa [World.size_alloc] at h)
  have H4 := Lib.hid h4
  have H5 := Lib.hid h5
  have H6 := Lib.hid h6
  clear h4 h5 h6
  go_enter Tryd.func10, Tryd.ntmps10
  go_wp2
  clear hw0
  have tok1 : True := trivial
  go_region_held3 (fun w' => w'.cell? ⟨w.heap.size, 0, none⟩ = some (.slice AT g.terms.length cT) ∧ w'.cell? ⟨w.heap.size, 1, none⟩ = some (.slice AN g.nonterms.length cN) ∧ w'.cell? ⟨w.heap.size, 2, none⟩ = some (.int .i64 g.ax) ∧ w'.cell? ⟨w.heap.size, 3, none⟩ = some (.slice AR g.rules.length cR) ∧ Aside0 (Below w.heap.size w w') ∧ w.heap.size + 1 < w'.heap.size)
    (first
      | (refine ⟨?_, ?_, ?_, ?_, ⟨below_drew1 HB.out⟩, hsz⟩ <;> assumption)
      | exact held_step hS.out hb.out
      | exact held_set (held_set (held_set (held_set (held_step hS.out hb.out)))))
    (first
      | (go_at_call 31; have t_ := tok1; have hS := Aside0.mk (by assumption : _ ∧ _ ∧ _ ∧ _ ∧ Aside0 (Below w.heap.size w _) ∧ _); refine (lentStrings_calls AT cT g.terms _ (Kd.C_below H4.out hS.out.2.2.2.2.1.out) HT.out).mono ?_; rintro e w1 ⟨A1, c1, rfl, hq1, hR1, hb1⟩; have hb := Aside0.mk hb1; have R1 := Aside0.mk hR1; have K1 := Aside0.mk (blk_below HBlk.out (below_drew1 (Below.refl _ _) |>.trans hb1)); clear tok1 t_ hb1 hR1)
      | (go_at_call 31; have hS := Aside0.mk (by assumption : _ ∧ _ ∧ _ ∧ _ ∧ Aside0 (Below w.heap.size w _) ∧ _); refine (lentStrings_calls AN cN g.nonterms _ (Kd.C_below H5.out hS.out.2.2.2.2.1.out) HN.out).mono ?_; rintro e w2 ⟨A2, c2, rfl, hq2, hR2, hb2⟩; have hb := Aside0.mk hb2; have R12 := Aside0.mk (Kd.R_below R1.out hb2); have R2 := Aside0.mk hR2; have K2 := Aside0.mk (blk_below K1.out hb2); clear hb2 hR2)
      | (go_at_call 25; have hS := Aside0.mk (by assumption : _ ∧ _ ∧ _ ∧ _ ∧ Aside0 (Below w.heap.size w _) ∧ _); refine (lentRules_calls AR cR g.rules _ (Kd.C_below H6.out hS.out.2.2.2.2.1.out) HL.out HI.out).mono ?_; rintro e w3 ⟨A3, c3, rfl, hq3, hR3, hb3⟩; have hb := Aside0.mk hb3; have R13 := Aside0.mk (Kd.R_below R12.out hb3); have R23 := Aside0.mk (Kd.R_below R2.out hb3); have R3 := Aside0.mk hR3; have K3 := Aside0.mk (blk_below K2.out hb3); have HB3 := Aside0.mk (below_next hS.out.2.2.2.2.1.out hb3); obtain ⟨⟨e0, e1, e2, e3⟩, f0, f1, f2, f3⟩ := blk_cells4 K3.out; clear hb3 hR3))
  go_wp2
  have hne : ∀ t ∈ [9, 51, 3], t ≠ 25 := by decide
  have G1 := Aside0.mk (R_sets4 (d := KMString) R13.out K3.out (by intro q hq; exact hne q (by revert hq; simp [KMString, KOpt, Kd.string, Kd.scalar]; intro h; subst h; decide)) (.slice A1 g.terms.length c1) (.slice A2 g.nonterms.length c2) (.int .i64 g.ax) (.slice A3 g.rules.length c3))
  have G2 := Aside0.mk (R_sets4 (d := KMString) R23.out K3.out (by intro q hq; exact hne q (by revert hq; simp [KMString, KOpt, Kd.string, Kd.scalar]; intro h; subst h; decide)) (.slice A1 g.terms.length c1) (.slice A2 g.nonterms.length c2) (.int .i64 g.ax) (.slice A3 g.rules.length c3))
  have G3 := Aside0.mk (R_sets4 (d := KMRule) R3.out K3.out (by intro q hq; exact hne q (by revert hq; simp [KMRule, KLRule, KLInts, KLent, KMInt, KOpt, Kd.pair, Kd.int, Kd.scalar]; omega)) (.slice A1 g.terms.length c1) (.slice A2 g.nonterms.length c2) (.int .i64 g.ax) (.slice A3 g.rules.length c3))
  have KF := blk_sets4 K3.out (.slice A1 g.terms.length c1) (.slice A2 g.nonterms.length c2) (.int .i64 g.ax) (.slice A3 g.rules.length c3)
  have BF := Aside0.mk ((((HB3.out.setCell (p := ⟨w.heap.size + 1, 0, none⟩) (by simp) (.slice A1 g.terms.length c1)).setCell (p := ⟨w.heap.size + 1, 1, none⟩) (by simp) (.slice A2 g.nonterms.length c2)).setCell (p := ⟨w.heap.size + 1, 2, none⟩) (by simp) (.int .i64 g.ax)).setCell (p := ⟨w.heap.size + 1, 3, none⟩) (by simp) (.slice A3 g.rules.length c3))
  generalize ((((w3.setCell ⟨w.heap.size + 1, 0, none⟩ (.slice A1 g.terms.length c1)).setCell ⟨w.heap.size + 1, 1, none⟩ (.slice A2 g.nonterms.length c2)).setCell ⟨w.heap.size + 1, 2, none⟩ (.int .i64 g.ax)).setCell ⟨w.heap.size + 1, 3, none⟩ (.slice A3 g.rules.length c3)) = w4 at *
  obtain ⟨⟨g0, g1, g2, g3⟩, -⟩ := blk_cells4 KF
  have L1 := (Kd.R_reads' G1.out).2.2
  have L2 := (Kd.R_reads' G2.out).2.2
  have L3 := (Kd.R_reads' G3.out).2.2
  refine bodyPost_ret (v := .agg #[.slice A1 g.terms.length c1, .slice A2 g.nonterms.length c2, .int .i64 g.ax, .slice A3 g.rules.length c3]) (by simp [results, Tryd.results10, go_sem, g0, g1, g2, g3]) rfl ⟨_, rfl, ⟨A1, c1, A2, c2, A3, c3, rfl, hq1, hq2, hq3, ?_, ?_, ?_⟩, BF.out⟩
  · simpa using L1
  · simpa using L2
  · simpa using L3
end Go.Proofs.YtndimnomkcjeiaaDoor.Hand
/- Arguments of whatever kind, opened: the reading of memory gives the plain datum that it spells. -/
namespace Go.Proofs.YtndimnomkcjeiaaDoor.Hand
open Go.ChangeShapes Go.WideShapes Go.ChangeAt
open Go.RowKit Go.Proofs.YtndimnomkcjeiaaDoorW.PrintWords Go.Proofs.YtndimnomkcjeiaaDoorW.PrintMore Go.Proofs.YtndimnomkcjeiaaDoor.Math

/-- Whatever reads by this type spells a datum of this kind. -/
def Opens {α : Type} (t : TypeId) (d : Kd α) (good : α → Prop) : Prop :=
  ∀ (H : Type) (enc : TypeId × Value → H) (W : World) (base : Nat) (spare : Nat → Bool) (held : Bool) (fuel : Nat) (cs : List Value) (x : DataW H × List MemPlace), DataW.trod enc Tryd.prog W base spare held fuel t cs = some x →
    (∀ n ∈ x.1.weights Tryd.prog t, n ≤ reachBytes) → ∃ a, d.K W a cs ∧ good a
theorem Opens.int {t : TypeId} {k : IntKind} (ht : Tryd.prog.underlying t = some (.int k)) : Opens t (Kd.int k) (fun a => (Lit.int k a).wf = true) := by
  intro H enc W base spare held fuel cs x h _
  obtain ⟨n, rfl, _, hw⟩ := DataW.trod_int ht h
  exact ⟨n, rfl, hw⟩
theorem Opens.string {t : TypeId} (ht : Tryd.prog.underlying t = some .string) : Opens t Kd.string (fun s => s.size ≤ 140737488351232) := by
  intro H enc W base spare held fuel cs x h hw
  obtain ⟨s, rfl, rfl, _⟩ := DataW.trod_string ht h
  refine ⟨s, rfl, ?_⟩
  have := hw s.data.toList.length (by simp [DataW.weights])
  simpa [reachBytes] using this
theorem list_of {α : Type} {p : Nat → α → Prop} : ∀ {n : Nat} (_ : ∀ i, i < n → ∃ x, p i x), ∃ l : List α, l.length = n ∧ ∀ i x, l[i]? = some x → p i x
  | 0, _ => ⟨[], rfl, fun i x h => by simp at h⟩
  | n + 1, h => by
    obtain ⟨l, hl, hp⟩ := list_of (n := n) (fun i hi => h i (by omega))
    obtain ⟨x, hx⟩ := h n (by omega)
    refine ⟨l ++ [x], by simp [hl], fun i y hy => ?_⟩
    rcases Nat.lt_or_ge i l.length with hi | hi
    · rw [List.getElem?_append_left hi] at hy; exact hp i y hy
    · rw [List.getElem?_append_right hi] at hy
      have h0 : i - l.length = 0 := by
        rcases Nat.eq_zero_or_pos (i - l.length) with h | h
        · exact h
        · rw [List.getElem?_eq_none (by simp; omega)] at hy; cases hy
      rw [h0] at hy
      simp at hy
      subst hy
      have : i = n := by omega
      subst this
      exact hx
theorem weightsAll_mem {H : Type} {P : Program} {e : TypeId} {d : DataW H} {n : Nat} : ∀ {l : List (DataW H)}, d ∈ l → n ∈ d.weights P e → n ∈ DataW.weightsAll P e l
  | [], h, _ => by cases h
  | a :: r, h, hn => by
    simp only [DataW.weightsAll, List.mem_append]
    rcases List.mem_cons.1 h with rfl | h
    · exact .inl hn
    · exact .inr (weightsAll_mem h hn)
theorem Opens.slice {α : Type} {t e : TypeId} {B : Nat} {d : Kd α} {good : α → Prop} (ht : Tryd.prog.underlying t = some (.slice e)) (he : Opens e d good) (hc : Tryd.prog.cellsOf e = d.sz) (hB : Tryd.prog.bytesOf e = B) :
    Opens t (Kd.slice e d) (fun l => l.length * B ≤ 140737488351232 ∧ ∀ x ∈ l, good x) := by
  intro H enc W base spare held fuel cs x h hw
  rcases Deep.open_slice ht h with ⟨rfl, rfl⟩ | ⟨a, len, cap, m, n, D, Pl, rfl, hb, hl, hm, hmm, rfl, hx⟩
  · exact ⟨[], ⟨none, 0, rfl, Nat.le_refl _, Kd.C_nil d W⟩, by simp, fun x hx => absurd hx (List.not_mem_nil)⟩
  · have hlm : len ≤ m := by rw [hmm]; split <;> omega
    simp only [DataW.weights, ht] at hw
    have hw1 := hw _ (List.mem_cons_self ..)
    simp only [List.length_map, List.length_range] at hw1
    have hw2 : ∀ i, i < len → ∀ k ∈ (D i).weights Tryd.prog e, k ≤ reachBytes := fun i hi k hk =>
      hw k (List.mem_cons_of_mem _ (List.mem_append_left _ (weightsAll_mem (List.mem_map.2 ⟨i, List.mem_range.2 hi, rfl⟩) hk)))
    obtain ⟨l, hll, hp⟩ := list_of (n := len) (p := fun i p => good p ∧ ∃ cs', d.K W p cs' ∧ ∀ j u, cs'[j]? = some u → W.cell? (a.add (i * d.sz + j)) = some u) (fun i hi => by
      obtain ⟨cs', h1, h2⟩ := hx i (by omega)
      obtain ⟨p, hk, hg⟩ := he H enc W base spare held n cs' _ h2 (hw2 i hi)
      obtain ⟨_, hlen, hcell⟩ := World.cells?_some h1
      refine ⟨p, hg, cs', hk, fun j u hu => ?_⟩
      have hj : j < Tryd.prog.cellsOf e := by rw [← hlen]; exact (List.getElem?_eq_some_iff.1 hu).1
      have := hcell j hj
      rw [Deep.add_add, hu, hc] at this
      exact this)
    subst hll
    refine ⟨l, ⟨some a, cap, rfl, hl, rfl, ?_, fun _ => ⟨a, rfl, fun j p hj => ?_⟩⟩, ?_, fun x hx => ?_⟩
    · have : maxLen = 9223372036854775807 := by decide
      omega
    · obtain ⟨_, cs', hk, hcell⟩ := hp j p hj
      exact ⟨cs', d.K_len hk, hk, hcell⟩
    · rw [hB] at hw1
      have h3 : l.length * B ≤ (l.length + (m - l.length)) * B := Nat.mul_le_mul_right _ (by omega)
      have h4 : (reachBytes : Nat) = 140737488351232 := by decide
      omega
    · obtain ⟨i, hi⟩ := List.getElem?_of_mem hx
      exact (hp i x hi).1
theorem Opens.pair {α β : Type} {t : TypeId} {f0 f1 : Field} {a : Kd α} {b : Kd β} {ga : α → Prop} {gb : β → Prop} (ht : Tryd.prog.underlying t = some (.struct #[f0, f1])) (o0 : f0.offset = 0) (o1 : f1.offset = a.sz) (c0 : Tryd.prog.cellsOf f0.type = a.sz) (c1 : Tryd.prog.cellsOf f1.type = b.sz) (ct : Tryd.prog.cellsOf t = a.sz + b.sz)
    (h0 : Opens f0.type a ga) (h1 : Opens f1.type b gb) : Opens t (Kd.pair a b) (fun x => ga x.1 ∧ gb x.2) := by
  intro H enc W base spare held fuel cs x h hw
  obtain ⟨y0, y1, n, rfl, hl, k0, k1⟩ := trod_struct2 ht h
  simp only [DataW.weights, ht, List.map_cons, List.map_nil, DataW.weightsEach, List.append_nil] at hw
  rw [o0, c0, List.drop_zero] at k0
  rw [o1, c1] at k1
  obtain ⟨x0, q0, g0⟩ := h0 H enc W base spare held n _ _ k0 (fun n hn => hw n (List.mem_append_left _ hn))
  obtain ⟨x1, q1, g1⟩ := h1 H enc W base spare held n _ _ k1 (fun n hn => hw n (List.mem_append_right _ hn))
  refine ⟨(x0, x1), ⟨cs.take a.sz, (cs.drop a.sz).take b.sz, ?_, q0, q1⟩, g0, g1⟩
  rw [List.take_of_length_le (show (cs.drop a.sz).length ≤ b.sz by rw [List.length_drop, hl, ct]; omega), List.take_append_drop]
section
set_option maxRecDepth 20000
variable {H : Type} {enc : TypeId × Value → H} {W : World} {base : Nat} {r : Reach} {b0 : Nat} {spare : Nat → Bool} {held : Bool} {v : Value} {d : DataW H} {ps : List MemPlace} {ts : List TypeId} {ds : List (DataW H)} {j : Nat}

theorem openSlice {α : Type} {t e : TypeId} {B : Nat} {k : Kd α} {good : α → Prop} (hu : Tryd.prog.underlying t = some (.slice e)) (he : Opens e k good) (hc : Tryd.prog.cellsOf e = k.sz) (hB : Tryd.prog.bytesOf e = B)
    (hsz : (DataW.weightsEach Tryd.prog ts ds).all (· ≤ reachBytes) = true) (ht : ts[j]? = some t) (hd : ds[j]? = some d) (hv : Value.okWide Tryd.prog W r b0 t v) (h : DataW.Trod enc Tryd.prog W base spare held t v d ps) :
    ∃ (A : Option Addr) (c : Nat) (l : List α), v = .slice A l.length c ∧ k.C W A l.length l ∧ l.length * B ≤ 140737488351232 ∧ l.length ≤ c ∧ ∀ x ∈ l, good x := by
  obtain ⟨a, len, cap, rfl⟩ := okWide_slice hu hv
  obtain ⟨fuel, hf⟩ := h
  obtain ⟨l, ⟨A, c, hcs, hlc, hC⟩, hb, hg⟩ := (Opens.slice hu he hc hB) H enc W base spare held fuel _ _ hf (fun n hn => by
    have := List.all_eq_true.1 hsz n (DataW.weights_mem_each ht hd n hn)
    simpa using this)
  simp [Value.cells] at hcs
  obtain ⟨rfl, rfl, rfl⟩ := hcs
  exact ⟨_, _, l, rfl, hC, hb, hlc, hg⟩
theorem opens_i64 : Opens 3 (Kd.int .i64) (fun a => (Lit.int .i64 a).wf = true) := Opens.int Tryd.underlying3
theorem opens_ints : Opens 26 (Kd.slice 3 (Kd.int .i64)) (fun l => l.length * 8 ≤ 140737488351232 ∧ ∀ x ∈ l, (Lit.int .i64 x).wf = true) := Opens.slice Tryd.underlying26 opens_i64 (by kernel_rfl) (by kernel_rfl)
theorem openInts (hsz : (DataW.weightsEach Tryd.prog ts ds).all (· ≤ reachBytes) = true) (ht : ts[j]? = some 26) (hd : ds[j]? = some d) (hv : Value.okWide Tryd.prog W r b0 26 v) (h : DataW.Trod enc Tryd.prog W base spare held 26 v d ps) :
    ∃ (A : Option Addr) (c : Nat) (l : List Int), v = .slice A l.length c ∧ Kd.C (Kd.int .i64) W A l.length l ∧ l.length * 8 ≤ 140737488351232 ∧ l.length ≤ c ∧ ∀ x ∈ l, (Lit.int .i64 x).wf = true :=
  openSlice Tryd.underlying26 opens_i64 (by kernel_rfl) (by kernel_rfl) hsz ht hd hv h
theorem opens_strings : Opens 22 (Kd.slice 9 Kd.string) (fun l => l.length * 16 ≤ 140737488351232 ∧ ∀ x ∈ l, x.size ≤ 140737488351232) := Opens.slice Tryd.underlying22 (Opens.string Tryd.underlying9) (by kernel_rfl) (by kernel_rfl)
theorem openStrings (hsz : (DataW.weightsEach Tryd.prog ts ds).all (· ≤ reachBytes) = true) (ht : ts[j]? = some 22) (hd : ds[j]? = some d) (hv : Value.okWide Tryd.prog W r b0 22 v) (h : DataW.Trod enc Tryd.prog W base spare held 22 v d ps) :
    ∃ (A : Option Addr) (c : Nat) (l : List ByteArray), v = .slice A l.length c ∧ Kd.C Kd.string W A l.length l ∧ l.length * 16 ≤ 140737488351232 ∧ l.length ≤ c ∧ ∀ x ∈ l, x.size ≤ 140737488351232 :=
  openSlice Tryd.underlying22 (Opens.string Tryd.underlying9) (by kernel_rfl) (by kernel_rfl) hsz ht hd hv h
theorem opens_rule : Opens 51 KRule (fun x => (Lit.int .i64 x.1).wf = true ∧ x.2.length * 8 ≤ 140737488351232 ∧ ∀ s ∈ x.2, (Lit.int .i64 s).wf = true) := Opens.pair Tryd.underlying51 rfl rfl (by kernel_rfl) (by kernel_rfl) (by kernel_rfl) opens_i64 opens_ints
theorem openRules (hsz : (DataW.weightsEach Tryd.prog ts ds).all (· ≤ reachBytes) = true) (ht : ts[j]? = some 23) (hd : ds[j]? = some d) (hv : Value.okWide Tryd.prog W r b0 23 v) (h : DataW.Trod enc Tryd.prog W base spare held 23 v d ps) :
    ∃ (A : Option Addr) (c : Nat) (l : List (Int × List Int)), v = .slice A l.length c ∧ KRule.C W A l.length l ∧ l.length * 32 ≤ 140737488351232 ∧ l.length ≤ c ∧ ∀ x ∈ l, (Lit.int .i64 x.1).wf = true ∧ x.2.length * 8 ≤ 140737488351232 ∧ ∀ s ∈ x.2, (Lit.int .i64 s).wf = true :=
  openSlice Tryd.underlying23 opens_rule (by kernel_rfl) (by kernel_rfl) hsz ht hd hv h
/-- What the weights allow. -/
structure GramB (g : Gr) : Prop where
  terms : g.terms.length * 16 ≤ 140737488351232
  nonterms : g.nonterms.length * 16 ≤ 140737488351232
  rules : g.rules.length * 32 ≤ 140737488351232
  right : ∀ r ∈ g.rules, r.2.length * 8 ≤ 140737488351232
  ax : (Lit.int .i64 g.ax).wf = true
  nums : ∀ r ∈ g.rules, (Lit.int .i64 r.1).wf = true ∧ ∀ s ∈ r.2, (Lit.int .i64 s).wf = true
  names : (∀ s ∈ g.terms, s.size ≤ 140737488351232) ∧ ∀ s ∈ g.nonterms, s.size ≤ 140737488351232
theorem openGrammar (hsz : (DataW.weightsEach Tryd.prog ts ds).all (· ≤ reachBytes) = true) (ht : ts[j]? = some 25) (hd : ds[j]? = some d) (hv : Value.okWide Tryd.prog W r b0 25 v) (h : DataW.Trod enc Tryd.prog W base spare held 25 v d ps) :
    ∃ (g : Gr) (u : Value), v = u ∧ GramAt W u g ∧ GramB g := by
  obtain ⟨v0, v1, v2, v3, y0, y1, y2, y3, n, rfl, rfl, rfl, h0, h1, h2, h3⟩ := Joins.open_agg4 Tryd.underlying25 (by kernel_rfl) (by kernel_rfl) hv h
  have hw : ∀ k ∈ (DataW.agg [y0.1, y1.1, y2.1, y3.1]).weights Tryd.prog 25, k ≤ reachBytes := fun k hk => by
    have := List.all_eq_true.1 hsz k (DataW.weights_mem_each ht hd k hk)
    simpa using this
  simp only [DataW.weights, Tryd.underlying25, List.map_cons, List.map_nil, DataW.weightsEach, List.append_nil, List.mem_append] at hw
  obtain ⟨lT, ⟨AT, cT, e0, p0, q0⟩, b0, g0⟩ := opens_strings H enc W base spare held n _ _ h0 (fun k hk => hw k (.inl hk))
  obtain ⟨lN, ⟨AN, cN, e1, p1, q1⟩, b1, g1⟩ := opens_strings H enc W base spare held n _ _ h1 (fun k hk => hw k (.inr (.inl hk)))
  obtain ⟨ax, e2, _, b2⟩ := DataW.trod_int Tryd.underlying3 h2
  obtain ⟨lR, ⟨AR, cR, e3, p3, q3⟩, b3, g3⟩ := (Opens.slice Tryd.underlying23 opens_rule (by kernel_rfl) (by kernel_rfl) : Opens _ (Kd.slice 51 KRule) (fun l => l.length * 32 ≤ 140737488351232 ∧ _)) H enc W base spare held n _ _ h3 (fun k hk => hw k (.inr (.inr (.inr hk))))
  simp only [List.cons.injEq, and_true] at e0 e1 e2 e3
  subst e0 e1 e2 e3
  exact ⟨⟨lT, lN, ax, lR⟩, _, rfl, ⟨AT, cT, AN, cN, AR, cR, rfl, p0, p1, p3, q0, q1, q3⟩, ⟨b0, b1, b3, fun r hr => (g3 r hr).2.1, b2, fun r hr => ⟨(g3 r hr).1, (g3 r hr).2.2⟩, g0, g1⟩⟩
end
end Go.Proofs.YtndimnomkcjeiaaDoor.Hand
/- Rules by their heads: a row of rules whose right sides lie elsewhere. -/
namespace Go.Proofs.YtndimnomkcjeiaaDoor.Hand
open Go.RowKit Go.Proofs.YtndimnomkcjeiaaDoorW.PrintWords Go.Proofs.YtndimnomkcjeiaaDoorW.PrintMore Go.Proofs.YtndimnomkcjeiaaDoor.Math

/-- A slice's head: where, how many, room. -/
structure Hd where
  ad : Option Addr
  n : Nat
  c : Nat
def Hd.v (h : Hd) : Value := .slice h.ad h.n h.c
def KHd : Kd (Int × Hd) := Kd.pair (Kd.int .i64) (Kd.scalar Hd.v (fun _ => rfl))
/-- A head that leads to this rule. -/
structure HdIs (w : World) (h : Int × Hd) (r : Int × List Int) : Prop where
  left : h.1 = r.1
  len : h.2.n = r.2.length
  cap : r.2.length ≤ h.2.c
  row : Kd.C (Kd.int .i64) w h.2.ad r.2.length r.2
theorem HdIs.below {w w' : World} {h : Int × Hd} {r : Int × List Int} (hh : HdIs w h r) (hb : Below w.heap.size w w') : HdIs w' h r := ⟨hh.left, hh.len, hh.cap, Kd.C_below hh.row hb⟩
/-- Heads for rules. -/
def HdsAre (w : World) (hs : List (Int × Hd)) (l : List (Int × List Int)) : Prop := hs.length = l.length ∧ ∀ (j : Nat) (h : Int × Hd) (r : Int × List Int), hs[j]? = some h → l[j]? = some r → HdIs w h r
theorem HdsAre.below {w w' : World} {hs : List (Int × Hd)} {l : List (Int × List Int)} (hh : HdsAre w hs l) (hb : Below w.heap.size w w') : HdsAre w' hs l := ⟨hh.1, fun j h r h1 h2 => (hh.2 j h r h1 h2).below hb⟩
theorem HdsAre.nil (w : World) : HdsAre w [] [] := ⟨rfl, fun j h r h1 => by simp at h1⟩
theorem HdsAre.snoc {w : World} {hs : List (Int × Hd)} {l : List (Int × List Int)} {h : Int × Hd} {r : Int × List Int} (hh : HdsAre w hs l) (h1 : HdIs w h r) : HdsAre w (hs ++ [h]) (l ++ [r]) := by
  refine ⟨by simp [hh.1], fun j a b ha hb => ?_⟩
  rcases Nat.lt_or_ge j hs.length with hj | hj
  · rw [List.getElem?_append_left hj] at ha
    rw [List.getElem?_append_left (by rw [← hh.1]; exact hj)] at hb
    exact hh.2 j a b ha hb
  · have hjl : j = hs.length := by
      have := (List.getElem?_eq_some_iff.1 ha).1
      simp at this; omega
    rw [hjl, List.getElem?_append_right (Nat.le_refl _)] at ha
    rw [hjl, hh.1, List.getElem?_append_right (Nat.le_refl _)] at hb
    simp at ha hb
    subst ha hb
    exact h1
theorem heads_of {w : World} {A : Option Addr} {n : Nat} {l : List (Int × List Int)} (h : KRule.C w A n l) : ∃ hs, KHd.C w A n hs ∧ HdsAre w hs l := by
  obtain ⟨h1, h2, h3⟩ := h
  have hx : ∀ i, i < l.length → ∃ x : Int × Hd, ∀ r, l[i]? = some r → HdIs w x r ∧ ∀ ad, A = some ad → w.cell? (ad.add (i * 2)) = some (.int .i64 x.1) ∧ w.cell? (ad.add (i * 2 + 1)) = some x.2.v := by
    intro i hi
    obtain ⟨ad, ha, hc⟩ := h3 (by omega)
    obtain ⟨c, e1, e2, e3⟩ := hc i l[i] (List.getElem?_eq_getElem hi)
    obtain ⟨c0, c1, rfl, k0, A', c', k1, k2, k3⟩ := e2
    have k0' : c0 = [.int .i64 l[i].1] := k0
    subst k0' k1
    refine ⟨(l[i].1, ⟨A', l[i].2.length, c'⟩), fun r hr => ?_⟩
    rw [List.getElem?_eq_getElem hi] at hr
    obtain rfl := Option.some.inj hr
    refine ⟨⟨rfl, rfl, k2, k3⟩, fun ad' ha' => ?_⟩
    rw [ha] at ha'
    obtain rfl := Option.some.inj ha'
    exact ⟨e3 0 _ rfl, e3 1 _ rfl⟩
  obtain ⟨hs, hl, hp⟩ := list_of hx
  have hget : ∀ j h, hs[j]? = some h → ∃ r, l[j]? = some r := fun j h hj => by
    have := (List.getElem?_eq_some_iff.1 hj).1
    exact ⟨_, List.getElem?_eq_getElem (by omega)⟩
  refine ⟨hs, ⟨hl.trans h1, h2, fun hn => ?_⟩, hl, fun j h r hj hr => (hp j h hj r hr).1⟩
  obtain ⟨ad, ha, hc⟩ := h3 hn
  refine ⟨ad, ha, fun j h hj => ?_⟩
  obtain ⟨r, hr⟩ := hget j h hj
  obtain ⟨q1, q2⟩ := (hp j h hj r hr).2 ad ha
  refine ⟨[.int .i64 h.1, h.2.v], rfl, ⟨[.int .i64 h.1], [h.2.v], rfl, rfl, rfl⟩, fun i u hu => ?_⟩
  match i, hu with
  | 0, hu => simp at hu; subst hu; exact q1
  | 1, hu => simp at hu; subst hu; exact q2
  | i + 2, hu => simp at hu
theorem of_heads {w : World} {A : Option Addr} {n : Nat} {hs : List (Int × Hd)} {l : List (Int × List Int)} (h : KHd.C w A n hs) (hh : HdsAre w hs l) : KRule.C w A n l := by
  refine C_imp (a := KHd) (b := KRule) rfl h hh.1.symm (fun j x y cs hx hy hk => ?_)
  obtain ⟨c0, c1, rfl, k0, k1⟩ := hk
  have k0' : c0 = [.int .i64 x.1] := k0
  have k1' : c1 = [x.2.v] := k1
  subst k0' k1'
  obtain ⟨e1, e2, e3, e4⟩ := hh.2 j x y hx hy
  refine ⟨[.int .i64 x.1], [x.2.v], rfl, by rw [e1]; rfl, x.2.ad, x.2.c, ?_, e3, e4⟩
  unfold Hd.v
  rw [e2]
section
open Go.ChangeShapes Go.WideShapes Go.ChangeAt
set_option maxRecDepth 20000
variable {H : Type} {enc : TypeId × Value → H} {W : World} {base : Nat} {r : Reach} {b0 : Nat} {spare : Nat → Bool} {held : Bool} {v : Value} {d : DataW H} {ps : List MemPlace} {ts : List TypeId} {ds : List (DataW H)} {j : Nat}
theorem openRule (hsz : (DataW.weightsEach Tryd.prog ts ds).all (· ≤ reachBytes) = true) (ht : ts[j]? = some 51) (hd : ds[j]? = some d) (hv : Value.okWide Tryd.prog W r b0 51 v) (h : DataW.Trod enc Tryd.prog W base spare held 51 v d ps) :
    ∃ (x : Int) (B : Option Addr) (c : Nat) (l : List Int), v = .agg #[.int .i64 x, .slice B l.length c] ∧ Kd.C (Kd.int .i64) W B l.length l ∧ l.length * 8 ≤ 140737488351232 ∧ l.length ≤ c ∧ (Lit.int .i64 x).wf = true ∧ ∀ s ∈ l, (Lit.int .i64 s).wf = true := by
  obtain ⟨v0, v1, y0, y1, n, rfl, rfl, rfl, h0, h1⟩ := Joins.open_agg2 Tryd.underlying51 (by kernel_rfl) (by kernel_rfl) hv h
  have hw : ∀ k ∈ (DataW.agg [y0.1, y1.1]).weights Tryd.prog 51, k ≤ reachBytes := fun k hk => by
    have := List.all_eq_true.1 hsz k (DataW.weights_mem_each ht hd k hk)
    simpa using this
  simp only [DataW.weights, Tryd.underlying51, List.map_cons, List.map_nil, DataW.weightsEach, List.append_nil, List.mem_append] at hw
  obtain ⟨x, e0, _, b0⟩ := DataW.trod_int Tryd.underlying3 h0
  obtain ⟨l, ⟨B, c, e1, p1, q1⟩, b1, g1⟩ := opens_ints H enc W base spare held n _ _ h1 (fun k hk => hw k (.inr hk))
  simp only [List.cons.injEq, and_true] at e0 e1
  subst e0 e1
  exact ⟨x, B, c, l, rfl, q1, b1, p1, b0, g1⟩
end
end Go.Proofs.YtndimnomkcjeiaaDoor.Hand
/- The lent grammar is new memory: all of it lies above. -/
namespace Go.Proofs.YtndimnomkcjeiaaDoor.Hand
open Go.RowKit Go.Proofs.YtndimnomkcjeiaaDoorW.PrintWords Go.Proofs.YtndimnomkcjeiaaDoorW.PrintMore Go.Proofs.YtndimnomkcjeiaaDoor.Math

/-- A grammar that was lent, all of it in memory from base on. -/
def GramO (base : Nat) (w : World) (v : Value) (g : Gr) : Prop :=
  ∃ AT cT AN cN AR cR, v = .agg #[.slice AT g.terms.length cT, .slice AN g.nonterms.length cN, .int .i64 g.ax, .slice AR g.rules.length cR] ∧ g.terms.length + 1 ≤ cT ∧ g.nonterms.length + 1 ≤ cN ∧ g.rules.length + 1 ≤ cR ∧
    KMString.R 9 w base (fun _ => True) (.slice AT (g.terms.length + 1) cT) (g.terms.map some ++ [none]) ∧ KMString.R 9 w base (fun _ => True) (.slice AN (g.nonterms.length + 1) cN) (g.nonterms.map some ++ [none]) ∧ KMRule.R 51 w base (fun _ => True) (.slice AR (g.rules.length + 1) cR) (g.rules.map some ++ [none])
theorem R_same {α : Type} {d : Kd α} {e : Nat} {w w2 : World} {base : Nat} {v : Value} {xs : List α} (h : d.R e w base (fun _ => True) v xs) (hm : ∀ k, base ≤ k → k < w.heap.size → w2.heap[k]? = w.heap[k]?) : d.R e w2 base (fun _ => True) v xs :=
  Kd.R_mono (Kd.R_step (Kd.R_bound h) (fun k hk hlt => hm k hk.2.1 hlt)) (fun _ _ => trivial)
theorem GramO.same {base : Nat} {w w2 : World} {v : Value} {g : Gr} (h : GramO base w v g) (hm : ∀ k, base ≤ k → k < w.heap.size → w2.heap[k]? = w.heap[k]?) : GramO base w2 v g := by
  obtain ⟨AT, cT, AN, cN, AR, cR, rfl, h1, h2, h3, h4, h5, h6⟩ := h
  exact ⟨AT, cT, AN, cN, AR, cR, rfl, h1, h2, h3, R_same h4 hm, R_same h5 hm, R_same h6 hm⟩
theorem GramO.lent {base : Nat} {w : World} {v : Value} {g : Gr} (h : GramO base w v g) : GramL w v g := by
  obtain ⟨AT, cT, AN, cN, AR, cR, rfl, h1, h2, h3, h4, h5, h6⟩ := h
  refine ⟨AT, cT, AN, cN, AR, cR, rfl, h1, h2, h3, ?_, ?_, ?_⟩
  · simpa using (Kd.R_reads' h4).2.2
  · simpa using (Kd.R_reads' h5).2.2
  · simpa using (Kd.R_reads' h6).2.2
theorem heads_same {w w2 : World} {A : Option Addr} {n : Nat} {hs hs2 : List (Int × Hd)} (h : KHd.C w A n hs) (h' : KHd.C w2 A n hs2) (hk : ∀ ad, A = some ad → w2.heap[ad.block]? = w.heap[ad.block]?) : hs2 = hs := by
  obtain ⟨l1, _, p1⟩ := h
  obtain ⟨l2, _, p2⟩ := h'
  refine List.ext_getElem (by omega) (fun j hj hj2 => ?_)
  obtain ⟨ad, ha, q1⟩ := p1 (by omega)
  obtain ⟨ad2, ha2, q2⟩ := p2 (by omega)
  rw [ha] at ha2
  obtain rfl := Option.some.inj ha2
  obtain ⟨c1, _, k1, r1⟩ := q1 j hs[j] (List.getElem?_eq_getElem hj2)
  obtain ⟨c2, _, k2, r2⟩ := q2 j hs2[j] (List.getElem?_eq_getElem hj)
  obtain ⟨a0, a1, rfl, u0, u1⟩ := k1
  obtain ⟨b0, b1, rfl, v0, v1⟩ := k2
  have u0' : a0 = [.int .i64 hs[j].1] := u0
  have u1' : a1 = [hs[j].2.v] := u1
  have v0' : b0 = [.int .i64 hs2[j].1] := v0
  have v1' : b1 = [hs2[j].2.v] := v1
  subst u0' u1' v0' v1'
  have hb : ∀ i, w2.cell? (ad.add i) = w.cell? (ad.add i) := fun i => World.cell?_of_block (show w2.heap[(ad.add i).block]? = w.heap[(ad.add i).block]? by rw [show (ad.add i).block = ad.block by unfold Addr.add; split <;> rfl]; exact hk ad ha)
  have e0 := r1 0 (.int .i64 hs[j].1) rfl
  have e1 := r1 1 hs[j].2.v rfl
  have f0 := r2 0 (.int .i64 hs2[j].1) rfl
  have f1 := r2 1 hs2[j].2.v rfl
  rw [hb, e0] at f0
  rw [hb, e1] at f1
  have g0 : hs[j].1 = hs2[j].1 := by simpa using f0
  have g1 : hs[j].2 = hs2[j].2 := by
    unfold Hd.v at f1
    have f1' := Option.some.inj f1
    revert f1'
    generalize hs[j].2 = x
    generalize hs2[j].2 = y
    cases x; cases y
    intro f1'
    simpa using f1'
  exact Prod.ext g0.symm g1.symm
/-- The heads of a lent grammar's rules, and that they lead to the rules wherever its memory stands. -/
theorem GramO.heads {base : Nat} {w : World} {AT AN AR : Option Addr} {nT cT nN cN n cR : Nat} {x : Int} {g : Gr} (h : GramO base w (.agg #[.slice AT nT cT, .slice AN nN cN, .int .i64 x, .slice AR n cR]) g) :
    ∃ hs, KHd.C w AR g.rules.length hs ∧ ∀ w2 : World, (∀ k, base ≤ k → k < w.heap.size → w2.heap[k]? = w.heap[k]?) → HdsAre w2 hs g.rules := by
  obtain ⟨hs, h1, h2⟩ : ∃ hs, KHd.C w AR g.rules.length hs ∧ HdsAre w hs g.rules := by
    obtain ⟨AT', cT', AN', cN', AR', cR', e, _, _, _, _, _, q6⟩ := h.lent
    simp at e
    obtain ⟨-, -, -, rfl, -, -⟩ := e
    exact heads_of (lentRules_C q6)
  refine ⟨hs, h1, fun w2 hm => ?_⟩
  obtain ⟨AT2, cT2, AN2, cN2, AR2, cR2, e2, _, _, _, _, _, q6⟩ := (h.same hm).lent
  obtain ⟨AT', cT', AN', cN', AR', cR', e, _, _, _, _, _, q7⟩ := h
  simp at e e2
  obtain ⟨-, -, -, rfl, -, -⟩ := e
  obtain ⟨-, -, -, rfl, -, -⟩ := e2
  obtain ⟨hs2, h3, h4⟩ := heads_of (lentRules_C q6)
  have hb := Kd.R_bound q7
  rw [heads_same h1 h3 (fun ad ha => by
    obtain ⟨_, b1, b2, _⟩ := hb.1 ad.block (by rw [ha]; rfl)
    exact hm _ b1 b2)] at h4
  exact h4
theorem lentGrammarO_calls (v : Value) (g : Gr) (w : World) (hv : GramAt w v g) (ht : (g.terms.length + 1) * 16 ≤ 140737488355328) (hn : (g.nonterms.length + 1) * 16 ≤ 140737488355328) (hl : (g.rules.length + 1) * 32 ≤ 140737488355328) (hi : ∀ r ∈ g.rules, (r.2.length + 1) * 8 ≤ 140737488355328) :
    Calls Tryd.prog 10 #[v] w fun e w' => ∃ u, e = .returned u ∧ GramO w.heap.size w' u g ∧ Below w.heap.size w w' := by
  obtain ⟨AT, cT, AN, cN, AR, cR, rfl, h1, h2, h3, h4, h5, h6⟩ := hv
  have HT := Lib.hid ht
  have HN := Lib.hid hn
  have HL := Lib.hid hl
  have HI := Lib.hid hi
  clear ht hn hl hi
  obtain ⟨w0, hw0⟩ : ∃ w0, (w.alloc (.cells #[.slice AT g.terms.length cT, .slice AN g.nonterms.length cN, .int .i64 g.ax, .slice AR g.rules.length cR] 25)).alloc (.cells #[.slice none 0 0, .slice none 0 0, .int .i64 0, .slice none 0 0] 25) = w0 := ⟨_, rfl⟩
  have HB := Aside0.mk (show Below w.heap.size w w0 by rw [← hw0]; exact below_alloc (below_alloc (Below.refl w.heap.size w) _) _)
  have hsz : w.heap.size + 1 < w0.heap.size := by rw [← hw0]; simp
  have hc0 : w0.cell? ⟨w.heap.size, 0, none⟩ = some (.slice AT g.terms.length cT) := by rw [← hw0]; simp [go_sem]
  have hc1 : w0.cell? ⟨w.heap.size, 1, none⟩ = some (.slice AN g.nonterms.length cN) := by rw [← hw0]; simp [go_sem]
  have hc2 : w0.cell? ⟨w.heap.size, 2, none⟩ = some (.int .i64 g.ax) := by rw [← hw0]; simp [go_sem]
  have hc3 : w0.cell? ⟨w.heap.size, 3, none⟩ = some (.slice AR g.rules.length cR) := by rw [← hw0]; simp [go_sem]
  have HBlk := Lib.hid (show w0.heap[w.heap.size + 1]? = some (.cells #[.slice none 0 0, .slice none 0 0, .int .i64 0, .slice none 0 0] 25 (0, 0)) by rw [← hw0]; have h := heap_alloc_new (w.alloc (.cells #[.slice AT g.terms.length cT, .slice AN g.nonterms.length cN, .int .i64 g.ax, .slice AR g.rules.length cR] 25)) (.cells #[.slice none 0 0, .slice none 0 0, .int .i64 0, .slice none 0 0] 25); rwa [World.size_alloc] at h)
  have H4 := Lib.hid h4
  have H5 := Lib.hid h5
  have H6 := Lib.hid h6
  clear h4 h5 h6
  go_enter Tryd.func10, Tryd.ntmps10
  go_wp2
  clear hw0
  have tok1 : True := trivial
  go_region_held3 (fun w' => w'.cell? ⟨w.heap.size, 0, none⟩ = some (.slice AT g.terms.length cT) ∧ w'.cell? ⟨w.heap.size, 1, none⟩ = some (.slice AN g.nonterms.length cN) ∧ w'.cell? ⟨w.heap.size, 2, none⟩ = some (.int .i64 g.ax) ∧ w'.cell? ⟨w.heap.size, 3, none⟩ = some (.slice AR g.rules.length cR) ∧ Aside0 (Below w.heap.size w w') ∧ w.heap.size + 1 < w'.heap.size)
    (first
      | (refine ⟨?_, ?_, ?_, ?_, ⟨below_drew1 HB.out⟩, hsz⟩ <;> assumption)
      | exact held_step hS.out hb.out
      | exact held_set (held_set (held_set (held_set (held_step hS.out hb.out)))))
    (first
      | (go_at_call 31; have t_ := tok1; have hS := Aside0.mk (by assumption : _ ∧ _ ∧ _ ∧ _ ∧ Aside0 (Below w.heap.size w _) ∧ _); refine (lentStrings_calls AT cT g.terms _ (Kd.C_below H4.out hS.out.2.2.2.2.1.out) HT.out).mono ?_; rintro e w1 ⟨A1, c1, rfl, hq1, hR1, hb1⟩; have hb := Aside0.mk hb1; have R1 := Aside0.mk (Kd.R_lower hR1 hS.out.2.2.2.2.1.out.size); have K1 := Aside0.mk (blk_below HBlk.out (below_drew1 (Below.refl _ _) |>.trans hb1)); clear tok1 t_ hb1 hR1)
      | (go_at_call 31; have hS := Aside0.mk (by assumption : _ ∧ _ ∧ _ ∧ _ ∧ Aside0 (Below w.heap.size w _) ∧ _); refine (lentStrings_calls AN cN g.nonterms _ (Kd.C_below H5.out hS.out.2.2.2.2.1.out) HN.out).mono ?_; rintro e w2 ⟨A2, c2, rfl, hq2, hR2, hb2⟩; have hb := Aside0.mk hb2; have R12 := Aside0.mk (Kd.R_below R1.out hb2); have R2 := Aside0.mk (Kd.R_lower hR2 hS.out.2.2.2.2.1.out.size); have K2 := Aside0.mk (blk_below K1.out hb2); clear hb2 hR2)
      | (go_at_call 25; have hS := Aside0.mk (by assumption : _ ∧ _ ∧ _ ∧ _ ∧ Aside0 (Below w.heap.size w _) ∧ _); refine (lentRules_calls AR cR g.rules _ (Kd.C_below H6.out hS.out.2.2.2.2.1.out) HL.out HI.out).mono ?_; rintro e w3 ⟨A3, c3, rfl, hq3, hR3, hb3⟩; have hb := Aside0.mk hb3; have R13 := Aside0.mk (Kd.R_below R12.out hb3); have R23 := Aside0.mk (Kd.R_below R2.out hb3); have R3 := Aside0.mk (Kd.R_lower hR3 hS.out.2.2.2.2.1.out.size); have K3 := Aside0.mk (blk_below K2.out hb3); have HB3 := Aside0.mk (below_next hS.out.2.2.2.2.1.out hb3); obtain ⟨⟨e0, e1, e2, e3⟩, f0, f1, f2, f3⟩ := blk_cells4 K3.out; clear hb3 hR3))
  go_wp2
  have hne : ∀ t ∈ [9, 51, 3], t ≠ 25 := by decide
  have G1 := Aside0.mk (R_sets4 (d := KMString) R13.out K3.out (by intro q hq; exact hne q (by revert hq; simp [KMString, KOpt, Kd.string, Kd.scalar]; intro h; subst h; decide)) (.slice A1 g.terms.length c1) (.slice A2 g.nonterms.length c2) (.int .i64 g.ax) (.slice A3 g.rules.length c3))
  have G2 := Aside0.mk (R_sets4 (d := KMString) R23.out K3.out (by intro q hq; exact hne q (by revert hq; simp [KMString, KOpt, Kd.string, Kd.scalar]; intro h; subst h; decide)) (.slice A1 g.terms.length c1) (.slice A2 g.nonterms.length c2) (.int .i64 g.ax) (.slice A3 g.rules.length c3))
  have G3 := Aside0.mk (R_sets4 (d := KMRule) R3.out K3.out (by intro q hq; exact hne q (by revert hq; simp [KMRule, KLRule, KLInts, KLent, KMInt, KOpt, Kd.pair, Kd.int, Kd.scalar]; omega)) (.slice A1 g.terms.length c1) (.slice A2 g.nonterms.length c2) (.int .i64 g.ax) (.slice A3 g.rules.length c3))
  have KF := blk_sets4 K3.out (.slice A1 g.terms.length c1) (.slice A2 g.nonterms.length c2) (.int .i64 g.ax) (.slice A3 g.rules.length c3)
  have BF := Aside0.mk ((((HB3.out.setCell (p := ⟨w.heap.size + 1, 0, none⟩) (by simp) (.slice A1 g.terms.length c1)).setCell (p := ⟨w.heap.size + 1, 1, none⟩) (by simp) (.slice A2 g.nonterms.length c2)).setCell (p := ⟨w.heap.size + 1, 2, none⟩) (by simp) (.int .i64 g.ax)).setCell (p := ⟨w.heap.size + 1, 3, none⟩) (by simp) (.slice A3 g.rules.length c3))
  generalize ((((w3.setCell ⟨w.heap.size + 1, 0, none⟩ (.slice A1 g.terms.length c1)).setCell ⟨w.heap.size + 1, 1, none⟩ (.slice A2 g.nonterms.length c2)).setCell ⟨w.heap.size + 1, 2, none⟩ (.int .i64 g.ax)).setCell ⟨w.heap.size + 1, 3, none⟩ (.slice A3 g.rules.length c3)) = w4 at *
  obtain ⟨⟨g0, g1, g2, g3⟩, -⟩ := blk_cells4 KF
  refine bodyPost_ret (v := .agg #[.slice A1 g.terms.length c1, .slice A2 g.nonterms.length c2, .int .i64 g.ax, .slice A3 g.rules.length c3]) (by simp [results, Tryd.results10, go_sem, g0, g1, g2, g3]) rfl ⟨_, rfl, ⟨A1, c1, A2, c2, A3, c3, rfl, hq1, hq2, hq3, G1.out, G2.out, G3.out⟩, BF.out⟩
end Go.Proofs.YtndimnomkcjeiaaDoor.Hand
/- Chapter 24's own more: the grammar with one rule more. -/
namespace Go.Proofs.YtndimnomkcjeiaaDoor.Hand
open Go.RowKit Go.Proofs.YtndimnomkcjeiaaDoorW.PrintWords Go.Proofs.YtndimnomkcjeiaaDoorW.PrintMore Go.Proofs.YtndimnomkcjeiaaDoor.Math

theorem two_at {w2 w' : World} {a0 a1 : Addr} {v0 v1 : Value} (h0 : w2.cell? a0 = some v0) (h1 : w2.cell? a1 = some v1) (hb : Below w2.heap.size w2 w') : w'.cell? a0 = some v0 ∧ w'.cell? a1 = some v1 ∧ Aside0 (Below w2.heap.size w2 w') :=
  ⟨(hb.cell (World.block_lt_of_cell? _ _ h0)).trans h0, (hb.cell (World.block_lt_of_cell? _ _ h1)).trans h1, ⟨hb⟩⟩
/-- The grammar with one rule more. -/
def moreG (g : Gr) (r : Int × List Int) : Gr := { g with rules := g.rules ++ [r] }
set_option maxHeartbeats 4000000 in
set_option maxRecDepth 100000 in
theorem more_calls {w : World} (g : Gr) (v : Value) (hv : GramAt w v g) (hB : GramB g) (x : Int) (B : Option Addr) (c : Nat) (l : List Int) (hlC : Kd.C (Kd.int .i64) w B l.length l) (hlB : l.length * 8 ≤ 140737488351232) :
    Calls Tryd.prog 30 #[v, .agg #[.int .i64 x, .slice B l.length c]] w fun e w' => ∃ u, e = .returned u ∧ GramAt w' u (moreG g (x, l)) ∧ Below w.heap.size w w' := by
  have HV := Lib.hid hv
  obtain ⟨AT, cT, AN, cN, AR, cR, rfl, q1, q2, q3, q4, q5, q6⟩ := hv
  clear q4 q5 q6
  obtain ⟨w1, hw1⟩ : ∃ w1, w.alloc (.cells #[.slice AT g.terms.length cT, .slice AN g.nonterms.length cN, .int .i64 g.ax, .slice AR g.rules.length cR] 25) = w1 := ⟨_, rfl⟩
  have hb1 : Below w.heap.size w w1 := by rw [← hw1]; exact below_alloc (Below.refl _ _) _
  have hk1 : w1.heap[w.heap.size]? = some (.cells #[.slice AT g.terms.length cT, .slice AN g.nonterms.length cN, .int .i64 g.ax, .slice AR g.rules.length cR] 25 (0, 0)) := by rw [← hw1]; exact heap_alloc_new w _
  have hs1 : w1.heap.size = w.heap.size + 1 := by rw [← hw1]; exact World.size_alloc _ _
  obtain ⟨w2, hw2⟩ : ∃ w2, w1.alloc (.cells #[.int .i64 x, .slice B l.length c] 51) = w2 := ⟨_, rfl⟩
  have hb2 : Below w1.heap.size w1 w2 := by rw [← hw2]; exact below_alloc (Below.refl _ _) _
  have hs2 : w2.heap.size = w.heap.size + 2 := by rw [← hw2, World.size_alloc, hs1]
  have r0 : w2.cell? ⟨w1.heap.size, 0, none⟩ = some (.int .i64 x) := by rw [← hw2]; simp [go_sem]
  have r1 : w2.cell? ⟨w1.heap.size, 1, none⟩ = some (.slice B l.length c) := by rw [← hw2]; simp [go_sem]
  obtain ⟨w3, hw3⟩ : ∃ w3, w2.alloc (.cells #[.slice none 0 0, .slice none 0 0, .int .i64 0, .slice none 0 0] 25) = w3 := ⟨_, rfl⟩
  have hb3 : Below w2.heap.size w2 w3 := by rw [← hw3]; exact below_alloc (Below.refl _ _) _
  have hs3 : w3.heap.size = w.heap.size + 3 := by rw [← hw3, World.size_alloc, hs2]
  have HZ := Lib.hid (show w3.heap[w2.heap.size]? = some (.cells #[.slice none 0 0, .slice none 0 0, .int .i64 0, .slice none 0 0] 25 (0, 0)) by rw [← hw3]; exact heap_alloc_new w2 _)
  have HB3 := Lib.hid (below_next (below_next hb1 hb2) hb3)
  have HK3 := Lib.hid (gblk_keep' (gblk_keep' hk1 hb2) hb3)
  have HL3 := Lib.hid (Kd.C_below hlC HB3.out)
  have HR0 := Lib.hid ((hb3.cell (World.block_lt_of_cell? _ _ r0)).trans r0)
  have HR1 := Lib.hid ((hb3.cell (World.block_lt_of_cell? _ _ r1)).trans r1)
  have HLB := Lib.hid (show (l.length + 1) * 8 ≤ 140737488355328 by omega)
  have HRB := Lib.hid (show (g.rules.length + 2) * 32 ≤ 140737488355328 by have := hB.rules; omega)
  have HS3 := Lib.hid (show w1.heap.size = w.heap.size + 1 ∧ w2.heap.size = w.heap.size + 2 ∧ w3.heap.size = w.heap.size + 3 from ⟨hs1, hs2, hs3⟩)
  have HLG := Lib.hid (lentGrammarO_calls _ g w3 (HV.out.below HB3.out) (by have := hB.terms; omega) (by have := hB.nonterms; omega) (by have := hB.rules; omega) (fun r hr => by have := hB.right r hr; omega))
  obtain ⟨d0, d1, d2, d3⟩ := blk_cells2 HK3.out
  clear hb1 hk1 hB hb2 hlC hlB hb3 hs1 hs2 hs3 r0 r1
  go_enter Tryd.func30, Tryd.ntmps30
  go_upto_region 2 with (go_at_call 10; refine HLG.out.mono ?_; rintro e w12 ⟨u12, rfl, hu12, hb12⟩; have HU12 := Lib.hid hu12; obtain ⟨BT, dT, BN, dN, BR, dR, rfl, m1, m2, m3, -⟩ := hu12; have HM1 := Lib.hid m1; have HM2 := Lib.hid m2; have HM3 := Lib.hid m3; clear m1 m2 m3; have HB12 := Lib.hid hb12; clear hb12 d0 d1 d2 d3)
  obtain ⟨hs, hhs, hha⟩ := HU12.out.heads
  obtain ⟨w13, hw13⟩ : ∃ w13, w12.alloc (.cells #[.slice BT g.terms.length dT, .slice BN g.nonterms.length dN, .int .i64 g.ax, .slice BR g.rules.length dR] 25) = w13 := ⟨_, rfl⟩
  rw [hw13]
  have hb13 : Below w12.heap.size w12 w13 := by rw [← hw13]; exact below_alloc (Below.refl _ _) _
  have hk13 : w13.heap[w12.heap.size]? = some (.cells #[.slice BT g.terms.length dT, .slice BN g.nonterms.length dN, .int .i64 g.ax, .slice BR g.rules.length dR] 25 (0, 0)) := by rw [← hw13]; exact heap_alloc_new w12 _
  have hs13 : w13.heap.size = w12.heap.size + 1 := by rw [← hw13]; exact World.size_alloc _ _
  obtain ⟨e0, e1, e2, e3⟩ := blk_cells2 hk13
  have HHd := Lib.hid (Kd.C_below hhs hb13)
  have HHa := Lib.hid hha
  have HHl : Hid (hs.length = g.rules.length) := Lib.hid (hha w12 (fun _ _ _ => rfl)).1
  have HS13 := Lib.hid hs13
  have HK13 := Lib.hid hk13
  have HB13 := Lib.hid hb13
  have HBB13 := Lib.hid (below_next HB12.out hb13)
  have HX0 := Lib.hid ((HBB13.out.cell (World.block_lt_of_cell? _ _ HR0.out)).trans HR0.out)
  have HX1 := Lib.hid ((HBB13.out.cell (World.block_lt_of_cell? _ _ HR1.out)).trans HR1.out)
  clear hw13 hb13 hk13 hs13 hhs hha hw1 hw2 hw3
  obtain ⟨bM, hbM⟩ : ∃ b, w12.heap.size = b := ⟨_, rfl⟩
  rw [hbM] at e0 e1 e2 e3 ⊢
  have HBM := Lib.hid hbM
  clear hbM
  go_upto_region 4 with (first
    | ((with_reducible refine gate_builtin (b := .append) (xs := #[.tmp 9, .tmp 11]) rfl ?_); at_builtin; refine Kd.R_append_rows KHd (w0 := w13) w13.heap.size rfl (.tmp 9) (.tmp 11) 23 51 (.agg #[.int .i64 0, .slice none 0 0]) 32 rfl Tryd.underlying23 infoRule rfl (by decide) (by omega) (.slice none 0 0) [] hs _ _ _ (fun _ => True) (fun _ => False) rfl rfl (Kd.R_nil _ _ _ _ _) HHd.out (fun _ _ h => h) (fun _ h => h.elim) (fun _ _ => trivial) (Below.refl _ _) (Nat.le_refl _) (by have := HRB.out; simp only [List.length_nil]; omega) ?_; intro v14 w14 ho hb hg hat; have HO14 := Aside0.mk ho; have HB14 := Aside0.mk hb; clear ho hb hg hat))
  obtain ⟨br, hbr⟩ : ∃ b, w1.heap.size = b := ⟨_, rfl⟩
  rw [hbr] at HX0 HX1 ⊢
  clear hbr
  have tok : True := trivial
  go_region_held3 (fun w' => w'.cell? ⟨br, 0, none⟩ = some (.int .i64 x) ∧ w'.cell? ⟨br, 1, none⟩ = some (.slice B l.length c) ∧ Aside0 (Below w13.heap.size w13 w'))
    (first
      | exact two_at HX0.out HX1.out HB16.out
      | exact two_at HX0.out HX1.out (below_alloc HB15.out _)
      | exact two_at HX0.out HX1.out HB15.out
      | exact two_at HX0.out HX1.out HB14.out.drew)
    (first
      | (go_at_call 11; have t_ := tok; have hS := Aside0.mk (by assumption : _ ∧ _ ∧ Aside0 (Below w13.heap.size w13 _)); refine (lentInts_calls B c l _ (Kd.C_below HL3.out (below_next HBB13.out hS.out.2.2.out)) HLB.out).mono ?_; rintro e w15 ⟨A2, c2, rfl, hq2, hR2, hb2⟩; have HR2 := Aside0.mk (Kd.R_lower hR2 hS.out.2.2.out.size); have HQ2 := Lib.hid hq2; have HB15 := Aside0.mk (below_next hS.out.2.2.out hb2); have HO15 := Aside0.mk (Kd.R_below (Kd.R_below HO14.out (pw_below_drewN (Below.refl _ _) 1)) hb2); have HW := Aside0.mk hR2; have HZ14 := Aside0.mk hS.out.2.2.out.size; clear tok t_ hR2 hb2)
      | (refine Kd.R_append_step KHd (w0 := w13) w13.heap.size rfl (.tmp 13) (.tmp 20) 23 51 (.agg #[.int .i64 0, .slice none 0 0]) 32 rfl Tryd.underlying23 infoRule rfl (by decide) (by omega) v14 ([] ++ hs) (x, ⟨A2, l.length, c2⟩) [.int .i64 x, .slice A2 l.length c2] (fun _ => True) (fun _ => False) rfl rfl ⟨[.int .i64 x], [.slice A2 l.length c2], rfl, rfl, rfl⟩ (fun _ h => h.elim) (fun _ _ => trivial) HO15.out HB15.out HB15.out.size (by have := HRB.out; have := HHl.out; simp only [List.nil_append]; omega) ?_; intro v16 w16 ho hb hg hat; have HO16 := Aside0.mk ho; have HB16 := Aside0.mk hb; have HG16 := Aside0.mk hg; clear ho hb hg hat))
  obtain ⟨A6, c6, hv6⟩ := Kd.R_slice HO16.out
  have hlen6 : (([] ++ hs) ++ [(x, (⟨A2, l.length, c2⟩ : Hd))]).length = (moreG g (x, l)).rules.length := by have := HHl.out; simp [moreG, this]
  have HK16 := Lib.hid (gblk_keep' HK13.out HB16.out)
  have hk16 := HK16.out
  rw [HBM.out] at hk16
  obtain ⟨⟨i0, i1, i2, i3⟩, j0, j1, j2, j3⟩ := blk_cells4 hk16
  clear hk16
  rw [hlen6] at hv6
  subst hv6
  obtain ⟨w17, hw17⟩ : ∃ w17, w16.setCell ⟨bM, 3, none⟩ (.slice A6 (moreG g (x, l)).rules.length c6) = w17 := ⟨_, rfl⟩
  go_upto_region 6 with fail
  have hbm := HBM.out
  have hs13 := HS13.out
  have hs3 := HS3.out
  have hs12 : w3.heap.size ≤ bM := by have := HB12.out.size; omega
  have HK17 : Hid (w17.heap[bM]? = some (.cells #[.slice BT g.terms.length dT, .slice BN g.nonterms.length dN, .int .i64 g.ax, .slice A6 (moreG g (x, l)).rules.length c6] 25 (0, 0))) := Lib.hid (by
    rw [← hw17]
    have := HK16.out
    rw [hbm] at this
    exact blk_set this 3 _)
  have HB17 := Lib.hid (show Below w3.heap.size w3 w17 by rw [← hw17]; exact (below_next HBB13.out HB16.out).setCell (by show w3.heap.size ≤ bM; omega) _)
  have HZ17 := Lib.hid (gblk_keep' HZ.out HB17.out)
  have HAg : Hid (∀ k, k ≠ bM → w17.heap[k]? = w16.heap[k]?) := Lib.hid (fun k hk => by rw [← hw17]; exact Below.heap_setCell w16 ⟨bM, 3, none⟩ _ k hk)
  have HS12 := Lib.hid (And.intro hs12 (And.intro hbm hs13))
  clear i0 i1 i2 i3 j0 j1 j2 j3 hw17 hbm hs13 hs3 hs12
  obtain ⟨d0, d1, d2, d3⟩ := blk_cells2 HK17.out
  obtain ⟨⟨z0, z1, z2, z3⟩, y0, y1, y2, y3⟩ := blk_cells4 HZ17.out
  obtain ⟨bz, hbz⟩ : ∃ b, w2.heap.size = b := ⟨_, rfl⟩
  rw [hbz] at z0 z1 z2 z3 y0 y1 y2 y3 HZ17 HS3 ⊢
  clear hbz
  have HL6 := Lib.hid hlen6
  clear hlen6
  go_wp2
  have KF := blk_sets4 HZ17.out (.slice BT g.terms.length dT) (.slice BN g.nonterms.length dN) (.int .i64 g.ax) (.slice A6 (moreG g (x, l)).rules.length c6)
  have hbz : w.heap.size ≤ bz := by have := HS3.out; omega
  have BF := Aside0.mk (((((below_next HB3.out HB17.out).setCell (p := ⟨bz, 0, none⟩) hbz (.slice BT g.terms.length dT)).setCell (p := ⟨bz, 1, none⟩) hbz (.slice BN g.nonterms.length dN)).setCell (p := ⟨bz, 2, none⟩) hbz (.int .i64 g.ax)).setCell (p := ⟨bz, 3, none⟩) hbz (.slice A6 (moreG g (x, l)).rules.length c6))
  have AF : ∀ k, k ≠ bz → ((((w17.setCell ⟨bz, 0, none⟩ (.slice BT g.terms.length dT)).setCell ⟨bz, 1, none⟩ (.slice BN g.nonterms.length dN)).setCell ⟨bz, 2, none⟩ (.int .i64 g.ax)).setCell ⟨bz, 3, none⟩ (.slice A6 (moreG g (x, l)).rules.length c6)).heap[k]? = w17.heap[k]? := fun k hk =>
    ((Below.heap_setCell _ ⟨bz, 3, none⟩ _ k hk).trans (Below.heap_setCell _ ⟨bz, 2, none⟩ _ k hk)).trans ((Below.heap_setCell _ ⟨bz, 1, none⟩ _ k hk).trans (Below.heap_setCell _ ⟨bz, 0, none⟩ _ k hk))
  generalize ((((w17.setCell ⟨bz, 0, none⟩ (.slice BT g.terms.length dT)).setCell ⟨bz, 1, none⟩ (.slice BN g.nonterms.length dN)).setCell ⟨bz, 2, none⟩ (.int .i64 g.ax)).setCell ⟨bz, 3, none⟩ (.slice A6 (moreG g (x, l)).rules.length c6)) = w18 at *
  obtain ⟨⟨g0, g1, g2, g3⟩, -⟩ := blk_cells4 KF
  refine bodyPost_ret (v := .agg #[.slice BT g.terms.length dT, .slice BN g.nonterms.length dN, .int .i64 g.ax, .slice A6 (moreG g (x, l)).rules.length c6]) (by simp [results, Tryd.results30, go_sem, g0, g1, g2, g3]) rfl ⟨_, rfl, ?_, BF.out⟩
  have hs3 := HS3.out
  have hs12 := HS12.out
  have hlt14 := HB14.out.size
  have hag16 : ∀ k, w3.heap.size ≤ k → k ≠ bM → w18.heap[k]? = w16.heap[k]? := fun k h1 h2 => (AF k (by omega)).trans (HAg.out k h2)
  have hag12 : ∀ k, w3.heap.size ≤ k → k < w12.heap.size → w18.heap[k]? = w12.heap[k]? := fun k h1 h2 => (hag16 k h1 (by omega)).trans ((HB16.out.block k (by omega)).trans (HB13.out.block k h2))
  obtain ⟨AT', cT', AN', cN', AR', cR', e', _, _, _, r4, r5, _⟩ := (HU12.out.same hag12).lent.plain
  simp at e'
  obtain ⟨⟨rfl, -⟩, ⟨rfl, -⟩, -⟩ := e'
  have p1 := Kd.R_step (Kd.R_bound HO16.out) (fun k hk _ => hag16 k (by have := hk.2.1; omega) (by have := hk.2.1; omega))
  obtain ⟨_, p3, p4⟩ := Kd.R_reads' p1
  have q1 := Kd.R_grown (Kd.R_bound HW.out) HG16.out (fun k hk e => by
    have := Kd.R_lt HO14.out k e.symm
    have h2 := hk.2.1
    simp at h2
    omega)
  have q2 := Kd.R_step q1 (fun k hk _ => hag16 k (by have h2 := hk.2.1; simp at h2; omega) (by have h2 := hk.2.1; simp at h2; omega))
  have q2' : KMInt.C w18 A2 (l.length + 1) (l.map some ++ [none]) := by simpa using (Kd.R_reads' q2).2.2
  have hh := (HHa.out w18 hag12).snoc (h := (x, ⟨A2, l.length, c2⟩)) (r := (x, l)) ⟨rfl, rfl, by have := HQ2.out; show l.length ≤ c2; omega, lent_C (a := Kd.int .i64) q2'⟩
  have h3 : KRule.C w18 A6 (moreG g (x, l)).rules.length (moreG g (x, l)).rules := of_heads (hs := hs ++ [(x, ⟨A2, l.length, c2⟩)]) (by rw [← HL6.out]; exact p4) hh
  exact ⟨_, dT, _, dN, A6, c6, rfl, by have := HM1.out; show g.terms.length ≤ dT; omega, by have := HM2.out; show g.nonterms.length ≤ dN; omega, p3, r4, r5, h3⟩
end Go.Proofs.YtndimnomkcjeiaaDoor.Hand
/- The document's grammars of chapter 24: how many trees, by reckoning. -/
namespace Go.Proofs.YtndimnomkcjeiaaDoor.Hand
open Go.RowKit Go.Proofs.YtndimnomkcjeiaaDoorW.PrintWords Go.Proofs.YtndimnomkcjeiaaDoorW.PrintMore Go.Proofs.YtndimnomkcjeiaaDoor.Math

/-- The same reckoning, to be run. -/
def cutB (T : Nat → Nat → Nat → Bool) (tk : List Int) : List Int → Nat → Nat → Bool
  | [], i, j => i == j
  | s :: l, i, j => (List.range (j + 1)).any fun q => decide (i ≤ q) && (Hb T tk s i q && cutB T tk l q j)
theorem cutB_iff {T : Nat → Nat → Nat → Bool} {tk : List Int} : ∀ {l : List Int} {i j : Nat}, Cut T tk l i j ↔ cutB T tk l i j = true
  | [], i, j => by simp [Cut, cutB]
  | s :: l, i, j => by
    unfold cutB
    rw [List.any_eq_true]
    constructor
    · rintro ⟨q, h1, h2, h3, h4⟩
      exact ⟨q, List.mem_range.2 (by omega), by simp [h1, h3, cutB_iff.1 h4]⟩
    · rintro ⟨q, h1, h2⟩
      simp only [Bool.and_eq_true, decide_eq_true_eq] at h2
      exact ⟨q, h2.1, by have := List.mem_range.1 h1; omega, h2.2.1, cutB_iff.2 h2.2.2⟩
def seqB (T : Nat → Nat → Nat → Bool) (tk : List Int) (W : Nat → Nat → Nat → Option Nat) : List Int → Nat → Nat → Option Nat
  | [], i, j => some (if i = j then 1 else 0)
  | s :: l, i, j => sumO (fun q => if (decide (i ≤ q) && (Hb T tk s i q && cutB T tk l q j)) = true then mulO (seqB T tk W l q j) (if s < 0 then W (-1 - s).toNat i q else some 1) else some 0) (j + 1)
def nodeB (T : Nat → Nat → Nat → Bool) (tk : List Int) (R : List (Int × List Int)) : Nat → Nat → Nat → Nat → Option Nat
  | 0, _, _, _ => none
  | f + 1, k, i, j => sumO (fun n => if (decide ((R.getD n (0, [])).1 = (k : Int)) && cutB T tk (R.getD n (0, [])).2 i j) = true then seqB T tk (nodeB T tk R f) (R.getD n (0, [])).2 i j else some 0) R.length
theorem seqB_eq {T : Nat → Nat → Nat → Bool} {tk : List Int} {W : Nat → Nat → Nat → Option Nat} : ∀ {l : List Int} {i j : Nat}, seqC T tk W l i j = seqB T tk W l i j
  | [], i, j => by unfold seqC seqB; congr
  | s :: l, i, j => by
    unfold seqC seqB
    refine sumO_congr (fun q _ => ?_)
    have h : (i ≤ q ∧ Fits T tk s l i q j) ↔ (decide (i ≤ q) && (Hb T tk s i q && cutB T tk l q j)) = true := by
      unfold Fits
      rw [cutB_iff]
      simp
    by_cases hc : i ≤ q ∧ Fits T tk s l i q j
    · rw [if_pos hc, if_pos (h.1 hc), seqB_eq]
    · rw [if_neg hc, if_neg (fun h' => hc (h.2 h'))]
theorem nodeB_eq {T : Nat → Nat → Nat → Bool} {tk : List Int} {R : List (Int × List Int)} : ∀ {f k i j : Nat}, nodeC T tk R f k i j = nodeB T tk R f k i j
  | 0, _, _, _ => rfl
  | f + 1, k, i, j => by
    unfold nodeC nodeB
    refine sumO_congr (fun n _ => ?_)
    unfold ruleC
    have hW : nodeC T tk R f = nodeB T tk R f := by funext k i j; exact nodeB_eq
    have h : ((R.getD n (0, [])).1 = (k : Int) ∧ Cut T tk (R.getD n (0, [])).2 i j) ↔ (decide ((R.getD n (0, [])).1 = (k : Int)) && cutB T tk (R.getD n (0, [])).2 i j) = true := by
      rw [cutB_iff]; simp
    by_cases hc : (R.getD n (0, [])).1 = (k : Int) ∧ Cut T tk (R.getD n (0, [])).2 i j
    · rw [if_pos hc, if_pos (h.1 hc), hW, seqB_eq]
    · rw [if_neg hc, if_neg (fun h' => hc (h.2 h'))]
theorem treeD_run {R : List (Int × List Int)} {tk : List Int} {T : Nat → Nat → Nat → Bool} {f k i j c : Nat} (hT : tabD R tk = T) (h : nodeB T tk R f k i j = some c) : treeD R tk k i j = some c := by
  unfold treeD
  rw [hT]
  exact treeN_of (f := f) (by rw [nodeB_eq]; exact h)
def RA : List (Int × List Int) := [(0, [-1, -1]), (0, [0])]
def gA : Gr := { terms := [⟨#[97]⟩], nonterms := [⟨#[83]⟩], ax := 0, rules := RA }
def RB : List (Int × List Int) := [(0, [-2, -1]), (0, [1]), (1, [0]), (1, [-2]), (1, [])]
def gB : Gr := { terms := [⟨#[97]⟩, ⟨#[98]⟩], nonterms := [⟨#[83]⟩, ⟨#[65]⟩], ax := 0, rules := RB }
theorem names1 (a : ByteArray) (h1 : a.size = 1) : NamesOk [a] := by
  intro i hi
  obtain rfl : i = 0 := by simp at hi; omega
  exact ⟨by simp [h1], by simp [h1], by simp⟩
theorem names2 (a b : ByteArray) (h1 : a.size = 1) (h2 : b.size = 1) (h : a ≠ b) : NamesOk [a, b] := by
  intro i hi
  have : i = 0 ∨ i = 1 := by simp at hi; omega
  rcases this with rfl | rfl
  · exact ⟨by simp [h1], by simp [h1], by simp⟩
  · exact ⟨by simp [h2], by simp [h2], by simpa using fun e => h e.symm⟩
theorem bytes_ne {x y : UInt8} (h : x ≠ y) : (⟨#[x]⟩ : ByteArray) ≠ ⟨#[y]⟩ := by
  intro e
  injection e with e
  have := congrArg (fun a => a[0]?) e
  simp at this
  exact h this
theorem gA_check : checkN gA = (0, -1) := by
  unfold checkN
  have hn1 : NamesOk gA.terms := names1 _ rfl
  have hn2 : NamesOk gA.nonterms := names1 _ rfl
  rw [if_neg (by simp [gA, RA]), if_neg (by simp [hn1, hn2]), if_neg (by simp [gA])]
  decide
theorem gB_check : checkN gB = (0, -1) := by
  unfold checkN
  have hn1 : NamesOk gB.terms := names2 _ _ rfl rfl (bytes_ne (by decide))
  have hn2 : NamesOk gB.nonterms := names2 _ _ rfl rfl (bytes_ne (by decide))
  rw [if_neg (by simp [gB, RB]), if_neg (by simp [hn1, hn2]), if_neg (by simp [gB])]
  decide
def TA (n : Nat) : Nat → Nat → Nat → Bool := fun i j k => decide (i < j ∧ j ≤ n ∧ k = 0)
theorem RA_seq {tk : List Int} {l : List Int} {i j : Nat} (h : SeqD RA tk l i j) : (l ≠ [] → i < tk.length) ∧ i + l.length ≤ j ∧ (i ≤ tk.length → j ≤ tk.length) := by
  induction h with
  | nil i => exact ⟨fun h => absurd rfl h, by simp, fun h => h⟩
  | term h0 h1 h2 h3 ih => exact ⟨fun _ => h1, by simp only [List.length_cons]; omega, fun _ => ih.2.2 (by omega)⟩
  | non r h0 hr h2 h3 h4 ih1 ih2 =>
    have hne : r.2 ≠ [] ∧ 1 ≤ r.2.length := by
      rcases (show r = (0, [-1, -1]) ∨ r = (0, [0]) by simpa [RA] using hr) with rfl | rfl <;> simp
    exact ⟨fun _ => ih1.1 hne.1, by simp only [List.length_cons]; omega, fun h => ih2.2.2 (ih1.2.2 h)⟩
theorem RA_der (n : Nat) : ∀ (d i j : Nat), j - i = d → i < j → j ≤ n → Der RA (List.replicate n 0) 0 i j
  | 0, i, j, hd, h1, h2 => by omega
  | d + 1, i, j, hd, h1, h2 => by
    have hone : SeqD RA (List.replicate n 0) [0] i (i + 1) := .term (by decide) (by simp; omega) (by simp only [List.getD, List.getElem?_replicate]; split <;> rfl) (.nil _)
    by_cases e : j = i + 1
    · subst e
      exact ⟨(0, [0]), by simp [RA], rfl, hone⟩
    · obtain ⟨r, hr, hl, hs⟩ := RA_der n d (i + 1) j (by omega) (by omega) h2
      exact ⟨(0, [-1, -1]), by simp [RA], rfl, .non (0, [0]) (by decide) (by simp [RA]) rfl hone (.non r (by decide) hr (by rw [hl]; rfl) hs (.nil _))⟩
theorem RA_tab (n : Nat) : tabD RA (List.replicate n 0) = TA n := by
  funext i j k
  unfold tabD TA
  rw [Bool.eq_iff_iff, tb_iff, decide_eq_true_eq]
  constructor
  · rintro ⟨r, hr, hl, hs⟩
    have h := RA_seq hs
    have : r.1 = 0 ∧ r.2 ≠ [] ∧ 1 ≤ r.2.length := by
      rcases (show r = (0, [-1, -1]) ∨ r = (0, [0]) by simpa [RA] using hr) with rfl | rfl <;> simp
    have h1 := h.1 this.2.1
    have h2 := h.2.2 (by omega)
    rw [List.length_replicate] at h1 h2
    exact ⟨by omega, h2, by omega⟩
  · rintro ⟨h1, h2, rfl⟩
    exact RA_der n (j - i) i j rfl h1 h2
theorem gA_four : treeD RA [0, 0, 0, 0] 0 0 4 = some 5 := treeD_run (f := 6) (RA_tab 4) (by decide +kernel)
theorem gA_none : treeD RA [] 0 0 0 = some 0 := treeD_run (f := 2) (RA_tab 0) (by decide +kernel)
theorem gB_one : treeD RB [1] 0 0 1 = none := by
  have hA : tabD RB [1] 0 0 1 = true := tb_yes ⟨(1, []), by simp [RB], rfl, .nil _⟩
  have hS : tabD RB [1] 0 1 0 = true := tb_yes ⟨(0, [1]), by simp [RB], rfl, .term (by decide) (by decide) rfl (.nil _)⟩
  have hF : Fits (tabD RB [1]) [1] (-2) [-1] 0 0 1 := ⟨hA, 1, by decide, by decide, hS, rfl⟩
  have h1 := DepS.self (T := tabD RB [1]) (tk := [1]) (R := RB) (x := (0, 0, 1)) (n := 0) (by decide) rfl ⟨0, by decide, by decide, hF⟩
  have h2 := DepS.tail (show DepS (T := tabD RB [1]) (tk := [1]) (R := RB) (0, 0, 1) [-2, -1] 0 1 from h1) (q := 0) (by decide) (by decide) hF
  have h3 := DepS.head h2 (q := 1) (by decide) (by decide) ⟨hS, rfl⟩ (by decide)
  exact Dep.loop h3
theorem gB_der : Der RB [0, 0, 1] 0 0 3 := by
  have a1 : SeqD RB [0, 0, 1] [0] 0 1 := .term (by decide) (by decide) rfl (.nil _)
  have a2 : SeqD RB [0, 0, 1] [0] 1 2 := .term (by decide) (by decide) rfl (.nil _)
  have a3 : SeqD RB [0, 0, 1] [1] 2 3 := .term (by decide) (by decide) rfl (.nil _)
  refine ⟨(0, [-2, -1]), by simp [RB], rfl, .non (1, [0]) (by decide) (by simp [RB]) rfl a1 (.non (0, [-2, -1]) (by decide) (by simp [RB]) rfl (.non (1, [0]) (by decide) (by simp [RB]) rfl a2 (.non (0, [1]) (by decide) (by simp [RB]) rfl a3 (.nil _))) (.nil _))⟩
theorem gA_may4 : (mayN gA [0, 0, 0, 0]).1 = 0 := by
  unfold mayN
  rw [gA_check]
  decide
theorem gA_may0 : (mayN gA []).1 = 0 := by
  unfold mayN
  rw [gA_check]
  decide
theorem gB_may1 : (mayN gB [1]).1 = 0 := by
  unfold mayN
  rw [gB_check]
  decide
theorem gB_may3 : (mayN gB [0, 0, 1]).1 = 0 := by
  unfold mayN
  rw [gB_check]
  decide
theorem gA_cnt4 : cntV gA [0, 0, 0, 0] = 5 ∧ cntX gA [0, 0, 0, 0] = false := by
  unfold cntV cntX cntT
  rw [gA_may4]
  have h : treeD gA.rules [0, 0, 0, 0] gA.ax.toNat 0 [0, 0, 0, (0 : Int)].length = some 5 := gA_four
  rw [h]
  exact ⟨rfl, rfl⟩
theorem gA_cnt0 : cntV gA [] = 0 ∧ cntX gA [] = false := by
  unfold cntV cntX cntT
  rw [gA_may0]
  have h : treeD gA.rules [] gA.ax.toNat 0 ([] : List Int).length = some 0 := gA_none
  rw [h]
  exact ⟨rfl, rfl⟩
theorem gB_cnt1 : cntV gB [1] = 0 ∧ cntX gB [1] = true := by
  unfold cntV cntX cntT
  rw [gB_may1]
  have h : treeD gB.rules [1] gB.ax.toNat 0 [(1 : Int)].length = none := gB_one
  rw [h]
  exact ⟨rfl, rfl⟩
theorem gB_from3 : fromB gB [0, 0, 1] 0 = true ∧ fromK gB [0, 0, 1] 0 = 0 := by
  have h : fromK gB [0, 0, 1] 0 = 0 := by
    unfold fromK
    rw [gB_may3, if_neg (by simp), if_neg (by simp [gB])]
  exact ⟨tb_yes ⟨h, gB_der⟩, h⟩
end Go.Proofs.YtndimnomkcjeiaaDoor.Hand
/- Grammars that the text itself lays out: the world behind the literal, and what it reads as. -/
namespace Go.Proofs.YtndimnomkcjeiaaDoor.Hand
open Go.RowKit Go.Proofs.YtndimnomkcjeiaaDoorW.PrintWords Go.Proofs.YtndimnomkcjeiaaDoorW.PrintMore Go.Proofs.YtndimnomkcjeiaaDoor.Math

theorem litC {α : Type} {enc : α → Value} (h1 : ∀ x, (enc x).oneCell' = true) (xs : List α) (W : World) (T : TypeId) (hx : xs.length ≤ 9223372036854775807) : (Kd.scalar enc h1).C (W.alloc (.cells (xs.map enc).toArray T)) (some ⟨W.heap.size, 0, none⟩) xs.length xs := by
  refine ⟨rfl, hx, fun _ => ⟨⟨W.heap.size, 0, none⟩, rfl, fun j p hj => ⟨[enc p], rfl, rfl, fun i u hu => ?_⟩⟩⟩
  have h0 : i = 0 := by
    have := (List.getElem?_eq_some_iff.1 hu).1
    simp at this
    exact this
  subst h0
  simp at hu
  subst hu
  have e : ((⟨W.heap.size, 0, none⟩ : Addr).add j) = ⟨W.heap.size, j, none⟩ := by unfold Addr.add; by_cases h : j = 0 <;> simp [h]
  have hc := World.cell?_alloc_new W (xs.map enc).toArray T j
  show (W.alloc _).cell? ((⟨W.heap.size, 0, none⟩ : Addr).add (j * 1 + 0)) = _
  rw [Nat.mul_one, Nat.add_zero, e, hc]
  simp [hj]
theorem rulesC {w : World} {b : Nat} {l : List (Int × List Int)} (hm : l.length ≤ 1000) (h : ∀ j r, l[j]? = some r → w.cell? ⟨b, j * 2, none⟩ = some (.int .i64 r.1) ∧ ∃ A, w.cell? ⟨b, j * 2 + 1, none⟩ = some (.slice A r.2.length r.2.length) ∧ Kd.C (Kd.int .i64) w A r.2.length r.2) : KRule.C w (some ⟨b, 0, none⟩) l.length l := by
  refine ⟨rfl, by omega, fun _ => ⟨_, rfl, fun j r hj => ?_⟩⟩
  obtain ⟨h1, A, h2, h3⟩ := h j r hj
  refine ⟨[.int .i64 r.1, .slice A r.2.length r.2.length], rfl, ⟨[.int .i64 r.1], [.slice A r.2.length r.2.length], rfl, rfl, A, r.2.length, rfl, Nat.le_refl _, h3⟩, fun i u hu => ?_⟩
  have e : ∀ i, (Addr.add ⟨b, 0, none⟩ (j * KRule.sz + i)) = ⟨b, j * 2 + i, none⟩ := by
    intro i
    rw [show KRule.sz = 2 from rfl]
    unfold Addr.add
    split
    · rename_i h0; rw [h0]
    · simp
  rw [e]
  match i, hu with
  | 0, hu => simp at hu; subst hu; exact h1
  | 1, hu => simp at hu; subst hu; exact h2
  | i + 2, hu => simp at hu
/-- The right sides, one behind the other; the rules' own cells; how many right sides there are. -/
def litRs (w : World) : List (Int × List Int) → World
  | [] => w
  | (_, []) :: l => litRs w l
  | (_, y :: r) :: l => litRs (w.alloc (.cells ((y :: r).map (Value.int .i64)).toArray 3)) l
def litCells (n : Nat) : List (Int × List Int) → List Value
  | [] => []
  | (x, []) :: l => .int .i64 x :: .slice none 0 0 :: litCells n l
  | (x, y :: r) :: l => .int .i64 x :: .slice (some ⟨n, 0, none⟩) (y :: r).length (y :: r).length :: litCells (n + 1) l
def litN : List (Int × List Int) → Nat
  | [] => 0
  | (_, []) :: l => litN l
  | (_, _ :: _) :: l => litN l + 1
theorem litRs_below : ∀ (l : List (Int × List Int)) (w : World), Below w.heap.size w (litRs w l) ∧ (litRs w l).heap.size = w.heap.size + litN l
  | [], w => ⟨Below.refl _ _, rfl⟩
  | (_, []) :: l, w => litRs_below l w
  | (_, y :: r) :: l, w => by
    obtain ⟨h1, h2⟩ := litRs_below l (w.alloc (.cells ((y :: r).map (Value.int .i64)).toArray 3))
    refine ⟨below_next (below_alloc (Below.refl _ _) _) h1, h2.trans ?_⟩
    rw [World.size_alloc]
    show _ = w.heap.size + (litN l + 1)
    omega
theorem litRs_at : ∀ (l : List (Int × List Int)) (w : World) (j : Nat) (x : Int) (r : List Int), (∀ r ∈ l, r.2.length ≤ 1000) → l[j]? = some (x, r) →
    (litCells w.heap.size l)[j * 2]? = some (.int .i64 x) ∧ ∃ B, (litCells w.heap.size l)[j * 2 + 1]? = some (.slice B r.length r.length) ∧ Kd.C (Kd.int .i64) (litRs w l) B r.length r
  | [], w, j, x, r, _, h => by simp at h
  | (x', []) :: l, w, 0, x, r, _, h => by
    obtain ⟨rfl, rfl⟩ : x' = x ∧ [] = r := by simpa using h
    exact ⟨rfl, none, rfl, ⟨rfl, by simp, fun h => absurd h (by simp)⟩⟩
  | (x', y :: q) :: l, w, 0, x, r, hl, h => by
    obtain ⟨rfl, rfl⟩ : x' = x ∧ y :: q = r := by simpa using h
    refine ⟨rfl, some ⟨w.heap.size, 0, none⟩, rfl, ?_⟩
    have h1 : Kd.C (Kd.int .i64) (w.alloc (.cells ((y :: q).map (Value.int .i64)).toArray 3)) (some ⟨w.heap.size, 0, none⟩) (y :: q).length (y :: q) := litC (enc := Value.int .i64) (fun _ => rfl) (y :: q) w 3 (by have := hl _ (List.mem_cons_self ..); simp only at this; omega)
    exact Kd.C_below h1 (litRs_below l _).1
  | (x', []) :: l, w, j + 1, x, r, hl, h => by
    have := litRs_at l w j x r (fun r hr => hl r (List.mem_cons_of_mem _ hr)) (by simpa using h)
    rw [show (j + 1) * 2 = j * 2 + 2 by omega, show j * 2 + 2 + 1 = j * 2 + 1 + 2 by omega]
    exact this
  | (x', y :: q) :: l, w, j + 1, x, r, hl, h => by
    have := litRs_at l (w.alloc (.cells ((y :: q).map (Value.int .i64)).toArray 3)) j x r (fun r hr => hl r (List.mem_cons_of_mem _ hr)) (by simpa using h)
    rw [World.size_alloc] at this
    rw [show (j + 1) * 2 = j * 2 + 2 by omega, show j * 2 + 2 + 1 = j * 2 + 1 + 2 by omega]
    exact this
/-- The world behind a grammar's literal that lies in a variable; the grammar's value. -/
def litV (n : Nat) (g : Gr) : Array Value := #[.slice (some ⟨n, 0, none⟩) g.terms.length g.terms.length, .slice (some ⟨n + 1, 0, none⟩) g.nonterms.length g.nonterms.length, .int .i64 g.ax, .slice (some ⟨n + 1 + 1 + litN g.rules, 0, none⟩) g.rules.length g.rules.length]
def litW (w : World) (g : Gr) : World := (litRs ((w.alloc (.cells (g.terms.map Value.string).toArray 9)).alloc (.cells (g.nonterms.map Value.string).toArray 9)) g.rules).alloc (.cells (litCells (w.heap.size + 1 + 1) g.rules).toArray 51)
def litG (w : World) (g : Gr) : World := (litW w g).alloc (.cells (litV w.heap.size g) 25)
theorem litW_is (w : World) (g : Gr) (h1 : g.terms.length ≤ 1000) (h2 : g.nonterms.length ≤ 1000) (h3 : g.rules.length ≤ 1000) (h4 : ∀ r ∈ g.rules, r.2.length ≤ 1000) : GramAt (litW w g) (.agg (litV w.heap.size g)) g ∧ Below w.heap.size w (litW w g) ∧ (litW w g).heap.size = w.heap.size + 1 + 1 + litN g.rules + 1 := by
  unfold litW
  have s1 : (w.alloc (.cells (g.terms.map Value.string).toArray 9)).heap.size = w.heap.size + 1 := World.size_alloc _ _
  have b1 := below_alloc (Below.refl w.heap.size w) (.cells (g.terms.map Value.string).toArray 9)
  have c1 : Kd.C Kd.string (w.alloc (.cells (g.terms.map Value.string).toArray 9)) (some ⟨w.heap.size, 0, none⟩) g.terms.length g.terms := litC (enc := Value.string) (fun _ => rfl) g.terms w 9 (by omega)
  generalize w.alloc (.cells (g.terms.map Value.string).toArray 9) = W1 at *
  have s2 : (W1.alloc (.cells (g.nonterms.map Value.string).toArray 9)).heap.size = W1.heap.size + 1 := World.size_alloc _ _
  have b2 := below_alloc (Below.refl W1.heap.size W1) (.cells (g.nonterms.map Value.string).toArray 9)
  have c2 : Kd.C Kd.string (W1.alloc (.cells (g.nonterms.map Value.string).toArray 9)) (some ⟨W1.heap.size, 0, none⟩) g.nonterms.length g.nonterms := litC (enc := Value.string) (fun _ => rfl) g.nonterms W1 9 (by omega)
  rw [s1] at c2
  generalize W1.alloc (.cells (g.nonterms.map Value.string).toArray 9) = W2 at *
  obtain ⟨b3, s3⟩ := litRs_below g.rules W2
  have hat := litRs_at g.rules W2
  have e2 : W2.heap.size = w.heap.size + 1 + 1 := by omega
  rw [e2] at hat
  generalize litRs W2 g.rules = W3 at *
  have b4 := below_alloc (Below.refl W3.heap.size W3) (.cells (litCells (w.heap.size + 1 + 1) g.rules).toArray 51)
  have s4 : (W3.alloc (.cells (litCells (w.heap.size + 1 + 1) g.rules).toArray 51)).heap.size = W3.heap.size + 1 := World.size_alloc _ _
  have hc := fun i => World.cell?_alloc_new W3 (litCells (w.heap.size + 1 + 1) g.rules).toArray 51 i
  generalize W3.alloc (.cells (litCells (w.heap.size + 1 + 1) g.rules).toArray 51) = W4 at *
  have e3 : W3.heap.size = w.heap.size + 1 + 1 + litN g.rules := by omega
  rw [e3] at hc
  refine ⟨⟨_, g.terms.length, _, g.nonterms.length, _, g.rules.length, rfl, Nat.le_refl _, Nat.le_refl _, Nat.le_refl _, Kd.C_below c1 (below_next b2 (below_next b3 b4)), Kd.C_below c2 (below_next b3 b4), ?_⟩, below_next b1 (below_next b2 (below_next b3 b4)), by omega⟩
  refine rulesC h3 (fun j r hj => ?_)
  obtain ⟨x, r⟩ := r
  obtain ⟨k1, B, k2, k3⟩ := hat j x r h4 hj
  exact ⟨(hc (j * 2)).trans (by rw [List.getElem?_toArray]; exact k1), B, (hc (j * 2 + 1)).trans (by rw [List.getElem?_toArray]; exact k2), Kd.C_below k3 b4⟩
theorem litG_is (w : World) (g : Gr) (h1 : g.terms.length ≤ 1000) (h2 : g.nonterms.length ≤ 1000) (h3 : g.rules.length ≤ 1000) (h4 : ∀ r ∈ g.rules, r.2.length ≤ 1000) : GramAt (litG w g) (.agg (litV w.heap.size g)) g ∧ Below w.heap.size w (litG w g) ∧ (litG w g).heap[w.heap.size + 1 + 1 + litN g.rules + 1]? = some (.cells (litV w.heap.size g) 25 (0, 0)) ∧ (litG w g).heap.size = w.heap.size + 1 + 1 + litN g.rules + 1 + 1 := by
  obtain ⟨k1, k2, k3⟩ := litW_is w g h1 h2 h3 h4
  have hb := below_alloc (Below.refl (litW w g).heap.size (litW w g)) (.cells (litV w.heap.size g) 25)
  exact ⟨k1.below hb, below_next k2 hb, by rw [← k3]; exact heap_alloc_new _ _, by show ((litW w g).alloc _).heap.size = _; rw [World.size_alloc, k3]⟩
end Go.Proofs.YtndimnomkcjeiaaDoor.Hand
/- Chapter 24's own known: the document's grammars, its answers. -/
namespace Go.Proofs.YtndimnomkcjeiaaDoor.Hand
open Go.RowKit Go.Proofs.YtndimnomkcjeiaaDoorW.PrintWords Go.Proofs.YtndimnomkcjeiaaDoorW.PrintMore Go.Proofs.YtndimnomkcjeiaaDoor.Math

set_option maxHeartbeats 2000000 in
set_option maxRecDepth 20000 in
theorem known_calls (w : World) (A : Nat → Addr) (hE : ErrsW w A) :
    Calls Tryd.prog 22 #[] w fun e w' => e = .returned (.bool true) ∧ Below w.heap.size w w' := by
  obtain ⟨hg, hb, hk, hs⟩ := litG_is w gA (by decide) (by decide) (by decide) (by decide)
  have hg1 : GramAt (litG w gA) (.agg #[.slice (some ⟨w.heap.size, 0, none⟩) 1 1, .slice (some ⟨w.heap.size + 1, 0, none⟩) 1 1, .int .i64 0, .slice (some ⟨w.heap.size + 1 + 1 + 1 + 1, 0, none⟩) 2 2]) gA := hg
  have hk1 : (litG w gA).heap[w.heap.size + 1 + 1 + 1 + 1 + 1]? = some (.cells #[.slice (some ⟨w.heap.size, 0, none⟩) 1 1, .slice (some ⟨w.heap.size + 1, 0, none⟩) 1 1, .int .i64 0, .slice (some ⟨w.heap.size + 1 + 1 + 1 + 1, 0, none⟩) 2 2] 25 (0, 0)) := hk
  have HBA := Lib.hid hb
  have HEA := Lib.hid (hE.below hb)
  clear hE hg hb hk hs
  go_enter Tryd.func22, Tryd.ntmps22
  go_upto_region 2 with fail
  change Code.wp _ _ _ _ (litG w gA)
  obtain ⟨w1, hw1⟩ : ∃ w1, litG w gA = w1 := ⟨_, rfl⟩
  rw [hw1] at hg1 hk1 HBA HEA ⊢
  obtain ⟨b5, e5⟩ : ∃ b, w.heap.size + 1 + 1 + 1 + 1 + 1 = b := ⟨_, rfl⟩
  obtain ⟨b4, e4⟩ : ∃ b, w.heap.size + 1 + 1 + 1 + 1 = b := ⟨_, rfl⟩
  rw [e5] at hk1 ⊢
  rw [e4] at hg1 hk1 ⊢
  obtain ⟨b1, e1⟩ : ∃ b, w.heap.size + 1 = b := ⟨_, rfl⟩
  rw [e1] at hg1 hk1 ⊢
  obtain ⟨c0, c1, c2, c3⟩ := blk_cells2 hk1
  have HGA := Lib.hid hg1
  have HKA := Lib.hid hk1
  clear hw1 e5 e4 e1 hg1 hk1
  have HC1 := Lib.hid (fun (W : World) (hW : Below w1.heap.size w1 W) => count_calls _ gA (some ⟨W.heap.size, 0, none⟩) 4 [0, 0, 0, 0] (W.alloc (.cells #[.int .i64 0, .int .i64 0, .int .i64 0, .int .i64 0] 3)) A (HEA.out.below (below_alloc hW _)) (HGA.out.below (below_alloc hW _)) (by decide) (litC (enc := Value.int .i64) (fun _ => rfl) [0, 0, 0, 0] W 3 (by decide)))
  have HC2 := Lib.hid (fun (W : World) (hW : Below w1.heap.size w1 W) => count_calls _ gA none 0 [] W A (HEA.out.below hW) (HGA.out.below hW) (by decide) ⟨rfl, by decide, fun h => absurd h (by decide)⟩)
  unfold CntRes at HC1 HC2
  rw [gA_cnt4.1, gA_cnt4.2, gA_may4] at HC1
  rw [gA_cnt0.1, gA_cnt0.2, gA_may0] at HC2
  go_upto_region 4 with (first
    | (go_at_call 23; refine (HC2.out w2 HB2.out).mono ?_; rintro e w3 ⟨u3, r3, rfl, hu3, hb3⟩; obtain rfl := hu3.nil_of rfl; have HB3 := Lib.hid (below_next HB2.out hb3); clear d0 d1 d2 d3 hu3 hb3)
    | (go_at_call 23; refine (HC1.out w1 (Below.refl _ _)).mono ?_; rintro e w2 ⟨u2, r2, rfl, hu2, hb2⟩; obtain rfl := hu2.nil_of rfl; have HB2 := Lib.hid (below_next (below_alloc (Below.refl _ _) _) hb2); obtain ⟨d0, d1, d2, d3⟩ := blk_cells2 (gblk_keep' HKA.out HB2.out); clear c0 c1 c2 c3 hu2 hb2))
  obtain ⟨hg, hb, hk, hs⟩ := litG_is w3 gB (by decide) (by decide) (by decide) (by decide)
  have hg1 : GramAt (litG w3 gB) (.agg #[.slice (some ⟨w3.heap.size, 0, none⟩) 2 2, .slice (some ⟨w3.heap.size + 1, 0, none⟩) 2 2, .int .i64 0, .slice (some ⟨w3.heap.size + 1 + 1 + 1 + 1 + 1 + 1, 0, none⟩) 5 5]) gB := hg
  have hk1 : (litG w3 gB).heap[w3.heap.size + 1 + 1 + 1 + 1 + 1 + 1 + 1]? = some (.cells #[.slice (some ⟨w3.heap.size, 0, none⟩) 2 2, .slice (some ⟨w3.heap.size + 1, 0, none⟩) 2 2, .int .i64 0, .slice (some ⟨w3.heap.size + 1 + 1 + 1 + 1 + 1 + 1, 0, none⟩) 5 5] 25 (0, 0)) := hk
  have HBB := Lib.hid (below_next HB3.out hb)
  have HEB := Lib.hid (HEA.out.below HBB.out)
  clear hg hb hk hs
  go_upto_region 5 with fail
  change Code.wp _ _ _ _ (litG w3 gB)
  obtain ⟨w4, hw4⟩ : ∃ w1, litG w3 gB = w1 := ⟨_, rfl⟩
  rw [hw4] at hg1 hk1 HBB HEB ⊢
  obtain ⟨b7, e7⟩ : ∃ b, w3.heap.size + 1 + 1 + 1 + 1 + 1 + 1 + 1 = b := ⟨_, rfl⟩
  obtain ⟨b6, e6⟩ : ∃ b, w3.heap.size + 1 + 1 + 1 + 1 + 1 + 1 = b := ⟨_, rfl⟩
  rw [e7] at hk1 ⊢
  rw [e6] at hg1 hk1 ⊢
  obtain ⟨b1', e1⟩ : ∃ b, w3.heap.size + 1 = b := ⟨_, rfl⟩
  rw [e1] at hg1 hk1 ⊢
  obtain ⟨c0, c1, c2, c3⟩ := blk_cells2 hk1
  have HGB := Lib.hid hg1
  have HKB := Lib.hid hk1
  clear hw4 e7 e6 e1 hg1 hk1
  have HC3 := Lib.hid (fun (W : World) (hW : Below w4.heap.size w4 W) => count_calls _ gB (some ⟨W.heap.size, 0, none⟩) 1 [1] (W.alloc (.cells #[.int .i64 1] 3)) A (HEB.out.below (below_alloc hW _)) (HGB.out.below (below_alloc hW _)) (by decide) (litC (enc := Value.int .i64) (fun _ => rfl) [1] W 3 (by decide)))
  have HC4 := Lib.hid (fun (W : World) (hW : Below w4.heap.size w4 W) => mderives_calls _ gB (some ⟨W.heap.size, 0, none⟩) 3 [0, 0, 1] (W.alloc (.cells #[.int .i64 0, .int .i64 0, .int .i64 1] 3)) A (HEB.out.below (below_alloc hW _)) (HGB.out.below (below_alloc hW _)) (by decide) (litC (enc := Value.int .i64) (fun _ => rfl) [0, 0, 1] W 3 (by decide)))
  unfold CntRes at HC3
  rw [gB_cnt1.1, gB_cnt1.2, gB_may1] at HC3
  rw [show gB.ax = 0 from rfl, gB_from3.1, gB_from3.2] at HC4
  go_wp2_with (first
    | (go_at_call 18; refine (HC4.out w5 HB5.out).mono ?_; rintro e w6 ⟨u6, r6, rfl, hu6, hb6⟩; obtain rfl := hu6.nil_of rfl; have HB6 := Lib.hid (below_next (below_alloc HB5.out _) hb6); clear d0 d1 d2 d3 hu6 hb6)
    | (go_at_call 23; refine (HC3.out w4 (Below.refl _ _)).mono ?_; rintro e w5 ⟨u5, r5, rfl, hu5, hb5⟩; obtain rfl := hu5.nil_of rfl; have HB5 := Lib.hid (below_next (below_alloc (Below.refl _ _) _) hb5); obtain ⟨d0, d1, d2, d3⟩ := blk_cells2 (gblk_keep' HKB.out HB5.out); clear c0 c1 c2 c3 hu5 hb5))
  go_ret
  exact ⟨rfl, below_next HBA.out (below_next HBB.out HB6.out)⟩
end Go.Proofs.YtndimnomkcjeiaaDoor.Hand
/- The package's errors, as the row lists them: each variable holds a pointer of its own. -/
namespace Go.Proofs.YtndimnomkcjeiaaDoor.Hand
open Go.ChangeShapes
open Go.RowKit Go.Proofs.YtndimnomkcjeiaaDoorW.PrintWords Go.Proofs.YtndimnomkcjeiaaDoorW.PrintMore Go.Proofs.YtndimnomkcjeiaaDoor.Math

theorem laid_list {P : Program} {W : World} {nm : String} {ti tp te ts : TypeId} {ms : Array (String × TypeId)} {f : Field}
    (hi : P.underlying ti = some (.interface ms)) (hrow : ∀ u, P.typeName? 3 u = some nm → u = tp)
    (hp : P.underlying tp = some (.pointer te)) (he : P.underlying te = some (.struct #[f])) (hft : f.type = ts) (hfo : f.offset = 0) (hs : P.underlying ts = some .string) (hc : P.cellsOf te = 1) (hcs : P.cellsOf ts = 1) :
    ∀ (l : List (String × DataW Unit)) (ps : List MemPlace), DataW.LaidVars P W l ps → ps.Nodup →
      (∀ b off, MemPlace.cell b off ∈ ps → (∃ c t, W.heap[b]? = some (.cells c t (0, 0))) ∧ ∀ u v, W.cell? ⟨b, off, none⟩ = some (.iface u v) → Value.okWide P W .any 0 u v) →
      (∀ x ∈ l, (∃ text, x.2 = .iface nm (.ptr (.agg [.lit (.string text)]))) ∧ ∃ g, P.globalNamed x.1 = some g ∧ (P.globals[g]?).map (·.type) = some ti) →
      ∃ As : List Addr, As.length = l.length ∧ (∀ a ∈ As, MemPlace.cell a.block a.off ∈ ps) ∧ As.Nodup ∧ ∀ (i : Nat) (x : String × DataW Unit) (a : Addr), l[i]? = some x → As[i]? = some a → ∀ g, P.globalNamed x.1 = some g → W.cell? ⟨g, 0, none⟩ = some (.iface tp (.pointer (some a)))
  | [], ps, _, _, _, _ => ⟨[], rfl, fun a h => absurd h (List.not_mem_nil), List.nodup_nil, fun i x a h => by rw [List.getElem?_nil] at h; cases h⟩
  | (n, d) :: r, ps, h, hnd, hrows, hall => by
    obtain ⟨g, t, cs, fuel, p, q, hg, ht, hv, hd, hr, rfl⟩ := h
    obtain ⟨⟨text, hd2⟩, g2, hg2, ht2⟩ := hall (n, d) (List.mem_cons_self ..)
    simp only at hd2 hg2
    subst hd2
    obtain rfl := Option.some.inj (hg.symm.trans hg2)
    obtain rfl := Option.some.inj (ht.symm.trans ht2)
    obtain ⟨l0⟩ := cs
    have ok0 : ∀ u v, l0 = [.iface u v] → Value.okWide P W .any 0 u v := fun u v e => by
      subst e
      exact (hrows g 0 (by simp [MemPlace.row])).2 u v (by simpa using World.var?_cell hg hv 0)
    obtain ⟨a0, s0, rfl, hc0, hs0, hz0, rfl⟩ := errorString_of_trod hi hrow hp he hft hfo hs hc hcs hd ok0
    have hq : q.Nodup := (List.nodup_append.1 hnd).2.1
    obtain ⟨As, k1, k2, k3, k4⟩ := laid_list hi hrow hp he hft hfo hs hc hcs r q hr hq (fun b off hm => hrows b off (List.mem_append_right _ hm)) (fun x hx => hall x (List.mem_cons_of_mem _ hx))
    have hcell : W.cell? ⟨g, 0, none⟩ = some (.iface tp (.pointer (some a0))) := by simpa using World.var?_cell hg hv 0
    refine ⟨a0 :: As, by simp [k1], ?_, ?_, ?_⟩
    · intro a ha
      rcases List.mem_cons.1 ha with rfl | ha
      · exact List.mem_append_left _ (List.mem_append_right _ (by simp [MemPlace.row]))
      · exact List.mem_append_right _ (k2 a ha)
    · refine List.nodup_cons.2 ⟨fun hm => ?_, k3⟩
      exact (List.nodup_append.1 hnd).2.2 _ (List.mem_append_right _ (by simp [MemPlace.row] : MemPlace.cell a0.block a0.off ∈ MemPlace.row a0 1)) _ (k2 a0 hm) rfl
    · intro i x a hx ha g' hg'
      cases i with
      | zero =>
        simp only [List.getElem?_cons_zero, Option.some.injEq] at hx ha
        subst hx ha
        obtain rfl := Option.some.inj (hg.symm.trans hg')
        exact hcell
      | succ i =>
        simp only [List.getElem?_cons_succ] at hx ha
        exact k4 i x a hx ha g' hg'
theorem star_err : "*" ++ "errors.errorString" = "*errors.errorString" := by decide
theorem laid_errs {l : List (String × DataW Unit)} {W : World} (h : laidMetH Tryd.prog l W) (hp : (l.all fun x => x.2.handleName?.isNone) = true)
    (hall : ∀ x ∈ l, (∃ text, x.2 = .iface "*errors.errorString" (.ptr (.agg [.lit (.string text)]))) ∧ ∃ g, Tryd.prog.globalNamed x.1 = some g ∧ (Tryd.prog.globals[g]?).map (·.type) = some 31)
    (hn : l.map (fun x => Tryd.prog.globalNamed x.1) = GE.map some) : ∃ A, Errs W A := by
  rw [MakeChecks.laidMetH_plain _ _ _ hp] at h
  obtain ⟨ps, hv, hnd, hrows⟩ := h
  obtain ⟨As, k1, k2, k3, k4⟩ := laid_list Tryd.underlying31 (tp := 143) (fun u hu => typeName_ptr_named (nm := "errors.errorString") (by rw [star_err]; kernel_rfl) (by kernel_rfl) (by decide) u (by rw [star_err]; exact hu)) Tryd.underlying143 Tryd.underlying169 rfl rfl Tryd.underlying9 (by kernel_rfl) (by kernel_rfl) l ps hv hnd hrows hall
  have hl : l.length = 15 := by have := congrArg List.length hn; simpa [GE] using this
  have hget : ∀ i, i < 15 → ∃ a, As[i]? = some a ∧ As.getD i ⟨0, 0, none⟩ = a := fun i hi => ⟨As[i]'(by omega), List.getElem?_eq_getElem _, by simp [List.getD, List.getElem?_eq_getElem (show i < As.length by omega)]⟩
  refine ⟨fun i => As.getD i ⟨0, 0, none⟩, ⟨fun i hi => ?_, fun i hi => ?_, fun i j hi hj e => ?_⟩⟩
  · obtain ⟨a, e1, e2⟩ := hget i hi
    have hx : l[i]? = some l[i] := List.getElem?_eq_getElem _
    have hg : Tryd.prog.globalNamed (l[i]'(by omega)).1 = some (GE.getD i 0) := by
      have := congrArg (fun z => z[i]?) hn
      simp only [List.getElem?_map, hx, Option.map_some] at this
      have h2 : GE[i]? = some (GE.getD i 0) := by
        have hi2 : i < GE.length := by simpa [GE] using hi
        simp [List.getD, List.getElem?_eq_getElem hi2]
      rw [h2] at this
      simpa using this
    show W.cell? _ = some (.iface _ (.pointer (some (As.getD i _))))
    rw [e2]
    exact k4 i _ a hx e1 _ hg
  · obtain ⟨a, e1, e2⟩ := hget i hi
    show ∃ c t, W.heap[(As.getD i _).block]? = _
    rw [e2]
    exact (hrows a.block a.off (k2 a (List.mem_of_getElem? e1))).1
  · obtain ⟨a, e1, e2⟩ := hget i hi
    obtain ⟨b, e3, e4⟩ := hget j hj
    have e : As.getD i _ = As.getD j _ := e
    rw [e2, e4] at e
    subst e
    exact (List.getElem?_inj (show i < As.length by omega) k3).1 (e1.trans e3.symm)
/-- Is it the datum of an error of errors.New? -/
def sentB (d : DataW Unit) : Bool := match d with | .iface nm (.ptr (.agg [.lit (.string _)])) => nm == "*errors.errorString" | _ => false
theorem sentB_spec {d : DataW Unit} (h : sentB d = true) : ∃ text, d = .iface "*errors.errorString" (.ptr (.agg [.lit (.string text)])) := by
  unfold sentB at h
  split at h
  · rename_i nm text
    exact ⟨text, by rw [beq_iff_eq.1 h]⟩
  · cases h
theorem laid_errs' {l : List (String × DataW Unit)} {W : World} (h : laidMetH Tryd.prog l W) (hp : (l.all fun x => x.2.handleName?.isNone) = true)
    (hall : (l.all fun x => sentB x.2 && (((Tryd.prog.globalNamed x.1).bind fun g => (Tryd.prog.globals[g]?).map (·.type)) == some 31)) = true)
    (hn : l.map (fun x => Tryd.prog.globalNamed x.1) = GE.map some) : ∃ A, Errs W A := by
  refine laid_errs h hp (fun x hx => ?_) hn
  have h1 := List.all_eq_true.1 hall x hx
  rw [Bool.and_eq_true, beq_iff_eq] at h1
  obtain ⟨g, hg, ht⟩ := Option.bind_eq_some_iff.1 h1.2
  exact ⟨sentB_spec h1.1, g, hg, ht⟩
/-- The same where the row lists but some of the errors. -/
theorem laid_errsW {l : List (String × DataW Unit)} {W : World} (h : laidMetH Tryd.prog l W) (hp : (l.all fun x => x.2.handleName?.isNone) = true)
    (hall0 : (l.all fun x => sentB x.2 && (((Tryd.prog.globalNamed x.1).bind fun g => (Tryd.prog.globals[g]?).map (·.type)) == some 31)) = true)
    (hn : l.map (fun x => Tryd.prog.globalNamed x.1) = EW.map (fun i => some (GE.getD i 0))) : ∃ A, ErrsW W A := by
  have hall : ∀ x ∈ l, (∃ text, x.2 = .iface "*errors.errorString" (.ptr (.agg [.lit (.string text)]))) ∧ ∃ g, Tryd.prog.globalNamed x.1 = some g ∧ (Tryd.prog.globals[g]?).map (·.type) = some 31 := fun x hx => by
    have h1 := List.all_eq_true.1 hall0 x hx
    rw [Bool.and_eq_true, beq_iff_eq] at h1
    obtain ⟨g, hg, ht⟩ := Option.bind_eq_some_iff.1 h1.2
    exact ⟨sentB_spec h1.1, g, hg, ht⟩
  rw [MakeChecks.laidMetH_plain _ _ _ hp] at h
  obtain ⟨ps, hv, hnd, hrows⟩ := h
  obtain ⟨As, k1, _, _, k4⟩ := laid_list Tryd.underlying31 (tp := 143) (fun u hu => typeName_ptr_named (nm := "errors.errorString") (by rw [star_err]; kernel_rfl) (by kernel_rfl) (by decide) u (by rw [star_err]; exact hu)) Tryd.underlying143 Tryd.underlying169 rfl rfl Tryd.underlying9 (by kernel_rfl) (by kernel_rfl) l ps hv hnd hrows hall
  have hl : l.length = EW.length := by have := congrArg List.length hn; simpa using this
  refine ⟨fun i => As.getD (EW.idxOf i) ⟨0, 0, none⟩, ⟨fun i hi => ?_⟩⟩
  have hj : EW.idxOf i < EW.length := List.idxOf_lt_length_of_mem hi
  have hge : EW[EW.idxOf i]? = some i := by rw [List.getElem?_eq_getElem hj, List.getElem_idxOf]
  have ha : As[EW.idxOf i]? = some (As[EW.idxOf i]'(by omega)) := List.getElem?_eq_getElem _
  have hx : l[EW.idxOf i]? = some (l[EW.idxOf i]'(by omega)) := List.getElem?_eq_getElem _
  have hg : Tryd.prog.globalNamed (l[EW.idxOf i]'(by omega)).1 = some (GE.getD i 0) := by
    have := congrArg (fun z => z[EW.idxOf i]?) hn
    simp only [List.getElem?_map, hx, hge, Option.map_some] at this
    simpa using this
  show W.cell? _ = some (.iface _ (.pointer (some (As.getD _ _))))
  rw [show As.getD (EW.idxOf i) ⟨0, 0, none⟩ = As[EW.idxOf i]'(by omega) by rw [List.getD_eq_getElem?_getD, ha]; rfl]
  exact k4 _ _ _ hx ha _ hg
end Go.Proofs.YtndimnomkcjeiaaDoor.Hand
