/- Contracts of package member: fill0, charted. -/
import Derived.Test.YtndimnomkcjeiaaDoorMemB
import Derived.Test.YtndimnomkcjeiaaDoorMemC
namespace Go.Proofs.YtndimnomkcjeiaaDoor.Hand
open Go.RowKit Go.Proofs.YtndimnomkcjeiaaDoorW.PrintWords Go.Proofs.YtndimnomkcjeiaaDoorW.PrintMore Go.Proofs.YtndimnomkcjeiaaDoor.Math

def ChartIs (w0 : World) (R : List (Int × List Int)) (tk : List Int) (N b O : Nat) (Bs : Nat → Nat) (P : Nat → Nat → Prop) (w : World) : Prop :=
  ∃ Tn, Chart w0 R tk N b O Bs Tn w ∧ Sound R tk tk.length N (tabOf Tn) ∧ ∀ a c, P a c → Full1 R tk N (tabOf Tn) a c
theorem ChartIs.imp {w0 w : World} {R : List (Int × List Int)} {tk : List Int} {N b O : Nat} {Bs : Nat → Nat} {P P' : Nat → Nat → Prop} (h : ChartIs w0 R tk N b O Bs P w) (hp : ∀ a c, P' a c → P a c) : ChartIs w0 R tk N b O Bs P' w := by
  obtain ⟨Tn, h1, h2, h3⟩ := h
  exact ⟨Tn, h1, h2, fun a c h => h3 a c (hp a c h)⟩
theorem cfill_is {w0 w : World} {R : List (Int × List Int)} {tk : List Int} {t N b O : Nat} {Bs : Nat → Nat} {P : Nat → Nat → Prop} (h : ChartIs w0 R tk N b O Bs P w) (hN : N ≤ 60) (ht : t ≤ 60) (hn : tk.length ≤ 40) (hRI : RulesIn t N R) (i j : Nat) (hij : i ≤ j) (hj : j ≤ tk.length)
    (hP : ∀ i' j', i ≤ i' → i' ≤ j' → j' ≤ j → ¬ (i' = i ∧ j' = j) → P i' j') :
    Calls Tryd.prog 44 #[.pointer (some ⟨b, 0, none⟩), .int .i64 i, .int .i64 j] w fun e w' => e = .returned (.tuple #[]) ∧ ChartIs w0 R tk N b O Bs (fun a c => P a c ∨ (a = i ∧ c = j)) w' := by
  obtain ⟨Tn, h1, h2, h3⟩ := h
  refine (cfill_calls h1 hN ht hn hRI i j hij hj h2).mono ?_
  rintro e w' ⟨rfl, Tn', k1, k2, k3, k4⟩
  have hkeep : ∀ a c, ¬ (a = i ∧ c = j) → Full1 R tk N (tabOf Tn) a c → Full1 R tk N (tabOf Tn') a c := by
    intro a c hne hf k hk hd
    have := hf k hk hd
    unfold tabOf at this ⊢
    rwa [k3 a c hne]
  refine ⟨rfl, Tn', k1, k2, ?_⟩
  intro a c hac
  by_cases e : a = i ∧ c = j
  · obtain ⟨rfl, rfl⟩ := e
    exact fixed_full hj (fun r hr => hRI.left hr) (fun i' j' q1 q2 q3 q4 => hkeep i' j' q4 (h3 i' j' (hP i' j' q1 q2 q3 q4))) k4
  · exact hkeep a c e (h3 a c (hac.resolve_right e))
theorem cfill0_is {w0 w : World} {R : List (Int × List Int)} {tk : List Int} {t N b O : Nat} {Bs : Nat → Nat} (h : ChartIs w0 R tk N b O Bs (fun _ _ => False) w) (hN : N ≤ 60) (ht : t ≤ 60) (hn : tk.length ≤ 40) (hRI : RulesIn t N R) :
    Calls Tryd.prog 43 #[.pointer (some ⟨b, 0, none⟩)] w fun e w' => e = .returned (.tuple #[]) ∧ ChartIs w0 R tk N b O Bs (fun a c => a = c ∧ a ≤ tk.length) w' := by
  have hhead : w.cell? ⟨b, 5, none⟩ = some (.slice (some ⟨O, 0, none⟩) (tk.length + 1) (tk.length + 1)) := by obtain ⟨Tn, h1, _⟩ := h; exact h1.head
  have H := Lib.hid h
  have HRI := Lib.hid hRI
  clear h hRI
  go_enter Tryd.func43, Tryd.ntmps43
  go_wp2
  go_loopw [8] (fun x wr => ∃ k : Nat, k ≤ tk.length + 1 ∧ x = .int .i64 k ∧ Aside0 (ChartIs w0 R tk N b O Bs (fun a c => a = c ∧ a < k) wr)) (fun x _ => tk.length + 1 - (intOf x).toNat)
  case atStart => exact ⟨0, by omega, rfl, ⟨H.out.imp (fun a c h => by omega)⟩⟩
  case round =>
    obtain ⟨k, hk, rfl, HC⟩ := hrel
    by_cases hlt : k < tk.length + 1
    · have HCall := Lib.hid (cfill_is HC.out hN ht hn HRI.out k k (Nat.le_refl _) (by omega) (fun i' j' h1 h2 h3 h4 => by omega))
      go_wp2_with (go_at_call 44; refine HCall.out.mono ?_; rintro e w2 ⟨rfl, hc2⟩; have HC2 := Aside0.mk hc2; clear hc2)
      go_roundw
      case rel => exact ⟨k + 1, by omega, by go_num, ⟨HC2.out.imp (fun a c h => by omega)⟩⟩
      case measure => simp [intOf]; omega
    · go_wp2
      go_end0
      exact ⟨rfl, HC.out.imp (fun a c h => by omega)⟩
/-- A chart that is being made. -/
structure PreChart (w0 : World) (R : List (Int × List Int)) (tk : List Int) (b O : Nat) (Bs : Nat → Nat) (k : Nat) (w : World) : Prop where
  bel : Below w0.heap.size w0 w
  rules : ∃ AR cR, R.length ≤ cR ∧ KRule.C w0 AR R.length R ∧ w.cell? ⟨b, 3, none⟩ = some (.slice AR R.length cR)
  toks : ∃ At ct, tk.length ≤ ct ∧ Kd.C (Kd.int .i64) w0 At tk.length tk ∧ w.cell? ⟨b, 4, none⟩ = some (.slice At tk.length ct)
  head : w.cell? ⟨b, 5, none⟩ = some (.slice (some ⟨O, 0, none⟩) (tk.length + 1) (tk.length + 1))
  out : Row w O (tk.length + 1) (fun i => if i < k then .slice (some ⟨Bs i, 0, none⟩) (tk.length - i + 1) (tk.length - i + 1) else .slice none 0 0)
  inn : ∀ i, i < k → Row w (Bs i) (tk.length - i + 1) (fun _ => .int .u64 0)
  hb : w0.heap.size ≤ b
  hO : w0.heap.size ≤ O ∧ O ≠ b
  hB : ∀ i, i < k → w0.heap.size ≤ Bs i ∧ Bs i ≠ b ∧ Bs i ≠ O
  inj : ∀ i j, i < k → j < k → Bs i = Bs j → i = j
theorem PreChart.below {w0 w w' : World} {R : List (Int × List Int)} {tk : List Int} {b O k : Nat} {Bs : Nat → Nat} (h : PreChart w0 R tk b O Bs k w) (hb : Below w.heap.size w w') : PreChart w0 R tk b O Bs k w' := by
  have hlt : b < w.heap.size := World.block_lt_of_cell? w _ h.head
  obtain ⟨AR, cR, q1, q2, q3⟩ := h.rules
  obtain ⟨At, ct, p1, p2, p3⟩ := h.toks
  exact ⟨below_next h.bel hb, ⟨AR, cR, q1, q2, (hb.cell hlt).trans q3⟩, ⟨At, ct, p1, p2, (hb.cell hlt).trans p3⟩, (hb.cell hlt).trans h.head, h.out.below hb, fun i hi => (h.inn i hi).below hb, h.hb, h.hO, h.hB, h.inj⟩
theorem PreChart.step {w0 w : World} {R : List (Int × List Int)} {tk : List Int} {b O k : Nat} {Bs : Nat → Nat} (h : PreChart w0 R tk b O Bs k w) (hk : k ≤ tk.length) (e : TypeId) :
    PreChart w0 R tk b O (fun i => if i = k then w.heap.size else Bs i) (k + 1) ((w.alloc (.cells (madeCells #[.int .u64 0] (tk.length - k + 1)) e)).setCell ⟨O, k, none⟩ (.slice (some ⟨w.heap.size, 0, none⟩) (tk.length - k + 1) (tk.length - k + 1))) := by
  have hba := below_alloc (Below.refl w.heap.size w) (.cells (madeCells #[.int .u64 0] (tk.length - k + 1)) e)
  have h1 := h.below hba
  have hmade := Row.made w (.int .u64 0) (tk.length - k + 1) e
  have hOlt : O < w.heap.size := h.out.lt
  have hblt : b < w.heap.size := World.block_lt_of_cell? w _ h.head
  have hs0 : w0.heap.size ≤ w.heap.size := h.bel.size
  generalize w.alloc (.cells (madeCells #[.int .u64 0] (tk.length - k + 1)) e) = W at *
  obtain ⟨AR, cR, q1, q2, q3⟩ := h1.rules
  obtain ⟨At, ct, p1, p2, p3⟩ := h1.toks
  have hc : ∀ n v u, W.cell? ⟨b, n, none⟩ = some v → (W.setCell ⟨O, k, none⟩ u).cell? ⟨b, n, none⟩ = some v := fun n v u hv => (World.cell?_setCell_other W _ _ _ (fun e => h.hO.2 (by injection e))).trans hv
  refine ⟨h1.bel.setCell h.hO.1 _, ⟨AR, cR, q1, q2, hc _ _ _ q3⟩, ⟨At, ct, p1, p2, hc _ _ _ p3⟩, hc _ _ _ h1.head, ?_, ?_, h.hb, h.hO, ?_, ?_⟩
  · refine (h1.out.set k (by omega) _).ext (fun q hq => ?_)
    by_cases e : q = k
    · subst e; simp
    · have : q < k + 1 ↔ q < k := by omega
      simp [e, this]
  · intro i hi
    by_cases e : i = k
    · subst e
      simp only [if_true]
      exact hmade.far ⟨O, i, none⟩ (by show O ≠ _; omega) _
    · simp only [e, if_false]
      exact (h1.inn i (by omega)).far ⟨O, k, none⟩ (fun q => (h.hB i (by omega)).2.2 q.symm) _
  · intro i hi
    by_cases e : i = k
    · subst e
      simp only [if_true]
      exact ⟨hs0, by omega, by omega⟩
    · simp only [e, if_false]
      exact h.hB i (by omega)
  · intro i j hi hj hij
    have hlt : ∀ i, i < k → Bs i < w.heap.size := fun i hi => (h.inn i hi).lt
    by_cases e : i = k
    · by_cases e2 : j = k
      · omega
      · have := hlt j (by omega)
        subst e
        simp only [if_true, e2, if_false] at hij
        omega
    · by_cases e2 : j = k
      · have := hlt i (by omega)
        subst e2
        simp only [if_true, e, if_false] at hij
        omega
      · simp only [e, e2, if_false] at hij
        exact h.inj i j (by omega) (by omega) hij
theorem PreChart.done {w0 w : World} {R : List (Int × List Int)} {tk : List Int} {b O : Nat} {Bs : Nat → Nat} (h : PreChart w0 R tk b O Bs (tk.length + 1) w) (N : Nat) : ChartIs w0 R tk N b O Bs (fun _ _ => False) w := by
  refine ⟨fun _ _ => 0, ⟨h.bel, h.rules, h.toks, h.head, ?_, ?_, ?_, h.hb, h.hO, fun i hi => h.hB i (by omega), fun i j hi hj => h.inj i j (by omega) (by omega)⟩, ?_, fun a c h => h.elim⟩
  · exact h.out.ext (fun q hq => by rw [if_pos hq])
  · exact fun i hi => h.inn i (by omega)
  · exact fun _ _ => Nat.two_pow_pos N
  · intro i j k _ _ _ hT
    simp [tabOf, hasN] at hT
set_option maxHeartbeats 1600000 in
set_option maxRecDepth 100000 in
theorem charted_calls (v : Value) (g : Gr) (At : Option Addr) (ct : Nat) (tk : List Int) (w : World) (A : Nat → Addr) (hE : Errs w A) (hv : GramAt w v g) (hlc : tk.length ≤ ct) (hr : Kd.C (Kd.int .i64) w At tk.length tk) (hok : (mayN g tk).1 = 0) :
    Calls Tryd.prog 32 #[v, .slice At tk.length ct] w fun e w' => ∃ b O Bs, e = .returned (.tuple #[.pointer (some ⟨b, 0, none⟩), .nilIface]) ∧ ChartIs w g.rules tk g.nonterms.length b O Bs (fun a c => a ≤ c ∧ c ≤ tk.length) w' := by
  have HV := Lib.hid hv
  obtain ⟨AT, cT, AN, cN, AR, cR, rfl, q1, q2, q3, q4, q5, q6⟩ := hv
  have hok2 : (checkN g).1 = 0 ∧ tk.length ≤ 40 := by
    unfold mayN at hok
    split at hok
    · rename_i h; exact absurd hok h
    · rename_i h
      split at hok
      · cases hok
      · exact ⟨by omega, by omega⟩
  obtain ⟨hc0, hn⟩ := hok2
  obtain ⟨z1, z2, z3, z4, z5, z6, z7⟩ := checkN_zero hc0
  have HZ : Hid (RulesIn g.terms.length g.nonterms.length g.rules) := Lib.hid z7
  clear z3 z4 z7 hc0
  have hlen := hr.2.1
  obtain ⟨w1, hw1⟩ : ∃ w1, w.alloc (.cells #[.slice AT g.terms.length cT, .slice AN g.nonterms.length cN, .int .i64 g.ax, .slice AR g.rules.length cR] 25) = w1 := ⟨_, rfl⟩
  have hb1 : Below w.heap.size w w1 := by rw [← hw1]; exact below_alloc (Below.refl _ _) _
  have hk1 : w1.heap[w.heap.size]? = some (.cells #[.slice AT g.terms.length cT, .slice AN g.nonterms.length cN, .int .i64 g.ax, .slice AR g.rules.length cR] 25 (0, 0)) := by rw [← hw1]; exact heap_alloc_new w _
  obtain ⟨c0, c1, c2, c3⟩ := blk_cells2 hk1
  have HB1 := Lib.hid hb1
  have HK1 := Lib.hid hk1
  have HM := Lib.hid (may_calls _ g At ct tk w1 A (hE.below hb1) (HV.out.below hb1) hlc (Kd.C_below hr hb1))
  have HR := Lib.hid q6
  have HT := Lib.hid hr
  have HOK := Lib.hid hok
  clear hb1 hk1 hE q4 q5 q6 hr hok
  obtain ⟨m, hm⟩ : ∃ m : Nat, m = tk.length + 1 := ⟨_, rfl⟩
  have hmI : ((tk.length : Int) + 1) = (m : Int) := by omega
  have hmk : ∀ W : World, (Instr.makeSlice 29 (.int .i64 ((m : Nat) : Int)) (.int .i64 ((m : Nat) : Int))).run Tryd.prog W = .ok (.slice (some ⟨W.heap.size, 0, none⟩) m m) (W.alloc (.cells (madeCells #[.slice none 0 0] m) 40)) :=
    print_make_of (P := Tryd.prog) 29 40 (.slice none 0 0) 24 rfl (by kernel_rfl) rfl (by decide) m (by omega)
  go_enter Tryd.func32, Tryd.ntmps32
  go_wp2_with (go_at_call 42; refine HM.out.mono ?_; rintro e w2 ⟨u, rfl, hu, hb2⟩; have HB2 := Lib.hid hb2; have HK2 := Lib.hid (gblk_keep' HK1.out hb2); obtain rfl := hu.nil_of HOK.out; obtain ⟨d0, d1, d2, d3⟩ := blk_cells2 HK2.out; clear hu hb2)
  have hwr : IntKind.i64.wrap ((tk.length : Int) + 1) = (m : Int) := by rw [Go.IntWalk.i64_in _ (by omega)]; omega
  have hlt2 : w.heap.size < w2.heap.size := World.block_lt_of_cell? w2 _ d0
  have e0 := (World.cell?_alloc_lt w2 (.cells (madeCells #[.slice none 0 0] m) 40) ⟨w.heap.size, 0, none⟩ hlt2).trans d0
  have e1 := (World.cell?_alloc_lt w2 (.cells (madeCells #[.slice none 0 0] m) 40) ⟨w.heap.size, 1, none⟩ hlt2).trans d1
  have e2 := (World.cell?_alloc_lt w2 (.cells (madeCells #[.slice none 0 0] m) 40) ⟨w.heap.size, 2, none⟩ hlt2).trans d2
  have e3 := (World.cell?_alloc_lt w2 (.cells (madeCells #[.slice none 0 0] m) 40) ⟨w.heap.size, 3, none⟩ hlt2).trans d3
  have HMm := Lib.hid hm
  clear hmI hm
  go_region
  obtain ⟨w3, hw3⟩ : ∃ w3, ((w2.alloc (.cells (madeCells #[.slice none 0 0] m) 40)).alloc (.cells #[.slice AT g.terms.length cT, .slice AN g.nonterms.length cN, .int .i64 g.ax, .slice AR g.rules.length cR, .slice At tk.length ct, .slice (some ⟨w2.heap.size, 0, none⟩) m m] 69)).drew = w3 := ⟨_, rfl⟩
  have HP : Aside0 (PreChart w g.rules tk (w2.heap.size + 1) w2.heap.size (fun _ => 0) 0 w3) := by
    have hbA := below_alloc (Below.refl w2.heap.size w2) (.cells (madeCells #[.slice none 0 0] m) 40)
    have hRow := Row.made w2 (.slice none 0 0) m 40
    have hB2 : Below w.heap.size w w2 := below_next HB1.out HB2.out
    have hsz : (w2.alloc (.cells (madeCells #[.slice none 0 0] m) 40)).heap.size = w2.heap.size + 1 := World.size_alloc _ _
    generalize w2.alloc (.cells (madeCells #[.slice none 0 0] m) 40) = W at *
    have hbB := below_alloc (Below.refl W.heap.size W) (.cells #[.slice AT g.terms.length cT, .slice AN g.nonterms.length cN, .int .i64 g.ax, .slice AR g.rules.length cR, .slice At tk.length ct, .slice (some ⟨w2.heap.size, 0, none⟩) m m] 69)
    have hcell : ∀ i, (W.alloc (.cells #[.slice AT g.terms.length cT, .slice AN g.nonterms.length cN, .int .i64 g.ax, .slice AR g.rules.length cR, .slice At tk.length ct, .slice (some ⟨w2.heap.size, 0, none⟩) m m] 69)).cell? ⟨w2.heap.size + 1, i, none⟩ = (#[.slice AT g.terms.length cT, .slice AN g.nonterms.length cN, .int .i64 g.ax, .slice AR g.rules.length cR, .slice At tk.length ct, .slice (some ⟨w2.heap.size, 0, none⟩) m m] : Array Value)[i]? := fun i => by rw [← hsz]; exact World.cell?_alloc_new _ _ _ _
    rw [← hw3]
    have hmm := HMm.out
    have hz := HB1.out.size
    have hz2 := HB2.out.size
    refine ⟨((below_next hB2 hbA).trans (hbB.mono (by have := hB2.size; omega))).drew, ⟨AR, cR, q3, HR.out, hcell 3⟩, ⟨At, ct, hlc, HT.out, hcell 4⟩, by rw [← hmm]; exact hcell 5, ?_, fun i hi => by omega, by omega, ⟨by omega, by omega⟩, fun i hi => by omega, fun i j hi => by omega⟩
    rw [← hmm]
    exact (hRow.below hbB).drewN 1
  rw [hw3]
  clear hw3 e0 e1 e2 e3 d0 d1 d2 d3 hwr
  obtain ⟨b, hbb⟩ : ∃ b, w2.heap.size + 1 = b := ⟨_, rfl⟩
  obtain ⟨O, hOO⟩ : ∃ O, w2.heap.size = O := ⟨_, rfl⟩
  rw [hbb, hOO] at HP ⊢
  clear hbb hOO
  have hhead := HP.out.head
  have hmm := HMm.out
  rw [← hmm] at hhead
  clear hmm
  go_wp2
  go_loopw [32] (fun x wr => ∃ (k : Nat) (Bs : Nat → Nat), k ≤ m ∧ x = .int .i64 k ∧ Aside0 (PreChart w g.rules tk b O Bs k wr)) (fun x _ => m - (intOf x).toNat)
  case atStart => exact ⟨0, fun _ => 0, by omega, rfl, HP⟩
  case round =>
    obtain ⟨k, Bs, hk, rfl, HQ⟩ := hrel
    obtain ⟨wo, rfl⟩ : ∃ wo : World, wo = wr := ⟨_, rfl⟩
    have hmm := HMm.out
    by_cases hlt : k < m
    · obtain ⟨d, hd⟩ : ∃ d : Nat, d = tk.length - k := ⟨_, rfl⟩
      obtain ⟨m1, hm1⟩ : ∃ m1 : Nat, m1 = d + 1 := ⟨_, rfl⟩
      have hmk2 : ∀ W : World, (Instr.makeSlice 40 (.int .i64 ((m1 : Nat) : Int)) (.int .i64 ((m1 : Nat) : Int))).run Tryd.prog W = .ok (.slice (some ⟨W.heap.size, 0, none⟩) m1 m1) (W.alloc (.cells (madeCells #[.int .u64 0] m1) 57)) :=
        print_make_of (P := Tryd.prog) 40 57 (.int .u64 0) 8 rfl infoSet rfl (by decide) m1 (by omega)
      have x1 : IntKind.i64.wrap ((tk.length : Int) - k) = (d : Int) := by rw [Go.IntWalk.i64_in _ (by omega)]; omega
      have x2 : IntKind.i64.wrap ((d : Int) + 1) = (m1 : Int) := by rw [Go.IntWalk.i64_in _ (by omega)]; omega
      have x3 : (0 : Int) ≤ (k : Int) := by omega
      have x4 : (k : Int) < (m : Int) := by omega
      have HD := Lib.hid (show d + 1 = tk.length - k + 1 ∧ m1 = d + 1 by omega)
      have HKle := Lib.hid (show k ≤ tk.length by omega)
      have y1 := HQ.out.head
      have y2 := HQ.out.out.cell k (by omega)
      have y3 := HQ.out.out.free k
      rw [if_neg (by omega)] at y2
      rw [← hmm] at y1
      have hblt : b < wo.heap.size := World.block_lt_of_cell? wo _ y1
      have hOlt : O < wo.heap.size := HQ.out.out.lt
      have v1 := (World.cell?_alloc_lt wo (.cells (madeCells #[.int .u64 0] m1) 57) ⟨b, 5, none⟩ hblt).trans y1
      have v2 := (World.cell?_alloc_lt wo (.cells (madeCells #[.int .u64 0] m1) 57) ⟨O, k, none⟩ hOlt).trans y2
      have v3 := (World.frozen?_alloc_old wo (.cells (madeCells #[.int .u64 0] m1) 57) ⟨O, k, none⟩ (Nat.ne_of_lt hOlt)).trans y3
      have hm41 : m ≤ 41 := by omega
      clear hd hm1 hmm hblt hOlt
      go_wp2_with fail
      go_region
      go_wp2
      go_roundw
      case rel =>
        refine ⟨k + 1, fun i => if i = k then wo.heap.size else Bs i, by omega, by go_num, ⟨?_⟩⟩
        · have h := (HQ.out.step HKle.out 57).below (w' := World.drew _) (pw_below_drewN (Below.refl _ _) 1)
          rw [← HD.out.1, ← HD.out.2] at h
          exact h
      case measure => simp [intOf]; omega
    · obtain rfl : k = m := by omega
      have HC0 := Lib.hid (show ChartIs w g.rules tk g.nonterms.length b O Bs (fun _ _ => False) wo from PreChart.done (by rw [← hmm]; exact HQ.out) _)
      have HF0 := Lib.hid (cfill0_is HC0.out (t := g.terms.length) (by omega) (by omega) hn HZ.out)
      clear hmm hmk
      go_wp2_with (go_at_call 43; refine HF0.out.mono ?_; rintro e w4 ⟨rfl, hc4⟩; have HC4 := Aside0.mk hc4; clear hc4)
      go_loopw [10] (fun x wr => ∃ l : Nat, 1 ≤ l ∧ l ≤ tk.length + 1 ∧ x = .int .i64 l ∧ Aside0 (ChartIs w g.rules tk g.nonterms.length b O Bs (fun a c => a ≤ c ∧ c ≤ tk.length ∧ c - a < l) wr)) (fun x _ => tk.length + 1 - (intOf x).toNat)
      case atStart => exact ⟨1, by omega, by omega, rfl, ⟨HC4.out.imp (fun a c h => by omega)⟩⟩
      case round =>
        obtain ⟨l, hl1, hl2, rfl, HC5⟩ := hrel
        obtain ⟨w5, rfl⟩ : ∃ w5 : World, w5 = wr := ⟨_, rfl⟩
        by_cases hll : l ≤ tk.length
        · go_wp2
          go_loopw [11] (fun x wr => ∃ i : Nat, i + l ≤ tk.length + 1 ∧ x = .int .i64 i ∧ Aside0 (ChartIs w g.rules tk g.nonterms.length b O Bs (fun a c => a ≤ c ∧ c ≤ tk.length ∧ (c - a < l ∨ c - a = l ∧ a < i)) wr)) (fun x _ => tk.length + 1 - (intOf x).toNat)
          case atStart => exact ⟨0, by omega, rfl, ⟨HC5.out.imp (fun a c h => by omega)⟩⟩
          case round =>
            obtain ⟨i, hi, rfl, HC6⟩ := hrel
            by_cases hil : i + l ≤ tk.length
            · have HF := Lib.hid (show Calls Tryd.prog 44 #[.pointer (some ⟨b, 0, none⟩), .int .i64 i, .int .i64 ((i : Int) + l)] wr _ by
                have h := cfill_is HC6.out (t := g.terms.length) (by omega) (by omega) hn HZ.out i (i + l) (by omega) hil (fun i' j' h1 h2 h3 h4 => by omega)
                rw [Int.natCast_add] at h
                exact h)
              go_wp2_with (go_at_call 44; refine HF.out.mono ?_; rintro e w7 ⟨rfl, hc7⟩; have HC7 := Aside0.mk hc7; clear hc7)
              go_roundw
              case rel => exact ⟨i + 1, by omega, by go_num, ⟨HC7.out.imp (fun a c h => by omega)⟩⟩
              case measure => simp [intOf]; omega
            · go_wp2
              go_roundw
              case rel => exact ⟨l + 1, by omega, by omega, by go_num, ⟨HC6.out.imp (fun a c h => by omega)⟩⟩
              case measure => simp [intOf]; omega
        · go_wp2
          go_ret2
          exact ⟨b, O, Bs, rfl, HC5.out.imp (fun a c h => by omega)⟩
end Go.Proofs.YtndimnomkcjeiaaDoor.Hand
