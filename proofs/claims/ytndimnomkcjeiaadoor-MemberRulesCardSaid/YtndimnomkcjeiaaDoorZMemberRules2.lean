/- The texts that the statement's proof stands on, part 2: XMemD XMemE XSB XUseMath XCuts XSmall XMapN XCntMath XCntKey XRepeat XCntA XCntS XCntM XCntD. -/
import Derived.Test.YtndimnomkcjeiaaDoorZMemberRules1
import Derived.Deep.Slices
import Derived.Maps.OwnSet
import Derived.DeepKeys4
import Derived.Shelf.Bits.Mul64
import Derived.Laws.CopyOwn
import Derived.StillTailTactics
import Derived.Laws.Externs
import Derived.Deep.RegionHeld3
/- Contracts of package member: fill0, charted. -/
namespace Go.Proofs.YtndimnomkcjeiaaDoor.Hand
open Go.RowKit Go.Proofs.YtndimnomkcjeiaaDoorW.PrintWords Go.Proofs.YtndimnomkcjeiaaDoorW.PrintMore Go.Proofs.YtndimnomkcjeiaaDoor.Math

def ChartIs (w0 : World) (R : List (Int × List Int)) (tk : List Int) (N b O : Nat) (Bs : Nat → Nat) (P : Nat → Nat → Prop) (w : World) : Prop :=
  ∃ Tn, Chart w0 R tk N b O Bs Tn w ∧ Sound R tk tk.length N (tabOf Tn) ∧ ∀ a c, P a c → Full1 R tk N (tabOf Tn) a c
theorem ChartIs.imp {w0 w : World} {R : List (Int × List Int)} {tk : List Int} {N b O : Nat} {Bs : Nat → Nat} {P P' : Nat → Nat → Prop} (h : ChartIs w0 R tk N b O Bs P w) (hp : ∀ a c, P' a c → P a c) : ChartIs w0 R tk N b O Bs P' w := by
  obtain ⟨Tn, h1, h2, h3⟩ := h
  exact ⟨Tn, h1, h2, fun a c h => h3 a c (hp a c h)⟩
theorem cfill_is {w0 w : World} {R : List (Int × List Int)} {tk : List Int} {t N b O : Nat} {Bs : Nat → Nat} {P : Nat → Nat → Prop} (h : ChartIs w0 R tk N b O Bs P w) (hN : N ≤ 60) (ht : t ≤ 60) (hn : tk.length ≤ 40) (hRI : RulesIn t N R) (i j : Nat) (hij : i ≤ j) (hj : j ≤ tk.length)
    (hP : ∀ i' j', i ≤ i' → i' ≤ j' → j' ≤ j → ¬ (i' = i ∧ j' = j) → P i' j') :
    Calls Tryd.prog 44 #[.pointer (some ⟨b, 0, none⟩), .int .i64 i, .int .i64 j] w fun e w' => e = .returned (.tuple #[]) ∧ ChartIs w0 R tk N b O Bs (fun a c => P a c ∨ (a = i ∧ c = j)) w' := by
  obtain ⟨Tn, h1, h2, h3⟩ := h
  refine (cfill_calls h1 hN ht hn hRI i j hij hj h2).mono ?_
  rintro e w' ⟨rfl, Tn', k1, k2, k3, k4⟩
  have hkeep : ∀ a c, ¬ (a = i ∧ c = j) → Full1 R tk N (tabOf Tn) a c → Full1 R tk N (tabOf Tn') a c := by
    intro a c hne hf k hk hd
    have := hf k hk hd
    unfold tabOf at this ⊢
    rwa [k3 a c hne]
  refine ⟨rfl, Tn', k1, k2, ?_⟩
  intro a c hac
  by_cases e : a = i ∧ c = j
  · obtain ⟨rfl, rfl⟩ := e
    exact fixed_full hj (fun r hr => hRI.left hr) (fun i' j' q1 q2 q3 q4 => hkeep i' j' q4 (h3 i' j' (hP i' j' q1 q2 q3 q4))) k4
  · exact hkeep a c e (h3 a c (hac.resolve_right e))
theorem cfill0_is {w0 w : World} {R : List (Int × List Int)} {tk : List Int} {t N b O : Nat} {Bs : Nat → Nat} (h : ChartIs w0 R tk N b O Bs (fun _ _ => False) w) (hN : N ≤ 60) (ht : t ≤ 60) (hn : tk.length ≤ 40) (hRI : RulesIn t N R) :
    Calls Tryd.prog 43 #[.pointer (some ⟨b, 0, none⟩)] w fun e w' => e = .returned (.tuple #[]) ∧ ChartIs w0 R tk N b O Bs (fun a c => a = c ∧ a ≤ tk.length) w' := by
  have hhead : w.cell? ⟨b, 5, none⟩ = some (.slice (some ⟨O, 0, none⟩) (tk.length + 1) (tk.length + 1)) := by obtain ⟨Tn, h1, _⟩ := h; exact h1.head
  have H := Lib.hid h
  have HRI := Lib.hid hRI
  clear h hRI
  go_enter Tryd.func43, Tryd.ntmps43
  go_wp2
  go_loopw [8] (fun x wr => ∃ k : Nat, k ≤ tk.length + 1 ∧ x = .int .i64 k ∧ Aside0 (ChartIs w0 R tk N b O Bs (fun a c => a = c ∧ a < k) wr)) (fun x _ => tk.length + 1 - (intOf x).toNat)
  case atStart => exact ⟨0, by omega, rfl, ⟨H.out.imp (fun a c h => by omega)⟩⟩
  case round =>
    obtain ⟨k, hk, rfl, HC⟩ := hrel
    by_cases hlt : k < tk.length + 1
    · have HCall := Lib.hid (cfill_is HC.out hN ht hn HRI.out k k (Nat.le_refl _) (by omega) (fun i' j' h1 h2 h3 h4 => by omega))
      go_wp2_with (go_at_call 44; refine HCall.out.mono ?_; rintro e w2 ⟨rfl, hc2⟩; have HC2 := Aside0.mk hc2; clear hc2)
      go_roundw
      case rel => exact ⟨k + 1, by omega, by go_num, ⟨HC2.out.imp (fun a c h => by omega)⟩⟩
      case measure => simp [intOf]; omega
    · go_wp2
      go_end0
      exact ⟨rfl, HC.out.imp (fun a c h => by omega)⟩
/-- A chart that is being made. -/
structure PreChart (w0 : World) (R : List (Int × List Int)) (tk : List Int) (b O : Nat) (Bs : Nat → Nat) (k : Nat) (w : World) : Prop where
  bel : Below w0.heap.size w0 w
  rules : ∃ AR cR, R.length ≤ cR ∧ KRule.C w0 AR R.length R ∧ w.cell? ⟨b, 3, none⟩ = some (.slice AR R.length cR)
  toks : ∃ At ct, tk.length ≤ ct ∧ Kd.C (Kd.int .i64) w0 At tk.length tk ∧ w.cell? ⟨b, 4, none⟩ = some (.slice At tk.length ct)
  head : w.cell? ⟨b, 5, none⟩ = some (.slice (some ⟨O, 0, none⟩) (tk.length + 1) (tk.length + 1))
  out : Row w O (tk.length + 1) (fun i => if i < k then .slice (some ⟨Bs i, 0, none⟩) (tk.length - i + 1) (tk.length - i + 1) else .slice none 0 0)
  inn : ∀ i, i < k → Row w (Bs i) (tk.length - i + 1) (fun _ => .int .u64 0)
  hb : w0.heap.size ≤ b
  hO : w0.heap.size ≤ O ∧ O ≠ b
  hB : ∀ i, i < k → w0.heap.size ≤ Bs i ∧ Bs i ≠ b ∧ Bs i ≠ O
  inj : ∀ i j, i < k → j < k → Bs i = Bs j → i = j
theorem PreChart.below {w0 w w' : World} {R : List (Int × List Int)} {tk : List Int} {b O k : Nat} {Bs : Nat → Nat} (h : PreChart w0 R tk b O Bs k w) (hb : Below w.heap.size w w') : PreChart w0 R tk b O Bs k w' := by
  have hlt : b < w.heap.size := World.block_lt_of_cell? w _ h.head
  obtain ⟨AR, cR, q1, q2, q3⟩ := h.rules
  obtain ⟨At, ct, p1, p2, p3⟩ := h.toks
  exact ⟨below_next h.bel hb, ⟨AR, cR, q1, q2, (hb.cell hlt).trans q3⟩, ⟨At, ct, p1, p2, (hb.cell hlt).trans p3⟩, (hb.cell hlt).trans h.head, h.out.below hb, fun i hi => (h.inn i hi).below hb, h.hb, h.hO, h.hB, h.inj⟩
theorem PreChart.step {w0 w : World} {R : List (Int × List Int)} {tk : List Int} {b O k : Nat} {Bs : Nat → Nat} (h : PreChart w0 R tk b O Bs k w) (hk : k ≤ tk.length) (e : TypeId) :
    PreChart w0 R tk b O (fun i => if i = k then w.heap.size else Bs i) (k + 1) ((w.alloc (.cells (madeCells #[.int .u64 0] (tk.length - k + 1)) e)).setCell ⟨O, k, none⟩ (.slice (some ⟨w.heap.size, 0, none⟩) (tk.length - k + 1) (tk.length - k + 1))) := by
  have hba := below_alloc (Below.refl w.heap.size w) (.cells (madeCells #[.int .u64 0] (tk.length - k + 1)) e)
  have h1 := h.below hba
  have hmade := Row.made w (.int .u64 0) (tk.length - k + 1) e
  have hOlt : O < w.heap.size := h.out.lt
  have hblt : b < w.heap.size := World.block_lt_of_cell? w _ h.head
  have hs0 : w0.heap.size ≤ w.heap.size := h.bel.size
  generalize w.alloc (.cells (madeCells #[.int .u64 0] (tk.length - k + 1)) e) = W at *
  obtain ⟨AR, cR, q1, q2, q3⟩ := h1.rules
  obtain ⟨At, ct, p1, p2, p3⟩ := h1.toks
  have hc : ∀ n v u, W.cell? ⟨b, n, none⟩ = some v → (W.setCell ⟨O, k, none⟩ u).cell? ⟨b, n, none⟩ = some v := fun n v u hv => (World.cell?_setCell_other W _ _ _ (fun e => h.hO.2 (by injection e))).trans hv
  refine ⟨h1.bel.setCell h.hO.1 _, ⟨AR, cR, q1, q2, hc _ _ _ q3⟩, ⟨At, ct, p1, p2, hc _ _ _ p3⟩, hc _ _ _ h1.head, ?_, ?_, h.hb, h.hO, ?_, ?_⟩
  · refine (h1.out.set k (by omega) _).ext (fun q hq => ?_)
    by_cases e : q = k
    · subst e; simp
    · have : q < k + 1 ↔ q < k := by omega
      simp [e, this]
  · intro i hi
    by_cases e : i = k
    · subst e
      simp only [if_true]
      exact hmade.far ⟨O, i, none⟩ (by show O ≠ _; omega) _
    · simp only [e, if_false]
      exact (h1.inn i (by omega)).far ⟨O, k, none⟩ (fun q => (h.hB i (by omega)).2.2 q.symm) _
  · intro i hi
    by_cases e : i = k
    · subst e
      simp only [if_true]
      exact ⟨hs0, by omega, by omega⟩
    · simp only [e, if_false]
      exact h.hB i (by omega)
  · intro i j hi hj hij
    have hlt : ∀ i, i < k → Bs i < w.heap.size := fun i hi => (h.inn i hi).lt
    by_cases e : i = k
    · by_cases e2 : j = k
      · omega
      · have := hlt j (by omega)
        subst e
        simp only [if_true, e2, if_false] at hij
        omega
    · by_cases e2 : j = k
      · have := hlt i (by omega)
        subst e2
        simp only [if_true, e, if_false] at hij
        omega
      · simp only [e, e2, if_false] at hij
        exact h.inj i j (by omega) (by omega) hij
theorem PreChart.done {w0 w : World} {R : List (Int × List Int)} {tk : List Int} {b O : Nat} {Bs : Nat → Nat} (h : PreChart w0 R tk b O Bs (tk.length + 1) w) (N : Nat) : ChartIs w0 R tk N b O Bs (fun _ _ => False) w := by
  refine ⟨fun _ _ => 0, ⟨h.bel, h.rules, h.toks, h.head, ?_, ?_, ?_, h.hb, h.hO, fun i hi => h.hB i (by omega), fun i j hi hj => h.inj i j (by omega) (by omega)⟩, ?_, fun a c h => h.elim⟩
  · exact h.out.ext (fun q hq => by rw [if_pos hq])
  · exact fun i hi => h.inn i (by omega)
  · exact fun _ _ => Nat.two_pow_pos N
  · intro i j k _ _ _ hT
    simp [tabOf, hasN] at hT
set_option maxHeartbeats 1600000 in
set_option maxRecDepth 100000 in
theorem charted_calls (v : Value) (g : Gr) (At : Option Addr) (ct : Nat) (tk : List Int) (w : World) (A : Nat → Addr) (hE : Errs w A) (hv : GramAt w v g) (hlc : tk.length ≤ ct) (hr : Kd.C (Kd.int .i64) w At tk.length tk) (hok : (mayN g tk).1 = 0) :
    Calls Tryd.prog 32 #[v, .slice At tk.length ct] w fun e w' => ∃ b O Bs, e = .returned (.tuple #[.pointer (some ⟨b, 0, none⟩), .nilIface]) ∧ ChartIs w g.rules tk g.nonterms.length b O Bs (fun a c => a ≤ c ∧ c ≤ tk.length) w' := by
  have HV := Lib.hid hv
  obtain ⟨AT, cT, AN, cN, AR, cR, rfl, q1, q2, q3, q4, q5, q6⟩ := hv
  have hok2 : (checkN g).1 = 0 ∧ tk.length ≤ 40 := by
    unfold mayN at hok
    split at hok
    · rename_i h; exact absurd hok h
    · rename_i h
      split at hok
      · cases hok
      · exact ⟨by omega, by omega⟩
  obtain ⟨hc0, hn⟩ := hok2
  obtain ⟨z1, z2, z3, z4, z5, z6, z7⟩ := checkN_zero hc0
  have HZ : Hid (RulesIn g.terms.length g.nonterms.length g.rules) := Lib.hid z7
  clear z3 z4 z7 hc0
  have hlen := hr.2.1
  obtain ⟨w1, hw1⟩ : ∃ w1, w.alloc (.cells #[.slice AT g.terms.length cT, .slice AN g.nonterms.length cN, .int .i64 g.ax, .slice AR g.rules.length cR] 25) = w1 := ⟨_, rfl⟩
  have hb1 : Below w.heap.size w w1 := by rw [← hw1]; exact below_alloc (Below.refl _ _) _
  have hk1 : w1.heap[w.heap.size]? = some (.cells #[.slice AT g.terms.length cT, .slice AN g.nonterms.length cN, .int .i64 g.ax, .slice AR g.rules.length cR] 25 (0, 0)) := by rw [← hw1]; exact heap_alloc_new w _
  obtain ⟨c0, c1, c2, c3⟩ := blk_cells2 hk1
  have HB1 := Lib.hid hb1
  have HK1 := Lib.hid hk1
  have HM := Lib.hid (may_calls _ g At ct tk w1 A (hE.below hb1) (HV.out.below hb1) hlc (Kd.C_below hr hb1))
  have HR := Lib.hid q6
  have HT := Lib.hid hr
  have HOK := Lib.hid hok
  clear hb1 hk1 hE q4 q5 q6 hr hok
  obtain ⟨m, hm⟩ : ∃ m : Nat, m = tk.length + 1 := ⟨_, rfl⟩
  have hmI : ((tk.length : Int) + 1) = (m : Int) := by omega
  have hmk : ∀ W : World, (Instr.makeSlice 29 (.int .i64 ((m : Nat) : Int)) (.int .i64 ((m : Nat) : Int))).run Tryd.prog W = .ok (.slice (some ⟨W.heap.size, 0, none⟩) m m) (W.alloc (.cells (madeCells #[.slice none 0 0] m) 40)) :=
    print_make_of (P := Tryd.prog) 29 40 (.slice none 0 0) 24 rfl (by kernel_rfl) rfl (by decide) m (by omega)
  go_enter Tryd.func32, Tryd.ntmps32
  go_wp2_with (go_at_call 42; refine HM.out.mono ?_; rintro e w2 ⟨u, rfl, hu, hb2⟩; have HB2 := Lib.hid hb2; have HK2 := Lib.hid (gblk_keep' HK1.out hb2); obtain rfl := hu.nil_of HOK.out; obtain ⟨d0, d1, d2, d3⟩ := blk_cells2 HK2.out; clear hu hb2)
  have hwr : IntKind.i64.wrap ((tk.length : Int) + 1) = (m : Int) := by rw [Go.IntWalk.i64_in _ (by omega)]; omega
  have hlt2 : w.heap.size < w2.heap.size := World.block_lt_of_cell? w2 _ d0
  have e0 := (World.cell?_alloc_lt w2 (.cells (madeCells #[.slice none 0 0] m) 40) ⟨w.heap.size, 0, none⟩ hlt2).trans d0
  have e1 := (World.cell?_alloc_lt w2 (.cells (madeCells #[.slice none 0 0] m) 40) ⟨w.heap.size, 1, none⟩ hlt2).trans d1
  have e2 := (World.cell?_alloc_lt w2 (.cells (madeCells #[.slice none 0 0] m) 40) ⟨w.heap.size, 2, none⟩ hlt2).trans d2
  have e3 := (World.cell?_alloc_lt w2 (.cells (madeCells #[.slice none 0 0] m) 40) ⟨w.heap.size, 3, none⟩ hlt2).trans d3
  have HMm := Lib.hid hm
  clear hmI hm
  go_region
  obtain ⟨w3, hw3⟩ : ∃ w3, ((w2.alloc (.cells (madeCells #[.slice none 0 0] m) 40)).alloc (.cells #[.slice AT g.terms.length cT, .slice AN g.nonterms.length cN, .int .i64 g.ax, .slice AR g.rules.length cR, .slice At tk.length ct, .slice (some ⟨w2.heap.size, 0, none⟩) m m] 69)).drew = w3 := ⟨_, rfl⟩
  have HP : Aside0 (PreChart w g.rules tk (w2.heap.size + 1) w2.heap.size (fun _ => 0) 0 w3) := by
    have hbA := below_alloc (Below.refl w2.heap.size w2) (.cells (madeCells #[.slice none 0 0] m) 40)
    have hRow := Row.made w2 (.slice none 0 0) m 40
    have hB2 : Below w.heap.size w w2 := below_next HB1.out HB2.out
    have hsz : (w2.alloc (.cells (madeCells #[.slice none 0 0] m) 40)).heap.size = w2.heap.size + 1 := World.size_alloc _ _
    generalize w2.alloc (.cells (madeCells #[.slice none 0 0] m) 40) = W at *
    have hbB := below_alloc (Below.refl W.heap.size W) (.cells #[.slice AT g.terms.length cT, .slice AN g.nonterms.length cN, .int .i64 g.ax, .slice AR g.rules.length cR, .slice At tk.length ct, .slice (some ⟨w2.heap.size, 0, none⟩) m m] 69)
    have hcell : ∀ i, (W.alloc (.cells #[.slice AT g.terms.length cT, .slice AN g.nonterms.length cN, .int .i64 g.ax, .slice AR g.rules.length cR, .slice At tk.length ct, .slice (some ⟨w2.heap.size, 0, none⟩) m m] 69)).cell? ⟨w2.heap.size + 1, i, none⟩ = (#[.slice AT g.terms.length cT, .slice AN g.nonterms.length cN, .int .i64 g.ax, .slice AR g.rules.length cR, .slice At tk.length ct, .slice (some ⟨w2.heap.size, 0, none⟩) m m] : Array Value)[i]? := fun i => by rw [← hsz]; exact World.cell?_alloc_new _ _ _ _
    rw [← hw3]
    have hmm := HMm.out
    have hz := HB1.out.size
    have hz2 := HB2.out.size
    refine ⟨((below_next hB2 hbA).trans (hbB.mono (by have := hB2.size; omega))).drew, ⟨AR, cR, q3, HR.out, hcell 3⟩, ⟨At, ct, hlc, HT.out, hcell 4⟩, by rw [← hmm]; exact hcell 5, ?_, fun i hi => by omega, by omega, ⟨by omega, by omega⟩, fun i hi => by omega, fun i j hi => by omega⟩
    rw [← hmm]
    exact (hRow.below hbB).drewN 1
  rw [hw3]
  clear hw3 e0 e1 e2 e3 d0 d1 d2 d3 hwr
  obtain ⟨b, hbb⟩ : ∃ b, w2.heap.size + 1 = b := ⟨_, rfl⟩
  obtain ⟨O, hOO⟩ : ∃ O, w2.heap.size = O := ⟨_, rfl⟩
  rw [hbb, hOO] at HP ⊢
  clear hbb hOO
  have hhead := HP.out.head
  have hmm := HMm.out
  rw [← hmm] at hhead
  clear hmm
  go_wp2
  go_loopw [32] (fun x wr => ∃ (k : Nat) (Bs : Nat → Nat), k ≤ m ∧ x = .int .i64 k ∧ Aside0 (PreChart w g.rules tk b O Bs k wr)) (fun x _ => m - (intOf x).toNat)
  case atStart => exact ⟨0, fun _ => 0, by omega, rfl, HP⟩
  case round =>
    obtain ⟨k, Bs, hk, rfl, HQ⟩ := hrel
    obtain ⟨wo, rfl⟩ : ∃ wo : World, wo = wr := ⟨_, rfl⟩
    have hmm := HMm.out
    by_cases hlt : k < m
    · obtain ⟨d, hd⟩ : ∃ d : Nat, d = tk.length - k := ⟨_, rfl⟩
      obtain ⟨m1, hm1⟩ : ∃ m1 : Nat, m1 = d + 1 := ⟨_, rfl⟩
      have hmk2 : ∀ W : World, (Instr.makeSlice 40 (.int .i64 ((m1 : Nat) : Int)) (.int .i64 ((m1 : Nat) : Int))).run Tryd.prog W = .ok (.slice (some ⟨W.heap.size, 0, none⟩) m1 m1) (W.alloc (.cells (madeCells #[.int .u64 0] m1) 57)) :=
        print_make_of (P := Tryd.prog) 40 57 (.int .u64 0) 8 rfl infoSet rfl (by decide) m1 (by omega)
      have x1 : IntKind.i64.wrap ((tk.length : Int) - k) = (d : Int) := by rw [Go.IntWalk.i64_in _ (by omega)]; omega
      have x2 : IntKind.i64.wrap ((d : Int) + 1) = (m1 : Int) := by rw [Go.IntWalk.i64_in _ (by omega)]; omega
      have x3 : (0 : Int) ≤ (k : Int) := by omega
      have x4 : (k : Int) < (m : Int) := by omega
      have HD := Lib.hid (show d + 1 = tk.length - k + 1 ∧ m1 = d + 1 by omega)
      have HKle := Lib.hid (show k ≤ tk.length by omega)
      have y1 := HQ.out.head
      have y2 := HQ.out.out.cell k (by omega)
      have y3 := HQ.out.out.free k
      rw [if_neg (by omega)] at y2
      rw [← hmm] at y1
      have hblt : b < wo.heap.size := World.block_lt_of_cell? wo _ y1
      have hOlt : O < wo.heap.size := HQ.out.out.lt
      have v1 := (World.cell?_alloc_lt wo (.cells (madeCells #[.int .u64 0] m1) 57) ⟨b, 5, none⟩ hblt).trans y1
      have v2 := (World.cell?_alloc_lt wo (.cells (madeCells #[.int .u64 0] m1) 57) ⟨O, k, none⟩ hOlt).trans y2
      have v3 := (World.frozen?_alloc_old wo (.cells (madeCells #[.int .u64 0] m1) 57) ⟨O, k, none⟩ (Nat.ne_of_lt hOlt)).trans y3
      have hm41 : m ≤ 41 := by omega
      clear hd hm1 hmm hblt hOlt
      go_wp2_with fail
      go_region
      go_wp2
      go_roundw
      case rel =>
        refine ⟨k + 1, fun i => if i = k then wo.heap.size else Bs i, by omega, by go_num, ⟨?_⟩⟩
        · have h := (HQ.out.step HKle.out 57).below (w' := World.drew _) (pw_below_drewN (Below.refl _ _) 1)
          rw [← HD.out.1, ← HD.out.2] at h
          exact h
      case measure => simp [intOf]; omega
    · obtain rfl : k = m := by omega
      have HC0 := Lib.hid (show ChartIs w g.rules tk g.nonterms.length b O Bs (fun _ _ => False) wo from PreChart.done (by rw [← hmm]; exact HQ.out) _)
      have HF0 := Lib.hid (cfill0_is HC0.out (t := g.terms.length) (by omega) (by omega) hn HZ.out)
      clear hmm hmk
      go_wp2_with (go_at_call 43; refine HF0.out.mono ?_; rintro e w4 ⟨rfl, hc4⟩; have HC4 := Aside0.mk hc4; clear hc4)
      go_loopw [10] (fun x wr => ∃ l : Nat, 1 ≤ l ∧ l ≤ tk.length + 1 ∧ x = .int .i64 l ∧ Aside0 (ChartIs w g.rules tk g.nonterms.length b O Bs (fun a c => a ≤ c ∧ c ≤ tk.length ∧ c - a < l) wr)) (fun x _ => tk.length + 1 - (intOf x).toNat)
      case atStart => exact ⟨1, by omega, by omega, rfl, ⟨HC4.out.imp (fun a c h => by omega)⟩⟩
      case round =>
        obtain ⟨l, hl1, hl2, rfl, HC5⟩ := hrel
        obtain ⟨w5, rfl⟩ : ∃ w5 : World, w5 = wr := ⟨_, rfl⟩
        by_cases hll : l ≤ tk.length
        · go_wp2
          go_loopw [11] (fun x wr => ∃ i : Nat, i + l ≤ tk.length + 1 ∧ x = .int .i64 i ∧ Aside0 (ChartIs w g.rules tk g.nonterms.length b O Bs (fun a c => a ≤ c ∧ c ≤ tk.length ∧ (c - a < l ∨ c - a = l ∧ a < i)) wr)) (fun x _ => tk.length + 1 - (intOf x).toNat)
          case atStart => exact ⟨0, by omega, rfl, ⟨HC5.out.imp (fun a c h => by omega)⟩⟩
          case round =>
            obtain ⟨i, hi, rfl, HC6⟩ := hrel
            by_cases hil : i + l ≤ tk.length
            · have HF := Lib.hid (show Calls Tryd.prog 44 #[.pointer (some ⟨b, 0, none⟩), .int .i64 i, .int .i64 ((i : Int) + l)] wr _ by
                have h := cfill_is HC6.out (t := g.terms.length) (by omega) (by omega) hn HZ.out i (i + l) (by omega) hil (fun i' j' h1 h2 h3 h4 => by omega)
                rw [Int.natCast_add] at h
                exact h)
              go_wp2_with (go_at_call 44; refine HF.out.mono ?_; rintro e w7 ⟨rfl, hc7⟩; have HC7 := Aside0.mk hc7; clear hc7)
              go_roundw
              case rel => exact ⟨i + 1, by omega, by go_num, ⟨HC7.out.imp (fun a c h => by omega)⟩⟩
              case measure => simp [intOf]; omega
            · go_wp2
              go_roundw
              case rel => exact ⟨l + 1, by omega, by omega, by go_num, ⟨HC6.out.imp (fun a c h => by omega)⟩⟩
              case measure => simp [intOf]; omega
        · go_wp2
          go_ret2
          exact ⟨b, O, Bs, rfl, HC5.out.imp (fun a c h => by omega)⟩
end Go.Proofs.YtndimnomkcjeiaaDoor.Hand
/- Contracts of package member: Sets, From, Derives. -/
namespace Go.Proofs.YtndimnomkcjeiaaDoor.Hand
open Go.RowKit Go.Proofs.YtndimnomkcjeiaaDoorW.PrintWords Go.Proofs.YtndimnomkcjeiaaDoorW.PrintMore Go.Proofs.YtndimnomkcjeiaaDoor.Math

theorem charted_err (v : Value) (g : Gr) (At : Option Addr) (ct : Nat) (tk : List Int) (w : World) (A : Nat → Addr) (hE : Errs w A) (hv : GramAt w v g) (hlc : tk.length ≤ ct) (hr : Kd.C (Kd.int .i64) w At tk.length tk) (hok : ¬ (mayN g tk).1 = 0) :
    Calls Tryd.prog 32 #[v, .slice At tk.length ct] w fun e w' => ∃ u, e = .returned (.tuple #[.pointer none, u]) ∧ ErrV w' A u (mayN g tk).1 (mayN g tk).2 ∧ Below w.heap.size w w' := by
  have HV := Lib.hid hv
  obtain ⟨AT, cT, AN, cN, AR, cR, rfl, q1, q2, q3, q4, q5, q6⟩ := hv
  have hlen := hr.2.1
  obtain ⟨w1, hw1⟩ : ∃ w1, w.alloc (.cells #[.slice AT g.terms.length cT, .slice AN g.nonterms.length cN, .int .i64 g.ax, .slice AR g.rules.length cR] 25) = w1 := ⟨_, rfl⟩
  have hb1 : Below w.heap.size w w1 := by rw [← hw1]; exact below_alloc (Below.refl _ _) _
  have hk1 : w1.heap[w.heap.size]? = some (.cells #[.slice AT g.terms.length cT, .slice AN g.nonterms.length cN, .int .i64 g.ax, .slice AR g.rules.length cR] 25 (0, 0)) := by rw [← hw1]; exact heap_alloc_new w _
  obtain ⟨c0, c1, c2, c3⟩ := blk_cells2 hk1
  have HB1 := Lib.hid hb1
  have HM := Lib.hid (may_calls _ g At ct tk w1 A (hE.below hb1) (HV.out.below hb1) hlc (Kd.C_below hr hb1))
  have HOK := Lib.hid hok
  clear hb1 hk1 hE q4 q5 q6 hr hok
  go_enter Tryd.func32, Tryd.ntmps32
  go_wp2_with (go_at_call 42; refine HM.out.mono ?_; rintro e w2 ⟨u, rfl, hu, hb2⟩; have HU := Lib.hid hu; have HB2 := Lib.hid hb2; obtain ⟨T, p, hT, rfl⟩ := hu.iface_of HOK.out; clear hu hb2 hT)
  go_ret2
  exact ⟨_, rfl, HU.out, below_next HB1.out HB2.out⟩
/-- What a right chart holds. -/
structure SetsAt (w0 : World) (g : Gr) (tk : List Int) (O : Nat) (Bs : Nat → Nat) (Tn : Nat → Nat → Nat) (w : World) : Prop where
  bel : Below w0.heap.size w0 w
  out : Row w O (tk.length + 1) (fun i => .slice (some ⟨Bs i, 0, none⟩) (tk.length - i + 1) (tk.length - i + 1))
  inn : ∀ i, i ≤ tk.length → Row w (Bs i) (tk.length - i + 1) (fun d => .int .u64 (Tn i (i + d) : Nat))
  lim : ∀ i j, Tn i j < 2 ^ g.nonterms.length
  is : Exact g.rules tk tk.length g.nonterms.length (tabOf Tn)
  hO : w0.heap.size ≤ O
  hB : ∀ i, i ≤ tk.length → w0.heap.size ≤ Bs i ∧ Bs i ≠ O
  inj : ∀ i j, i ≤ tk.length → j ≤ tk.length → Bs i = Bs j → i = j
theorem ChartIs.sets {w0 w : World} {g : Gr} {tk : List Int} {b O : Nat} {Bs : Nat → Nat} (h : ChartIs w0 g.rules tk g.nonterms.length b O Bs (fun a c => a ≤ c ∧ c ≤ tk.length) w) : ∃ Tn, SetsAt w0 g tk O Bs Tn w ∧ w.cell? ⟨b, 5, none⟩ = some (.slice (some ⟨O, 0, none⟩) (tk.length + 1) (tk.length + 1)) := by
  obtain ⟨Tn, h1, h2, h3⟩ := h
  exact ⟨Tn, ⟨h1.bel, h1.out, h1.inn, h1.lim, fun i j k hij hj hk => ⟨h2 i j k hij hj hk, h3 i j ⟨hij, hj⟩ k hk⟩, h1.hO.1, fun i hi => ⟨(h1.hB i hi).1, (h1.hB i hi).2.2⟩, h1.inj⟩, h1.head⟩
def SetsRes (w0 : World) (A : Nat → Addr) (g : Gr) (tk : List Int) (e : Ending) (w' : World) : Prop :=
  (∃ u, e = .returned (.tuple #[.slice none 0 0, u]) ∧ ¬ (mayN g tk).1 = 0 ∧ ErrV w' A u (mayN g tk).1 (mayN g tk).2 ∧ Below w0.heap.size w0 w') ∨
  (∃ O Bs Tn, e = .returned (.tuple #[.slice (some ⟨O, 0, none⟩) (tk.length + 1) (tk.length + 1), .nilIface]) ∧ (mayN g tk).1 = 0 ∧ SetsAt w0 g tk O Bs Tn w')
theorem msets_calls (v : Value) (g : Gr) (At : Option Addr) (ct : Nat) (tk : List Int) (w : World) (A : Nat → Addr) (hE : Errs w A) (hv : GramAt w v g) (hlc : tk.length ≤ ct) (hr : Kd.C (Kd.int .i64) w At tk.length tk) :
    Calls Tryd.prog 12 #[v, .slice At tk.length ct] w fun e w' => SetsRes w A g tk e w' := by
  have HV := Lib.hid hv
  obtain ⟨AT, cT, AN, cN, AR, cR, rfl, q1, q2, q3, q4, q5, q6⟩ := hv
  have hlen := hr.2.1
  obtain ⟨w1, hw1⟩ : ∃ w1, w.alloc (.cells #[.slice AT g.terms.length cT, .slice AN g.nonterms.length cN, .int .i64 g.ax, .slice AR g.rules.length cR] 25) = w1 := ⟨_, rfl⟩
  have hb1 : Below w.heap.size w w1 := by rw [← hw1]; exact below_alloc (Below.refl _ _) _
  have hk1 : w1.heap[w.heap.size]? = some (.cells #[.slice AT g.terms.length cT, .slice AN g.nonterms.length cN, .int .i64 g.ax, .slice AR g.rules.length cR] 25 (0, 0)) := by rw [← hw1]; exact heap_alloc_new w _
  obtain ⟨c0, c1, c2, c3⟩ := blk_cells2 hk1
  have HB1 := Lib.hid hb1
  have HE := Lib.hid (hE.below hb1)
  have HG := Lib.hid (HV.out.below hb1)
  have HT := Lib.hid (Kd.C_below hr hb1)
  clear hb1 hk1 hE q4 q5 q6 hr
  by_cases hok : (mayN g tk).1 = 0
  · have HM := Lib.hid (charted_calls _ g At ct tk w1 A HE.out HG.out hlc HT.out hok)
    have HOK := Lib.hid hok
    clear hok
    go_enter Tryd.func12, Tryd.ntmps12
    go_wp2_with (go_at_call 32; refine HM.out.mono ?_; rintro e w2 ⟨b, O, Bs, rfl, hc⟩; obtain ⟨Tn, hs, h5⟩ := hc.sets; have HS := Lib.hid hs; clear hc hs)
    go_ret2
    have hz := HB1.out.size
    exact .inr ⟨O, Bs, Tn, rfl, HOK.out, below_next HB1.out HS.out.bel, HS.out.out, HS.out.inn, HS.out.lim, HS.out.is, Nat.le_trans hz HS.out.hO, fun i hi => ⟨Nat.le_trans hz (HS.out.hB i hi).1, (HS.out.hB i hi).2⟩, HS.out.inj⟩
  · have HM := Lib.hid (charted_err _ g At ct tk w1 A HE.out HG.out hlc HT.out hok)
    have HOK := Lib.hid hok
    clear hok
    go_enter Tryd.func12, Tryd.ntmps12
    go_wp2_with (go_at_call 32; refine HM.out.mono ?_; rintro e w2 ⟨u, rfl, hu, hb2⟩; have HU := Lib.hid hu; have HB2 := Lib.hid hb2; obtain ⟨T, p, hT, rfl⟩ := hu.iface_of HOK.out; clear hu hb2 hT)
    go_ret2
    exact .inl ⟨_, rfl, HOK.out, HU.out, below_next HB1.out HB2.out⟩
open Classical in
/-- Which error From tells; what it answers. -/
noncomputable def fromK (g : Gr) (tk : List Int) (x : Int) : Nat := if (mayN g tk).1 ≠ 0 then (mayN g tk).1 else if x < 0 ∨ (g.nonterms.length : Int) ≤ x then 1 else 0
noncomputable def fromB (g : Gr) (tk : List Int) (x : Int) : Bool := tb (fromK g tk x = 0 ∧ Der g.rules tk x.toNat 0 tk.length)
set_option maxHeartbeats 1000000 in
set_option maxRecDepth 20000 in
theorem mfrom_calls (v : Value) (g : Gr) (At : Option Addr) (ct : Nat) (tk : List Int) (x : Int) (w : World) (A : Nat → Addr) (hE : Errs w A) (hv : GramAt w v g) (hlc : tk.length ≤ ct) (hr : Kd.C (Kd.int .i64) w At tk.length tk) :
    Calls Tryd.prog 20 #[v, .int .i64 x, .slice At tk.length ct] w fun e w' => ∃ u r, e = .returned (.tuple #[.bool (fromB g tk x), u]) ∧ ErrV w' A u (fromK g tk x) r ∧ Below w.heap.size w w' := by
  have HV := Lib.hid hv
  obtain ⟨AT, cT, AN, cN, AR, cR, rfl, q1, q2, q3, q4, q5, q6⟩ := hv
  have hlen := hr.2.1
  have l2 := q5.2.1
  obtain ⟨w1, hw1⟩ : ∃ w1, w.alloc (.cells #[.slice AT g.terms.length cT, .slice AN g.nonterms.length cN, .int .i64 g.ax, .slice AR g.rules.length cR] 25) = w1 := ⟨_, rfl⟩
  have hb1 : Below w.heap.size w w1 := by rw [← hw1]; exact below_alloc (Below.refl _ _) _
  have hk1 : w1.heap[w.heap.size]? = some (.cells #[.slice AT g.terms.length cT, .slice AN g.nonterms.length cN, .int .i64 g.ax, .slice AR g.rules.length cR] 25 (0, 0)) := by rw [← hw1]; exact heap_alloc_new w _
  obtain ⟨c0, c1, c2, c3⟩ := blk_cells2 hk1
  have HB1 := Lib.hid hb1
  have HK1 := Lib.hid hk1
  have HE := Lib.hid (hE.below hb1)
  have HG := Lib.hid (HV.out.below hb1)
  have HT := Lib.hid (Kd.C_below hr hb1)
  clear hb1 hk1 hE q4 q5 q6 hr
  by_cases hok : (mayN g tk).1 = 0
  · have HM := Lib.hid (charted_calls _ g At ct tk w1 A HE.out HG.out hlc HT.out hok)
    have hlim : tk.length ≤ 40 ∧ g.nonterms.length ≤ 60 := by
      have h := hok
      unfold mayN at h
      split at h
      · rename_i h2; exact absurd h h2
      · rename_i h0
        have hz := checkN_zero (g := g) (by simpa using h0)
        split at h
        · cases h
        · exact ⟨by omega, by have := hz.size; omega⟩
    obtain ⟨hn, hN⟩ := hlim
    have HOK := Lib.hid hok
    clear hok
    by_cases hx : x < 0 ∨ (g.nonterms.length : Int) ≤ x
    · have HF : Hid (fromK g tk x = 1 ∧ fromB g tk x = false) := Lib.hid (by
        have h1 : fromK g tk x = 1 := by unfold fromK; rw [if_neg (by simp [HOK.out]), if_pos hx]
        exact ⟨h1, tb_no (by rw [h1]; simp)⟩)
      by_cases hx0 : x < 0
      all_goals
        go_enter Tryd.func20, Tryd.ntmps20
        go_wp2_with (go_at_call 32; refine HM.out.mono ?_; rintro e w2 ⟨b, O, Bs, rfl, hc⟩; obtain ⟨Tn, hs, h5⟩ := hc.sets; have HS := Lib.hid hs; obtain ⟨d0, d1, d2, d3⟩ := blk_cells2 (gblk_keep' HK1.out hs.bel); have e0 : w2.cell? ⟨0, 0, none⟩ = some (.iface 143 (.pointer (some (A 0)))) := (HE.out.below hs.bel).cells 0 (by omega); clear hc hs)
        go_quiet (fail)
        go_wp2
        go_ret2
        exact ⟨.iface 143 (.pointer (some (A 0))), -1, by rw [HF.out.2]; rfl, by rw [HF.out.1]; exact .sent 0 (by omega), pw_below_drewN (below_next HB1.out HS.out.bel) _⟩
    · have HF : Hid (fromK g tk x = 0) := Lib.hid (by unfold fromK; rw [if_neg (by simp [HOK.out]), if_neg hx])
      have hx0 : ¬ x < 0 := by omega
      have hx1 : ¬ (g.nonterms.length : Int) ≤ x := by omega
      clear hx
      obtain ⟨n1, hn1⟩ : ∃ n1 : Nat, n1 = tk.length + 1 := ⟨_, rfl⟩
      have hlt1 : 0 < n1 := by omega
      have hlt2 : tk.length < n1 := by omega
      have HN1 := Lib.hid hn1
      clear hn1
      go_enter Tryd.func20, Tryd.ntmps20
      go_wp2_with (first
        | (go_at_call 32; refine HM.out.mono ?_; rintro e w2 ⟨b, O, Bs, rfl, hc⟩; obtain ⟨Tn, hs, h5⟩ := hc.sets; have HS := Lib.hid hs; obtain ⟨d0, d1, d2, d3⟩ := blk_cells2 (gblk_keep' HK1.out hs.bel); have a1 := hs.out.cell 0 (by omega); have a2 := (hs.inn 0 (by omega)).cell tk.length (by omega); rw [Nat.sub_zero] at a1; rw [Nat.zero_add] at a2; rw [← HN1.out] at a1 h5; have h18 : Tn 0 tk.length < 18446744073709551616 := Nat.lt_of_lt_of_le (hs.lim 0 tk.length) (Nat.le_trans (Nat.pow_le_pow_right (by decide) hN) (by decide)); have HCall := Lib.hid (fun W => has_calls (Tn 0 tk.length) h18 x W); clear hc hs h18)
        | (go_at_call 38; refine (HCall.out _).mono ?_; rintro e w' ⟨rfl, n, rfl⟩))
      go_ret2
      have hxx : ((x.toNat : Nat) : Int) = x := Int.toNat_of_nonneg (by omega)
      have hB : fromB g tk x = hasN (Tn 0 tk.length) x := by
        unfold fromB
        rw [HF.out]
        have := HS.out.is 0 tk.length x.toNat (by omega) (Nat.le_refl _) (by omega)
        unfold tabOf at this
        rw [hxx] at this
        exact (tb_bool (by rw [this]; simp)).symm
      exact ⟨.nilIface, -1, by rw [hB]; rfl, by rw [HF.out]; exact .none, pw_below_drewN (below_next HB1.out HS.out.bel) _⟩
  · have HM := Lib.hid (charted_err _ g At ct tk w1 A HE.out HG.out hlc HT.out hok)
    have HOK := Lib.hid hok
    have HF : Hid (fromK g tk x = (mayN g tk).1 ∧ fromB g tk x = false) := Lib.hid (by
      have h1 : fromK g tk x = (mayN g tk).1 := by unfold fromK; rw [if_pos hok]
      exact ⟨h1, tb_no (by rw [h1]; exact fun h => hok h.1)⟩)
    clear hok
    go_enter Tryd.func20, Tryd.ntmps20
    go_wp2_with (go_at_call 32; refine HM.out.mono ?_; rintro e w2 ⟨u, rfl, hu, hb2⟩; have HU := Lib.hid hu; have HB2 := Lib.hid hb2; obtain ⟨T, p, hT, rfl⟩ := hu.iface_of HOK.out; clear hu hb2 hT)
    go_ret2
    exact ⟨.iface T (.pointer p), _, by rw [HF.out.2]; rfl, by rw [HF.out.1]; exact HU.out, below_next HB1.out HB2.out⟩
theorem mderives_calls (v : Value) (g : Gr) (At : Option Addr) (ct : Nat) (tk : List Int) (w : World) (A : Nat → Addr) (hE : Errs w A) (hv : GramAt w v g) (hlc : tk.length ≤ ct) (hr : Kd.C (Kd.int .i64) w At tk.length tk) :
    Calls Tryd.prog 18 #[v, .slice At tk.length ct] w fun e w' => ∃ u r, e = .returned (.tuple #[.bool (fromB g tk g.ax), u]) ∧ ErrV w' A u (fromK g tk g.ax) r ∧ Below w.heap.size w w' := by
  have HV := Lib.hid hv
  obtain ⟨AT, cT, AN, cN, AR, cR, rfl, q1, q2, q3, q4, q5, q6⟩ := hv
  have hlen := hr.2.1
  obtain ⟨w1, hw1⟩ : ∃ w1, w.alloc (.cells #[.slice AT g.terms.length cT, .slice AN g.nonterms.length cN, .int .i64 g.ax, .slice AR g.rules.length cR] 25) = w1 := ⟨_, rfl⟩
  have hb1 : Below w.heap.size w w1 := by rw [← hw1]; exact below_alloc (Below.refl _ _) _
  have hk1 : w1.heap[w.heap.size]? = some (.cells #[.slice AT g.terms.length cT, .slice AN g.nonterms.length cN, .int .i64 g.ax, .slice AR g.rules.length cR] 25 (0, 0)) := by rw [← hw1]; exact heap_alloc_new w _
  obtain ⟨c0, c1, c2, c3⟩ := blk_cells2 hk1
  have HB1 := Lib.hid hb1
  have HM := Lib.hid (mfrom_calls _ g At ct tk g.ax w1 A (hE.below hb1) (HV.out.below hb1) hlc (Kd.C_below hr hb1))
  clear hb1 hk1 hE q4 q5 q6 hr
  go_enter Tryd.func18, Tryd.ntmps18
  go_wp2_with (go_at_call 20; refine HM.out.mono ?_; rintro e w2 ⟨u, r, rfl, hu, hb2⟩; have HU := Lib.hid hu; have HB2 := Lib.hid hb2; clear hu hb2)
  go_ret2
  exact ⟨u, r, rfl, HU.out, below_next HB1.out HB2.out⟩
end Go.Proofs.YtndimnomkcjeiaaDoor.Hand
/- Sets given by what holds of their numbers. -/
namespace Go.Proofs.YtndimnomkcjeiaaDoor.Hand
open Go.RowKit Go.Proofs.YtndimnomkcjeiaaDoorW.PrintWords Go.Proofs.YtndimnomkcjeiaaDoorW.PrintMore Go.Proofs.YtndimnomkcjeiaaDoor.Math

/-- The set of those below k that f holds of. -/
def sB (f : Nat → Bool) : Nat → Nat
  | 0 => 0
  | k + 1 => if f k then withN (sB f k) k else sB f k
theorem bitN_nat (k : Nat) (h : k ≤ 63) : bitN (k : Int) = 2 ^ k := by
  rw [bitN, (inR_iff _).2 (by omega)]; simp
theorem sB_lt {f : Nat → Bool} : ∀ {k : Nat}, k ≤ 64 → sB f k < 2 ^ k
  | 0, _ => by simp [sB]
  | k + 1, h => by
    have h1 := sB_lt (f := f) (k := k) (by omega)
    have h2 : 2 ^ k < 2 ^ (k + 1) := Nat.pow_lt_pow_right (by decide) (by omega)
    unfold sB
    split
    · unfold withN
      rw [bitN_nat k (by omega)]
      exact Nat.or_lt_two_pow (Nat.lt_trans h1 h2) h2
    · exact Nat.lt_trans h1 h2
theorem sB_test {f : Nat → Bool} {i : Nat} : ∀ {k : Nat}, k ≤ 64 → (sB f k).testBit i = (decide (i < k) && f i)
  | 0, _ => by simp [sB]
  | k + 1, h => by
    have h1 := sB_test (f := f) (i := i) (k := k) (by omega)
    unfold sB
    have hb : (bitN (k : Int)).testBit i = decide (k = i) := by rw [bitN_nat k (by omega), Nat.testBit_two_pow]
    by_cases e : i = k
    · subst e
      cases hf : f i
      · simp [h1, hf]
      · simp only [if_true, withN, Nat.testBit_or, hb, h1]; simp
    · have e2 : decide (i < k + 1) = decide (i < k) := by rw [decide_eq_decide]; omega
      cases hf : f k
      · simp [h1, e2]
      · simp only [if_true, withN, Nat.testBit_or, hb, h1, e2]
        have : decide (k = i) = false := decide_eq_false (fun h => e h.symm)
        rw [this, Bool.or_false]
theorem lt_u64 {s N : Nat} (h : s < 2 ^ N) (hN : N ≤ 64) : s < 18446744073709551616 := Nat.lt_of_lt_of_le h (Nat.le_trans (Nat.pow_le_pow_right (by decide) hN) (by decide))
/-- The set s is that of the numbers below N that P holds of. -/
structure SetIs (N s : Nat) (P : Nat → Prop) : Prop where
  lt : s < 2 ^ N
  is : ∀ k, k < N → (s.testBit k = true ↔ P k)
noncomputable def setOf (N : Nat) (P : Nat → Prop) : Nat := sB (fun k => tb (P k)) N
theorem setOf_is {N : Nat} (hN : N ≤ 64) (P : Nat → Prop) : SetIs N (setOf N P) P := ⟨sB_lt hN, fun k hk => by rw [setOf, sB_test hN, decide_eq_true hk, Bool.true_and, tb_iff]⟩
theorem SetIs.eq {N s t : Nat} {P : Nat → Prop} (h : SetIs N s P) (h' : SetIs N t P) : s = t := by
  apply Nat.eq_of_testBit_eq
  intro k
  by_cases hk : k < N
  · rw [Bool.eq_iff_iff, h.is k hk, h'.is k hk]
  · have hp : 2 ^ N ≤ 2 ^ k := Nat.pow_le_pow_right (by decide) (by omega)
    rw [Nat.testBit_lt_two_pow (Nat.lt_of_lt_of_le h.lt hp), Nat.testBit_lt_two_pow (Nat.lt_of_lt_of_le h'.lt hp)]
theorem SetIs.imp {N s : Nat} {P Q : Nat → Prop} (h : SetIs N s P) (hpq : ∀ k, k < N → (P k ↔ Q k)) : SetIs N s Q := ⟨h.lt, fun k hk => (h.is k hk).trans (hpq k hk)⟩
theorem SetIs.of {N s : Nat} {P : Nat → Prop} (h : SetIs N s P) (hN : N ≤ 64) : s = setOf N P := h.eq (setOf_is hN P)
theorem SetIs.meet {N s t : Nat} {P Q : Nat → Prop} (h : SetIs N s P) (h' : SetIs N t Q) : SetIs N (s &&& t) (fun k => P k ∧ Q k) :=
  ⟨Nat.lt_of_le_of_lt Nat.and_le_left h.lt, fun k hk => by rw [Nat.testBit_and, Bool.and_eq_true, h.is k hk, h'.is k hk]⟩
end Go.Proofs.YtndimnomkcjeiaaDoor.Hand
/- Which nonterminals derive something, which are reached: the least sets that are closed under the rules. -/
namespace Go.Proofs.YtndimnomkcjeiaaDoor.Hand
open Go.RowKit Go.Proofs.YtndimnomkcjeiaaDoorW.PrintWords Go.Proofs.YtndimnomkcjeiaaDoorW.PrintMore Go.Proofs.YtndimnomkcjeiaaDoor.Math

/-- All nonterminals of a right side are in S. -/
def AllIn (S : Nat → Prop) (l : List Int) : Prop := ∀ s, s ∈ l → s < 0 → S (-1 - s).toNat
theorem AllIn.imp {S T : Nat → Prop} {l : List Int} (h : AllIn S l) (hst : ∀ k, S k → T k) : AllIn T l := fun s hs h0 => hst _ (h s hs h0)
/-- Those that derive something. -/
inductive PD (R : List (Int × List Int)) : Nat → Prop
  | mk (r : Int × List Int) (hr : r ∈ R) (h : ∀ s, s ∈ r.2 → s < 0 → PD R (-1 - s).toNat) : PD R r.1.toNat
/-- Those that are reached from ax by rules whose nonterminals are all in I. -/
inductive RD (R : List (Int × List Int)) (ax : Nat) (I : Nat → Prop) : Nat → Prop
  | base : RD R ax I ax
  | step (r : Int × List Int) (hr : r ∈ R) (h1 : RD R ax I r.1.toNat) (h2 : AllIn I r.2) (s : Int) (hs : s ∈ r.2) (h0 : s < 0) : RD R ax I (-1 - s).toNat
theorem PD.closed {R : List (Int × List Int)} {S : Nat → Prop} (h : ∀ r ∈ R, AllIn S r.2 → S r.1.toNat) {k : Nat} (hk : PD R k) : S k := by
  induction hk with
  | mk r hr _ ih => exact h r hr (fun s hs h0 => ih s hs h0)
theorem RD.closed {R : List (Int × List Int)} {ax : Nat} {I S : Nat → Prop} (hb : S ax) (h : ∀ r ∈ R, S r.1.toNat → AllIn I r.2 → AllIn S r.2) {k : Nat} (hk : RD R ax I k) : S k := by
  induction hk with
  | base => exact hb
  | step r hr _ h2 s hs h0 ih => exact h r hr ih h2 s hs h0
theorem RD.imp {R : List (Int × List Int)} {ax : Nat} {I J : Nat → Prop} (hij : ∀ r ∈ R, AllIn I r.2 → AllIn J r.2) {k : Nat} (hk : RD R ax I k) : RD R ax J k := by
  induction hk with
  | base => exact .base
  | step r hr _ h2 s hs h0 ih => exact .step r hr ih (hij r hr h2) s hs h0
/-- The set of the nonterminals of a right side. -/
def ntN (l : List Int) : Nat := l.foldl (fun s k => if k < 0 then withN s (-1 - k) else s) 0
theorem ntN_snoc (l : List Int) (k : Int) : ntN (l ++ [k]) = if k < 0 then withN (ntN l) (-1 - k) else ntN l := by simp [ntN]
theorem ntN_rec {p : List Int → Prop} (h0 : p []) (hs : ∀ l k, p l → p (l ++ [k])) (l : List Int) : p l := by
  have : ∀ n, n ≤ l.length → p (l.take n) := by
    intro n
    induction n with
    | zero => intro _; simpa using h0
    | succ n ih =>
      intro hn
      have := hs _ (l.getD n 0) (ih (by omega))
      rwa [← take_snocD l n 0 (by omega)] at this
  have h := this l.length (Nat.le_refl _)
  rwa [List.take_length] at h
theorem ntN_lt (l : List Int) : ntN l < 18446744073709551616 := by
  refine ntN_rec (p := fun l => ntN l < 18446744073709551616) (by decide) (fun l k h => ?_) l
  rw [ntN_snoc]
  split
  · exact withN_lt h _
  · exact h
theorem ntN_test {l : List Int} (hl : ∀ s ∈ l, -(60 : Int) ≤ s) (i : Nat) : (ntN l).testBit i = true ↔ ∃ s, s ∈ l ∧ s < 0 ∧ (-1 - s).toNat = i := by
  revert hl
  refine ntN_rec (p := fun l => (∀ s ∈ l, -(60 : Int) ≤ s) → ((ntN l).testBit i = true ↔ ∃ s, s ∈ l ∧ s < 0 ∧ (-1 - s).toNat = i)) (fun _ => by simp [ntN]) (fun l k h hl => ?_) l
  have h1 := h (fun s hs => hl s (List.mem_append_left _ hs))
  have hk := hl k (by simp)
  rw [ntN_snoc]
  split
  · rename_i h0
    rw [withN, Nat.testBit_or, Bool.or_eq_true, h1, bitN_test, (inR_iff _).2 (by omega), Bool.true_and, decide_eq_true_eq]
    constructor
    · rintro (⟨s, hs, h2, h3⟩ | h2)
      · exact ⟨s, List.mem_append_left _ hs, h2, h3⟩
      · exact ⟨k, by simp, h0, h2⟩
    · rintro ⟨s, hs, h2, h3⟩
      rcases List.mem_append.1 hs with hs | hs
      · exact .inl ⟨s, hs, h2, h3⟩
      · rw [List.mem_singleton.1 hs] at h3; exact .inr h3
  · rename_i h0
    rw [h1]
    constructor
    · rintro ⟨s, hs, h2, h3⟩
      exact ⟨s, List.mem_append_left _ hs, h2, h3⟩
    · rintro ⟨s, hs, h2, h3⟩
      rcases List.mem_append.1 hs with hs | hs
      · exact ⟨s, hs, h2, h3⟩
      · rw [List.mem_singleton.1 hs] at h2; exact absurd h2 h0
theorem miss_lt {N : Nat} {f g : Nat → Bool} (hfg : ∀ k, k < N → f k = true → g k = true) {k : Nat} (hk : k < N) (h : f k = false) (h2 : g k = true) : miss N g < miss N f := by
  unfold miss
  have key : ∀ (l : List Nat), (∀ x ∈ l, x < N) → l.countP (fun x => !g x) + l.countP (fun x => x == k) ≤ l.countP (fun x => !f x) := by
    intro l
    induction l with
    | nil => simp
    | cons x l ih =>
      intro hl
      have ih := ih (fun y hy => hl y (List.mem_cons_of_mem _ hy))
      have hx := hfg x (hl x (List.mem_cons_self ..))
      simp only [List.countP_cons]
      by_cases e : x = k
      · subst e
        simp [h, h2]; omega
      · cases hf : f x
        · cases hg : g x <;> simp [e] <;> omega
        · simp [hx hf, e]; omega
  have h2 : 0 < (List.range N).countP (fun x => x == k) := List.countP_pos_iff.2 ⟨k, List.mem_range.2 hk, by simp⟩
  have := key (List.range N) (fun x hx => List.mem_range.1 hx)
  omega
theorem miss_mono {N : Nat} {f g : Nat → Bool} (hfg : ∀ k, k < N → f k = true → g k = true) : miss N g ≤ miss N f := by
  unfold miss
  refine List.countP_mono_left (fun x hx h => ?_)
  cases hf : f x
  · rfl
  · rw [hfg x (List.mem_range.1 hx) hf] at h; exact absurd h (by decide)
theorem hasN_nat {s : Nat} {x : Int} (h0 : 0 ≤ x) (h1 : x ≤ 63) : hasN s x = s.testBit x.toNat := by unfold hasN; rw [(inR_iff x).2 ⟨h0, h1⟩, Bool.true_and]
theorem withN_test {s : Nat} {x : Int} (h0 : 0 ≤ x) (h1 : x ≤ 63) (k : Nat) : (withN s x).testBit k = (s.testBit k || decide (x.toNat = k)) := by unfold withN; rw [Nat.testBit_or, bitN_test, (inR_iff x).2 ⟨h0, h1⟩, Bool.true_and]
theorem withN_lt2 {s N : Nat} {x : Int} (hs : s < 2 ^ N) (h0 : 0 ≤ x) (h1 : x < N) (hN : N ≤ 64) : withN s x < 2 ^ N := by
  unfold withN
  refine Nat.or_lt_two_pow hs ?_
  rw [bitN, (inR_iff x).2 (by omega)]
  exact Nat.pow_lt_pow_right (by decide) (by omega)
theorem ntN_lt2 {N : Nat} (hN : N ≤ 64) (l : List Int) : (∀ z ∈ l, -(N : Int) ≤ z) → ntN l < 2 ^ N := by
  refine ntN_rec (p := fun l => (∀ z ∈ l, -(N : Int) ≤ z) → ntN l < 2 ^ N) (fun _ => Nat.two_pow_pos _) (fun l k h hl => ?_) l
  have h1 := h (fun z hz => hl z (List.mem_append_left _ hz))
  have hk := hl k (by simp)
  rw [ntN_snoc]
  split
  · exact withN_lt2 h1 (by omega) (by omega) hN
  · exact h1
theorem not_allIn {S : Nat → Prop} {l : List Int} (h : ¬ AllIn S l) : ∃ s, s ∈ l ∧ s < 0 ∧ ¬ S (-1 - s).toNat := by
  refine Classical.byContradiction (fun hn => h (fun s hs h0 => ?_))
  exact Classical.byContradiction (fun h2 => hn ⟨s, hs, h0, h2⟩)
end Go.Proofs.YtndimnomkcjeiaaDoor.Hand
/- Chapter 24's own cuts, over the sets that are told. -/
namespace Go.Proofs.YtndimnomkcjeiaaDoor.Hand
open Go.RowKit Go.Proofs.YtndimnomkcjeiaaDoorW.PrintWords Go.Proofs.YtndimnomkcjeiaaDoorW.PrintMore Go.Proofs.YtndimnomkcjeiaaDoor.Math

theorem C_tail {w : World} {ad : Addr} {s : Int} {l : List Int} (h : Kd.C (Kd.int .i64) w (some ad) (l.length + 1) (s :: l)) : Kd.C (Kd.int .i64) w (some (ad.add 1)) l.length l := by
  obtain ⟨h1, h2, h3⟩ := h
  refine ⟨rfl, by omega, fun _ => ⟨_, rfl, fun j q hj => ?_⟩⟩
  obtain ⟨a, ha, hc⟩ := h3 (by omega)
  obtain rfl := Option.some.inj ha
  obtain ⟨c, e1, e2, e3⟩ := hc (j + 1) q (by simpa using hj)
  refine ⟨c, e1, e2, fun i u hu => ?_⟩
  have := e3 i u hu
  rw [Deep.add_add]
  rw [show 1 + (j * (Kd.int .i64).sz + i) = (j + 1) * (Kd.int .i64).sz + i by rw [show (Kd.int .i64).sz = 1 from rfl]; omega]
  exact this
theorem bit_of {x : Nat} (hx : x < 18446744073709551616) (k : Nat) : (bits BinOp.and IntKind.u64 ((x : Int) / 2 ^ k) 1 == 1) = x.testBit k := by
  have e : ((x : Int) / 2 ^ k) = ((x / 2 ^ k : Nat) : Int) := by push_cast; rfl
  have h3 : bits BinOp.and IntKind.u64 ((x / 2 ^ k : Nat) : Int) 1 = ((x / 2 ^ k % 2 : Nat) : Int) := by
    have := bits_and (x / 2 ^ k) 1 (Nat.lt_of_le_of_lt (Nat.div_le_self _ _) hx) (by decide)
    rwa [Nat.and_one_is_mod] at this
  rw [e, h3, Bool.eq_iff_iff, Nat.testBit_eq_decide_div_mod_eq, decide_eq_true_eq, beq_iff_eq]
  omega
set_option maxHeartbeats 2000000 in
set_option maxRecDepth 20000 in
theorem cuts24_calls {w0 wS : World} {g : Gr} {tk : List Int} {O : Nat} {Bs : Nat → Nat} {Tn : Nat → Nat → Nat} (hS : SetsAt w0 g tk O Bs Tn wS) (hN : g.nonterms.length ≤ 60) (At : Option Addr) (ct : Nat) (hT0 : Kd.C (Kd.int .i64) wS At tk.length tk) (hn : tk.length ≤ 40) :
    ∀ (r : List Int) (B : Option Addr) (c : Nat) (i j : Nat) (w : World), Below wS.heap.size wS w → Kd.C (Kd.int .i64) w B r.length r → (∀ s ∈ r, -(g.nonterms.length : Int) ≤ s ∧ s < 4611686018427387904) → r.length ≤ c → i ≤ j → j ≤ tk.length →
    Quiet 29 #[.slice (some ⟨O, 0, none⟩) (tk.length + 1) (tk.length + 1), .slice At tk.length ct, .slice B r.length c, .int .i64 i, .int .i64 j] w (.bool (tb (Cut (tabOf Tn) tk r i j))) := by
  intro r
  induction r with
  | nil =>
    intro B c i j w h hr hs hc hij hj
    unfold Quiet
    have HE : Hid (tb (Cut (tabOf Tn) tk [] i j) = ((i : Int) == (j : Int))) := Lib.hid (by
      rw [Bool.eq_iff_iff, tb_iff, beq_iff_eq]
      show i = j ↔ _
      omega)
    clear h hr hs
    go_enter Tryd.func29, Tryd.ntmps29
    go_wp2
    go_ret
    exact ⟨ret_bool HE.out.symm, 0, rfl⟩
  | cons s l ih =>
    intro B c i j w h hr hs hc hij hj
    unfold Quiet
    obtain ⟨ad, s', rfl, hcs, HS'⟩ := at_scalar hr 0 (by simp) 0
    have hcs0 : w.cell? ad = some (.int .i64 s') := by simpa [Addr.add] using hcs
    have hss : s = s' := HS'.out
    subst hss
    have hs0 := hs s (List.mem_cons_self ..)
    obtain ⟨hs1, hs2⟩ := hs0
    have HTl := Lib.hid (C_tail hr)
    have HH := Lib.hid h
    have HT := Lib.hid (Kd.C_below hT0 h)
    have HS := Lib.hid (fun x (hx : x ∈ l) => hs x (List.mem_cons_of_mem _ hx))
    have hlen := hr.2.1
    have hlt := hT0.2.1
    simp only [List.length_cons] at hlen hc
    rw [List.length_cons]
    have hl1 : ((l.length + 1 : Nat) : Int) = (l.length : Int) + 1 := by omega
    have hlz : (((l.length : Int) + 1) == 0) = false := by rw [beq_eq_false_iff_ne]; omega
    clear h hr hs HS' hcs
    have HIH : Hid (∀ (q d : Nat), i ≤ q → q ≤ j → Quiet 29 #[.slice (some ⟨O, 0, none⟩) (tk.length + 1) (tk.length + 1), .slice At tk.length ct, (if c = 1 then .slice (some ad) 0 0 else .slice (some (ad.add 1)) l.length (c - 1)), .int .i64 q, .int .i64 j] (w.drewN d) (.bool (tb (Cut (tabOf Tn) tk l q j)))) := Lib.hid (fun q d h1 h2 => by
      have hb := pw_below_drewN (Below.refl w.heap.size w) d
      by_cases e : c = 1
      · rw [if_pos e]
        have hl0 : l = [] := List.eq_nil_of_length_eq_zero (by omega)
        have := ih (some ad) 0 q j _ (below_next HH.out hb) (by rw [hl0]; exact ⟨rfl, by simp, fun h => absurd h (by simp)⟩) HS.out (by rw [hl0]; simp) h2 hj
        rwa [show l.length = 0 by rw [hl0]; rfl] at this
      · rw [if_neg e]
        exact ih _ (c - 1) q j _ (below_next HH.out hb) (Kd.C_below HTl.out hb) HS.out (by omega) h2 hj)
    have hcase : c = 1 ∨ ¬ c = 1 := by omega
    rcases hcase with hc1 | hc1
    all_goals
      first | simp only [if_pos hc1] at HIH | simp only [if_neg hc1] at HIH
      try subst hc1
      go_enter Tryd.func29, Tryd.ntmps29
      go_wp2
      go_loopw [11] (fun x wr => ∃ (q d : Nat), i ≤ q ∧ q ≤ j + 1 ∧ x = .int .i64 q ∧ wr = w.drewN d ∧ Hid (∀ q', i ≤ q' → q' < q → ¬ (Hb (tabOf Tn) tk s i q' = true ∧ Cut (tabOf Tn) tk l q' j))) (fun x _ => j + 1 - (intOf x).toNat)
      case atStart => exact ⟨i, 0, by omega, by omega, rfl, rfl, Lib.hid (fun q' h1 h2 => by omega)⟩
      case round =>
        obtain ⟨q, d, hq1, hq2, rfl, rfl, HX⟩ := hrel
        by_cases hqj : q ≤ j
        · have HNo : Hid (¬ (Hb (tabOf Tn) tk s i q = true ∧ Cut (tabOf Tn) tk l q j) → ∀ q', i ≤ q' → q' < q + 1 → ¬ (Hb (tabOf Tn) tk s i q' = true ∧ Cut (tabOf Tn) tk l q' j)) := Lib.hid (fun hno q' h1 h2 => by
            rcases Nat.lt_or_ge q' q with h3 | h3
            · exact HX.out q' h1 h3
            · obtain rfl : q' = q := by omega
              exact hno)
          by_cases h0 : 0 ≤ s
          · by_cases hqi : q = i + 1
            · have hqb : ((q : Int) == (i : Int) + 1) = true := by rw [beq_iff_eq]; omega
              have HQi := Lib.hid hqi
              obtain ⟨ad2, y, rfl, hcy, HY⟩ := at_scalar HT.out i (by omega) 0
              have HHb : Hid (Hb (tabOf Tn) tk s i q = (y == s)) := Lib.hid (by unfold Hb; rw [if_pos h0, HY.out, hqi]; simp)
              have hil : i < tk.length := by omega
              clear hqi
              by_cases hys : y = s
              · subst hys
                have hyb : (y == y) = true := by simp
                have HT2 := Lib.hid (HIH.out q d hq1 hqj)
                cases hcut : tb (Cut (tabOf Tn) tk l q j)
                · rw [hcut] at HT2
                  have HN := Lib.hid (HNo.out (fun h => by rw [tb_yes h.2] at hcut; cases hcut))
                  clear hcut
                  go_wp2_with (go_at_call 29; refine HT2.out.mono ?_; rintro e w' ⟨rfl, n1, rfl⟩)
                  go_roundw
                  case rel => exact ⟨q + 1, d + n1, by omega, by omega, by go_num, by first | rfl | rw [World.drewN_drewN], HN⟩
                  case measure => simp [intOf]; omega
                · rw [hcut] at HT2
                  have HE : Hid (tb (Cut (tabOf Tn) tk (y :: l) i j) = true) := Lib.hid (tb_yes ⟨q, hq1, hqj, by rw [HHb.out]; simp, tb_iff.1 hcut⟩)
                  clear hcut
                  go_wp2_with (go_at_call 29; refine HT2.out.mono ?_; rintro e w' ⟨rfl, n1, rfl⟩)
                  go_ret
                  exact ⟨ret_bool HE.out.symm, _, by first | rfl | exact World.drewN_drewN _ _ _⟩
              · have hyb : (y == s) = false := by simpa using hys
                have HN := Lib.hid (HNo.out (fun h => by rw [HHb.out, hyb] at h; cases h.1))
                go_wp2
                go_roundw
                case rel => exact ⟨q + 1, d, by omega, by omega, by go_num, rfl, HN⟩
                case measure => simp [intOf]; omega
            · have hqb : ((q : Int) == (i : Int) + 1) = false := by rw [beq_eq_false_iff_ne]; omega
              have HN := Lib.hid (HNo.out (fun h => by
                have h1 := h.1
                unfold Hb at h1
                rw [if_pos h0] at h1
                simp only [Bool.and_eq_true, decide_eq_true_eq] at h1
                omega))
              go_wp2
              go_roundw
              case rel => exact ⟨q + 1, d, by omega, by omega, by go_num, rfl, HN⟩
              case measure => simp [intOf]; omega
          · have k2 := (hS.out.below HH.out).cell i (by omega)
            have k3 := ((hS.inn i (by omega)).below HH.out).cell (q - i) (by omega)
            rw [show i + (q - i) = q by omega] at k3
            have hqI : ((q : Int) - i) = ((q - i : Nat) : Int) := by omega
            have d1 : 0 ≤ -1 - s := by omega
            have d2 : -1 - s < 60 := by omega
            obtain ⟨x, hx⟩ : ∃ x, Tn i q = x := ⟨_, rfl⟩
            have hxl : x < 18446744073709551616 := by rw [← hx]; exact lt_u64 (hS.lim i q) (by omega)
            rw [hx] at k3
            have HHb : Hid (Hb (tabOf Tn) tk s i q = x.testBit (-1 - s).toNat) := Lib.hid (by rw [tab_hb (by omega), hx, hasN_nat d1 (by omega)])
            have hbit : (bits BinOp.and IntKind.u64 ((x : Int) / 2 ^ (-1 - s).toNat) 1 == 1) = x.testBit (-1 - s).toNat := bit_of hxl _
            have HXl := Lib.hid hxl
            clear hx hxl
            cases hT : x.testBit (-1 - s).toNat
            · rw [hT] at hbit HHb
              have HN := Lib.hid (HNo.out (fun h => by rw [HHb.out] at h; cases h.1))
              clear hT
              go_wp2
              go_roundw
              case rel => exact ⟨q + 1, d, by omega, by omega, by go_num, rfl, HN⟩
              case measure => simp [intOf]; omega
            · rw [hT] at hbit HHb
              clear hT
              have HT2 := Lib.hid (HIH.out q d hq1 hqj)
              cases hcut : tb (Cut (tabOf Tn) tk l q j)
              · rw [hcut] at HT2
                have HN := Lib.hid (HNo.out (fun h => by rw [tb_yes h.2] at hcut; cases hcut))
                clear hcut
                go_wp2_with (go_at_call 29; refine HT2.out.mono ?_; rintro e w' ⟨rfl, n1, rfl⟩)
                go_roundw
                case rel => exact ⟨q + 1, d + n1, by omega, by omega, by go_num, by first | rfl | rw [World.drewN_drewN], HN⟩
                case measure => simp [intOf]; omega
              · rw [hcut] at HT2
                have HE : Hid (tb (Cut (tabOf Tn) tk (s :: l) i j) = true) := Lib.hid (tb_yes ⟨q, hq1, hqj, HHb.out, tb_iff.1 hcut⟩)
                clear hcut
                go_wp2_with (go_at_call 29; refine HT2.out.mono ?_; rintro e w' ⟨rfl, n1, rfl⟩)
                go_ret
                exact ⟨ret_bool HE.out.symm, _, by first | rfl | exact World.drewN_drewN _ _ _⟩
        · have HE : Hid (tb (Cut (tabOf Tn) tk (s :: l) i j) = false) := Lib.hid (tb_no (by
            rintro ⟨q', h1, h2, h3, h4⟩
            exact HX.out q' h1 (by omega) ⟨h3, h4⟩))
          go_wp2
          go_ret
          exact ⟨ret_bool HE.out.symm, _, rfl⟩
end Go.Proofs.YtndimnomkcjeiaaDoor.Hand
/- Chapter 24's own small; plain facts for MemberRules. -/
namespace Go.Proofs.YtndimnomkcjeiaaDoor.Hand
open Go.RowKit Go.Proofs.YtndimnomkcjeiaaDoorW.PrintWords Go.Proofs.YtndimnomkcjeiaaDoorW.PrintMore Go.Proofs.YtndimnomkcjeiaaDoor.Math

def smallB (g : Gr) (n : Nat) : Bool := decide (n ≤ 8) && decide (g.rules.length ≤ 30) && g.rules.all (fun r => decide (r.2.length ≤ 6))
theorem smallB_le {g : Gr} {n : Nat} (h : smallB g n = true) : n ≤ 8 := by unfold smallB at h; simp at h; exact h.1.1
theorem smallB_no {g : Gr} {n i : Nat} (hi : i < g.rules.length) (h : 6 < (g.rules.getD i (0, [])).2.length) : smallB g n = false := by
  rw [← Bool.not_eq_true]
  intro hb
  unfold smallB at hb
  simp only [Bool.and_eq_true, List.all_eq_true, decide_eq_true_eq] at hb
  have := hb.2 _ (getD_mem g.rules i (0, []) hi)
  omega
theorem smallB_yes {g : Gr} {n : Nat} (h8 : n ≤ 8) (h24 : g.rules.length ≤ 30) (h : ∀ i, i < g.rules.length → (g.rules.getD i (0, [])).2.length ≤ 6) : smallB g n = true := by
  unfold smallB
  simp only [Bool.and_eq_true, List.all_eq_true, decide_eq_true_eq]
  refine ⟨⟨h8, h24⟩, fun r hr => ?_⟩
  obtain ⟨i, hi, rfl⟩ := List.getElem_of_mem hr
  have := h i hi
  rwa [List.getD_eq_getElem?_getD, List.getElem?_eq_getElem hi, Option.getD_some] at this
set_option maxHeartbeats 1000000 in
theorem small_calls (v : Value) (g : Gr) (At : Option Addr) (ct n : Nat) (w : World) (hn : n ≤ 9223372036854775807) (hv : GramAt w v g) :
    Calls Tryd.prog 28 #[v, .slice At n ct] w fun e w' => e = .returned (.bool (smallB g n)) ∧ Below w.heap.size w w' := by
  obtain ⟨AT, cT, AN, cN, AR, cR, rfl, q1, q2, q3, q4, q5, q6⟩ := hv
  have hlr := q6.2.1
  obtain ⟨w1, hw1⟩ : ∃ w1, w.alloc (.cells #[.slice AT g.terms.length cT, .slice AN g.nonterms.length cN, .int .i64 g.ax, .slice AR g.rules.length cR] 25) = w1 := ⟨_, rfl⟩
  have hb1 : Below w.heap.size w w1 := by rw [← hw1]; exact below_alloc (Below.refl _ _) _
  have hk1 : w1.heap[w.heap.size]? = some (.cells #[.slice AT g.terms.length cT, .slice AN g.nonterms.length cN, .int .i64 g.ax, .slice AR g.rules.length cR] 25 (0, 0)) := by rw [← hw1]; exact heap_alloc_new w _
  obtain ⟨c0, c1, c2, c3⟩ := blk_cells2 hk1
  have HB1 := Lib.hid hb1
  have HR := Lib.hid (Kd.C_below q6 hb1)
  clear hb1 hk1 q4 q5 q6
  by_cases h8 : 8 < n
  · have HE : Hid (smallB g n = false) := Lib.hid (by rw [← Bool.not_eq_true]; intro h; have := smallB_le h; omega)
    go_enter Tryd.func28, Tryd.ntmps28
    go_wp2
    go_ret
    exact ⟨ret_bool HE.out.symm, HB1.out⟩
  · have H8 := Lib.hid (show n ≤ 8 by omega)
    by_cases h24 : 30 < g.rules.length
    · have HE : Hid (smallB g n = false) := Lib.hid (by unfold smallB; rw [decide_eq_false (p := g.rules.length ≤ 30) (by omega)]; simp)
      go_enter Tryd.func28, Tryd.ntmps28
      go_wp2
      go_ret
      exact ⟨ret_bool HE.out.symm, HB1.out⟩
    · go_enter Tryd.func28, Tryd.ntmps28
      go_wp2
      go_loop [5] (fun x => ∃ i : Nat, i ≤ g.rules.length ∧ x = .int .i64 i ∧ Hid (∀ k, k < i → (g.rules.getD k (0, [])).2.length ≤ 6)) (fun x => g.rules.length - (intOf x).toNat)
      case atStart => exact ⟨0, by omega, rfl, Lib.hid (fun k h => by omega)⟩
      case round =>
        obtain ⟨i, hi, rfl, HX⟩ := hrel
        by_cases hlt : i < g.rules.length
        · obtain ⟨ad, x', B, c, r, rfl, k1, k2, hrc, hr, HDr⟩ := at_rule HR.out i hlt
          have hrl := hr.2.1
          clear hr
          by_cases h5 : 6 < r.length
          · have HE : Hid (smallB g n = false) := Lib.hid (smallB_no hlt (by rw [HDr.out]; exact h5))
            go_wp2
            go_ret
            exact ⟨ret_bool HE.out.symm, HB1.out⟩
          · go_wp2
            go_round
            case rel => exact ⟨i + 1, by omega, by go_num, Lib.hid (fun k hk => by
              rcases Nat.lt_or_ge k i with h' | h'
              · exact HX.out k h'
              · obtain rfl : k = i := by omega
                rw [HDr.out]; show r.length ≤ 6; omega)⟩
            case measure => simp [intOf]; omega
        · go_wp2
          go_ret
          exact ⟨ret_bool (smallB_yes H8.out (by omega) (fun k hk => HX.out k (by omega))).symm, HB1.out⟩
/-- By a right table: a nonterminal derives a part just if it has a rule for which the part can be cut. -/
theorem Exact.rule {R : List (Int × List Int)} {tk : List Int} {t N : Nat} {T : Nat → Nat → Nat → Bool} (h : Exact R tk tk.length N T) (hR : RulesIn t N R) {x i j : Nat} (hx : x < N) (hij : i ≤ j) (hj : j ≤ tk.length) :
    T i j x = true ↔ ∃ n, n < R.length ∧ (R.getD n (0, [])).1 = (x : Int) ∧ Cut T tk (R.getD n (0, [])).2 i j := by
  have hS : Sound R tk tk.length N T := fun i j k h1 h2 h3 h4 => (h i j k h1 h2 h3).1 h4
  constructor
  · intro hT
    obtain ⟨r, hr, hl, hs⟩ := (h i j x hij hj hx).1 hT
    obtain ⟨n, hn, rfl⟩ := List.getElem_of_mem hr
    have e : R.getD n (0, []) = R[n] := by rw [List.getD_eq_getElem?_getD, List.getElem?_eq_getElem hn]; rfl
    refine ⟨n, hn, by rw [e]; exact hl, ?_⟩
    rw [e]
    refine SeqD_cut hj (fun r hr => hR.left hr) (fun i' j' h1 h2 h3 _ k hk hd => (h i' j' k h2 (by omega) hk).2 hd) (fun r hr => ?_) hs (Nat.le_refl _) (Nat.le_refl _)
    by_cases hc : Cut T tk r.2 i j
    · have hl2 := hR.left hr
      exact .inl ((h i j r.1.toNat hij hj (by omega)).2 ⟨r, hr, by omega, Cut_sound hS (fun s hs => (hR.sym hr hs).1) hj hc⟩)
    · exact .inr hc
  · rintro ⟨n, hn, hl, hc⟩
    have hr := getD_mem R n (0, []) hn
    exact (h i j x hij hj hx).2 ⟨_, hr, hl, Cut_sound hS (fun s hs => (hR.sym hr hs).1) hj hc⟩
theorem SetIs.more {N s x : Nat} {P : Nat → Prop} (h : SetIs N s P) (hN : N ≤ 64) (hx : x < N) {Q : Nat → Prop} (hQ : ∀ k, k < N → (Q k ↔ P k ∨ k = x)) : SetIs N (s ||| 2 ^ x) Q := by
  refine ⟨Nat.or_lt_two_pow h.lt (Nat.pow_lt_pow_right (by decide) hx), fun k hk => ?_⟩
  rw [Nat.testBit_or, Bool.or_eq_true, h.is k hk, Nat.testBit_two_pow, decide_eq_true_eq, hQ k hk]
  exact ⟨fun h => h.elim .inl (fun h => .inr h.symm), fun h => h.elim .inl (fun h => .inr h.symm)⟩
end Go.Proofs.YtndimnomkcjeiaaDoor.Hand
/- Maps that a call makes, from keys to whole numbers: by what they hold at each key. -/
namespace Go.Proofs.YtndimnomkcjeiaaDoor.Hand
open Go.RowKit Go.Proofs.YtndimnomkcjeiaaDoorW.PrintWords Go.Proofs.YtndimnomkcjeiaaDoorW.PrintMore Go.Proofs.YtndimnomkcjeiaaDoor.Math
open Go.Maps (Keyed)

/-- Block b is a map from keys of type k, all of which satisfy K, to numbers of kind q; it holds F; it has at most n entries. -/
def MapN (w : World) (k e : TypeId) (q : IntKind) (b n : Nat) (K : Value → Prop) (F : Value → Option Int) : Prop :=
  ∃ L : List (Lit × DataW Unit), w.ownsMap Tryd.prog k (plainElem Tryd.prog e) b L.length (.map L) ∧ L.length ≤ n ∧ (∀ p ∈ L, ∃ v, K v ∧ keyOf Tryd.prog k v = some p.1) ∧
    ∀ v kl, keyOf Tryd.prog k v = some kl → (F v = none → Maps.has (.map L) kl = false) ∧ ∀ c, F v = some c → Maps.has (.map L) kl = true ∧ ∀ z, (DataW.map L).atKey kl z = .lit (.int q c)
theorem ownsMap_tight {w : World} {k : TypeId} {R : Value → Option (DataW Unit × List MemPlace)} {b n : Nat} {L : List (Lit × DataW Unit)} (h : w.ownsMap Tryd.prog k R b n (.map L)) : w.ownsMap Tryd.prog k R b L.length (.map L) := by
  obtain ⟨es, clock, hb, F, hs, hD⟩ := h
  refine ⟨es, clock, hb, F, ?_, hD⟩
  injection hD with hD
  rw [hD, length_sorted]
  simp
section
variable {w w' : World} {k e t : TypeId} {q : IntKind} {b n : Nat} {K : Value → Prop} {F : Value → Option Int}
theorem MapN.made (w : World) (k e : TypeId) (q : IntKind) (K : Value → Prop) : MapN (w.alloc (.map #[] 0)) k e q w.heap.size 0 K (fun _ => none) :=
  ⟨[], World.ownsMap_made w _ _ _, Nat.le_refl _, (fun p hp => by cases hp), (fun v kl _ => ⟨(fun _ => rfl), (fun c h => by cases h)⟩)⟩
theorem MapN.block (h : MapN w k e q b n K F) (hb : w'.heap[b]? = w.heap[b]?) : MapN w' k e q b n K F := by
  obtain ⟨L, ⟨es, clock, h1, h2⟩, h3⟩ := h
  exact ⟨L, ⟨es, clock, hb.trans h1, h2⟩, h3⟩
theorem MapN.lt (h : MapN w k e q b n K F) : b < w.heap.size := by
  obtain ⟨L, h1, _⟩ := h
  exact h1.lt
theorem MapN.le {m : Nat} (h : MapN w k e q b n K F) (hm : n ≤ m) : MapN w k e q b m K F := by
  obtain ⟨L, h1, h2, h3⟩ := h
  exact ⟨L, h1, Nat.le_trans h2 hm, h3⟩
theorem MapN.below (h : MapN w k e q b n K F) (hb : Below w.heap.size w w') : MapN w' k e q b n K F := h.block (hb.block b h.lt)
theorem MapN.look (h : MapN w k e q b n K F) (Kd : Keyed Tryd.prog k) (ht : Tryd.prog.underlying t = some (.map k e)) (he : Tryd.prog.underlying e = some (.int q)) (hz : (zeroValue e).run Tryd.prog w = .ok (.int q 0) w) {v : Value} {kl : Lit} (hk : keyOf Tryd.prog k v = some kl) :
    (Instr.lookup t (.map (some b)) v false).run Tryd.prog w = .ok (.int q ((F v).getD 0)) w := by
  obtain ⟨L, h1, _, _, h4⟩ := h
  obtain ⟨c, hrun, hat, _⟩ := h1.lookup_int Kd ht he hz hk
  obtain ⟨a1, a2⟩ := h4 v kl hk
  rw [hrun]
  cases hF : F v with
  | none =>
    rw [Maps.atKey_of_not_has (a1 hF)] at hat
    simp only [DataW.lit.injEq, Lit.int.injEq, true_and] at hat
    subst hat
    first | simp only [Option.getD_none] | simp only [Option.getD_some]
  | some d =>
    rw [(a2 d hF).2] at hat
    simp only [DataW.lit.injEq, Lit.int.injEq, true_and] at hat
    subst hat
    first | simp only [Option.getD_none] | simp only [Option.getD_some]
theorem MapN.lookOk (h : MapN w k e q b n K F) (Kd : Keyed Tryd.prog k) (ht : Tryd.prog.underlying t = some (.map k e)) (he : Tryd.prog.underlying e = some (.int q)) (hz : (zeroValue e).run Tryd.prog w = .ok (.int q 0) w) {v : Value} {kl : Lit} (hk : keyOf Tryd.prog k v = some kl) :
    (Instr.lookup t (.map (some b)) v true).run Tryd.prog w = .ok (.tuple #[.int q ((F v).getD 0), .bool (F v).isSome]) w := by
  obtain ⟨L, h1, _, _, h4⟩ := h
  have hw0 : (Lit.int q 0).wf = true := by cases q <;> decide
  obtain ⟨u, ps, hrun, hv⟩ := h1.look_ok Kd ht hz (plainElem_int he hw0) hk
  obtain ⟨c, rfl, hc, _⟩ := plainElem_int_inv he hv
  simp only [Prod.mk.injEq] at hc
  have hat := hc.1
  obtain ⟨a1, a2⟩ := h4 v kl hk
  rw [hrun]
  cases hF : F v with
  | none =>
    rw [Maps.atKey_of_not_has (a1 hF)] at hat
    simp only [DataW.lit.injEq, Lit.int.injEq, true_and] at hat
    subst hat
    simp only [Option.getD_none, a1 hF, Option.isSome_none]
  | some d =>
    rw [(a2 d hF).2] at hat
    simp only [DataW.lit.injEq, Lit.int.injEq, true_and] at hat
    subst hat
    simp only [Option.getD_some, (a2 d hF).1, Option.isSome_some]
open Classical in
noncomputable def updF (F : Value → Option Int) (v : Value) (c : Int) : Value → Option Int := fun u => if u = v then some c else F u
theorem updF_same {F : Value → Option Int} {v : Value} {c : Int} : updF F v c v = some c := by unfold updF; rw [if_pos rfl]
theorem updF_other {F : Value → Option Int} {u v : Value} {c : Int} (h : u ≠ v) : updF F v c u = F u := by unfold updF; rw [if_neg h]
theorem MapN.store (h : MapN w k e q b n K F) (Kd : Keyed Tryd.prog k) (ht : Tryd.prog.underlying t = some (.map k e)) (he : Tryd.prog.underlying e = some (.int q)) (hn : n < maxLen) {v : Value} {kl : Lit} (hk : keyOf Tryd.prog k v = some kl) (hKv : K v) {c : Int} (hc : (Lit.int q c).wf = true) :
    ∃ w', (Instr.mapUpdate t (.map (some b)) v (.int q c)).run Tryd.prog w = .ok () w' ∧ MapN w' k e q b (n + 1) K (updF F v c) ∧ w.grownBy w' (some b) := by
  obtain ⟨L, h1, h2, h3, h4⟩ := h
  obtain ⟨w', hrun, hown, hg⟩ := h1.update Kd ht (Nat.lt_of_le_of_lt h2 hn) hk (plainElem_int he hc)
  refine ⟨w', hrun, ⟨_, ownsMap_tight hown, ?_, ?_, ?_⟩, hg⟩
  · have := hown.size_le
    simp only [Maps.size] at this
    have e : (DataW.insert (kl, DataW.lit (Lit.int q c)) (L.filter fun p => !p.1.sameKey kl)).length ≤ L.length + 1 := this
    omega
  · intro p hp
    rcases ChangeMaps.mem_insert_iff.1 hp with rfl | hp
    · exact ⟨v, hKv, hk⟩
    · exact h3 p (List.mem_filter.1 hp).1
  · intro u ul hu
    show (updF F v c u = none → Maps.has ((DataW.map L).put kl (.lit (.int q c))) ul = false) ∧ _
    by_cases e : u = v
    · subst e
      obtain rfl : ul = kl := Option.some.inj (hu.symm.trans hk)
      rw [updF_same]
      refine ⟨(fun h => by cases h), (fun d hd => ?_)⟩
      obtain rfl := Option.some.inj hd
      exact ⟨Maps.has_put_same ⟨L, rfl⟩ (Kd.key hk) _, fun z => Maps.atKey_put_same ⟨L, rfl⟩ (Kd.key hk) _ z⟩
    · have hne : ul ≠ kl := fun h => e (Kd.inj hu (by rw [h]; exact hk))
      rw [updF_other e]
      obtain ⟨a1, a2⟩ := h4 u ul hu
      have b1 : Maps.has ((DataW.map L).put kl (.lit (.int q c))) ul = Maps.has (.map L) ul := Maps.has_put_other hne _
      have b2 : ∀ z, ((DataW.map L).put kl (.lit (.int q c))).atKey ul z = (DataW.map L).atKey ul z := fun z => Maps.atKey_put_other hne _ z
      exact ⟨(fun h => b1.trans (a1 h)), (fun d hd => ⟨b1.trans (a2 d hd).1, (fun z => (b2 z).trans ((a2 d hd).2 z))⟩)⟩
theorem nodup_le {α : Type} : ∀ {l m : List α}, l.Pairwise (· ≠ ·) → (∀ x ∈ l, x ∈ m) → l.length ≤ m.length
  | [], _, _, _ => Nat.zero_le _
  | x :: l, m, h, hs => by
    classical
    obtain ⟨h1, h2⟩ := List.pairwise_cons.1 h
    have hx := hs x (List.mem_cons_self ..)
    have := nodup_le (l := l) (m := m.erase x) h2 (fun y hy => (List.mem_erase_of_ne (fun e => h1 y hy e.symm)).2 (hs y (List.mem_cons_of_mem _ hy)))
    rw [List.length_erase_of_mem hx] at this
    have hp := List.length_pos_of_mem hx
    simp only [List.length_cons]
    omega
theorem MapN.trim (h : MapN w k e q b n K F) (Kd : Keyed Tryd.prog k) (box : List Value) (hb : ∀ v, K v → v ∈ box) : MapN w k e q b box.length K F := by
  obtain ⟨L, h1, h2, h3, h4⟩ := h
  refine ⟨L, h1, ?_, h3, h4⟩
  obtain ⟨es, he, hp⟩ := h1.tidy Kd
  injection he with he
  subst he
  have := nodup_le (l := L.map (·.1)) (m := box.filterMap (keyOf Tryd.prog k)) (by rw [List.pairwise_map]; exact hp) (fun x hx => by
    obtain ⟨p, hp, rfl⟩ := List.mem_map.1 hx
    obtain ⟨v, hv, hk⟩ := h3 p hp
    exact List.mem_filterMap.2 ⟨v, hb v hv, hk⟩)
  rw [List.length_map] at this
  exact Nat.le_trans this (List.length_filterMap_le _ _)
end
end Go.Proofs.YtndimnomkcjeiaaDoor.Hand
/- How many derivation trees there are: reckoned with fuel; a node that no fuel serves has endlessly many. -/
namespace Go.Proofs.YtndimnomkcjeiaaDoor.Hand
open Go.RowKit Go.Proofs.YtndimnomkcjeiaaDoorW.PrintWords Go.Proofs.YtndimnomkcjeiaaDoorW.PrintMore Go.Proofs.YtndimnomkcjeiaaDoor.Math
open Classical

def mulO : Option Nat → Option Nat → Option Nat
  | some a, some b => some (a * b)
  | _, _ => none
def addO : Option Nat → Option Nat → Option Nat
  | some a, some b => some (a + b)
  | _, _ => none
theorem mulO_some {x y : Option Nat} {c : Nat} (h : mulO x y = some c) : ∃ a b, x = some a ∧ y = some b ∧ c = a * b := by
  cases x <;> cases y <;> simp [mulO] at h
  exact ⟨_, _, rfl, rfl, h.symm⟩
theorem addO_some {x y : Option Nat} {c : Nat} (h : addO x y = some c) : ∃ a b, x = some a ∧ y = some b ∧ c = a + b := by
  cases x <;> cases y <;> simp [addO] at h
  exact ⟨_, _, rfl, rfl, h.symm⟩
/-- A sum of some first ones. -/
def sumO (f : Nat → Option Nat) : Nat → Option Nat
  | 0 => some 0
  | m + 1 => addO (sumO f m) (f m)
theorem sumO_mono {f g : Nat → Option Nat} : ∀ {m c : Nat}, (∀ q, q < m → ∀ c, f q = some c → g q = some c) → sumO f m = some c → sumO g m = some c
  | 0, _, _, h => h
  | m + 1, c, hfg, h => by
    obtain ⟨a, b, h1, h2, rfl⟩ := addO_some h
    show addO (sumO g m) (g m) = _
    rw [sumO_mono (fun q hq => hfg q (by omega)) h1, hfg m (by omega) b h2]; rfl
theorem sumO_part {f : Nat → Option Nat} : ∀ {m c : Nat}, sumO f m = some c → ∀ q, q < m → ∃ a, f q = some a
  | 0, _, _, q, hq => by omega
  | m + 1, c, h, q, hq => by
    obtain ⟨a, b, h1, h2, _⟩ := addO_some h
    by_cases e : q = m
    · subst e; exact ⟨b, h2⟩
    · exact sumO_part h1 q (by omega)
theorem sumO_pre {f : Nat → Option Nat} : ∀ {m c k : Nat}, sumO f m = some c → k ≤ m → ∃ a, sumO f k = some a
  | 0, c, k, h, hk => by obtain rfl := Nat.le_zero.1 hk; exact ⟨c, h⟩
  | m + 1, c, k, h, hk => by
    obtain ⟨a, b, h1, h2, _⟩ := addO_some h
    by_cases e : k = m + 1
    · subst e; exact ⟨c, h⟩
    · exact sumO_pre h1 (by omega)
theorem sumO_all {f : Nat → Option Nat} : ∀ {m : Nat}, (∀ q, q < m → ∃ a, f q = some a) → ∃ c, sumO f m = some c
  | 0, _ => ⟨0, rfl⟩
  | m + 1, h => by
    obtain ⟨a, ha⟩ := sumO_all (m := m) (fun q hq => h q (by omega))
    obtain ⟨b, hb⟩ := h m (by omega)
    exact ⟨a + b, by show addO (sumO f m) (f m) = _; rw [ha, hb]; rfl⟩
theorem sumO_congr {f g : Nat → Option Nat} : ∀ {m : Nat}, (∀ q, q < m → f q = g q) → sumO f m = sumO g m
  | 0, _ => rfl
  | m + 1, h => by
    show addO (sumO f m) (f m) = addO (sumO g m) (g m)
    rw [sumO_congr (fun q hq => h q (by omega)), h m (by omega)]

section
variable (T : Nat → Nat → Nat → Bool) (tk : List Int)
/-- Does the first symbol fit to the tokens from i to q, the others to those from q to j? -/
def Fits (s : Int) (l : List Int) (i q j : Nat) : Prop := Hb T tk s i q = true ∧ Cut T tk l q j
/-- How symbols come to be the tokens from i to j; W: the trees of the nonterminals. -/
noncomputable def seqC (W : Nat → Nat → Nat → Option Nat) : List Int → Nat → Nat → Option Nat
  | [], i, j => some (if i = j then 1 else 0)
  | s :: l, i, j => sumO (fun q => if i ≤ q ∧ Fits T tk s l i q j then mulO (seqC W l q j) (if s < 0 then W (-1 - s).toNat i q else some 1) else some 0) (j + 1)
/-- The trees of a nonterminal: rule by rule. -/
noncomputable def ruleC (W : Nat → Nat → Nat → Option Nat) (R : List (Int × List Int)) (k i j : Nat) (n : Nat) : Option Nat :=
  if (R.getD n (0, [])).1 = (k : Int) ∧ Cut T tk (R.getD n (0, [])).2 i j then seqC T tk W (R.getD n (0, [])).2 i j else some 0
noncomputable def nodeC (R : List (Int × List Int)) : Nat → Nat → Nat → Nat → Option Nat
  | 0, _, _, _ => none
  | f + 1, k, i, j => sumO (ruleC T tk (nodeC R f) R k i j) R.length
variable {T tk}
theorem seqC_mono {W W' : Nat → Nat → Nat → Option Nat} : ∀ {l : List Int} {i j c : Nat}, (∀ k i' j' c, i ≤ i' → i' ≤ j' → j' ≤ j → W k i' j' = some c → W' k i' j' = some c) → seqC T tk W l i j = some c → seqC T tk W' l i j = some c
  | [], _, _, _, _, h => h
  | s :: l, i, j, c, hW, h => by
    refine sumO_mono (fun q hq c h => ?_) h
    by_cases hf : i ≤ q ∧ Fits T tk s l i q j
    · simp only [if_pos hf] at h ⊢
      obtain ⟨a, b, h1, h2, rfl⟩ := mulO_some h
      rw [seqC_mono (fun k i' j' c h1 h2 h3 => hW k i' j' c (by omega) h2 h3) h1]
      by_cases hs : s < 0
      · simp only [if_pos hs] at h2 ⊢; rw [hW _ _ _ _ (Nat.le_refl _) hf.1 (by omega) h2]; rfl
      · simp only [if_neg hs] at h2 ⊢; rw [h2]; rfl
    · simp only [if_neg hf] at h ⊢; exact h
theorem nodeC_mono {R : List (Int × List Int)} : ∀ {f k i j c : Nat}, nodeC T tk R f k i j = some c → nodeC T tk R (f + 1) k i j = some c
  | 0, _, _, _, _, h => by cases h
  | f + 1, k, i, j, c, h => by
    refine sumO_mono (fun n _ c h => ?_) h
    unfold ruleC at h ⊢
    split
    · rename_i hc; rw [if_pos hc] at h; exact seqC_mono (fun k i j c _ _ _ h => nodeC_mono h) h
    · rename_i hc; rw [if_neg hc] at h; exact h
theorem nodeC_le {R : List (Int × List Int)} {f g k i j c : Nat} (hfg : f ≤ g) (h : nodeC T tk R f k i j = some c) : nodeC T tk R g k i j = some c := by
  induction g with
  | zero => obtain rfl : f = 0 := by omega
            exact h
  | succ g ih =>
    by_cases e : f = g + 1
    · subst e; exact h
    · exact nodeC_mono (ih (by omega))
theorem nodeC_eq {R : List (Int × List Int)} {f g k i j c d : Nat} (h : nodeC T tk R f k i j = some c) (h' : nodeC T tk R g k i j = some d) : c = d := by
  have h1 := nodeC_le (Nat.le_max_left f g) h
  have h2 := nodeC_le (Nat.le_max_right f g) h'
  rw [h1] at h2
  exact Option.some.inj h2
end
section
variable (T : Nat → Nat → Nat → Bool) (tk : List Int) (R : List (Int × List Int))
/-- How many trees a node has; none: endlessly many. -/
noncomputable def treeN (k i j : Nat) : Option Nat := if h : ∃ f c, nodeC T tk R f k i j = some c then some (Classical.choose (Classical.choose_spec h)) else none
variable {T tk R}
theorem treeN_of {f k i j c : Nat} (h : nodeC T tk R f k i j = some c) : treeN T tk R k i j = some c := by
  have he : ∃ f c, nodeC T tk R f k i j = some c := ⟨f, c, h⟩
  unfold treeN
  rw [dif_pos he]
  exact congrArg some (nodeC_eq (Classical.choose_spec (Classical.choose_spec he)) h)
theorem treeN_iff {k i j c : Nat} : treeN T tk R k i j = some c ↔ ∃ f, nodeC T tk R f k i j = some c := by
  constructor
  · intro h
    unfold treeN at h
    split at h
    · rename_i he
      have := Option.some.inj h
      exact ⟨_, by rw [← this]; exact Classical.choose_spec (Classical.choose_spec he)⟩
    · cases h
  · rintro ⟨f, h⟩; exact treeN_of h
theorem sumO_fuel {F : Nat → Option Nat} {G : Nat → Nat → Option Nat} (hm : ∀ f q c, G f q = some c → G (f + 1) q = some c) : ∀ {m c : Nat}, (∀ q, q < m → ∀ c, F q = some c → ∃ f, G f q = some c) → sumO F m = some c → ∃ f, sumO (G f) m = some c
  | 0, c, _, h => ⟨0, h⟩
  | m + 1, c, hF, h => by
    have hl : ∀ d f q c, G f q = some c → G (f + d) q = some c := by
      intro d
      induction d with
      | zero => intro f q c h; exact h
      | succ d ih => intro f q c h; exact hm _ _ _ (ih f q c h)
    have hl' : ∀ f g q c, f ≤ g → G f q = some c → G g q = some c := fun f g q c hfg h => by
      have := hl (g - f) f q c h
      rwa [show f + (g - f) = g by omega] at this
    obtain ⟨a, b, h1, h2, rfl⟩ := addO_some h
    obtain ⟨f, hf⟩ := sumO_fuel hm (fun q hq => hF q (by omega)) h1
    obtain ⟨g, hg⟩ := hF m (by omega) b h2
    refine ⟨max f g, ?_⟩
    show addO (sumO (G (max f g)) m) (G (max f g) m) = _
    rw [sumO_mono (fun q _ c h => hl' f _ q c (Nat.le_max_left f g) h) hf, hl' g _ m b (Nat.le_max_right f g) hg]; rfl
/-- How symbols come to be a part, by all the trees. -/
noncomputable def seqN (l : List Int) (i j : Nat) : Option Nat := seqC T tk (treeN T tk R) l i j
theorem seqC_fuel : ∀ {l : List Int} {i j c : Nat}, seqC T tk (treeN T tk R) l i j = some c → ∃ f, seqC T tk (nodeC T tk R f) l i j = some c
  | [], _, _, _, h => ⟨0, h⟩
  | s :: l, i, j, c, h => by
    refine sumO_fuel (G := fun f q => if i ≤ q ∧ Fits T tk s l i q j then mulO (seqC T tk (nodeC T tk R f) l q j) (if s < 0 then nodeC T tk R f (-1 - s).toNat i q else some 1) else some 0) (fun f q c h => ?_) (fun q _ c h => ?_) h
    · by_cases hf : i ≤ q ∧ Fits T tk s l i q j
      · simp only [if_pos hf] at h ⊢
        obtain ⟨a, b, h1, h2, rfl⟩ := mulO_some h
        rw [seqC_mono (fun k i' j' c _ _ _ h => nodeC_mono h) h1]
        by_cases hs : s < 0
        · simp only [if_pos hs] at h2 ⊢; rw [nodeC_mono h2]; rfl
        · simp only [if_neg hs] at h2 ⊢; rw [h2]; rfl
      · simp only [if_neg hf] at h ⊢; exact h
    · by_cases hf : i ≤ q ∧ Fits T tk s l i q j
      · simp only [if_pos hf] at h ⊢
        obtain ⟨a, b, h1, h2, rfl⟩ := mulO_some h
        obtain ⟨f, h1⟩ := seqC_fuel h1
        by_cases hs : s < 0
        · simp only [if_pos hs] at h2 ⊢
          obtain ⟨g, h2⟩ := treeN_iff.1 h2
          refine ⟨max f g, ?_⟩
          rw [seqC_mono (fun k i' j' c _ _ _ h => nodeC_le (Nat.le_max_left f g) h) h1, nodeC_le (Nat.le_max_right f g) h2]; rfl
        · simp only [if_neg hs] at h2 ⊢
          exact ⟨f, by rw [h1, h2]; rfl⟩
      · simp only [if_neg hf] at h ⊢; exact ⟨0, h⟩
theorem treeN_some {k i j c : Nat} (h : sumO (ruleC T tk (treeN T tk R) R k i j) R.length = some c) : treeN T tk R k i j = some c := by
  obtain ⟨f, hf⟩ := sumO_fuel (G := fun f n => ruleC T tk (nodeC T tk R f) R k i j n) (fun f n c h => by
    unfold ruleC at h ⊢
    split
    · rename_i hc; rw [if_pos hc] at h; exact seqC_mono (fun k i j c _ _ _ h => nodeC_mono h) h
    · rename_i hc; rw [if_neg hc] at h; exact h) (fun n _ c h => by
    unfold ruleC at h
    by_cases hc : (R.getD n (0, [])).1 = (k : Int) ∧ Cut T tk (R.getD n (0, [])).2 i j
    · rw [if_pos hc] at h
      obtain ⟨f, hf⟩ := seqC_fuel h
      exact ⟨f, by unfold ruleC; rw [if_pos hc]; exact hf⟩
    · rw [if_neg hc] at h
      exact ⟨0, by unfold ruleC; rw [if_neg hc]; exact h⟩) h
  exact treeN_of (f := f + 1) hf
theorem treeN_eq (k i j : Nat) : treeN T tk R k i j = sumO (ruleC T tk (treeN T tk R) R k i j) R.length := by
  cases h : sumO (ruleC T tk (treeN T tk R) R k i j) R.length with
  | some c => exact treeN_some h
  | none =>
    cases h2 : treeN T tk R k i j with
    | none => rfl
    | some c =>
      obtain ⟨f, hf⟩ := treeN_iff.1 h2
      cases f with
      | zero => cases hf
      | succ f =>
        have : sumO (ruleC T tk (treeN T tk R) R k i j) R.length = some c := by
          refine sumO_mono (fun n _ c h => ?_) (show sumO (ruleC T tk (nodeC T tk R f) R k i j) R.length = some c from hf)
          unfold ruleC at h ⊢
          split
          · rename_i hc; rw [if_pos hc] at h; exact seqC_mono (fun k i j c _ _ _ h => treeN_of h) h
          · rename_i hc; rw [if_neg hc] at h; exact h
        rw [h] at this; cases this
/-- A node wants another one: whatever fuel serves the first, less serves the second. -/
def Dep (x y : Nat × Nat × Nat) : Prop := ∀ f c, nodeC T tk R f x.1 x.2.1 x.2.2 = some c → ∃ g d, g < f ∧ nodeC T tk R g y.1 y.2.1 y.2.2 = some d
def DepS (x : Nat × Nat × Nat) (l : List Int) (i j : Nat) : Prop := ∀ f c, nodeC T tk R f x.1 x.2.1 x.2.2 = some c → ∃ g d, g < f ∧ seqC T tk (nodeC T tk R g) l i j = some d
theorem Dep.loop {x : Nat × Nat × Nat} (h : Dep (T := T) (tk := tk) (R := R) x x) : treeN T tk R x.1 x.2.1 x.2.2 = none := by
  cases h2 : treeN T tk R x.1 x.2.1 x.2.2 with
  | none => rfl
  | some c =>
    obtain ⟨f, hf⟩ := treeN_iff.1 h2
    exact absurd hf (by
      have key : ∀ f c, ¬ nodeC T tk R f x.1 x.2.1 x.2.2 = some c := by
        intro f
        induction f using Nat.strongRecOn with
        | _ f ih =>
          intro c hc
          obtain ⟨g, d, hg, hd⟩ := h f c hc
          exact ih g hg d hd
      exact key f c)
theorem Dep.rule {x y : Nat × Nat × Nat} (h : Dep (T := T) (tk := tk) (R := R) x y) {n : Nat} (hn : n < R.length) (h1 : (R.getD n (0, [])).1 = (y.1 : Int)) (h2 : Cut T tk (R.getD n (0, [])).2 y.2.1 y.2.2) : DepS (T := T) (tk := tk) (R := R) x (R.getD n (0, [])).2 y.2.1 y.2.2 := by
  intro f c hf
  obtain ⟨g, d, hg, hd⟩ := h f c hf
  cases g with
  | zero => cases hd
  | succ g =>
    obtain ⟨a, ha⟩ := sumO_part (show sumO (ruleC T tk (nodeC T tk R g) R y.1 y.2.1 y.2.2) R.length = some d from hd) n hn
    unfold ruleC at ha
    rw [if_pos ⟨h1, h2⟩] at ha
    exact ⟨g, a, by omega, ha⟩
theorem DepS.self {x : Nat × Nat × Nat} {n : Nat} (hn : n < R.length) (h1 : (R.getD n (0, [])).1 = (x.1 : Int)) (h2 : Cut T tk (R.getD n (0, [])).2 x.2.1 x.2.2) : DepS (T := T) (tk := tk) (R := R) x (R.getD n (0, [])).2 x.2.1 x.2.2 := by
  intro f c hf
  cases f with
  | zero => cases hf
  | succ g =>
    obtain ⟨a, ha⟩ := sumO_part (show sumO (ruleC T tk (nodeC T tk R g) R x.1 x.2.1 x.2.2) R.length = some c from hf) n hn
    unfold ruleC at ha
    rw [if_pos ⟨h1, h2⟩] at ha
    exact ⟨g, a, by omega, ha⟩
theorem DepS.tail {x : Nat × Nat × Nat} {s : Int} {l : List Int} {i q j : Nat} (h : DepS (T := T) (tk := tk) (R := R) x (s :: l) i j) (hi : i ≤ q) (hq : q ≤ j) (hf : Fits T tk s l i q j) : DepS (T := T) (tk := tk) (R := R) x l q j := by
  intro f c hc
  obtain ⟨g, d, hg, hd⟩ := h f c hc
  obtain ⟨a, ha⟩ := sumO_part hd q (by omega)
  rw [if_pos ⟨hi, hf⟩] at ha
  obtain ⟨a1, b1, h1, _, _⟩ := mulO_some ha
  exact ⟨g, a1, hg, h1⟩
theorem DepS.head {x : Nat × Nat × Nat} {s : Int} {l : List Int} {i q j : Nat} (h : DepS (T := T) (tk := tk) (R := R) x (s :: l) i j) (hi : i ≤ q) (hq : q ≤ j) (hf : Fits T tk s l i q j) (hs : s < 0) : Dep (T := T) (tk := tk) (R := R) x ((-1 - s).toNat, i, q) := by
  intro f c hc
  obtain ⟨g, d, hg, hd⟩ := h f c hc
  obtain ⟨a, ha⟩ := sumO_part hd q (by omega)
  rw [if_pos ⟨hi, hf⟩] at ha
  obtain ⟨a1, b1, _, h1, _⟩ := mulO_some ha
  rw [if_pos hs] at h1
  exact ⟨g, b1, hg, h1⟩
end
/-- A number that is too great stays the greatest. -/
def sat (x : Nat) : Nat := if x ≤ 18446744073709551615 then x else 18446744073709551615
theorem sat_le (x : Nat) : sat x ≤ 18446744073709551615 := by unfold sat; split <;> omega
theorem sat_add (a b : Nat) : sat (sat a + sat b) = sat (a + b) := by
  have h1 : sat a = a ∧ a ≤ 18446744073709551615 ∨ sat a = 18446744073709551615 ∧ 18446744073709551615 < a := by unfold sat; split <;> omega
  have h2 : sat b = b ∧ b ≤ 18446744073709551615 ∨ sat b = 18446744073709551615 ∧ 18446744073709551615 < b := by unfold sat; split <;> omega
  have big : ∀ x, 18446744073709551615 ≤ x → sat x = 18446744073709551615 := fun x hx => by unfold sat; split <;> omega
  rcases h1 with ⟨h1, _⟩ | ⟨h1, _⟩ <;> rcases h2 with ⟨h2, _⟩ | ⟨h2, _⟩ <;> rw [h1, h2]
  · rw [big _ (by omega), big _ (by omega)]
  · rw [big _ (by omega), big _ (by omega)]
  · rw [big _ (by omega), big _ (by omega)]
theorem sat_mul (a b : Nat) : sat (sat a * sat b) = sat (a * b) := by
  have h1 : sat a = a ∨ (sat a = 18446744073709551615 ∧ 18446744073709551615 < a) := by unfold sat; split <;> omega
  have h2 : sat b = b ∨ (sat b = 18446744073709551615 ∧ 18446744073709551615 < b) := by unfold sat; split <;> omega
  have big : ∀ x, 18446744073709551615 ≤ x → sat x = 18446744073709551615 := fun x hx => by unfold sat; split <;> omega
  rcases h1 with h1 | ⟨h1, h1'⟩ <;> rcases h2 with h2 | ⟨h2, h2'⟩ <;> rw [h1, h2]
  · by_cases e : a = 0
    · subst e; simp
    · rw [big _ (Nat.le_mul_of_pos_left _ (by omega)), big _ (Nat.le_trans (Nat.le_of_lt h2') (Nat.le_mul_of_pos_left _ (by omega)))]
  · by_cases e : b = 0
    · subst e; simp
    · rw [big _ (Nat.le_mul_of_pos_right _ (by omega)), big _ (Nat.le_trans (Nat.le_of_lt h1') (Nat.le_mul_of_pos_right _ (by omega)))]
  · rw [big _ (Nat.le_mul_of_pos_right _ (by decide)), big _ (Nat.le_trans (Nat.le_of_lt h1') (Nat.le_mul_of_pos_right _ (by omega)))]
theorem sat_id {x : Nat} (h : x ≤ 18446744073709551615) : sat x = x := by unfold sat; rw [if_pos h]
end Go.Proofs.YtndimnomkcjeiaaDoor.Hand
/- The keys of the counter's maps. -/
namespace Go.Proofs.YtndimnomkcjeiaaDoor.Hand
open Go.RowKit Go.Proofs.YtndimnomkcjeiaaDoorW.PrintWords Go.Proofs.YtndimnomkcjeiaaDoorW.PrintMore Go.Proofs.YtndimnomkcjeiaaDoor.Math
open Go.Maps (Keyed)

def nodeK (a b i j : Int) : Value := .agg #[.int .i64 a, .int .i64 b, .int .i64 i, .int .i64 j]
theorem nodeK_inj {a b i j a' b' i' j' : Int} (h : nodeK a b i j = nodeK a' b' i' j') : a = a' ∧ b = b' ∧ i = i' ∧ j = j' := by
  unfold nodeK at h
  simpa using h
theorem node_keyed : Keyed Tryd.prog 111 := Keyed.of_law (deep_law_laid (m := 9) (by kernel_rfl) (by decide) (by decide +kernel) (by kernel_rfl) (by kernel_rfl))
theorem wf_i64 {n : Int} (h0 : -9223372036854775808 ≤ n) (h1 : n ≤ 9223372036854775807) : (Lit.int .i64 n).wf = true := by
  have e1 : IntKind.i64.min = -9223372036854775808 := rfl
  have e2 : IntKind.i64.max = 9223372036854775807 := rfl
  simp only [Lit.wf, Bool.and_eq_true, decide_eq_true_eq, e1, e2]
  omega
theorem wf_u64 {n : Int} (h0 : 0 ≤ n) (h1 : n ≤ 18446744073709551615) : (Lit.int .u64 n).wf = true := by
  have e1 : IntKind.u64.min = 0 := rfl
  have e2 : IntKind.u64.max = 18446744073709551615 := rfl
  simp only [Lit.wf, Bool.and_eq_true, decide_eq_true_eq, e1, e2]
  omega
theorem node_key {a b i j : Int} (ha : (Lit.int .i64 a).wf = true) (hb : (Lit.int .i64 b).wf = true) (hi : (Lit.int .i64 i).wf = true) (hj : (Lit.int .i64 j).wf = true) : ∃ kl, keyOf Tryd.prog 111 (nodeK a b i j) = some kl := by
  have hu := Tryd.underlying111
  have h3 := Tryd.underlying3
  have hk : Tryd.prog.keyType 111 = true := by kernel_rfl
  have hc : Tryd.prog.cellsOf 111 = 4 := by kernel_rfl
  have hc1 : Tryd.prog.cellsOf 3 = 1 := by kernel_rfl
  have hs0 : decide (0 < Tryd.prog.types.size) = true := by kernel_rfl
  obtain ⟨n, hs⟩ : ∃ n, Tryd.prog.types.size = n + 1 := ⟨Tryd.prog.types.size - 1, by have := of_decide_eq_true hs0; omega⟩
  have hl : ∀ x, (Lit.int .i64 x).wf = true → Tryd.prog.keyLits (n + 1) 3 [.int .i64 x] = some [.int .i64 x] := fun x hx => by
    unfold Program.keyLits
    rw [h3]
    simp [hx]
  have hf : Value.formed Tryd.prog 111 (nodeK a b i j) = true := by
    simp [Value.formed, hu, nodeK, hc]
  unfold keyOf
  rw [hu]
  simp only []
  rw [hs, hk, hf]
  unfold Program.keyLits
  rw [hu]
  simp [nodeK, Value.cells, hc, hc1, hl, ha, hb, hi, hj]
end Go.Proofs.YtndimnomkcjeiaaDoor.Hand
/- slices.Repeat of one number; math/bits.Mul. -/
namespace Go.Proofs.YtndimnomkcjeiaaDoor.Hand
open Go.RowKit Go.Proofs.YtndimnomkcjeiaaDoorW.PrintWords Go.Proofs.YtndimnomkcjeiaaDoorW.PrintMore Go.Proofs.YtndimnomkcjeiaaDoor.Math

set_option maxHeartbeats 1000000 in
theorem mul64_calls (x y : Nat) (hx : x < 18446744073709551616) (hy : y < 18446744073709551616) (w : World) :
    Calls Tryd.prog 67 #[.int .u64 x, .int .u64 y] w fun e w' => e = .returned (.tuple #[.int .u64 ((x * y / 18446744073709551616 : Nat) : Int), .int .u64 ((x * y % 18446744073709551616 : Nat) : Int)]) ∧ w' = w := by
  obtain ⟨bd, bt, bw, hhi⟩ := Lib.mul64_hi x y hx hy
  have ba := Lib.half_mul_le (a := x / 4294967296) (b := y / 4294967296) (by omega) (by omega)
  have bb := Lib.half_mul_le (a := x / 4294967296) (b := y % 4294967296) (by omega) (by omega)
  have bc := Lib.half_mul_le (a := x % 4294967296) (b := y / 4294967296) (by omega) (by omega)
  have ba' : x / 4294967296 * (y / 4294967296) < 18446744073709551616 := by omega
  have bb' : x / 4294967296 * (y % 4294967296) < 18446744073709551616 := by omega
  have bc' : x % 4294967296 * (y / 4294967296) < 18446744073709551616 := by omega
  have bh1 : x / 4294967296 * (y / 4294967296) + (x / 4294967296 * (y % 4294967296) + x % 4294967296 * (y % 4294967296) / 4294967296) / 4294967296 < 18446744073709551616 := by omega
  have bh : x / 4294967296 * (y / 4294967296) + (x / 4294967296 * (y % 4294967296) + x % 4294967296 * (y % 4294967296) / 4294967296) / 4294967296 + ((x / 4294967296 * (y % 4294967296) + x % 4294967296 * (y % 4294967296) / 4294967296) % 4294967296 + x % 4294967296 * (y / 4294967296)) / 4294967296 < 18446744073709551616 := by omega
  go_enter Tryd.func67, Tryd.ntmps67
  go_wp2
  simp only [Mul64.maskN x hx, Mul64.maskN y hy, Mul64.divN, Mul64.mulN, Mul64.addN, Mul64.wrapN _ bd, Mul64.wrapN _ bb', Mul64.wrapN _ bt, Mul64.maskN _ bt, Mul64.wrapN _ bc', Mul64.wrapN _ bw, Mul64.wrapN _ ba', Mul64.wrapN _ bh1, Mul64.wrapN _ bh, Mul64.wrapM (x * y)]
  rw [hhi]
  go_ret2
  exact ⟨rfl, rfl⟩
theorem splice_rep {α : Type} (a b : α) (n m k : Nat) : splice (List.replicate n a ++ List.replicate (m + k) b) n (List.replicate m a) = List.replicate (n + m) a ++ List.replicate k b := by
  unfold splice
  rw [List.take_left' (by simp), List.length_replicate, List.drop_append]
  simp only [List.length_replicate, List.drop_replicate]
  have e1 : n - (n + m) = 0 := by omega
  have e2 : m + k - (n + m - n) = k := by omega
  rw [e1, e2, List.replicate_zero, List.nil_append, ← List.append_assoc, List.replicate_append_replicate]
end Go.Proofs.YtndimnomkcjeiaaDoor.Hand
/- Contracts of member.plus, member.times. -/
namespace Go.Proofs.YtndimnomkcjeiaaDoor.Hand
open Go.RowKit Go.Proofs.YtndimnomkcjeiaaDoorW.PrintWords Go.Proofs.YtndimnomkcjeiaaDoorW.PrintMore Go.Proofs.YtndimnomkcjeiaaDoor.Math

theorem add64_run (x y : Nat) (hx : x < 18446744073709551616) (hy : y < 18446744073709551616) (w : World) :
    (callFunc 62 #[.int .u64 x, .int .u64 y, .int .u64 0]).run Tryd.prog w =
      .ok (.value (.tuple #[.int .u64 (((x + y) % 18446744073709551616 : Nat) : Int), .int .u64 (((x + y) / 18446744073709551616 : Nat) : Int)])) w := by
  rw [run_callFunc_extern Tryd.func62 (by kernel_rfl) (by kernel_rfl) (by kernel_rfl) (e := add64Entry) (by kernel_rfl)]
  rw [run_add64 (x : Int) (y : Int) 0 (by omega) (by omega) (by omega) (by omega)]
  simp only [Result.andThen]
  congr 5 <;> omega
theorem plus_calls (x y : Nat) (hx : x ≤ 18446744073709551615) (hy : y ≤ 18446744073709551615) (w : World) :
    Calls Tryd.prog 52 #[.int .u64 x, .int .u64 y] w fun e w' => e = .returned (.int .u64 ((sat (x + y) : Nat) : Int)) ∧ w = w' := by
  have hrun := add64_run x y (by omega) (by omega)
  by_cases h : x + y < 18446744073709551616
  · have HE : Hid (sat (x + y) = x + y) := Lib.hid (sat_id (by omega))
    have hz : (x + y) / 18446744073709551616 = 0 := by omega
    have hm : (x + y) % 18446744073709551616 = x + y := by omega
    rw [hz, hm] at hrun
    clear hz hm
    go_enter Tryd.func52, Tryd.ntmps52
    go_wp2
    go_ret
    exact ⟨ret_int (by rw [HE.out]; first | rfl | omega), rfl⟩
  · have HE : Hid (sat (x + y) = 18446744073709551615) := Lib.hid (by unfold sat; rw [if_neg (by omega)])
    have hz : (x + y) / 18446744073709551616 = 1 := by omega
    rw [hz] at hrun
    clear hz
    go_enter Tryd.func52, Tryd.ntmps52
    go_wp2
    go_ret
    exact ⟨ret_int (by rw [HE.out]; first | rfl | omega), rfl⟩
theorem times_calls (x y : Nat) (hx : x ≤ 18446744073709551615) (hy : y ≤ 18446744073709551615) (w : World) :
    Calls Tryd.prog 63 #[.int .u64 x, .int .u64 y] w fun e w' => e = .returned (.int .u64 ((sat (x * y) : Nat) : Int)) ∧ w = w' := by
  have HM := Lib.hid (mul64_calls x y (by omega) (by omega) w)
  obtain ⟨p, hp⟩ : ∃ p, x * y = p := ⟨_, rfl⟩
  rw [hp] at HM ⊢
  clear hp
  by_cases h : p < 18446744073709551616
  · have HE : Hid (sat p = p) := Lib.hid (sat_id (by omega))
    rw [show p / 18446744073709551616 = 0 by omega, show p % 18446744073709551616 = p by omega] at HM
    go_enter Tryd.func63, Tryd.ntmps63
    go_wp2_with (go_at_call 67; refine HM.out.mono ?_; rintro e w' ⟨rfl, rfl⟩)
    go_ret
    exact ⟨ret_int (by rw [HE.out]), rfl⟩
  · have HE : Hid (sat p = 18446744073709551615) := Lib.hid (by unfold sat; rw [if_neg (by omega)])
    obtain ⟨d, hd⟩ : ∃ d, p / 18446744073709551616 = d := ⟨_, rfl⟩
    obtain ⟨m, hm⟩ : ∃ d, p % 18446744073709551616 = d := ⟨_, rfl⟩
    have hz : ((d : Int) == 0) = false := by rw [beq_eq_false_iff_ne]; omega
    rw [hd, hm] at HM
    clear hd hm
    go_enter Tryd.func63, Tryd.ntmps63
    go_wp2_with (go_at_call 67; refine HM.out.mono ?_; rintro e w' ⟨rfl, rfl⟩)
    go_ret
    exact ⟨ret_int (by rw [HE.out]; first | rfl | omega), rfl⟩
end Go.Proofs.YtndimnomkcjeiaaDoor.Hand
/- The counter in memory, and what it knows; the contract of may. -/
namespace Go.Proofs.YtndimnomkcjeiaaDoor.Hand
open Go.RowKit Go.Proofs.YtndimnomkcjeiaaDoorW.PrintWords Go.Proofs.YtndimnomkcjeiaaDoorW.PrintMore Go.Proofs.YtndimnomkcjeiaaDoor.Math
open Go.Maps (Keyed)

noncomputable def tabD (R : List (Int × List Int)) (tk : List Int) : Nat → Nat → Nat → Bool := fun i j k => tb (Der R tk k i j)
theorem Exact.tab {R : List (Int × List Int)} {tk : List Int} {N : Nat} {T : Nat → Nat → Nat → Bool} (h : Exact R tk tk.length N T) {i j k : Nat} (hij : i ≤ j) (hj : j ≤ tk.length) (hk : k < N) : T i j k = tabD R tk i j k := tb_bool (h i j k hij hj hk)
theorem Exact.hb {R : List (Int × List Int)} {tk : List Int} {N : Nat} {T : Nat → Nat → Nat → Bool} (h : Exact R tk tk.length N T) {s : Int} (hs : -(N : Int) ≤ s) {i j : Nat} (hij : i ≤ j) (hj : j ≤ tk.length) : Hb T tk s i j = Hb (tabD R tk) tk s i j := by
  unfold Hb
  split
  · rfl
  · exact h.tab hij hj (by omega)
/-- What counting stands on: the chart, the rules. -/
structure CtxC (w1 : World) (R : List (Int × List Int)) (tk : List Int) (t N b : Nat) (AR : Option Addr) (cR : Nat) : Prop where
  has : ∀ w, Below w1.heap.size w1 w → ∀ (s : Int) (i j : Nat), -(N : Int) ≤ s → s < 4611686018427387904 → i ≤ j → j ≤ tk.length → Quiet 61 #[.pointer (some ⟨b, 0, none⟩), .int .i64 s, .int .i64 i, .int .i64 j] w (.bool (Hb (tabD R tk) tk s i j))
  rule : KRule.C w1 AR R.length R
  cap : R.length ≤ cR
  cell : w1.cell? ⟨b, 3, none⟩ = some (.slice AR R.length cR)
  hN : N ≤ 60
  hR : R.length ≤ 120
  hn : tk.length ≤ 40
  ht : t ≤ 60
  right : RulesIn t N R
theorem ChartIs.ctx {w0 w1 : World} {R : List (Int × List Int)} {tk : List Int} {t N b O : Nat} {Bs : Nat → Nat} (h : ChartIs w0 R tk N b O Bs (fun a c => a ≤ c ∧ c ≤ tk.length) w1) (hN : N ≤ 60) (hR : R.length ≤ 120) (hn : tk.length ≤ 40) (ht : t ≤ 60) (hr : RulesIn t N R) : ∃ AR cR, CtxC w1 R tk t N b AR cR := by
  obtain ⟨Tn, hC, hS, hF⟩ := h
  obtain ⟨AR, cR, q1, q2, q3⟩ := hC.rules
  have hE : Exact R tk tk.length N (tabOf Tn) := fun i j k h1 h2 h3 => ⟨hS i j k h1 h2 h3, hF i j ⟨h1, h2⟩ k h3⟩
  refine ⟨AR, cR, fun w hb s i j hs hs2 hij hj => ?_, Kd.C_below q2 hC.bel, q1, q3, hN, hR, hn, ht, hr⟩
  rw [← hE.hb hs hij hj]
  exact chas_calls (hC.below hb) hN hn s hs hs2 i j hij hj
/-- The keys that are used. -/
def KeyIn (v : Value) : Prop := ∃ (a : Nat) (c : Nat) (i j : Nat), a < 130 ∧ c < 34 ∧ i ≤ 40 ∧ j ≤ 40 ∧ v = nodeK a ((c : Int) - 1) i j
def boxL : List Value := (List.range 130).flatMap fun (a : Nat) => (List.range 34).flatMap fun (c : Nat) => (List.range 41).flatMap fun (i : Nat) => (List.range 41).map fun (j : Nat) => nodeK a ((c : Int) - 1) i j
theorem keyIn_box (v : Value) (h : KeyIn v) : v ∈ boxL := by
  obtain ⟨a, c, i, j, h1, h2, h3, h4, rfl⟩ := h
  unfold boxL
  exact List.mem_flatMap.2 ⟨a, List.mem_range.2 h1, List.mem_flatMap.2 ⟨c, List.mem_range.2 h2, List.mem_flatMap.2 ⟨i, List.mem_range.2 (by omega), List.mem_map.2 ⟨j, List.mem_range.2 (by omega), rfl⟩⟩⟩⟩
theorem flatMap_len {α β : Type} {f : α → List β} {c : Nat} : ∀ {l : List α}, (∀ x, (f x).length = c) → (l.flatMap f).length = l.length * c
  | [], _ => by simp
  | x :: l, h => by rw [List.flatMap_cons, List.length_append, h x, flatMap_len h, List.length_cons, Nat.add_mul]; omega
theorem boxL_len : boxL.length = 7430020 := by
  unfold boxL
  rw [flatMap_len (c := 34 * (41 * 41)) (fun a => by rw [flatMap_len (c := 41 * 41) (fun c => by rw [flatMap_len (c := 41) (fun i => by rw [List.length_map, List.length_range]), List.length_range]), List.length_range]), List.length_range]
theorem nodeK_in {a b i j : Int} (h : KeyIn (nodeK a b i j)) : ∃ kl, keyOf Tryd.prog 111 (nodeK a b i j) = some kl := by
  obtain ⟨a', c', i', j', h1, h2, h3, h4, e⟩ := h
  obtain ⟨e1, e2, e3, e4⟩ := nodeK_inj e
  exact node_key (wf_i64 (by omega) (by omega)) (wf_i64 (by omega) (by omega)) (wf_i64 (by omega) (by omega)) (wf_i64 (by omega) (by omega))
theorem keyIn_n {a i j : Nat} (ha : a < 130) (hi : i ≤ 40) (hj : j ≤ 40) : KeyIn (nodeK a (-1) i j) := ⟨a, 0, i, j, ha, by omega, hi, hj, by simp⟩
theorem keyIn_r {a c i j : Nat} (ha : a < 130) (hc : c ≤ 32) (hi : i ≤ 40) (hj : j ≤ 40) : KeyIn (nodeK a c i j) := ⟨a, c + 1, i, j, ha, by omega, hi, hj, by simp⟩
/-- The counter in memory. -/
structure CSt (w1 : World) (b kb bd bo bk : Nat) (FD FO FK : Value → Option Int) (w : World) : Prop where
  bel : Below w1.heap.size w1 w
  c0 : w.cell? ⟨kb, 0, none⟩ = some (.pointer (some ⟨b, 0, none⟩))
  c1 : w.cell? ⟨kb, 1, none⟩ = some (.map (some bd))
  c2 : w.cell? ⟨kb, 2, none⟩ = some (.map (some bo))
  c3 : w.cell? ⟨kb, 3, none⟩ = some (.map (some bk))
  pd : MapN w 111 52 .u64 bd boxL.length KeyIn FD
  po : MapN w 111 3 .i64 bo boxL.length KeyIn FO
  pk : MapN w 111 3 .i64 bk boxL.length KeyIn FK
  ne : bd ≠ bo ∧ bd ≠ bk ∧ bo ≠ bk ∧ kb ≠ bd ∧ kb ≠ bo ∧ kb ≠ bk
  ge : w1.heap.size ≤ bd ∧ w1.heap.size ≤ bo ∧ w1.heap.size ≤ bk
section
variable {w1 w w' : World} {b kb bd bo bk : Nat} {FD FO FK : Value → Option Int}
theorem CSt.below (h : CSt w1 b kb bd bo bk FD FO FK w) (hb : Below w.heap.size w w') : CSt w1 b kb bd bo bk FD FO FK w' := by
  have hk : ∀ a v, w.cell? a = some v → w'.cell? a = some v := fun a v hv => (hb.cell (World.block_lt_of_cell? w _ hv)).trans hv
  exact ⟨below_next h.bel hb, hk _ _ h.c0, hk _ _ h.c1, hk _ _ h.c2, hk _ _ h.c3, h.pd.below hb, h.po.below hb, h.pk.below hb, h.ne, h.ge⟩
theorem below_grown {B g : Nat} {w0 w w' : World} (h : Below B w0 w) (hg : w.grownBy w' (some g)) (hB : B ≤ g) (hw : B ≤ w.heap.size) : Below B w0 w' :=
  ⟨hg.os.trans h.os, hg.tape.trans h.tape, hg.output.trans h.output, Nat.le_trans h.size hg.size, fun k hk => (hg.block k (by omega) (fun e => by injection e with e; omega)).trans (h.block k hk)⟩
theorem z64 (w : World) : (zeroValue 52).run Tryd.prog w = .ok (.int .u64 0) w := by kernel_rfl
theorem zint (w : World) : (zeroValue 3).run Tryd.prog w = .ok (.int .i64 0) w := by kernel_rfl
theorem CSt.lookK (h : CSt w1 b kb bd bo bk FD FO FK w) {a c i j : Int} (hk : KeyIn (nodeK a c i j)) : (Instr.lookup 88 (.map (some bk)) (.agg #[.int .i64 a, .int .i64 c, .int .i64 i, .int .i64 j]) false).run Tryd.prog w = .ok (.int .i64 ((FK (nodeK a c i j)).getD 0)) w := by
  obtain ⟨kl, hkl⟩ := nodeK_in hk
  exact h.pk.look node_keyed Tryd.underlying88 Tryd.underlying3 (zint w) hkl
theorem CSt.lookO (h : CSt w1 b kb bd bo bk FD FO FK w) {a c i j : Int} (hk : KeyIn (nodeK a c i j)) : (Instr.lookup 88 (.map (some bo)) (.agg #[.int .i64 a, .int .i64 c, .int .i64 i, .int .i64 j]) false).run Tryd.prog w = .ok (.int .i64 ((FO (nodeK a c i j)).getD 0)) w := by
  obtain ⟨kl, hkl⟩ := nodeK_in hk
  exact h.po.look node_keyed Tryd.underlying88 Tryd.underlying3 (zint w) hkl
theorem CSt.lookD (h : CSt w1 b kb bd bo bk FD FO FK w) {a c i j : Int} (hk : KeyIn (nodeK a c i j)) : (Instr.lookup 87 (.map (some bd)) (.agg #[.int .i64 a, .int .i64 c, .int .i64 i, .int .i64 j]) true).run Tryd.prog w = .ok (.tuple #[.int .u64 ((FD (nodeK a c i j)).getD 0), .bool (FD (nodeK a c i j)).isSome]) w := by
  obtain ⟨kl, hkl⟩ := nodeK_in hk
  exact h.pd.lookOk node_keyed Tryd.underlying87 Tryd.underlying52 (z64 w) hkl
theorem boxL_lt : boxL.length < maxLen := by rw [boxL_len]; decide
theorem CSt.kept (h : CSt w1 b kb bd bo bk FD FO FK w) {g : Nat} (hg : w.grownBy w' (some g)) (hB : w1.heap.size ≤ g) (hne : kb ≠ g) : Below w1.heap.size w1 w' ∧ w'.cell? ⟨kb, 0, none⟩ = some (.pointer (some ⟨b, 0, none⟩)) ∧ w'.cell? ⟨kb, 1, none⟩ = some (.map (some bd)) ∧ w'.cell? ⟨kb, 2, none⟩ = some (.map (some bo)) ∧ w'.cell? ⟨kb, 3, none⟩ = some (.map (some bk)) := by
  have hlt : kb < w.heap.size := World.block_lt_of_cell? w _ h.c0
  have hk : ∀ f, w'.cell? ⟨kb, f, none⟩ = w.cell? ⟨kb, f, none⟩ := fun f => World.cell?_of_block (w := w) (a := ⟨kb, f, none⟩) (hg.block kb hlt (fun e => hne (by injection e)))
  exact ⟨below_grown h.bel hg hB h.bel.size, (hk 0).trans h.c0, (hk 1).trans h.c1, (hk 2).trans h.c2, (hk 3).trans h.c3⟩
theorem MapN.grown {e : TypeId} {q : IntKind} {b g n : Nat} {k : TypeId} {K : Value → Prop} {F : Value → Option Int} (h : MapN w k e q b n K F) (hg : w.grownBy w' (some g)) (hne : b ≠ g) : MapN w' k e q b n K F :=
  h.block (hg.block b h.lt (fun e => hne (by injection e)))
theorem CSt.putK (h : CSt w1 b kb bd bo bk FD FO FK w) {a c i j : Int} (hk : KeyIn (nodeK a c i j)) {x : Int} (hx : (Lit.int .i64 x).wf = true) : ∃ w', (Instr.mapUpdate 88 (.map (some bk)) (.agg #[.int .i64 a, .int .i64 c, .int .i64 i, .int .i64 j]) (.int .i64 x)).run Tryd.prog w = .ok () w' ∧ CSt w1 b kb bd bo bk FD FO (updF FK (nodeK a c i j) x) w' ∧ w.grownBy w' (some bk) := by
  obtain ⟨kl, hkl⟩ := nodeK_in hk
  obtain ⟨w', hrun, hm, hg⟩ := h.pk.store node_keyed Tryd.underlying88 Tryd.underlying3 boxL_lt hkl hk hx
  obtain ⟨n1, n2, n3, n4, n5, n6⟩ := h.ne
  obtain ⟨g1, g2, g3⟩ := h.ge
  obtain ⟨k1, k2, k3, k4, k5⟩ := h.kept hg g3 n6
  exact ⟨w', hrun, ⟨k1, k2, k3, k4, k5, h.pd.grown hg n2, h.po.grown hg n3, hm.trim node_keyed boxL keyIn_box, h.ne, h.ge⟩, hg⟩
theorem CSt.putO (h : CSt w1 b kb bd bo bk FD FO FK w) {a c i j : Int} (hk : KeyIn (nodeK a c i j)) {x : Int} (hx : (Lit.int .i64 x).wf = true) : ∃ w', (Instr.mapUpdate 88 (.map (some bo)) (.agg #[.int .i64 a, .int .i64 c, .int .i64 i, .int .i64 j]) (.int .i64 x)).run Tryd.prog w = .ok () w' ∧ CSt w1 b kb bd bo bk FD (updF FO (nodeK a c i j) x) FK w' ∧ w.grownBy w' (some bo) := by
  obtain ⟨kl, hkl⟩ := nodeK_in hk
  obtain ⟨w', hrun, hm, hg⟩ := h.po.store node_keyed Tryd.underlying88 Tryd.underlying3 boxL_lt hkl hk hx
  obtain ⟨n1, n2, n3, n4, n5, n6⟩ := h.ne
  obtain ⟨g1, g2, g3⟩ := h.ge
  obtain ⟨k1, k2, k3, k4, k5⟩ := h.kept hg g2 n5
  exact ⟨w', hrun, ⟨k1, k2, k3, k4, k5, h.pd.grown hg n1, hm.trim node_keyed boxL keyIn_box, h.pk.grown hg (Ne.symm n3), h.ne, h.ge⟩, hg⟩
theorem CSt.putD (h : CSt w1 b kb bd bo bk FD FO FK w) {a c i j : Int} (hk : KeyIn (nodeK a c i j)) {x : Int} (hx : (Lit.int .u64 x).wf = true) : ∃ w', (Instr.mapUpdate 87 (.map (some bd)) (.agg #[.int .i64 a, .int .i64 c, .int .i64 i, .int .i64 j]) (.int .u64 x)).run Tryd.prog w = .ok () w' ∧ CSt w1 b kb bd bo bk (updF FD (nodeK a c i j) x) FO FK w' ∧ w.grownBy w' (some bd) := by
  obtain ⟨kl, hkl⟩ := nodeK_in hk
  obtain ⟨w', hrun, hm, hg⟩ := h.pd.store node_keyed Tryd.underlying87 Tryd.underlying52 boxL_lt hkl hk hx
  obtain ⟨n1, n2, n3, n4, n5, n6⟩ := h.ne
  obtain ⟨g1, g2, g3⟩ := h.ge
  obtain ⟨k1, k2, k3, k4, k5⟩ := h.kept hg g1 n4
  exact ⟨w', hrun, ⟨k1, k2, k3, k4, k5, hm.trim node_keyed boxL keyIn_box, h.po.grown hg (Ne.symm n1), h.pk.grown hg (Ne.symm n2), h.ne, h.ge⟩, hg⟩
end
/-- All old blocks but the maps' stay. -/
structure Frm (bd bo bk : Nat) (w w' : World) : Prop where
  size : w.heap.size ≤ w'.heap.size
  block : ∀ g, g < w.heap.size → g ≠ bd → g ≠ bo → g ≠ bk → w'.heap[g]? = w.heap[g]?
theorem Frm.refl {bd bo bk : Nat} (w : World) : Frm bd bo bk w w := ⟨Nat.le_refl _, fun _ _ _ _ _ => rfl⟩
theorem Frm.trans {bd bo bk : Nat} {w w' w'' : World} (h : Frm bd bo bk w w') (h' : Frm bd bo bk w' w'') : Frm bd bo bk w w'' := ⟨Nat.le_trans h.size h'.size, fun g hg a b c => (h'.block g (Nat.lt_of_lt_of_le hg h.size) a b c).trans (h.block g hg a b c)⟩
theorem Frm.below {bd bo bk : Nat} {w w' w'' : World} (h : Frm bd bo bk w w') (hb : Below w'.heap.size w' w'') : Frm bd bo bk w w'' := h.trans ⟨hb.size, fun g hg _ _ _ => hb.block g hg⟩
theorem Frm.grown {bd bo bk g : Nat} {w w' w'' : World} (h : Frm bd bo bk w w') (hb : w'.grownBy w'' (some g)) (hg : g = bd ∨ g = bo ∨ g = bk) : Frm bd bo bk w w'' := h.trans ⟨hb.size, fun k hk a b c => hb.block k hk (fun e => by injection e with e; omega)⟩
theorem Frm.cell {bd bo bk : Nat} {w w' : World} (h : Frm bd bo bk w w') {p : Addr} {v : Value} (hc : w.cell? p = some v) (a : p.block ≠ bd) (b : p.block ≠ bo) (c : p.block ≠ bk) : w'.cell? p = some v :=
  (World.cell?_of_block (h.block p.block (World.block_lt_of_cell? _ _ hc) a b c)).trans hc
/-- What is known of a rule's rests, from a place on, is so. -/
def KnownFrom (R : List (Int × List Int)) (tk : List Int) (n at_ : Nat) (F : Value → Option Int) : Prop :=
  ∀ (a i j : Nat) c, at_ ≤ a → F (nodeK n a i j) = some c → (c = 1 ∧ Cut (tabD R tk) tk ((R.getD n (0, [])).2.drop a) i j) ∨ (c = 2 ∧ ¬ Cut (tabD R tk) tk ((R.getD n (0, [])).2.drop a) i j)
end Go.Proofs.YtndimnomkcjeiaaDoor.Hand
/- The contract of the counter's may. -/
namespace Go.Proofs.YtndimnomkcjeiaaDoor.Hand
open Go.RowKit Go.Proofs.YtndimnomkcjeiaaDoorW.PrintWords Go.Proofs.YtndimnomkcjeiaaDoorW.PrintMore Go.Proofs.YtndimnomkcjeiaaDoor.Math
open Go.Maps (Keyed)

/-- The state within may's loop. -/
def MSt (w1 w2 : World) (R : List (Int × List Int)) (tk : List Int) (b kb bd bo bk : Nat) (FD FO FK : Value → Option Int) (n at_ i j : Nat) (w : World) : Prop :=
  ∃ F, CSt w1 b kb bd bo bk FD FO F w ∧ KnownFrom R tk n (at_ + 1) F ∧ F (nodeK n at_ i j) = some 2 ∧ (∀ u, u ≠ nodeK n at_ i j → (∀ a i j : Nat, at_ + 1 ≤ a → u ≠ nodeK n a i j) → F u = FK u) ∧ Frm bd bo bk w2 w
theorem MSt.below {w1 w2 w w' : World} {R : List (Int × List Int)} {tk : List Int} {b kb bd bo bk : Nat} {FD FO FK : Value → Option Int} {n at_ i j : Nat} (h : MSt w1 w2 R tk b kb bd bo bk FD FO FK n at_ i j w) (hb : Below w.heap.size w w') : MSt w1 w2 R tk b kb bd bo bk FD FO FK n at_ i j w' := by
  obtain ⟨F, h1, h2, h3, h4, h5⟩ := h
  exact ⟨F, h1.below hb, h2, h3, h4, h5.below hb⟩
theorem MSt.bel {w1 w2 w : World} {R : List (Int × List Int)} {tk : List Int} {b kb bd bo bk : Nat} {FD FO FK : Value → Option Int} {n at_ i j : Nat} (h : MSt w1 w2 R tk b kb bd bo bk FD FO FK n at_ i j w) : Below w1.heap.size w1 w := by
  obtain ⟨F, h1, _⟩ := h
  exact h1.bel
theorem MSt.held {w1 w2 w w' : World} {R : List (Int × List Int)} {tk : List Int} {b kb bd bo bk : Nat} {FD FO FK : Value → Option Int} {n at_ i j : Nat} {a : Addr} {v : Value} (h : MSt w1 w2 R tk b kb bd bo bk FD FO FK n at_ i j w) (ha : ∀ W, Below w1.heap.size w1 W → W.cell? a = some v) (hb : Below w.heap.size w w') :
    w'.cell? ⟨kb, 0, none⟩ = some (.pointer (some ⟨b, 0, none⟩)) ∧ w'.cell? a = some v ∧ Aside0 (MSt w1 w2 R tk b kb bd bo bk FD FO FK n at_ i j w') := by
  have h2 := h.below hb
  refine ⟨?_, ha _ h2.bel, ⟨h2⟩⟩
  obtain ⟨F, h1, _⟩ := h2
  exact h1.c0
theorem MSt.next {w1 w2 w w' : World} {R : List (Int × List Int)} {tk : List Int} {b kb bd bo bk : Nat} {FD FO FK F F' : Value → Option Int} {n at_ i j : Nat} (h3 : F (nodeK n at_ i j) = some 2) (h4 : ∀ u, u ≠ nodeK n at_ i j → (∀ a i j : Nat, at_ + 1 ≤ a → u ≠ nodeK n a i j) → F u = FK u) (h5 : Frm bd bo bk w2 w)
    (g1 : CSt w1 b kb bd bo bk FD FO F' w') (g2 : KnownFrom R tk n (at_ + 1) F') (g3 : ∀ u, (∀ a i j : Nat, at_ + 1 ≤ a → u ≠ nodeK n a i j) → F' u = F u) (g4 : Frm bd bo bk w w') : MSt w1 w2 R tk b kb bd bo bk FD FO FK n at_ i j w' :=
  ⟨F', g1, g2, (g3 _ (fun a i' j' ha e => by have := nodeK_inj e; omega)).trans h3, fun u hu0 hu => (g3 u hu).trans (h4 u hu0 hu), h5.trans g4⟩
theorem MSt.node {w1 w2 w : World} {R : List (Int × List Int)} {tk : List Int} {b kb bd bo bk : Nat} {FD FO FK : Value → Option Int} {n at_ i j g : Nat} {o : Obj} (h : MSt w1 w2 R tk b kb bd bo bk FD FO FK n at_ i j w) (hg : w2.heap[g]? = some o) (hne : g ≠ bd ∧ g ≠ bo ∧ g ≠ bk) : w.heap[g]? = some o := by
  obtain ⟨F, _, _, _, _, h5⟩ := h
  exact (h5.block g (Array.getElem?_eq_some_iff.1 hg).1 hne.1 hne.2.1 hne.2.2).trans hg
/-- What is known behind may's loop. -/
theorem known_end {R : List (Int × List Int)} {tk : List Int} {n at_ i j : Nat} {FK F : Value → Option Int} {c : Int} (hK : KnownFrom R tk n at_ FK) (h2 : KnownFrom R tk n (at_ + 1) F) (h3 : F (nodeK n at_ i j) = some c) (h4 : ∀ u, u ≠ nodeK n at_ i j → (∀ a i j : Nat, at_ + 1 ≤ a → u ≠ nodeK n a i j) → F u = FK u)
    (hc : (c = 1 ∧ Cut (tabD R tk) tk ((R.getD n (0, [])).2.drop at_) i j) ∨ (c = 2 ∧ ¬ Cut (tabD R tk) tk ((R.getD n (0, [])).2.drop at_) i j)) : KnownFrom R tk n at_ F := by
  intro a i' j' c' ha hF
  by_cases e : a = at_
  · subst e
    by_cases e2 : i' = i ∧ j' = j
    · obtain ⟨rfl, rfl⟩ := e2
      rw [h3] at hF
      obtain rfl := Option.some.inj hF
      exact hc
    · rw [h4 _ (fun e => e2 (by have := nodeK_inj e; omega)) (fun a' i'' j'' ha' e => by have := nodeK_inj e; omega)] at hF
      exact hK a i' j' c' (Nat.le_refl _) hF
  · exact h2 a i' j' c' (by omega) hF
/-- What may tells, and what it leaves. -/
def MayRes (w1 w0 : World) (R : List (Int × List Int)) (tk : List Int) (b kb bd bo bk : Nat) (FD FO FK : Value → Option Int) (n at_ i j : Nat) (e : Ending) (w' : World) : Prop :=
  e = .returned (.bool (tb (Cut (tabD R tk) tk ((R.getD n (0, [])).2.drop at_) i j))) ∧ ∃ FK', CSt w1 b kb bd bo bk FD FO FK' w' ∧ KnownFrom R tk n at_ FK' ∧ (∀ u, (∀ a i j : Nat, at_ ≤ a → u ≠ nodeK n a i j) → FK' u = FK u) ∧ Frm bd bo bk w0 w'
theorem at_ruleN {w : World} {A : Option Addr} {l : List (Int × List Int)} (h : KRule.C w A l.length l) (i : Nat) (hi : i < l.length) :
    ∃ (ad : Addr) (B : Option Addr) (c : Nat), A = some ad ∧ w.cell? (ad.add (i * 2)) = some (.int .i64 (l.getD i (0, [])).1) ∧ w.cell? ⟨(ad.add (i * 2)).block, (ad.add (i * 2)).off + 1, none⟩ = some (.slice B (l.getD i (0, [])).2.length c) ∧ (l.getD i (0, [])).2.length ≤ c ∧ Kd.C (Kd.int .i64) w B (l.getD i (0, [])).2.length (l.getD i (0, [])).2 := by
  obtain ⟨ad, x, B, c, r, h1, h2, h3, h4, h5, HD⟩ := at_rule h i hi
  have e := HD.out
  rw [e]
  exact ⟨ad, B, c, h1, h2, h3, h4, h5⟩
set_option maxHeartbeats 800000 in
set_option maxRecDepth 100000 in
theorem cmay_calls {w1 : World} {R : List (Int × List Int)} {tk : List Int} {t N b : Nat} {AR : Option Addr} {cR : Nat} (hx : CtxC w1 R tk t N b AR cR) (kb bd bo bk : Nat) (FD FO : Value → Option Int) (n : Nat) (hn : n < R.length) :
    ∀ (d at_ : Nat), at_ + d = (R.getD n (0, [])).2.length → ∀ (i j : Nat) (FK : Value → Option Int) (w : World), i ≤ j → j ≤ tk.length → CSt w1 b kb bd bo bk FD FO FK w → KnownFrom R tk n at_ FK →
    Calls Tryd.prog 51 #[.pointer (some ⟨kb, 0, none⟩), .int .i64 n, .int .i64 at_, .int .i64 i, .int .i64 j] w (MayRes w1 w R tk b kb bd bo bk FD FO FK n at_ i j) := by
  have hr32 : (R.getD n (0, [])).2.length ≤ 32 := ruleN_len (hx.right _ (getD_mem R n (0, []) hn))
  have hsym : ∀ s ∈ (R.getD n (0, [])).2, -(N : Int) ≤ s ∧ s < 4611686018427387904 := fun s hs => by have := hx.right.sym (getD_mem R n (0, []) hn) hs; have := hx.ht; omega
  obtain ⟨r, hr⟩ : ∃ r, (R.getD n (0, [])).2 = r := ⟨_, rfl⟩
  rw [hr] at hr32 hsym
  have HX := Lib.hid hx
  have hR := hx.hR
  have htk := hx.hn
  have hrl := hx.rule.2.1
  have hcap := hx.cap
  intro d
  induction d with
  | zero =>
    intro at_ hat i j FK w hij hj hS hK
    rw [hr] at hat
    have HS := Aside0.mk hS
    have HK := Lib.hid hK
    obtain ⟨ad, B, c, hA, k1, k2, hrc, hrr⟩ := at_ruleN (Kd.C_below hx.rule hS.bel) n hn
    rw [hr] at k2 hrc hrr
    have c0 := hS.c0
    have c3 := (hS.bel.cell (p := ⟨b, 3, none⟩) (World.block_lt_of_cell? _ _ hx.cell)).trans hx.cell
    subst hA
    have hat' : at_ = r.length := by omega
    have hatb : ((at_ : Int) == (r.length : Int)) = true := by rw [beq_iff_eq]; omega
    have HE : Hid (tb (Cut (tabD R tk) tk ((R.getD n (0, [])).2.drop at_) i j) = ((i : Int) == (j : Int))) := Lib.hid (by
      rw [hr, hat', List.drop_length, Bool.eq_iff_iff, tb_iff, beq_iff_eq]
      show i = j ↔ _
      omega)
    have HR := Lib.hid hr
    clear hr hS hK hrr hx hat hat'
    go_enter Tryd.func51, Tryd.ntmps51
    go_wp2
    go_ret
    exact ⟨ret_bool HE.out.symm, FK, HS.out, HK.out, (fun _ _ => rfl), Frm.refl _⟩
  | succ d ih =>
    intro at_ hat i j FK w hij hj hS hK
    rw [hr] at hat
    obtain ⟨ad, B, c, hA, k1, k2, hrc, hrr⟩ := at_ruleN hx.rule n hn
    rw [hr] at k2 hrc hrr
    replace k1 := (hS.bel.cell (World.block_lt_of_cell? _ _ k1)).trans k1
    replace k2 := (hS.bel.cell (World.block_lt_of_cell? _ _ k2)).trans k2
    have c0 := hS.c0
    have c3 := (hS.bel.cell (p := ⟨b, 3, none⟩) (World.block_lt_of_cell? _ _ hx.cell)).trans hx.cell
    subst hA
    have hatb : ((at_ : Int) == (r.length : Int)) = false := by rw [beq_eq_false_iff_ne]; omega
    obtain ⟨w2, hw2⟩ : ∃ w2, w.alloc (.cells #[.int .i64 n, .int .i64 at_, .int .i64 i, .int .i64 j] 111) = w2 := ⟨_, rfl⟩
    have hb2 : Below w.heap.size w w2 := by rw [← hw2]; exact below_alloc (Below.refl _ _) _
    have n0 : w2.heap[w.heap.size]? = some (.cells #[.int .i64 n, .int .i64 at_, .int .i64 i, .int .i64 j] 111 (0, 0)) := by rw [← hw2]; exact heap_alloc_new w _
    have hKI : KeyIn (nodeK n at_ i j) := keyIn_r (by omega) (by omega) (by omega) (by omega)
    have HS2 := Aside0.mk (hS.below hb2)
    have HF2 := Aside0.mk ((Frm.refl (bd := bd) (bo := bo) (bk := bk) w).below hb2)
    have HNe : Hid (w.heap.size ≠ bd ∧ w.heap.size ≠ bo ∧ w.heap.size ≠ bk) := Lib.hid ⟨by have := hS.pd.lt; omega, by have := hS.po.lt; omega, by have := hS.pk.lt; omega⟩
    have HRr := Lib.hid hrr
    have HKI := Lib.hid hKI
    have HK := Lib.hid hK
    have HR := Lib.hid hr
    have HA := Lib.hid hat
    have HSy := Lib.hid hsym
    clear hr hS hK hrr hx hat hb2 hsym hKI
    have h3 := HS2.out.c3
    obtain ⟨m0, m1, m2, m3⟩ := blk_cells2 n0
    have HSd := Aside0.mk (HS2.out.below (below_drew1 (Below.refl _ _)))
    have HL := HSd.out.lookK HKI.out
    have HN0 := Lib.hid n0
    clear n0
    cases hF : FK (nodeK n at_ i j) with
    | some x =>
      have hcase := HK.out at_ i j x (Nat.le_refl _) hF
      have HSe := Aside0.mk (HSd.out.below (below_drew1 (Below.refl _ _)))
      have HL2 := HSe.out.lookK HKI.out
      rw [hF, Option.getD_some] at HL HL2
      clear hF
      obtain ⟨rfl, hcut⟩ | ⟨rfl, hcut⟩ := hcase
      · have HE : Hid (tb (Cut (tabD R tk) tk ((R.getD n (0, [])).2.drop at_) i j) = true) := Lib.hid (tb_yes hcut)
        clear hcut
        go_enter Tryd.func51, Tryd.ntmps51
        go_wp2
        go_region
        go_wp2
        go_region
        go_wp2
        go_ret
        exact ⟨ret_bool HE.out.symm, FK, HSe.out, HK.out, (fun _ _ => rfl), (HF2.out.below (below_drew1 (Below.refl _ _))).below (below_drew1 (Below.refl _ _))⟩
      · have HE : Hid (tb (Cut (tabD R tk) tk ((R.getD n (0, [])).2.drop at_) i j) = false) := Lib.hid (tb_no hcut)
        clear hcut
        go_enter Tryd.func51, Tryd.ntmps51
        go_wp2
        go_region
        go_wp2
        go_region
        go_wp2
        go_ret
        exact ⟨ret_bool HE.out.symm, FK, HSe.out, HK.out, (fun _ _ => rfl), (HF2.out.below (below_drew1 (Below.refl _ _))).below (below_drew1 (Below.refl _ _))⟩
    | none =>
      rw [hF, Option.getD_none] at HL
      clear hF
      obtain ⟨w3, hrun3, hS3, hg3⟩ := (HSd.out.below (below_drew1 (Below.refl _ _))).putK HKI.out (x := 2) (wf_i64 (by omega) (by omega))
      have HM3 : Aside0 (MSt w1 w2 R tk b kb bd bo bk FD FO FK n at_ i j w3) := ⟨_, hS3, (fun a i' j' c ha hc => by
        rw [updF_other (fun e => by have := nodeK_inj e; omega)] at hc
        exact HK.out a i' j' c (by omega) hc), updF_same, (fun u hu0 hu => updF_other hu0), (((Frm.refl w2).below (below_drew1 (Below.refl _ _))).below (below_drew1 (Below.refl _ _))).grown hg3 (.inr (.inr rfl))⟩
      clear hS3 hg3
      go_enter Tryd.func51, Tryd.ntmps51
      go_wp2
      go_region
      go_wp2
      go_region
      go_wp2
      clear hrun3 HL h3 m0 m1 m2 m3 c0 c3 k1 k2
      go_loopw [13] (fun x wr => ∃ q : Nat, i ≤ q ∧ q ≤ j + 1 ∧ x = .int .i64 q ∧ Aside0 (MSt w1 w2 R tk b kb bd bo bk FD FO FK n at_ i j wr) ∧ Aside0 (∀ q', i ≤ q' → q' < q → ¬ (Hb (tabD R tk) tk (r.getD at_ 0) i q' = true ∧ Cut (tabD R tk) tk (r.drop (at_ + 1)) q' j))) (fun x _ => j + 1 - (intOf x).toNat)
      case atStart => exact ⟨i, by omega, by omega, rfl, HM3, ⟨fun q' h1 h2 => by omega⟩⟩
      case round =>
        obtain ⟨q, hq1, hq2, rfl, HM, HXq⟩ := hrel
        obtain ⟨wo, rfl⟩ : ∃ wo : World, wo = wr := ⟨_, rfl⟩
        by_cases hqj : q ≤ j
        · have hbelo : Below w1.heap.size w1 wo := by obtain ⟨F, h, _⟩ := HM.out; exact h.bel
          have hc0 : wo.cell? ⟨kb, 0, none⟩ = some (.pointer (some ⟨b, 0, none⟩)) := by obtain ⟨F, h, _⟩ := HM.out; exact h.c0
          obtain ⟨ad3, y, hA3, hy, HY⟩ := at_scalar (Kd.C_below HRr.out hbelo) at_ (by have := HA.out; omega) 0
          subst hA3
          have hym : Hid (y ∈ r) := Lib.hid (by rw [← HY.out]; exact getD_mem r at_ 0 (by have := HA.out; omega))
          have hys := HSy.out y hym.out
          have HHas := Lib.hid (fun (W : World) (hW : Below w1.heap.size w1 W) => HX.out.has W hW y i q hys.1 hys.2 hq1 (by omega))
          have hi1 : (0 : Int) ≤ (at_ : Int) := by omega
          have hi2 : (at_ : Int) < (r.length : Int) := by have := HA.out; omega
          have HBo := Lib.hid hbelo
          have HY2 := Lib.hid (show ∀ W, Below w1.heap.size w1 W → W.cell? (ad3.add at_) = some (.int .i64 y) from fun W hW => by
            obtain ⟨ad4, y4, e4, h4, HY4⟩ := at_scalar (Kd.C_below HRr.out hW) at_ (by have := HA.out; omega) 0
            injection e4 with e4
            subst e4
            rw [h4, ← HY4.out, HY.out])
          clear hbelo
          cases hb : Hb (tabD R tk) tk y i q
          · rw [hb] at HHas
            have HN := Lib.hid (show ¬ (Hb (tabD R tk) tk (r.getD at_ 0) i q = true ∧ Cut (tabD R tk) tk (r.drop (at_ + 1)) q j) from fun h => by rw [HY.out, hb] at h; cases h.1)
            clear hb
            go_wp2_with fail
            go_quiet ((go_at_call 61; exact Calls.quiet_of (HHas.out _ (pw_below_drewN HBo.out _))))
            go_wp2
            go_roundw
            case rel => exact ⟨q + 1, by omega, by omega, by go_num, ⟨HM.out.below (by first | exact pw_below_drewN (Below.refl _ _) _ | exact below_drew1 (Below.refl _ _) | exact Below.refl _ _)⟩, ⟨fun q' h1 h2 => by
              rcases Nat.lt_or_ge q' q with h3 | h3
              · exact HXq.out q' h1 h3
              · obtain rfl : q' = q := by omega
                exact HN.out⟩⟩
            case measure => simp [intOf]; omega
          · rw [hb] at HHas
            have HIH := Lib.hid (fun (W : World) (F : Value → Option Int) (hW : CSt w1 b kb bd bo bk FD FO F W) (hK : KnownFrom R tk n (at_ + 1) F) => ih (at_ + 1) (by rw [HR.out]; have := HA.out; omega) q j F W hqj hj hW hK)
            unfold MayRes at HIH
            rw [HR.out] at HIH
            have hat1 : ((at_ + 1 : Nat) : Int) = (at_ : Int) + 1 := by omega
            rw [hat1] at HIH
            clear hat1
            have hbH := Lib.hid hb
            have hyo := HY2.out wo HBo.out
            clear hb
            cases hcut : tb (Cut (tabD R tk) tk (r.drop (at_ + 1)) q j)
            · rw [hcut] at HIH
              have HCt := Lib.hid hcut
              clear hcut
              have hwr1 : IntKind.i64.wrap ((at_ : Int) + 1) = (at_ : Int) + 1 := by rw [Go.IntWalk.i64_in _ (by omega)]
              go_wp2_with fail
              go_region_held3 (fun w' => w'.cell? ⟨kb, 0, none⟩ = some (.pointer (some ⟨b, 0, none⟩)) ∧ w'.cell? (ad3.add at_) = some (.int .i64 y) ∧ Aside0 (MSt w1 w2 R tk b kb bd bo bk FD FO FK n at_ i j w'))
                (first
                  | with_reducible exact HM.out.held HY2.out (below_drew1 (Below.refl _ _))
                  | with_reducible exact H4.out.held HY2.out (Below.refl _ _)
                  | with_reducible exact hS.out.2.2.out.held HY2.out (pw_below_drewN (Below.refl _ _) _)
                  | with_reducible exact HM.out.held HY2.out (pw_below_drewN (Below.refl _ _) _))
                (first
                  | (go_at_call 61; have hS := Aside0.mk (by assumption : _ ∧ _ ∧ Aside0 (MSt w1 w2 R tk b kb bd bo bk FD FO FK n at_ i j _)); refine (HHas.out _ hS.out.2.2.out.bel).mono ?_; rintro e w' ⟨rfl, n1, rfl⟩)
                  | (go_at_call 51; have hS := Aside0.mk (by assumption : _ ∧ _ ∧ Aside0 (MSt w1 w2 R tk b kb bd bo bk FD FO FK n at_ i j _)); obtain ⟨F5, f1, f2, f3, f4, f5⟩ := hS.out.2.2.out; (with_reducible refine (HIH.out _ F5 f1 f2).mono ?_); rintro e w4 ⟨rfl, F6, g1, g2, g3, g4⟩; have H4 := Aside0.mk (MSt.next f3 f4 f5 g1 g2 g3 g4); clear f1 f2 f3 f4 f5 g1 g2 g3 g4))
              go_wp2
              go_roundw
              case rel => exact ⟨q + 1, by omega, by omega, by go_num, ⟨H4.out.below (by first | exact Below.refl _ _ | exact pw_below_drewN (Below.refl _ _) _ | exact below_drew1 (Below.refl _ _))⟩, ⟨fun q' h1 h2 => by
                rcases Nat.lt_or_ge q' q with h3 | h3
                · exact HXq.out q' h1 h3
                · obtain rfl : q' = q := by omega
                  exact fun h => by rw [tb_yes h.2] at HCt; exact Bool.noConfusion HCt.out⟩⟩
              case measure => simp [intOf]; omega
            · rw [hcut] at HIH
              have HCt : Hid (Cut (tabD R tk) tk ((R.getD n (0, [])).2.drop at_) i j) := Lib.hid (by
                rw [HR.out, List.drop_eq_getElem_cons (by have := HA.out; omega : at_ < r.length)]
                refine ⟨q, hq1, hqj, ?_, tb_iff.1 hcut⟩
                have e : r[at_]'(by have := HA.out; omega) = y := by
                  have := HY.out
                  rwa [List.getD_eq_getElem?_getD, List.getElem?_eq_getElem (by have := HA.out; omega : at_ < r.length), Option.getD_some] at this
                rw [e]; exact hbH.out)
              clear hcut
              have hwr1 : IntKind.i64.wrap ((at_ : Int) + 1) = (at_ : Int) + 1 := by rw [Go.IntWalk.i64_in _ (by omega)]
              go_wp2_with fail
              go_region_held3 (fun w' => w'.cell? ⟨kb, 0, none⟩ = some (.pointer (some ⟨b, 0, none⟩)) ∧ w'.cell? (ad3.add at_) = some (.int .i64 y) ∧ Aside0 (MSt w1 w2 R tk b kb bd bo bk FD FO FK n at_ i j w'))
                (first
                  | with_reducible exact HM.out.held HY2.out (below_drew1 (Below.refl _ _))
                  | with_reducible exact H4.out.held HY2.out (Below.refl _ _)
                  | with_reducible exact hS.out.2.2.out.held HY2.out (pw_below_drewN (Below.refl _ _) _)
                  | with_reducible exact HM.out.held HY2.out (pw_below_drewN (Below.refl _ _) _))
                (first
                  | (go_at_call 61; have hS := Aside0.mk (by assumption : _ ∧ _ ∧ Aside0 (MSt w1 w2 R tk b kb bd bo bk FD FO FK n at_ i j _)); refine (HHas.out _ hS.out.2.2.out.bel).mono ?_; rintro e w' ⟨rfl, n1, rfl⟩)
                  | (go_at_call 51; have hS := Aside0.mk (by assumption : _ ∧ _ ∧ Aside0 (MSt w1 w2 R tk b kb bd bo bk FD FO FK n at_ i j _)); obtain ⟨F5, f1, f2, f3, f4, f5⟩ := hS.out.2.2.out; (with_reducible refine (HIH.out _ F5 f1 f2).mono ?_); rintro e w4 ⟨rfl, F6, g1, g2, g3, g4⟩; have H4 := Aside0.mk (MSt.next f3 f4 f5 g1 g2 g3 g4); clear f1 f2 f3 f4 f5 g1 g2 g3 g4))
              have HN4 := Lib.hid (H4.out.node HN0.out HNe.out)
              obtain ⟨m0, m1, m2, m3⟩ := blk_cells2 HN4.out
              obtain ⟨F6, g1, g2, g3, g4, g5⟩ := H4.out
              have h3 := g1.c3
              obtain ⟨w5, hrun5, hS5, hg5⟩ := (g1.below (below_drew1 (Below.refl _ _))).putK HKI.out (x := 1) (wf_i64 (by omega) (by omega))
              have HE5 : Hid (KnownFrom R tk n at_ (updF F6 (nodeK n at_ i j) 1)) := Lib.hid (known_end HK.out (fun a i' j' c ha hc => by
                rw [updF_other (fun e => by have := nodeK_inj e; omega)] at hc
                exact g2 a i' j' c ha hc) updF_same (fun u hu0 hu => (updF_other hu0).trans (g4 u hu0 hu)) (.inl ⟨rfl, HCt.out⟩))
              have HF5 : Hid (∀ u, (∀ a i j : Nat, at_ ≤ a → u ≠ nodeK n a i j) → updF F6 (nodeK n at_ i j) 1 u = FK u) := Lib.hid (fun u hu => (updF_other (hu at_ i j (Nat.le_refl _))).trans (g4 u (hu at_ i j (Nat.le_refl _)) (fun a i' j' ha => hu a i' j' (by omega))))
              have HFr5 := Aside0.mk ((HF2.out.trans (g5.below (below_drew1 (Below.refl _ _)))).grown hg5 (.inr (.inr rfl)))
              have HS5 := Aside0.mk hS5
              have HS5d := Aside0.mk (hS5.below (below_drew1 (Below.refl _ _)))
              have HL5 := HS5d.out.lookK HKI.out
              rw [updF_same, Option.getD_some] at HL5
              have p3 := hS5.c3
              have n5 : w5.heap[w.heap.size]? = some (.cells #[.int .i64 n, .int .i64 at_, .int .i64 i, .int .i64 j] 111 (0, 0)) := (hg5.block w.heap.size (Array.getElem?_eq_some_iff.1 HN4.out).1 (fun e => HNe.out.2.2 (by injection e))).trans HN4.out
              obtain ⟨p0, p1, p2, p4⟩ := blk_cells2 n5
              have HEt : Hid (tb (Cut (tabD R tk) tk ((R.getD n (0, [])).2.drop at_) i j) = true) := Lib.hid (tb_yes HCt.out)
              clear g1 g2 g3 g4 g5 hS5 n5 hg5
              go_wp2
              go_region
              go_wp2
              go_region
              go_wp2
              go_ret
              exact ⟨ret_bool HEt.out.symm, _, HS5d.out, HE5.out, HF5.out, HFr5.out.below (below_drew1 (Below.refl _ _))⟩
        · obtain rfl : q = j + 1 := by omega
          have HCt : Hid (¬ Cut (tabD R tk) tk ((R.getD n (0, [])).2.drop at_) i j) := Lib.hid (by
            rw [HR.out, List.drop_eq_getElem_cons (by have := HA.out; omega : at_ < r.length)]
            rintro ⟨q', h1, h2, h3, h4⟩
            refine HXq.out q' h1 (by omega) ⟨?_, h4⟩
            rw [List.getD_eq_getElem?_getD, List.getElem?_eq_getElem (by have := HA.out; omega : at_ < r.length), Option.getD_some]
            exact h3)
          have HN4 := Lib.hid (HM.out.node HN0.out HNe.out)
          obtain ⟨p0, p1, p2, p4⟩ := blk_cells2 HN4.out
          obtain ⟨F6, g1, g2, g3, g4, g5⟩ := HM.out
          have p3 := g1.c3
          have HS5d := Aside0.mk (g1.below (below_drew1 (Below.refl _ _)))
          have HL5 := HS5d.out.lookK HKI.out
          rw [g3, Option.getD_some] at HL5
          have HE5 : Hid (KnownFrom R tk n at_ F6) := Lib.hid (known_end HK.out g2 g3 g4 (.inr ⟨rfl, HCt.out⟩))
          have HF5 : Hid (∀ u, (∀ a i j : Nat, at_ ≤ a → u ≠ nodeK n a i j) → F6 u = FK u) := Lib.hid (fun u hu => g4 u (hu at_ i j (Nat.le_refl _)) (fun a i' j' ha => hu a i' j' (by omega)))
          have HFr5 := Aside0.mk (HF2.out.trans g5)
          have HEt : Hid (tb (Cut (tabD R tk) tk ((R.getD n (0, [])).2.drop at_) i j) = false) := Lib.hid (tb_no HCt.out)
          clear g1 g2 g3 g4 g5
          go_wp2
          go_region
          go_wp2
          go_ret
          exact ⟨ret_bool HEt.out.symm, _, HS5d.out, HE5.out, HF5.out, HFr5.out.below (below_drew1 (Below.refl _ _))⟩
end Go.Proofs.YtndimnomkcjeiaaDoor.Hand
/- What the counter's contracts speak of: what is counted, what is open. -/
namespace Go.Proofs.YtndimnomkcjeiaaDoor.Hand
open Go.RowKit Go.Proofs.YtndimnomkcjeiaaDoorW.PrintWords Go.Proofs.YtndimnomkcjeiaaDoorW.PrintMore Go.Proofs.YtndimnomkcjeiaaDoor.Math
open Go.Maps (Keyed)

noncomputable def treeD (R : List (Int × List Int)) (tk : List Int) (k i j : Nat) : Option Nat := treeN (tabD R tk) tk R k i j
noncomputable def seqD_ (R : List (Int × List Int)) (tk : List Int) (l : List Int) (i j : Nat) : Option Nat := seqN (T := tabD R tk) (tk := tk) (R := R) l i j
/-- What is marked as done is so. -/
def DoneOk (R : List (Int × List Int)) (tk : List Int) (F : Value → Option Int) : Prop :=
  (∀ (k i j : Nat) c, F (nodeK k (-1) i j) = some c → ∃ m, treeD R tk k i j = some m ∧ c = ((sat m : Nat) : Int)) ∧
  ∀ (n a i j : Nat) c, F (nodeK n a i j) = some c → ∃ m, seqD_ R tk ((R.getD n (0, [])).2.drop a) i j = some m ∧ c = ((sat m : Nat) : Int)
def KnownAll (R : List (Int × List Int)) (tk : List Int) (F : Value → Option Int) : Prop := ∀ n : Nat, KnownFrom R tk n 0 F
theorem KnownAll.next {R : List (Int × List Int)} {tk : List Int} {F F' : Value → Option Int} {n a : Nat} (h : KnownAll R tk F) (h1 : KnownFrom R tk n a F') (h2 : ∀ u, (∀ a' i j : Nat, a ≤ a' → u ≠ nodeK n a' i j) → F' u = F u) : KnownAll R tk F' := by
  intro n' a' i j c h0 hc
  by_cases e : n' = n ∧ a ≤ a'
  · obtain ⟨rfl, e⟩ := e
    exact h1 a' i j c e hc
  · rw [h2 _ (fun a'' i' j' ha e2 => by have := nodeK_inj e2; omega)] at hc
    exact h n' a' i j c (Nat.zero_le _) hc
theorem KnownAll.from_ {R : List (Int × List Int)} {tk : List Int} {F : Value → Option Int} (h : KnownAll R tk F) (n a : Nat) : KnownFrom R tk n a F := fun a' i j c _ hc => h n a' i j c (Nat.zero_le _) hc
def PreW (R : List (Int × List Int)) (tk : List Int) (F : Value → Option Int) (x : Nat × Nat × Nat) : Prop := ∀ k i j : Nat, F (nodeK k (-1) i j) = some 1 → Dep (T := tabD R tk) (tk := tk) (R := R) (k, i, j) x
def PreS (R : List (Int × List Int)) (tk : List Int) (F : Value → Option Int) (l : List Int) (i j : Nat) : Prop := ∀ k i' j' : Nat, F (nodeK k (-1) i' j') = some 1 → DepS (T := tabD R tk) (tk := tk) (R := R) (k, i', j') l i j
/-- The nodes, and how many of them are not open. -/
def nodesL (N n : Nat) : List (Nat × Nat × Nat) := (List.range N).flatMap fun (k : Nat) => (List.range (n + 1)).flatMap fun (i : Nat) => (List.range (n + 1)).map fun (j : Nat) => (k, i, j)
theorem mem_nodesL {N n k i j : Nat} (hk : k < N) (hi : i ≤ n) (hj : j ≤ n) : (k, i, j) ∈ nodesL N n := by
  unfold nodesL
  exact List.mem_flatMap.2 ⟨k, List.mem_range.2 hk, List.mem_flatMap.2 ⟨i, List.mem_range.2 (by omega), List.mem_map.2 ⟨j, List.mem_range.2 (by omega), rfl⟩⟩⟩
def freeC (N n : Nat) (F : Value → Option Int) : Nat := (nodesL N n).countP (fun x => decide (F (nodeK x.1 (-1) x.2.1 x.2.2) ≠ some 1))
theorem freeC_congr {N n : Nat} {F F' : Value → Option Int} (h : ∀ u, F' u = some 1 ↔ F u = some 1) : freeC N n F' = freeC N n F := by
  unfold freeC
  congr 1
  funext x
  rw [decide_eq_decide, Ne, Ne, h]
theorem freeC_pos {N n : Nat} {F : Value → Option Int} {k i j : Nat} (hk : k < N) (hi : i ≤ n) (hj : j ≤ n) (h : F (nodeK k (-1) i j) ≠ some 1) : 0 < freeC N n F :=
  List.countP_pos_iff.2 ⟨(k, i, j), mem_nodesL hk hi hj, by simpa using h⟩
theorem countP_lt {α : Type} {p q : α → Bool} : ∀ {l : List α} {x : α}, x ∈ l → p x = false → q x = true → (∀ y, p y = true → q y = true) → l.countP p < l.countP q
  | y :: l, x, hx, h1, h2, h3 => by
    rw [List.countP_cons, List.countP_cons]
    rcases List.mem_cons.1 hx with rfl | hx
    · have := List.countP_mono_left (l := l) (p := p) (q := q) (fun y _ h => h3 y h)
      rw [h1, h2]; simp; omega
    · have := countP_lt hx h1 h2 h3
      cases hp : p y
      · simp; omega
      · rw [h3 y hp]; simp; omega
theorem freeC_set {N n : Nat} {F : Value → Option Int} {k i j : Nat} (hk : k < N) (hi : i ≤ n) (hj : j ≤ n) (h : F (nodeK k (-1) i j) ≠ some 1) : freeC N n (updF F (nodeK k (-1) i j) 1) < freeC N n F := by
  refine countP_lt (mem_nodesL hk hi hj) (by simp [updF_same]) (by simpa using h) (fun y hy => ?_)
  simp only [decide_eq_true_eq] at hy ⊢
  intro e
  refine hy ?_
  by_cases e2 : nodeK y.1 (-1) y.2.1 y.2.2 = nodeK k (-1) i j
  · rw [e2, updF_same]
  · rw [updF_other e2]; exact e
/-- The state that goes on. -/
def WSt (w1 w0 : World) (R : List (Int × List Int)) (tk : List Int) (b kb bd bo bk : Nat) (FO : Value → Option Int) (w : World) : Prop :=
  ∃ FD' FO' FK', CSt w1 b kb bd bo bk FD' FO' FK' w ∧ DoneOk R tk FD' ∧ KnownAll R tk FK' ∧ (∀ u, FO' u = some 1 ↔ FO u = some 1) ∧ Frm bd bo bk w0 w
/-- What counting comes to: a number, or it is given up. -/
def WhRes (w1 w0 : World) (R : List (Int × List Int)) (tk : List Int) (b kb bd bo bk : Nat) (FO : Value → Option Int) (o : Option Nat) (e : Ending) (w' : World) : Prop :=
  (∃ m, o = some m ∧ e = .returned (.int .u64 ((sat m : Nat) : Int)) ∧ WSt w1 w0 R tk b kb bd bo bk FO w') ∨
  (o = none ∧ e = .panicked [{ v := .iface 84 (.agg #[]), recovered := false }] ∧ Below w1.heap.size w1 w')
section
variable {w1 w0 w w' : World} {R : List (Int × List Int)} {tk : List Int} {b kb bd bo bk : Nat} {FO : Value → Option Int}
theorem WSt.below (h : WSt w1 w0 R tk b kb bd bo bk FO w) (hb : Below w.heap.size w w') : WSt w1 w0 R tk b kb bd bo bk FO w' := by
  obtain ⟨FD', FO', FK', h1, h2, h3, h4, h5⟩ := h
  exact ⟨FD', FO', FK', h1.below hb, h2, h3, h4, h5.below hb⟩
theorem WSt.bel (h : WSt w1 w0 R tk b kb bd bo bk FO w) : Below w1.heap.size w1 w := by
  obtain ⟨FD', FO', FK', h1, _⟩ := h
  exact h1.bel
theorem WSt.trans {w2 : World} {FO2 : Value → Option Int} (h : WSt w1 w2 R tk b kb bd bo bk FO2 w') (h1 : ∀ u, FO2 u = some 1 ↔ FO u = some 1) (h2 : Frm bd bo bk w0 w2) : WSt w1 w0 R tk b kb bd bo bk FO w' := by
  obtain ⟨FD', FO', FK', g1, g2, g3, g4, g5⟩ := h
  exact ⟨FD', FO', FK', g1, g2, g3, (fun u => (g4 u).trans (h1 u)), h2.trans g5⟩
theorem WSt.node {g : Nat} {o : Obj} (h : WSt w1 w0 R tk b kb bd bo bk FO w) (hg : w0.heap[g]? = some o) (hne : g ≠ bd ∧ g ≠ bo ∧ g ≠ bk) : w.heap[g]? = some o := by
  obtain ⟨_, _, _, _, _, _, _, h5⟩ := h
  exact (h5.block g (Array.getElem?_eq_some_iff.1 hg).1 hne.1 hne.2.1 hne.2.2).trans hg
theorem WSt.c0 (h : WSt w1 w0 R tk b kb bd bo bk FO w) : w.cell? ⟨kb, 0, none⟩ = some (.pointer (some ⟨b, 0, none⟩)) := by
  obtain ⟨_, _, _, h1, _⟩ := h
  exact h1.c0
theorem WSt.held {a : Addr} {v : Value} (h : WSt w1 w0 R tk b kb bd bo bk FO w) (ha : ∀ W, Below w1.heap.size w1 W → W.cell? a = some v) (hb : Below w.heap.size w w') : w'.cell? ⟨kb, 0, none⟩ = some (.pointer (some ⟨b, 0, none⟩)) ∧ w'.cell? a = some v ∧ Aside0 (WSt w1 w0 R tk b kb bd bo bk FO w') :=
  ⟨(h.below hb).c0, ha _ (h.below hb).bel, ⟨h.below hb⟩⟩
theorem WSt.mayNext {FD FO' FK F' : Value → Option Int} {n a : Nat} (h1 : CSt w1 b kb bd bo bk FD FO' F' w') (h2 : DoneOk R tk FD) (h3 : KnownAll R tk FK) (h4 : ∀ u, FO' u = some 1 ↔ FO u = some 1) (h5 : Frm bd bo bk w0 w) (g2 : KnownFrom R tk n a F') (g3 : ∀ u, (∀ a' i j : Nat, a ≤ a' → u ≠ nodeK n a' i j) → F' u = FK u) (g4 : Frm bd bo bk w w') : WSt w1 w0 R tk b kb bd bo bk FO w' :=
  ⟨FD, FO', F', h1, h2, h3.next g2 g3, h4, h5.trans g4⟩
end
/-- Counting the rests of rules, and the nonterminals, so long as no more than so many nodes are not open. -/
def PWh (w1 : World) (R : List (Int × List Int)) (tk : List Int) (N b kb bd bo bk d : Nat) : Prop :=
  ∀ (k i j : Nat) (FD FO FK : Value → Option Int) (w : World), k < N → i ≤ j → j ≤ tk.length → CSt w1 b kb bd bo bk FD FO FK w → DoneOk R tk FD → KnownAll R tk FK → PreW R tk FO (k, i, j) → freeC N tk.length FO ≤ d →
    Calls Tryd.prog 40 #[.pointer (some ⟨kb, 0, none⟩), .int .i64 k, .int .i64 i, .int .i64 j] w (WhRes w1 w R tk b kb bd bo bk FO (treeD R tk k i j))
def PRe (w1 : World) (R : List (Int × List Int)) (tk : List Int) (N b kb bd bo bk d : Nat) : Prop :=
  ∀ (n a i j : Nat) (FD FO FK : Value → Option Int) (w : World), n < R.length → a ≤ (R.getD n (0, [])).2.length → i ≤ j → j ≤ tk.length → CSt w1 b kb bd bo bk FD FO FK w → DoneOk R tk FD → KnownAll R tk FK → PreS R tk FO ((R.getD n (0, [])).2.drop a) i j → freeC N tk.length FO ≤ d →
    Calls Tryd.prog 53 #[.pointer (some ⟨kb, 0, none⟩), .int .i64 n, .int .i64 a, .int .i64 i, .int .i64 j] w (WhRes w1 w R tk b kb bd bo bk FO (seqD_ R tk ((R.getD n (0, [])).2.drop a) i j))
end Go.Proofs.YtndimnomkcjeiaaDoor.Hand
