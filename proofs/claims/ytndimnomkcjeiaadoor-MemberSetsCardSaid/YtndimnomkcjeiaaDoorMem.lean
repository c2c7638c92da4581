/- Contracts of package member: the chart. -/
import Derived.Test.YtndimnomkcjeiaaDoorMemMath
import Derived.Test.YtndimnomkcjeiaaDoorRow
import Derived.Test.YtndimnomkcjeiaaDoorSets
namespace Go.Proofs.YtndimnomkcjeiaaDoor.Hand
open Go.RowKit Go.Proofs.YtndimnomkcjeiaaDoorW.PrintWords Go.Proofs.YtndimnomkcjeiaaDoorW.PrintMore Go.Proofs.YtndimnomkcjeiaaDoor.Math

/-- A chart in memory, over tokens and rules that were there in w0. -/
structure Chart (w0 : World) (R : List (Int × List Int)) (tk : List Int) (N b O : Nat) (Bs : Nat → Nat) (Tn : Nat → Nat → Nat) (w : World) : Prop where
  bel : Below w0.heap.size w0 w
  rules : ∃ AR cR, R.length ≤ cR ∧ KRule.C w0 AR R.length R ∧ w.cell? ⟨b, 3, none⟩ = some (.slice AR R.length cR)
  toks : ∃ At ct, tk.length ≤ ct ∧ Kd.C (Kd.int .i64) w0 At tk.length tk ∧ w.cell? ⟨b, 4, none⟩ = some (.slice At tk.length ct)
  head : w.cell? ⟨b, 5, none⟩ = some (.slice (some ⟨O, 0, none⟩) (tk.length + 1) (tk.length + 1))
  out : Row w O (tk.length + 1) (fun i => .slice (some ⟨Bs i, 0, none⟩) (tk.length - i + 1) (tk.length - i + 1))
  inn : ∀ i, i ≤ tk.length → Row w (Bs i) (tk.length - i + 1) (fun d => .int .u64 (Tn i (i + d) : Nat))
  lim : ∀ i j, Tn i j < 2 ^ N
  hb : w0.heap.size ≤ b
  hO : w0.heap.size ≤ O ∧ O ≠ b
  hB : ∀ i, i ≤ tk.length → w0.heap.size ≤ Bs i ∧ Bs i ≠ b ∧ Bs i ≠ O
  inj : ∀ i j, i ≤ tk.length → j ≤ tk.length → Bs i = Bs j → i = j
def tabOf (Tn : Nat → Nat → Nat) : Nat → Nat → Nat → Bool := fun i j k => hasN (Tn i j) k
section
variable {w0 w w' : World} {R : List (Int × List Int)} {tk : List Int} {N b O : Nat} {Bs : Nat → Nat} {Tn : Nat → Nat → Nat}
theorem Chart.below (h : Chart w0 R tk N b O Bs Tn w) (hb : Below w.heap.size w w') : Chart w0 R tk N b O Bs Tn w' := by
  have hlt : b < w.heap.size := World.block_lt_of_cell? w _ h.head
  obtain ⟨AR, cR, q1, q2, q3⟩ := h.rules
  obtain ⟨At, ct, p1, p2, p3⟩ := h.toks
  exact ⟨below_next h.bel hb, ⟨AR, cR, q1, q2, (hb.cell hlt).trans q3⟩, ⟨At, ct, p1, p2, (hb.cell hlt).trans p3⟩, (hb.cell hlt).trans h.head, h.out.below hb, fun i hi => (h.inn i hi).below hb, h.lim, h.hb, h.hO, h.hB, h.inj⟩
theorem Chart.drewN (h : Chart w0 R tk N b O Bs Tn w) (n : Nat) : Chart w0 R tk N b O Bs Tn (w.drewN n) := h.below (pw_below_drewN (Below.refl _ _) _)
/-- What is read of the part from i to j. -/
theorem Chart.part (h : Chart w0 R tk N b O Bs Tn w) (i j : Nat) (hij : i ≤ j) (hj : j ≤ tk.length) :
    w.cell? ⟨b, 5, none⟩ = some (.slice (some ⟨O, 0, none⟩) (tk.length + 1) (tk.length + 1)) ∧ w.cell? ⟨O, i, none⟩ = some (.slice (some ⟨Bs i, 0, none⟩) (tk.length - i + 1) (tk.length - i + 1)) ∧ w.cell? ⟨Bs i, j - i, none⟩ = some (.int .u64 (Tn i j : Nat)) ∧ w.frozen? ⟨Bs i, j - i, none⟩ = false := by
  have h3 := (h.inn i (by omega)).cell (j - i) (by omega)
  rw [show i + (j - i) = j by omega] at h3
  exact ⟨h.head, h.out.cell i (by omega), h3, (h.inn i (by omega)).free _⟩
/-- One part is written. -/
theorem Chart.put (h : Chart w0 R tk N b O Bs Tn w) (i j : Nat) (hij : i ≤ j) (hj : j ≤ tk.length) (s : Nat) (hs : s < 2 ^ N) :
    Chart w0 R tk N b O Bs (fun a c => if a = i ∧ c = j then s else Tn a c) (w.setCell ⟨Bs i, j - i, none⟩ (.int .u64 s)) := by
  obtain ⟨AR, cR, q1, q2, q3⟩ := h.rules
  obtain ⟨At, ct, p1, p2, p3⟩ := h.toks
  obtain ⟨k1, k2, k3⟩ := h.hB i (by omega)
  have hc : ∀ n v, w.cell? ⟨b, n, none⟩ = some v → (w.setCell ⟨Bs i, j - i, none⟩ (.int .u64 s)).cell? ⟨b, n, none⟩ = some v := fun n v hv => (World.cell?_setCell_other w _ _ _ (fun e => k2 (by injection e))).trans hv
  refine ⟨h.bel.setCell k1 _, ⟨AR, cR, q1, q2, hc _ _ q3⟩, ⟨At, ct, p1, p2, hc _ _ p3⟩, hc _ _ h.head, h.out.far _ k3 _, fun a ha => ?_, fun a c => by split; exact hs; exact h.lim a c, h.hb, h.hO, h.hB, h.inj⟩
  by_cases e : a = i
  · subst e
    refine ((h.inn a ha).set (j - a) (by omega) (.int .u64 s)).ext (fun q hq => ?_)
    by_cases e2 : q = j - a
    · subst e2
      rw [if_pos rfl, if_pos ⟨rfl, by omega⟩]
    · rw [if_neg e2, if_neg (by omega)]
  · refine ((h.inn a ha).far ⟨Bs i, j - i, none⟩ (fun q => e (h.inj i a (by omega) ha q).symm) _).ext (fun q hq => ?_)
    rw [if_neg (fun q => e q.1)]
end
theorem tab_hb {Tn : Nat → Nat → Nat} {tk : List Int} {s : Int} {i j : Nat} (hs : s < 0) : Hb (tabOf Tn) tk s i j = hasN (Tn i j) (-1 - s) := by
  unfold Hb tabOf
  rw [if_neg (by omega)]
  congr 1; omega
theorem chas_calls {w0 w : World} {R : List (Int × List Int)} {tk : List Int} {N b O : Nat} {Bs : Nat → Nat} {Tn : Nat → Nat → Nat} (h : Chart w0 R tk N b O Bs Tn w) (hN : N ≤ 60) (hn : tk.length ≤ 40) (s : Int) (hs : -(N : Int) ≤ s) (hs2 : s < 4611686018427387904) (i j : Nat) (hij : i ≤ j) (hj : j ≤ tk.length) :
    Quiet 61 #[.pointer (some ⟨b, 0, none⟩), .int .i64 s, .int .i64 i, .int .i64 j] w (.bool (Hb (tabOf Tn) tk s i j)) := by
  unfold Quiet
  obtain ⟨At, ct, p1, p2, p3⟩ := h.toks
  have hlen := p2.2.1
  obtain ⟨k1, k2, k3, k4⟩ := h.part i j hij hj
  have hlt := h.lim i j
  have h18 : Tn i j < 18446744073709551616 := Nat.lt_of_lt_of_le hlt (Nat.le_trans (Nat.pow_le_pow_right (by decide) hN) (by decide))
  have p2' := Kd.C_below p2 h.bel
  have hji : ((j : Int) - i) = ((j - i : Nat) : Int) := by omega
  by_cases h0 : 0 ≤ s
  · by_cases h1 : j = i + 1
    · subst h1
      obtain ⟨ad, y, rfl, hc, HY⟩ := at_nat p2' i (by omega)
      have HE : Hid (Hb (tabOf Tn) tk s i (i + 1) = (y == s)) := Lib.hid (by unfold Hb; rw [if_pos h0, HY.out]; simp)
      clear h p2 p2' h18 hlt k1 k2 k3 k4 hji
      have hii : (((i + 1 : Nat) : Int) == (i : Int) + 1) = true := by simp
      go_enter Tryd.func61, Tryd.ntmps61
      go_wp2
      go_ret
      exact ⟨ret_bool (by rw [HE.out]), 0, rfl⟩
    · have HE : Hid (Hb (tabOf Tn) tk s i j = false) := Lib.hid (by unfold Hb; rw [if_pos h0]; simp [h1])
      clear h p2 p2' h18 hlt k1 k2 k3 k4 hji
      have hii : ((j : Int) == (i : Int) + 1) = false := by rw [beq_eq_false_iff_ne]; omega
      clear h1
      go_enter Tryd.func61, Tryd.ntmps61
      go_wp2
      go_ret
      exact ⟨ret_bool HE.out.symm, 0, rfl⟩
  · have HE := Lib.hid (tab_hb (Tn := Tn) (tk := tk) (i := i) (j := j) (show s < 0 by omega))
    have HC := Lib.hid (has_calls (Tn i j) h18 (-1 - s) w)
    clear h p2 p2' h18 hlt p3
    go_enter Tryd.func61, Tryd.ntmps61
    go_wp2_with (go_at_call 38; refine HC.out.mono ?_; rintro e w' ⟨rfl, n, rfl⟩)
    go_ret
    exact ⟨ret_bool HE.out.symm, _, rfl⟩
/-- Where the symbols so far, and the next one from some of the places, may end. -/
def nextP (T : Nat → Nat → Nat → Bool) (tk l : List Int) (s : Int) (i p q d : Nat) : Prop := ∃ p', p' ≤ d ∧ (p' < p ∨ (p' = p ∧ d < q)) ∧ Cut T tk l i (i + p') ∧ Hb T tk s (i + p') (i + d) = true
theorem nextP_zero {T : Nat → Nat → Nat → Bool} {tk l : List Int} {s : Int} {i d : Nat} : ¬ nextP T tk l s i 0 0 d := by rintro ⟨p', _, h, _⟩; omega
theorem nextP_start {T : Nat → Nat → Nat → Bool} {tk l : List Int} {s : Int} {i p d : Nat} : nextP T tk l s i p p d ↔ nextP T tk l s i p 0 d := by
  constructor
  · rintro ⟨p', h1, h2, h3⟩; exact ⟨p', h1, by omega, h3⟩
  · rintro ⟨p', h1, h2, h3⟩; exact ⟨p', h1, by omega, h3⟩
theorem nextP_none {T : Nat → Nat → Nat → Bool} {tk l : List Int} {s : Int} {i p q d : Nat} (h : ¬ Cut T tk l i (i + p)) : nextP T tk l s i p q d ↔ nextP T tk l s i (p + 1) 0 d := by
  constructor
  · rintro ⟨p', h1, h2, h3⟩; exact ⟨p', h1, by omega, h3⟩
  · rintro ⟨p', h1, h2, h3⟩
    refine ⟨p', h1, ?_, h3⟩
    rcases Nat.lt_or_ge p' p with h' | h'
    · exact .inl h'
    · obtain rfl : p' = p := by omega
      exact absurd h3.1 h
theorem nextP_full {T : Nat → Nat → Nat → Bool} {tk l : List Int} {s : Int} {i p m d : Nat} (hd : d < m) : nextP T tk l s i p m d ↔ nextP T tk l s i (p + 1) 0 d := by
  constructor
  · rintro ⟨p', h1, h2, h3⟩; exact ⟨p', h1, by omega, h3⟩
  · rintro ⟨p', h1, h2, h3⟩; exact ⟨p', h1, by omega, h3⟩
theorem nextP_step {T : Nat → Nat → Nat → Bool} {tk l : List Int} {s : Int} {i p q : Nat} (hpq : p ≤ q) (h : Cut T tk l i (i + p)) : nextP T tk l s i p (q + 1) q ↔ (nextP T tk l s i p q q ∨ Hb T tk s (i + p) (i + q) = true) := by
  constructor
  · rintro ⟨p', h1, h2, h3, h4⟩
    rcases h2 with h2 | ⟨rfl, _⟩
    · exact .inl ⟨p', h1, .inl h2, h3, h4⟩
    · exact .inr h4
  · rintro (⟨p', h1, h2, h3⟩ | h4)
    · exact ⟨p', h1, by omega, h3⟩
    · exact ⟨p, hpq, by omega, h, h4⟩
theorem nextP_other {T : Nat → Nat → Nat → Bool} {tk l : List Int} {s : Int} {i p q d : Nat} (hd : d ≠ q) : nextP T tk l s i p (q + 1) d ↔ nextP T tk l s i p q d := by
  constructor <;> (rintro ⟨p', h1, h2, h3⟩; exact ⟨p', h1, by omega, h3⟩)
theorem nextP_all {T : Nat → Nat → Nat → Bool} {tk l : List Int} {s : Int} {i m d : Nat} (hd : d < m) : nextP T tk l s i m 0 d ↔ Cut T tk (l ++ [s]) i (i + d) := by
  rw [Cut_snoc]
  constructor
  · rintro ⟨p', h1, h2, h3, h4⟩; exact ⟨i + p', by omega, by omega, h3, h4⟩
  · rintro ⟨p, h1, h2, h3, h4⟩
    refine ⟨p - i, by omega, by omega, ?_, ?_⟩ <;> rw [show i + (p - i) = p by omega] <;> assumption
set_option maxHeartbeats 1600000 in
set_option maxRecDepth 20000 in
theorem ccut_calls {w0 w : World} {R : List (Int × List Int)} {tk : List Int} {N b O : Nat} {Bs : Nat → Nat} {Tn : Nat → Nat → Nat} (h : Chart w0 R tk N b O Bs Tn w) (hN : N ≤ 60) (hn : tk.length ≤ 40) (B : Option Addr) (c : Nat) (r : List Int) (hr : Kd.C (Kd.int .i64) w B r.length r) (hs : ∀ s ∈ r, -(N : Int) ≤ s ∧ s < 4611686018427387904) (i j : Nat) (hij : i ≤ j) (hj : j ≤ tk.length) :
    Calls Tryd.prog 57 #[.pointer (some ⟨b, 0, none⟩), .slice B r.length c, .int .i64 i, .int .i64 j] w fun e w' => e = .returned (.bool (tb (Cut (tabOf Tn) tk r i j))) ∧ Below w.heap.size w w' := by
  obtain ⟨m, hm⟩ : ∃ m : Nat, m = j - i + 1 := ⟨_, rfl⟩
  have hmI : ((j : Int) - i + 1) = (m : Int) := by omega
  have hmk : ∀ W : World, (Instr.makeSlice 73 (.int .i64 ((m : Nat) : Int)) (.int .i64 ((m : Nat) : Int))).run Tryd.prog W = .ok (.slice (some ⟨W.heap.size, 0, none⟩) m m) (W.alloc (.cells (madeCells #[.bool false] m) 4)) :=
    print_make_of (P := Tryd.prog) 73 4 (.bool false) 1 rfl infoBool rfl (by decide) m (by omega)
  have hlen := hr.2.1
  have HH := Lib.hid h
  have HR := Lib.hid hr
  have HS := Lib.hid hs
  obtain ⟨w1, hw1⟩ : ∃ w1, w.alloc (.cells (madeCells #[.bool false] m) 4) = w1 := ⟨_, rfl⟩
  have hrow1 : Row w1 w.heap.size m (fun _ => .bool false) := by rw [← hw1]; exact Row.made w _ m _
  have hb1 : Below w.heap.size w w1 := by rw [← hw1]; exact below_alloc (Below.refl _ _) _
  have hc1 := hrow1.cell 0 (by omega)
  have hf1 := hrow1.free 0
  have HB2 := Aside0.mk (hb1.setCell (p := ⟨w.heap.size, 0, none⟩) (Nat.le_refl _) (.bool true))
  have HR2 := Aside0.mk ((hrow1.set 0 (by omega) (.bool true)).ext (f' := fun d => .bool (tb (Cut (tabOf Tn) tk (r.take 0) i (i + d)))) (fun q hq => by
    by_cases e : q = 0
    · subst e; rw [if_pos rfl, tb_yes]; rfl
    · rw [if_neg e, tb_no]; intro (h : i = i + q); omega))
  clear h hr hs hrow1 hb1 hm
  go_enter Tryd.func57, Tryd.ntmps57
  go_wp2
  clear hw1 hc1 hf1
  go_loopw [9, 25] (fun v x wr => ∃ (g k : Nat), k ≤ r.length ∧ v = .slice (some ⟨g, 0, none⟩) m m ∧ x = .int .i64 k ∧ Aside0 (w.heap.size ≤ g) ∧ Aside0 (Below w.heap.size w wr) ∧ Aside0 (Row wr g m (fun d => .bool (tb (Cut (tabOf Tn) tk (r.take k) i (i + d)))))) (fun _ x _ => r.length - (intOf x).toNat)
  case atStart => exact ⟨w.heap.size, 0, by omega, rfl, rfl, ⟨Nat.le_refl _⟩, HB2, HR2⟩
  case round =>
    obtain ⟨g, k, hk, rfl, rfl, HG, HB, HRow⟩ := hrel
    obtain ⟨wo, rfl⟩ : ∃ wo : World, wo = wr := ⟨_, rfl⟩
    by_cases hlt : k < r.length
    · obtain ⟨ad, s, rfl, hc, HY⟩ := at_scalar (Kd.C_below HR.out HB.out) k hlt 0
      have HSy := Lib.hid (HS.out s (by rw [← HY.out]; exact getD_mem r k 0 hlt))
      obtain ⟨w3, hw3⟩ : ∃ w3, wo.alloc (.cells (madeCells #[.bool false] m) 4) = w3 := ⟨_, rfl⟩
      have hrow3 : Row w3 wo.heap.size m (fun _ => .bool false) := by rw [← hw3]; exact Row.made wo _ m _
      have hb3 : Below wo.heap.size wo w3 := by rw [← hw3]; exact below_alloc (Below.refl _ _) _
      have HX3 := Aside0.mk (hrow3.ext (f' := fun d => .bool (tb (nextP (tabOf Tn) tk (r.take k) s i 0 0 d))) (fun q hq => by rw [tb_no nextP_zero]))
      have HRow3 := Aside0.mk (HRow.out.below hb3)
      have HB3 := Aside0.mk (below_next HB.out hb3)
      have HBo := Aside0.mk hb3
      have hgne : g ≠ wo.heap.size := Nat.ne_of_lt HRow.out.lt
      clear hrow3 hb3
      go_wp2
      clear hw3
      go_loopw [36] (fun x wr => ∃ p : Nat, p ≤ m ∧ x = .int .i64 p ∧ Aside0 (Below w.heap.size w wr) ∧ Aside0 (Row wr g m (fun d => .bool (tb (Cut (tabOf Tn) tk (r.take k) i (i + d))))) ∧ Aside0 (Row wr wo.heap.size m (fun d => .bool (tb (nextP (tabOf Tn) tk (r.take k) s i p 0 d))))) (fun x _ => m - (intOf x).toNat)
      case atStart => exact ⟨0, by omega, rfl, HB3, HRow3, HX3⟩
      case round =>
        obtain ⟨p, hp, rfl, HB4, HRow4, HX4⟩ := hrel
        obtain ⟨w4, rfl⟩ : ∃ wo : World, wo = wr := ⟨_, rfl⟩
        by_cases hpm : p < m
        · have hcell := HRow4.out.cell p hpm
          cases hcut : tb (Cut (tabOf Tn) tk (r.take k) i (i + p))
          · rw [hcut] at hcell
            have HX5 := Aside0.mk (HX4.out.ext (f' := fun d => .bool (tb (nextP (tabOf Tn) tk (r.take k) s i (p + 1) 0 d))) (fun q hq => by rw [tb_congr (nextP_none (q := 0) (fun h => by rw [tb_yes h] at hcut; cases hcut))]))
            clear hcut
            go_wp2
            go_loopw [15] (fun x wr => x = .int .i64 p ∧ wr = w4) (fun x _ => 0)
            case atStart => exact ⟨rfl, rfl⟩
            case round =>
              obtain ⟨rfl, rfl⟩ := hrel
              go_wp2
              go_roundw
              case rel => exact ⟨p + 1, by omega, by go_num, HB4, HRow4, HX5⟩
              case measure => simp [intOf]; omega
          · rw [hcut] at hcell
            have HC := Lib.hid (tb_iff.1 hcut)
            clear hcut
            have HX5 := Aside0.mk (HX4.out.ext (f' := fun d => .bool (tb (nextP (tabOf Tn) tk (r.take k) s i p p d))) (fun q hq => by rw [tb_congr nextP_start]))
            go_wp2
            clear hcell
            go_loopw [15] (fun x wr => ∃ q : Nat, p ≤ q ∧ q ≤ m ∧ x = .int .i64 q ∧ Aside0 (Below w.heap.size w wr) ∧ Aside0 (Row wr g m (fun d => .bool (tb (Cut (tabOf Tn) tk (r.take k) i (i + d))))) ∧ Aside0 (Row wr wo.heap.size m (fun d => .bool (tb (nextP (tabOf Tn) tk (r.take k) s i p q d))))) (fun x _ => m - (intOf x).toNat)
            case atStart => exact ⟨p, by omega, by omega, rfl, HB4, HRow4, HX5⟩
            case round =>
              obtain ⟨q, hpq, hq, rfl, HB6, HRow6, HX6⟩ := hrel
              by_cases hqm : q < m
              · have hcq := HX6.out.cell q hqm
                have hfq := HX6.out.free q
                have hst := HSy.out
                have HCall := Lib.hid (show Quiet 61 #[.pointer (some ⟨b, 0, none⟩), .int .i64 s, .int .i64 ((i : Int) + p), .int .i64 ((i : Int) + q)] wr (.bool (Hb (tabOf Tn) tk s (i + p) (i + q))) by
                  have h := chas_calls (HH.out.below HB6.out) hN hn s hst.1 hst.2 (i + p) (i + q) (by omega) (by omega)
                  rwa [Int.natCast_add, Int.natCast_add] at h)
                clear hst
                have HS7 := Lib.hid (fun (W : World) (hW : Row W wo.heap.size m (fun d => .bool (tb (nextP (tabOf Tn) tk (r.take k) s i p q d)))) (bb : Bool) (hbb : bb = true ↔ nextP (tabOf Tn) tk (r.take k) s i p (q + 1) q) => (hW.set q hqm (.bool bb)).ext (f' := fun d => .bool (tb (nextP (tabOf Tn) tk (r.take k) s i p (q + 1) d))) (fun d hd => by
                  by_cases e : d = q
                  · subst e; rw [if_pos rfl, ← tb_bool hbb]
                  · rw [if_neg e, tb_congr (nextP_other e)]))
                have HZ := Lib.hid HB.out.size
                cases hnx : tb (nextP (tabOf Tn) tk (r.take k) s i p q q)
                · rw [hnx] at hcq
                  have HV : Hid ((Hb (tabOf Tn) tk s (i + p) (i + q)) = true ↔ nextP (tabOf Tn) tk (r.take k) s i p (q + 1) q) := Lib.hid (by
                    rw [nextP_step hpq HC.out]
                    constructor
                    · exact .inr
                    · rintro (h | h)
                      · rw [tb_yes h] at hnx; cases hnx
                      · exact h)
                  clear hnx
                  go_wp2_with (go_at_call 61; refine HCall.out.mono ?_; rintro e w' ⟨rfl, n, rfl⟩)
                  go_roundw
                  case rel => exact ⟨q + 1, by omega, by omega, by go_num, ⟨(pw_below_drewN HB6.out _).setCell (p := ⟨wo.heap.size, q, none⟩) HZ.out _⟩, ⟨(HRow6.out.drewN _).far ⟨wo.heap.size, q, none⟩ (Ne.symm hgne) _⟩, ⟨HS7.out _ (HX6.out.drewN _) _ HV.out⟩⟩
                  case measure => simp [intOf]; omega
                · rw [hnx] at hcq
                  have HV : Hid (true = true ↔ nextP (tabOf Tn) tk (r.take k) s i p (q + 1) q) := Lib.hid (by
                    rw [nextP_step hpq HC.out]
                    exact ⟨fun _ => .inl (tb_iff.1 hnx), fun _ => rfl⟩)
                  clear hnx
                  go_wp2
                  go_roundw
                  case rel => exact ⟨q + 1, by omega, by omega, by go_num, ⟨HB6.out.setCell (p := ⟨wo.heap.size, q, none⟩) HZ.out _⟩, ⟨HRow6.out.far ⟨wo.heap.size, q, none⟩ (Ne.symm hgne) _⟩, ⟨HS7.out _ HX6.out _ HV.out⟩⟩
                  case measure => simp [intOf]; omega
              · have HX7 := Aside0.mk (HX6.out.ext (f' := fun d => .bool (tb (nextP (tabOf Tn) tk (r.take k) s i (p + 1) 0 d))) (fun d hd => by rw [tb_congr (nextP_full (by omega))]))
                go_wp2
                go_roundw
                case rel => exact ⟨p + 1, by omega, by go_num, HB6, HRow6, HX7⟩
                case measure => simp [intOf]; omega
        · have HX5 := Aside0.mk (HX4.out.ext (f' := fun d => .bool (tb (Cut (tabOf Tn) tk (r.take (k + 1)) i (i + d)))) (fun d hd => by
            obtain rfl : p = m := by omega
            rw [take_snocD r k 0 hlt, HY.out, tb_congr (nextP_all hd)]))
          go_wp2
          go_roundw
          case rel => exact ⟨wo.heap.size, k + 1, by omega, rfl, by go_num, ⟨HB.out.size⟩, HB4, HX5⟩
          case measure => simp [intOf]; omega
    · have HE : Hid (r.take k = r) := Lib.hid (List.take_of_length_le (by omega))
      have hcell := HRow.out.cell (j - i) (by omega)
      rw [HE.out, show i + (j - i) = j by omega] at hcell
      have hji : ((j : Int) - i) = ((j - i : Nat) : Int) := by omega
      have hjm : j - i < m := by omega
      go_wp2
      go_ret
      exact ⟨rfl, HB.out⟩
end Go.Proofs.YtndimnomkcjeiaaDoor.Hand
