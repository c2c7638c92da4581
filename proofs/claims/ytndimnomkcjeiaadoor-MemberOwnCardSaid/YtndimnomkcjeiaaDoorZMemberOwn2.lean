/- The texts that the statement's proof stands on, part 2: XSets XMem XMemB XRight XErr XKind XGram XMemC XMemD XMemE XMapN. -/
import Derived.Test.YtndimnomkcjeiaaDoorZMemberOwn1
import Derived.Deep.RegionHeld3
import Derived.StillTailTactics
import Derived.LaidEql
import Derived.Stop.Asserts
import Derived.RowKitTokens
import Derived.Maps.OwnSet
import Derived.DeepKeys4
/- Contracts of the functions of sets and of dovetailref01 on single numbers: each answers by the plain laws of sets. -/
namespace Go.Proofs.YtndimnomkcjeiaaDoor.Hand
open Go.RowKit Go.Proofs.YtndimnomkcjeiaaDoorW.PrintWords Go.Proofs.YtndimnomkcjeiaaDoorW.PrintMore Go.Proofs.YtndimnomkcjeiaaDoor.Math

theorem u64_half (x : Nat) (h : x < 18446744073709551616) : IntKind.u64.wrap (Int.tdiv (x : Int) 2) = ((x / 2 : Nat) : Int) := by
  rw [Int.tdiv_eq_ediv_of_nonneg (by omega), wrap_u64]; omega
theorem odd_bit (x : Nat) : ((Int.tmod (x : Int) 2) == 1) = x.testBit 0 := by
  rw [Int.tmod_eq_emod_of_nonneg (by omega), Nat.testBit_zero, Bool.eq_iff_iff]; simp; omega
theorem full_sub (a b : Nat) (h : a = b + 1) (h2 : a < 18446744073709551616) : IntKind.u64.wrap ((a : Int) - 1) = (b : Int) := by
  rw [wrap_u64]; omega
theorem shl_bit (k : Int) (h0 : 0 ≤ k) (h1 : k ≤ 63) : IntKind.u64.wrap (2 ^ min k.toNat 64) = ((bitN k : Nat) : Int) := by
  have h : min k.toNat 64 = k.toNat := by omega
  rw [h]
  have h2 : bitN k = 2 ^ k.toNat := by rw [bitN, (inR_iff k).2 ⟨h0, h1⟩]; simp
  have h3 : ((2 : Int) ^ k.toNat) = ((2 ^ k.toNat : Nat) : Int) := by simp
  rw [h2, h3]
  exact wrap_u64_nat _ (by rw [← h2]; exact bitN_lt k)
theorem bit_lo (k : Int) (h : k < 0) : bitN k = 0 := by rw [bitN, (inR_no k).2 (by omega)]; simp
theorem bit_hi (k : Int) (h : 63 < k) : bitN k = 0 := by rw [bitN, (inR_no k).2 (by omega)]; simp

theorem bit_calls (k : Int) (w : World) : Quiet 50 #[.int .i64 k] w (.int .u64 (bitN k)) := by
  unfold Quiet
  by_cases h0 : k < 0
  · have H := Lib.hid (bit_lo k h0)
    go_enter Tryd.func50, Tryd.ntmps50
    go_wp2
    go_ret
    exact ⟨ret_int (by rw [H.out]; rfl), 0, rfl⟩
  · by_cases h1 : 63 < k
    · have H := Lib.hid (bit_hi k h1)
      go_enter Tryd.func50, Tryd.ntmps50
      go_wp2
      go_ret
      exact ⟨ret_int (by rw [H.out]; rfl), 0, rfl⟩
    · have H := Lib.hid (shl_bit k (by omega) (by omega))
      go_enter Tryd.func50, Tryd.ntmps50
      go_wp2
      go_ret
      refine ⟨ret_int ?_, 0, rfl⟩
      exact (congrArg (fun n => IntKind.u64.wrap (2 ^ n)) (show k.toNat = min k.toNat 64 by omega)).trans H.out
theorem has_calls (s : Nat) (hs : s < 18446744073709551616) (k : Int) (w : World) : Quiet 38 #[.int .u64 s, .int .i64 k] w (.bool (hasN s k)) := by
  unfold Quiet
  have H1 := Lib.hid (bits_and s (bitN k) hs (bitN_lt k))
  have H2 := Lib.hid (and_bit s k)
  clear hs
  go_enter Tryd.func38, Tryd.ntmps38
  go_wp2_with (go_at_call 50; refine (bit_calls k _).mono ?_; rintro e w' ⟨rfl, n, rfl⟩)
  go_ret
  exact ⟨ret_bool (by rw [H1.out, ← H2.out]; exact nat_ne _), _, rfl⟩
theorem with_calls (s : Nat) (hs : s < 18446744073709551616) (k : Int) (w : World) : Quiet 58 #[.int .u64 s, .int .i64 k] w (.int .u64 (withN s k)) := by
  unfold Quiet
  have H1 := Lib.hid (bits_or s (bitN k) hs (bitN_lt k))
  clear hs
  go_enter Tryd.func58, Tryd.ntmps58
  go_wp2_with (go_at_call 50; refine (bit_calls k _).mono ?_; rintro e w' ⟨rfl, n, rfl⟩)
  go_ret
  exact ⟨ret_int (by rw [H1.out]; rfl), _, rfl⟩
theorem bit_still (k : Int) (w : World) : Calls Tryd.prog 50 #[.int .i64 k] w (fun e w' => e = .returned (.int .u64 (bitN k)) ∧ w' = w) := by
  by_cases h0 : k < 0
  · have H := Lib.hid (bit_lo k h0)
    go_enter Tryd.func50, Tryd.ntmps50
    go_wp2
    go_ret
    exact ⟨ret_int (by rw [H.out]; rfl), rfl⟩
  · by_cases h1 : 63 < k
    · have H := Lib.hid (bit_hi k h1)
      go_enter Tryd.func50, Tryd.ntmps50
      go_wp2
      go_ret
      exact ⟨ret_int (by rw [H.out]; rfl), rfl⟩
    · have H := Lib.hid (shl_bit k (by omega) (by omega))
      go_enter Tryd.func50, Tryd.ntmps50
      go_wp2
      go_ret
      refine ⟨ret_int ?_, rfl⟩
      exact (congrArg (fun n => IntKind.u64.wrap (2 ^ n)) (show k.toNat = min k.toNat 64 by omega)).trans H.out
theorem with_still (s : Nat) (hs : s < 18446744073709551616) (k : Int) (w : World) : Calls Tryd.prog 58 #[.int .u64 s, .int .i64 k] w (fun e w' => e = .returned (.int .u64 (withN s k)) ∧ w' = w) := by
  have H1 := Lib.hid (bits_or s (bitN k) hs (bitN_lt k))
  clear hs
  go_enter Tryd.func58, Tryd.ntmps58
  go_wp2_with (go_at_call 50; refine (bit_still k _).mono ?_; rintro e w' ⟨rfl, rfl⟩)
  go_ret
  exact ⟨ret_int (by rw [H1.out]; rfl), rfl⟩
end Go.Proofs.YtndimnomkcjeiaaDoor.Hand
/- Contracts of package member: the chart. -/
namespace Go.Proofs.YtndimnomkcjeiaaDoor.Hand
open Go.RowKit Go.Proofs.YtndimnomkcjeiaaDoorW.PrintWords Go.Proofs.YtndimnomkcjeiaaDoorW.PrintMore Go.Proofs.YtndimnomkcjeiaaDoor.Math

/-- A chart in memory, over tokens and rules that were there in w0. -/
structure Chart (w0 : World) (R : List (Int × List Int)) (tk : List Int) (N b O : Nat) (Bs : Nat → Nat) (Tn : Nat → Nat → Nat) (w : World) : Prop where
  bel : Below w0.heap.size w0 w
  rules : ∃ AR cR, R.length ≤ cR ∧ KRule.C w0 AR R.length R ∧ w.cell? ⟨b, 3, none⟩ = some (.slice AR R.length cR)
  toks : ∃ At ct, tk.length ≤ ct ∧ Kd.C (Kd.int .i64) w0 At tk.length tk ∧ w.cell? ⟨b, 4, none⟩ = some (.slice At tk.length ct)
  head : w.cell? ⟨b, 5, none⟩ = some (.slice (some ⟨O, 0, none⟩) (tk.length + 1) (tk.length + 1))
  out : Row w O (tk.length + 1) (fun i => .slice (some ⟨Bs i, 0, none⟩) (tk.length - i + 1) (tk.length - i + 1))
  inn : ∀ i, i ≤ tk.length → Row w (Bs i) (tk.length - i + 1) (fun d => .int .u64 (Tn i (i + d) : Nat))
  lim : ∀ i j, Tn i j < 2 ^ N
  hb : w0.heap.size ≤ b
  hO : w0.heap.size ≤ O ∧ O ≠ b
  hB : ∀ i, i ≤ tk.length → w0.heap.size ≤ Bs i ∧ Bs i ≠ b ∧ Bs i ≠ O
  inj : ∀ i j, i ≤ tk.length → j ≤ tk.length → Bs i = Bs j → i = j
def tabOf (Tn : Nat → Nat → Nat) : Nat → Nat → Nat → Bool := fun i j k => hasN (Tn i j) k
section
variable {w0 w w' : World} {R : List (Int × List Int)} {tk : List Int} {N b O : Nat} {Bs : Nat → Nat} {Tn : Nat → Nat → Nat}
theorem Chart.below (h : Chart w0 R tk N b O Bs Tn w) (hb : Below w.heap.size w w') : Chart w0 R tk N b O Bs Tn w' := by
  have hlt : b < w.heap.size := World.block_lt_of_cell? w _ h.head
  obtain ⟨AR, cR, q1, q2, q3⟩ := h.rules
  obtain ⟨At, ct, p1, p2, p3⟩ := h.toks
  exact ⟨below_next h.bel hb, ⟨AR, cR, q1, q2, (hb.cell hlt).trans q3⟩, ⟨At, ct, p1, p2, (hb.cell hlt).trans p3⟩, (hb.cell hlt).trans h.head, h.out.below hb, fun i hi => (h.inn i hi).below hb, h.lim, h.hb, h.hO, h.hB, h.inj⟩
theorem Chart.drewN (h : Chart w0 R tk N b O Bs Tn w) (n : Nat) : Chart w0 R tk N b O Bs Tn (w.drewN n) := h.below (pw_below_drewN (Below.refl _ _) _)
/-- What is read of the part from i to j. -/
theorem Chart.part (h : Chart w0 R tk N b O Bs Tn w) (i j : Nat) (hij : i ≤ j) (hj : j ≤ tk.length) :
    w.cell? ⟨b, 5, none⟩ = some (.slice (some ⟨O, 0, none⟩) (tk.length + 1) (tk.length + 1)) ∧ w.cell? ⟨O, i, none⟩ = some (.slice (some ⟨Bs i, 0, none⟩) (tk.length - i + 1) (tk.length - i + 1)) ∧ w.cell? ⟨Bs i, j - i, none⟩ = some (.int .u64 (Tn i j : Nat)) ∧ w.frozen? ⟨Bs i, j - i, none⟩ = false := by
  have h3 := (h.inn i (by omega)).cell (j - i) (by omega)
  rw [show i + (j - i) = j by omega] at h3
  exact ⟨h.head, h.out.cell i (by omega), h3, (h.inn i (by omega)).free _⟩
/-- One part is written. -/
theorem Chart.put (h : Chart w0 R tk N b O Bs Tn w) (i j : Nat) (hij : i ≤ j) (hj : j ≤ tk.length) (s : Nat) (hs : s < 2 ^ N) :
    Chart w0 R tk N b O Bs (fun a c => if a = i ∧ c = j then s else Tn a c) (w.setCell ⟨Bs i, j - i, none⟩ (.int .u64 s)) := by
  obtain ⟨AR, cR, q1, q2, q3⟩ := h.rules
  obtain ⟨At, ct, p1, p2, p3⟩ := h.toks
  obtain ⟨k1, k2, k3⟩ := h.hB i (by omega)
  have hc : ∀ n v, w.cell? ⟨b, n, none⟩ = some v → (w.setCell ⟨Bs i, j - i, none⟩ (.int .u64 s)).cell? ⟨b, n, none⟩ = some v := fun n v hv => (World.cell?_setCell_other w _ _ _ (fun e => k2 (by injection e))).trans hv
  refine ⟨h.bel.setCell k1 _, ⟨AR, cR, q1, q2, hc _ _ q3⟩, ⟨At, ct, p1, p2, hc _ _ p3⟩, hc _ _ h.head, h.out.far _ k3 _, fun a ha => ?_, fun a c => by split; exact hs; exact h.lim a c, h.hb, h.hO, h.hB, h.inj⟩
  by_cases e : a = i
  · subst e
    refine ((h.inn a ha).set (j - a) (by omega) (.int .u64 s)).ext (fun q hq => ?_)
    by_cases e2 : q = j - a
    · subst e2
      rw [if_pos rfl, if_pos ⟨rfl, by omega⟩]
    · rw [if_neg e2, if_neg (by omega)]
  · refine ((h.inn a ha).far ⟨Bs i, j - i, none⟩ (fun q => e (h.inj i a (by omega) ha q).symm) _).ext (fun q hq => ?_)
    rw [if_neg (fun q => e q.1)]
end
theorem tab_hb {Tn : Nat → Nat → Nat} {tk : List Int} {s : Int} {i j : Nat} (hs : s < 0) : Hb (tabOf Tn) tk s i j = hasN (Tn i j) (-1 - s) := by
  unfold Hb tabOf
  rw [if_neg (by omega)]
  congr 1; omega
theorem chas_calls {w0 w : World} {R : List (Int × List Int)} {tk : List Int} {N b O : Nat} {Bs : Nat → Nat} {Tn : Nat → Nat → Nat} (h : Chart w0 R tk N b O Bs Tn w) (hN : N ≤ 60) (hn : tk.length ≤ 40) (s : Int) (hs : -(N : Int) ≤ s) (_hs2 : s < 4611686018427387904) (i j : Nat) (hij : i ≤ j) (hj : j ≤ tk.length) :
    Quiet 61 #[.pointer (some ⟨b, 0, none⟩), .int .i64 s, .int .i64 i, .int .i64 j] w (.bool (Hb (tabOf Tn) tk s i j)) := by
  unfold Quiet
  obtain ⟨At, ct, p1, p2, p3⟩ := h.toks
  have hlen := p2.2.1
  obtain ⟨k1, k2, k3, k4⟩ := h.part i j hij hj
  have hlt := h.lim i j
  have h18 : Tn i j < 18446744073709551616 := Nat.lt_of_lt_of_le hlt (Nat.le_trans (Nat.pow_le_pow_right (by decide) hN) (by decide))
  have p2' := Kd.C_below p2 h.bel
  have hji : ((j : Int) - i) = ((j - i : Nat) : Int) := by omega
  by_cases h0 : 0 ≤ s
  · by_cases h1 : j = i + 1
    · subst h1
      obtain ⟨ad, y, rfl, hc, HY⟩ := at_nat p2' i (by omega)
      have HE : Hid (Hb (tabOf Tn) tk s i (i + 1) = (y == s)) := Lib.hid (by unfold Hb; rw [if_pos h0, HY.out]; simp)
      clear h p2 p2' h18 hlt k1 k2 k3 k4 hji
      have hii : (((i + 1 : Nat) : Int) == (i : Int) + 1) = true := by simp
      go_enter Tryd.func61, Tryd.ntmps61
      go_wp2
      go_ret
      exact ⟨ret_bool (by rw [HE.out]), 0, rfl⟩
    · have HE : Hid (Hb (tabOf Tn) tk s i j = false) := Lib.hid (by unfold Hb; rw [if_pos h0]; simp [h1])
      clear h p2 p2' h18 hlt k1 k2 k3 k4 hji
      have hii : ((j : Int) == (i : Int) + 1) = false := by rw [beq_eq_false_iff_ne]; omega
      clear h1
      go_enter Tryd.func61, Tryd.ntmps61
      go_wp2
      go_ret
      exact ⟨ret_bool HE.out.symm, 0, rfl⟩
  · have HE := Lib.hid (tab_hb (Tn := Tn) (tk := tk) (i := i) (j := j) (show s < 0 by omega))
    have HC := Lib.hid (has_calls (Tn i j) h18 (-1 - s) w)
    clear h p2 p2' h18 hlt p3
    go_enter Tryd.func61, Tryd.ntmps61
    go_wp2_with (go_at_call 38; refine HC.out.mono ?_; rintro e w' ⟨rfl, n, rfl⟩)
    go_ret
    exact ⟨ret_bool HE.out.symm, _, rfl⟩
/-- Where the symbols so far, and the next one from some of the places, may end. -/
def nextP (T : Nat → Nat → Nat → Bool) (tk l : List Int) (s : Int) (i p q d : Nat) : Prop := ∃ p', p' ≤ d ∧ (p' < p ∨ (p' = p ∧ d < q)) ∧ Cut T tk l i (i + p') ∧ Hb T tk s (i + p') (i + d) = true
theorem nextP_zero {T : Nat → Nat → Nat → Bool} {tk l : List Int} {s : Int} {i d : Nat} : ¬ nextP T tk l s i 0 0 d := by rintro ⟨p', _, h, _⟩; omega
theorem nextP_start {T : Nat → Nat → Nat → Bool} {tk l : List Int} {s : Int} {i p d : Nat} : nextP T tk l s i p p d ↔ nextP T tk l s i p 0 d := by
  constructor
  · rintro ⟨p', h1, h2, h3⟩; exact ⟨p', h1, by omega, h3⟩
  · rintro ⟨p', h1, h2, h3⟩; exact ⟨p', h1, by omega, h3⟩
theorem nextP_none {T : Nat → Nat → Nat → Bool} {tk l : List Int} {s : Int} {i p q d : Nat} (h : ¬ Cut T tk l i (i + p)) : nextP T tk l s i p q d ↔ nextP T tk l s i (p + 1) 0 d := by
  constructor
  · rintro ⟨p', h1, h2, h3⟩; exact ⟨p', h1, by omega, h3⟩
  · rintro ⟨p', h1, h2, h3⟩
    refine ⟨p', h1, ?_, h3⟩
    rcases Nat.lt_or_ge p' p with h' | h'
    · exact .inl h'
    · obtain rfl : p' = p := by omega
      exact absurd h3.1 h
theorem nextP_full {T : Nat → Nat → Nat → Bool} {tk l : List Int} {s : Int} {i p m d : Nat} (hd : d < m) : nextP T tk l s i p m d ↔ nextP T tk l s i (p + 1) 0 d := by
  constructor
  · rintro ⟨p', h1, h2, h3⟩; exact ⟨p', h1, by omega, h3⟩
  · rintro ⟨p', h1, h2, h3⟩; exact ⟨p', h1, by omega, h3⟩
theorem nextP_step {T : Nat → Nat → Nat → Bool} {tk l : List Int} {s : Int} {i p q : Nat} (hpq : p ≤ q) (h : Cut T tk l i (i + p)) : nextP T tk l s i p (q + 1) q ↔ (nextP T tk l s i p q q ∨ Hb T tk s (i + p) (i + q) = true) := by
  constructor
  · rintro ⟨p', h1, h2, h3, h4⟩
    rcases h2 with h2 | ⟨rfl, _⟩
    · exact .inl ⟨p', h1, .inl h2, h3, h4⟩
    · exact .inr h4
  · rintro (⟨p', h1, h2, h3⟩ | h4)
    · exact ⟨p', h1, by omega, h3⟩
    · exact ⟨p, hpq, by omega, h, h4⟩
theorem nextP_other {T : Nat → Nat → Nat → Bool} {tk l : List Int} {s : Int} {i p q d : Nat} (hd : d ≠ q) : nextP T tk l s i p (q + 1) d ↔ nextP T tk l s i p q d := by
  constructor <;> (rintro ⟨p', h1, h2, h3⟩; exact ⟨p', h1, by omega, h3⟩)
theorem nextP_all {T : Nat → Nat → Nat → Bool} {tk l : List Int} {s : Int} {i m d : Nat} (hd : d < m) : nextP T tk l s i m 0 d ↔ Cut T tk (l ++ [s]) i (i + d) := by
  rw [Cut_snoc]
  constructor
  · rintro ⟨p', h1, h2, h3, h4⟩; exact ⟨i + p', by omega, by omega, h3, h4⟩
  · rintro ⟨p, h1, h2, h3, h4⟩
    refine ⟨p - i, by omega, by omega, ?_, ?_⟩ <;> rw [show i + (p - i) = p by omega] <;> assumption
set_option maxHeartbeats 1600000 in
set_option maxRecDepth 20000 in
theorem ccut_calls {w0 w : World} {R : List (Int × List Int)} {tk : List Int} {N b O : Nat} {Bs : Nat → Nat} {Tn : Nat → Nat → Nat} (h : Chart w0 R tk N b O Bs Tn w) (hN : N ≤ 60) (hn : tk.length ≤ 40) (B : Option Addr) (c : Nat) (r : List Int) (hr : Kd.C (Kd.int .i64) w B r.length r) (hs : ∀ s ∈ r, -(N : Int) ≤ s ∧ s < 4611686018427387904) (i j : Nat) (hij : i ≤ j) (hj : j ≤ tk.length) :
    Calls Tryd.prog 57 #[.pointer (some ⟨b, 0, none⟩), .slice B r.length c, .int .i64 i, .int .i64 j] w fun e w' => e = .returned (.bool (tb (Cut (tabOf Tn) tk r i j))) ∧ Below w.heap.size w w' := by
  obtain ⟨m, hm⟩ : ∃ m : Nat, m = j - i + 1 := ⟨_, rfl⟩
  have hmI : ((j : Int) - i + 1) = (m : Int) := by omega
  have hmk : ∀ W : World, (Instr.makeSlice 73 (.int .i64 ((m : Nat) : Int)) (.int .i64 ((m : Nat) : Int))).run Tryd.prog W = .ok (.slice (some ⟨W.heap.size, 0, none⟩) m m) (W.alloc (.cells (madeCells #[.bool false] m) 4)) :=
    print_make_of (P := Tryd.prog) 73 4 (.bool false) 1 rfl infoBool rfl (by decide) m (by omega)
  have hlen := hr.2.1
  have HH := Lib.hid h
  have HR := Lib.hid hr
  have HS := Lib.hid hs
  obtain ⟨w1, hw1⟩ : ∃ w1, w.alloc (.cells (madeCells #[.bool false] m) 4) = w1 := ⟨_, rfl⟩
  have hrow1 : Row w1 w.heap.size m (fun _ => .bool false) := by rw [← hw1]; exact Row.made w _ m _
  have hb1 : Below w.heap.size w w1 := by rw [← hw1]; exact below_alloc (Below.refl _ _) _
  have hc1 := hrow1.cell 0 (by omega)
  have hf1 := hrow1.free 0
  have HB2 := Aside0.mk (hb1.setCell (p := ⟨w.heap.size, 0, none⟩) (Nat.le_refl _) (.bool true))
  have HR2 := Aside0.mk ((hrow1.set 0 (by omega) (.bool true)).ext (f' := fun d => .bool (tb (Cut (tabOf Tn) tk (r.take 0) i (i + d)))) (fun q hq => by
    by_cases e : q = 0
    · subst e; rw [if_pos rfl, tb_yes]; rfl
    · rw [if_neg e, tb_no]; intro (h : i = i + q); omega))
  clear h hr hs hrow1 hb1 hm
  go_enter Tryd.func57, Tryd.ntmps57
  go_wp2
  clear hw1 hc1 hf1
  go_loopw [9, 25] (fun v x wr => ∃ (g k : Nat), k ≤ r.length ∧ v = .slice (some ⟨g, 0, none⟩) m m ∧ x = .int .i64 k ∧ Aside0 (w.heap.size ≤ g) ∧ Aside0 (Below w.heap.size w wr) ∧ Aside0 (Row wr g m (fun d => .bool (tb (Cut (tabOf Tn) tk (r.take k) i (i + d)))))) (fun _ x _ => r.length - (intOf x).toNat)
  case atStart => exact ⟨w.heap.size, 0, by omega, rfl, rfl, ⟨Nat.le_refl _⟩, HB2, HR2⟩
  case round =>
    obtain ⟨g, k, hk, rfl, rfl, HG, HB, HRow⟩ := hrel
    obtain ⟨wo, rfl⟩ : ∃ wo : World, wo = wr := ⟨_, rfl⟩
    by_cases hlt : k < r.length
    · obtain ⟨ad, s, rfl, hc, HY⟩ := at_scalar (Kd.C_below HR.out HB.out) k hlt 0
      have HSy := Lib.hid (HS.out s (by rw [← HY.out]; exact getD_mem r k 0 hlt))
      obtain ⟨w3, hw3⟩ : ∃ w3, wo.alloc (.cells (madeCells #[.bool false] m) 4) = w3 := ⟨_, rfl⟩
      have hrow3 : Row w3 wo.heap.size m (fun _ => .bool false) := by rw [← hw3]; exact Row.made wo _ m _
      have hb3 : Below wo.heap.size wo w3 := by rw [← hw3]; exact below_alloc (Below.refl _ _) _
      have HX3 := Aside0.mk (hrow3.ext (f' := fun d => .bool (tb (nextP (tabOf Tn) tk (r.take k) s i 0 0 d))) (fun q hq => by rw [tb_no nextP_zero]))
      have HRow3 := Aside0.mk (HRow.out.below hb3)
      have HB3 := Aside0.mk (below_next HB.out hb3)
      have HBo := Aside0.mk hb3
      have hgne : g ≠ wo.heap.size := Nat.ne_of_lt HRow.out.lt
      clear hrow3 hb3
      go_wp2
      clear hw3
      go_loopw [36] (fun x wr => ∃ p : Nat, p ≤ m ∧ x = .int .i64 p ∧ Aside0 (Below w.heap.size w wr) ∧ Aside0 (Row wr g m (fun d => .bool (tb (Cut (tabOf Tn) tk (r.take k) i (i + d))))) ∧ Aside0 (Row wr wo.heap.size m (fun d => .bool (tb (nextP (tabOf Tn) tk (r.take k) s i p 0 d))))) (fun x _ => m - (intOf x).toNat)
      case atStart => exact ⟨0, by omega, rfl, HB3, HRow3, HX3⟩
      case round =>
        obtain ⟨p, hp, rfl, HB4, HRow4, HX4⟩ := hrel
        obtain ⟨w4, rfl⟩ : ∃ wo : World, wo = wr := ⟨_, rfl⟩
        by_cases hpm : p < m
        · have hcell := HRow4.out.cell p hpm
          cases hcut : tb (Cut (tabOf Tn) tk (r.take k) i (i + p))
          · rw [hcut] at hcell
            have HX5 := Aside0.mk (HX4.out.ext (f' := fun d => .bool (tb (nextP (tabOf Tn) tk (r.take k) s i (p + 1) 0 d))) (fun q hq => by rw [tb_congr (nextP_none (q := 0) (fun h => by rw [tb_yes h] at hcut; cases hcut))]))
            clear hcut
            go_wp2
            go_loopw [15] (fun x wr => x = .int .i64 p ∧ wr = w4) (fun x _ => 0)
            case atStart => exact ⟨rfl, rfl⟩
            case round =>
              obtain ⟨rfl, rfl⟩ := hrel
              go_wp2
              go_roundw
              case rel => exact ⟨p + 1, by omega, by go_num, HB4, HRow4, HX5⟩
              case measure => simp [intOf]; omega
          · rw [hcut] at hcell
            have HC := Lib.hid (tb_iff.1 hcut)
            clear hcut
            have HX5 := Aside0.mk (HX4.out.ext (f' := fun d => .bool (tb (nextP (tabOf Tn) tk (r.take k) s i p p d))) (fun q hq => by rw [tb_congr nextP_start]))
            go_wp2
            clear hcell
            go_loopw [15] (fun x wr => ∃ q : Nat, p ≤ q ∧ q ≤ m ∧ x = .int .i64 q ∧ Aside0 (Below w.heap.size w wr) ∧ Aside0 (Row wr g m (fun d => .bool (tb (Cut (tabOf Tn) tk (r.take k) i (i + d))))) ∧ Aside0 (Row wr wo.heap.size m (fun d => .bool (tb (nextP (tabOf Tn) tk (r.take k) s i p q d))))) (fun x _ => m - (intOf x).toNat)
            case atStart => exact ⟨p, by omega, by omega, rfl, HB4, HRow4, HX5⟩
            case round =>
              obtain ⟨q, hpq, hq, rfl, HB6, HRow6, HX6⟩ := hrel
              by_cases hqm : q < m
              · have hcq := HX6.out.cell q hqm
                have hfq := HX6.out.free q
                have hst := HSy.out
                have HCall := Lib.hid (show Quiet 61 #[.pointer (some ⟨b, 0, none⟩), .int .i64 s, .int .i64 ((i : Int) + p), .int .i64 ((i : Int) + q)] wr (.bool (Hb (tabOf Tn) tk s (i + p) (i + q))) by
                  have h := chas_calls (HH.out.below HB6.out) hN hn s hst.1 hst.2 (i + p) (i + q) (by omega) (by omega)
                  rwa [Int.natCast_add, Int.natCast_add] at h)
                clear hst
                have HS7 := Lib.hid (fun (W : World) (hW : Row W wo.heap.size m (fun d => .bool (tb (nextP (tabOf Tn) tk (r.take k) s i p q d)))) (bb : Bool) (hbb : bb = true ↔ nextP (tabOf Tn) tk (r.take k) s i p (q + 1) q) => (hW.set q hqm (.bool bb)).ext (f' := fun d => .bool (tb (nextP (tabOf Tn) tk (r.take k) s i p (q + 1) d))) (fun d hd => by
                  by_cases e : d = q
                  · subst e; rw [if_pos rfl, ← tb_bool hbb]
                  · rw [if_neg e, tb_congr (nextP_other e)]))
                have HZ := Lib.hid HB.out.size
                cases hnx : tb (nextP (tabOf Tn) tk (r.take k) s i p q q)
                · rw [hnx] at hcq
                  have HV : Hid ((Hb (tabOf Tn) tk s (i + p) (i + q)) = true ↔ nextP (tabOf Tn) tk (r.take k) s i p (q + 1) q) := Lib.hid (by
                    rw [nextP_step hpq HC.out]
                    constructor
                    · exact .inr
                    · rintro (h | h)
                      · rw [tb_yes h] at hnx; cases hnx
                      · exact h)
                  clear hnx
                  go_wp2_with (go_at_call 61; refine HCall.out.mono ?_; rintro e w' ⟨rfl, n, rfl⟩)
                  go_roundw
                  case rel => exact ⟨q + 1, by omega, by omega, by go_num, ⟨(pw_below_drewN HB6.out _).setCell (p := ⟨wo.heap.size, q, none⟩) HZ.out _⟩, ⟨(HRow6.out.drewN _).far ⟨wo.heap.size, q, none⟩ (Ne.symm hgne) _⟩, ⟨HS7.out _ (HX6.out.drewN _) _ HV.out⟩⟩
                  case measure => simp [intOf]; omega
                · rw [hnx] at hcq
                  have HV : Hid (true = true ↔ nextP (tabOf Tn) tk (r.take k) s i p (q + 1) q) := Lib.hid (by
                    rw [nextP_step hpq HC.out]
                    exact ⟨fun _ => .inl (tb_iff.1 hnx), fun _ => rfl⟩)
                  clear hnx
                  go_wp2
                  go_roundw
                  case rel => exact ⟨q + 1, by omega, by omega, by go_num, ⟨HB6.out.setCell (p := ⟨wo.heap.size, q, none⟩) HZ.out _⟩, ⟨HRow6.out.far ⟨wo.heap.size, q, none⟩ (Ne.symm hgne) _⟩, ⟨HS7.out _ HX6.out _ HV.out⟩⟩
                  case measure => simp [intOf]; omega
              · have HX7 := Aside0.mk (HX6.out.ext (f' := fun d => .bool (tb (nextP (tabOf Tn) tk (r.take k) s i (p + 1) 0 d))) (fun d hd => by rw [tb_congr (nextP_full (by omega))]))
                go_wp2
                go_roundw
                case rel => exact ⟨p + 1, by omega, by go_num, HB6, HRow6, HX7⟩
                case measure => simp [intOf]; omega
        · have HX5 := Aside0.mk (HX4.out.ext (f' := fun d => .bool (tb (Cut (tabOf Tn) tk (r.take (k + 1)) i (i + d)))) (fun d hd => by
            obtain rfl : p = m := by omega
            rw [take_snocD r k 0 hlt, HY.out, tb_congr (nextP_all hd)]))
          go_wp2
          go_roundw
          case rel => exact ⟨wo.heap.size, k + 1, by omega, rfl, by go_num, ⟨HB.out.size⟩, HB4, HX5⟩
          case measure => simp [intOf]; omega
    · have HE : Hid (r.take k = r) := Lib.hid (List.take_of_length_le (by omega))
      have hcell := HRow.out.cell (j - i) (by omega)
      rw [HE.out, show i + (j - i) = j by omega] at hcell
      have hji : ((j : Int) - i) = ((j - i : Nat) : Int) := by omega
      have hjm : j - i < m := by omega
      go_wp2
      go_ret
      exact ⟨rfl, HB.out⟩
end Go.Proofs.YtndimnomkcjeiaaDoor.Hand
/- Contracts of package member: the chart is filled. -/
namespace Go.Proofs.YtndimnomkcjeiaaDoor.Hand
open Go.RowKit Go.Proofs.YtndimnomkcjeiaaDoorW.PrintWords Go.Proofs.YtndimnomkcjeiaaDoorW.PrintMore Go.Proofs.YtndimnomkcjeiaaDoor.Math

theorem tab_put {Tn : Nat → Nat → Nat} {N : Nat} (hl : ∀ i j, Tn i j < 2 ^ N) (hN : N ≤ 60) {i j k : Nat} (hk : k < N) : (∀ a c, (if a = i ∧ c = j then withN (Tn i j) k else Tn a c) < 2 ^ N) ∧ tabOf (fun a c => if a = i ∧ c = j then withN (Tn i j) k else Tn a c) = upd (tabOf Tn) i j k := by
  have hin : inR (k : Int) = true := (inR_iff _).2 (by omega)
  constructor
  · intro a c
    split
    · refine Nat.or_lt_two_pow (hl i j) ?_
      rw [bitN, hin]
      exact Nat.pow_lt_pow_right (by decide) (by simpa using hk)
    · exact hl a c
  · funext a c x
    unfold tabOf upd
    by_cases e : a = i ∧ c = j
    · obtain ⟨rfl, rfl⟩ := e
      by_cases e2 : x = k
      · subst e2
        simp only [and_self, if_true, hasN, withN, Nat.testBit_or, Int.toNat_natCast]
        have := bitN_test (x : Int) x
        simp only [hin, Int.toNat_natCast, decide_true, Bool.and_self] at this
        rw [this, hin]; simp
      · simp only [and_self, true_and, if_true, e2, if_false, hasN, withN, Nat.testBit_or, Int.toNat_natCast]
        have := bitN_test (k : Int) x
        simp only [hin, Int.toNat_natCast, Bool.true_and] at this
        rw [this, decide_eq_false (fun h => e2 h.symm), Bool.or_false]
    · simp only [e, if_false]
      rw [if_neg (fun h => e ⟨h.1, h.2.1⟩)]
theorem five_step {a0 a1 a2 a3 a4 : Addr} {v0 v1 v2 v3 v4 : Value} {w3 W w' : World} (h : W.cell? a0 = some v0 ∧ W.cell? a1 = some v1 ∧ W.cell? a2 = some v2 ∧ W.cell? a3 = some v3 ∧ W.cell? a4 = some v4 ∧ Aside0 (Below w3.heap.size w3 W)) (hb : Below W.heap.size W w') :
    w'.cell? a0 = some v0 ∧ w'.cell? a1 = some v1 ∧ w'.cell? a2 = some v2 ∧ w'.cell? a3 = some v3 ∧ w'.cell? a4 = some v4 ∧ Aside0 (Below w3.heap.size w3 w') := by
  obtain ⟨h0, h1, h2, h3, h4, h5⟩ := h
  exact ⟨(hb.cell (World.block_lt_of_cell? _ _ h0)).trans h0, (hb.cell (World.block_lt_of_cell? _ _ h1)).trans h1, (hb.cell (World.block_lt_of_cell? _ _ h2)).trans h2, (hb.cell (World.block_lt_of_cell? _ _ h3)).trans h3, (hb.cell (World.block_lt_of_cell? _ _ h4)).trans h4, ⟨below_next h5.out hb⟩⟩
theorem six_drew {p0 p1 p2 p3 p4 : Prop} {w3 W : World} (_h : Aside0 (p0 ∧ p1 ∧ p2 ∧ p3 ∧ p4 ∧ Aside0 (Below w3.heap.size w3 W))) (n : Nat) : Below W.heap.size W (W.drewN n) := pw_below_drewN (Below.refl _ _) n
theorem six_drew' {p1 p2 p3 p4 : Prop} {a0 : Addr} {v0 : Value} {W : World} (_h : Aside0 (W.cell? a0 = some v0 ∧ p1 ∧ p2 ∧ p3 ∧ p4 ∧ True)) (n : Nat) : Below W.heap.size W (W.drewN n) := pw_below_drewN (Below.refl _ _) n
theorem five_step' {a0 a1 a2 a3 a4 : Addr} {v0 v1 v2 v3 v4 : Value} {W w' : World} (h : W.cell? a0 = some v0 ∧ W.cell? a1 = some v1 ∧ W.cell? a2 = some v2 ∧ W.cell? a3 = some v3 ∧ W.cell? a4 = some v4 ∧ True) (hb : Below W.heap.size W w') :
    w'.cell? a0 = some v0 ∧ w'.cell? a1 = some v1 ∧ w'.cell? a2 = some v2 ∧ w'.cell? a3 = some v3 ∧ w'.cell? a4 = some v4 ∧ True := by
  obtain ⟨h0, h1, h2, h3, h4, h5⟩ := h
  exact ⟨(hb.cell (World.block_lt_of_cell? _ _ h0)).trans h0, (hb.cell (World.block_lt_of_cell? _ _ h1)).trans h1, (hb.cell (World.block_lt_of_cell? _ _ h2)).trans h2, (hb.cell (World.block_lt_of_cell? _ _ h3)).trans h3, (hb.cell (World.block_lt_of_cell? _ _ h4)).trans h4, trivial⟩
def FillPost (w0 : World) (R : List (Int × List Int)) (tk : List Int) (N b O : Nat) (Bs : Nat → Nat) (Tn : Nat → Nat → Nat) (i j : Nat) (w' : World) : Prop :=
  ∃ Tn', Chart w0 R tk N b O Bs Tn' w' ∧ Sound R tk tk.length N (tabOf Tn') ∧ (∀ a c, ¬ (a = i ∧ c = j) → Tn' a c = Tn a c) ∧ (∀ r ∈ R, tabOf Tn' i j r.1.toNat = true ∨ ¬ Cut (tabOf Tn') tk r.2 i j)
set_option maxHeartbeats 1600000 in
set_option maxRecDepth 20000 in
theorem cfill_calls {w0 w : World} {R : List (Int × List Int)} {tk : List Int} {t N b O : Nat} {Bs : Nat → Nat} {Tn : Nat → Nat → Nat} (h : Chart w0 R tk N b O Bs Tn w) (hN : N ≤ 60) (ht : t ≤ 60) (hn : tk.length ≤ 40) (hRI : RulesIn t N R) (i j : Nat) (hij : i ≤ j) (hj : j ≤ tk.length) (hS : Sound R tk tk.length N (tabOf Tn)) :
    Calls Tryd.prog 44 #[.pointer (some ⟨b, 0, none⟩), .int .i64 i, .int .i64 j] w fun e w' => e = .returned (.tuple #[]) ∧ FillPost w0 R tk N b O Bs Tn i j w' := by
  have HH := Aside0.mk h
  have HS := Aside0.mk hS
  have HRI := Lib.hid hRI
  clear h hS hRI
  go_enter Tryd.func44, Tryd.ntmps44
  go_wp2
  go_loopg [6] (2 * miss N (tabOf Tn i j) + 1) (fun m v wr => ∃ (again : Bool) (Tm : Nat → Nat → Nat), v = .bool again ∧ Aside0 (Chart w0 R tk N b O Bs Tm wr) ∧ Aside0 (Sound R tk tk.length N (tabOf Tm)) ∧ Aside0 (∀ a c, ¬ (a = i ∧ c = j) → Tm a c = Tn a c) ∧ Aside0 (again = false → ∀ r ∈ R, tabOf Tm i j r.1.toNat = true ∨ ¬ Cut (tabOf Tm) tk r.2 i j) ∧ Aside0 (m = 2 * miss N (tabOf Tm i j) + (if again then 1 else 0)))
  case atStart => exact ⟨true, Tn, rfl, HH, HS, ⟨fun _ _ _ => rfl⟩, ⟨fun h => by cases h⟩, ⟨rfl⟩⟩
  case round =>
    obtain ⟨again, Tm, rfl, HC, HS1, HO, HX, HM⟩ := hrel
    cases again
    · go_wp2
      go_end0
      exact ⟨rfl, Tm, HC.out, HS1.out, HO.out, HX.out trivial⟩
    · obtain ⟨AR, cR, q1, q2, q3⟩ := HC.out.rules
      have hlr := q2.2.1
      have HQ := Lib.hid q2
      clear q2
      go_wp2
      clear q3
      go_loopw [6, 16] (fun v x wr => ∃ (ag : Bool) (k : Nat) (Tk : Nat → Nat → Nat), k ≤ R.length ∧ v = .bool ag ∧ x = .int .i64 k ∧ Aside0 (Chart w0 R tk N b O Bs Tk wr) ∧ Aside0 (Sound R tk tk.length N (tabOf Tk)) ∧ Aside0 (∀ a c, ¬ (a = i ∧ c = j) → Tk a c = Tn a c) ∧ Aside0 (ag = false → ∀ k', k' < k → tabOf Tk i j (R.getD k' (0, [])).1.toNat = true ∨ ¬ Cut (tabOf Tk) tk (R.getD k' (0, [])).2 i j) ∧ Aside0 (miss N (tabOf Tk i j) + (if ag then 1 else 0) ≤ miss N (tabOf Tm i j))) (fun _ x _ => R.length - (intOf x).toNat)
      case atStart => exact ⟨false, 0, Tm, by omega, rfl, rfl, HC, HS1, HO, ⟨fun _ k' h => by omega⟩, ⟨by simp⟩⟩
      case round =>
        obtain ⟨ag, k, Tk, hk, rfl, rfl, HC2, HS2, HO2, HX2, HM2⟩ := hrel
        obtain ⟨wo, rfl⟩ : ∃ wo : World, wo = wr := ⟨_, rfl⟩
        by_cases hlt : k < R.length
        · obtain ⟨ad, x, B, c, r, rfl, k1, k2, hrc, hr, HD⟩ := at_rule (Kd.C_below HQ.out HC2.out.bel) k hlt
          have hRr : Hid ((x, r) ∈ R) := Lib.hid (by rw [← HD.out]; exact getD_mem R k _ hlt)
          have hx0 : 0 ≤ x := (HRI.out.left hRr.out).1
          have hxN : x < N := (HRI.out.left hRr.out).2
          obtain ⟨w3, hw3⟩ : ∃ w3, wo.alloc (.cells #[.int .i64 x, .slice B r.length c] 51) = w3 := ⟨_, rfl⟩
          have hb3 : Below wo.heap.size wo w3 := by rw [← hw3]; exact below_alloc (Below.refl _ _) _
          have r0 : w3.cell? ⟨wo.heap.size, 0, none⟩ = some (.int .i64 x) := by rw [← hw3]; simp [go_sem]
          have r1 : w3.cell? ⟨wo.heap.size, 1, none⟩ = some (.slice B r.length c) := by rw [← hw3]; simp [go_sem]
          have HC3 := Aside0.mk (HC2.out.below hb3)
          have HB3 := Lib.hid hb3
          have HR3 := Lib.hid (Kd.C_below hr hb3)
          clear hr hb3
          obtain ⟨p1', p2', p3', p4'⟩ := HC3.out.part i j hij hj
          obtain ⟨d, hd⟩ : ∃ d : Nat, d = j - i := ⟨_, rfl⟩
          obtain ⟨n1, hn1⟩ : ∃ n1 : Nat, n1 = tk.length + 1 := ⟨_, rfl⟩
          obtain ⟨m1, hm1⟩ : ∃ m1 : Nat, m1 = tk.length - i + 1 := ⟨_, rfl⟩
          have hji : IntKind.i64.wrap ((j : Int) - i) = (d : Int) := by rw [Go.IntWalk.i64_in _ (by omega)]; omega
          have hi1 : (0 : Int) ≤ (i : Int) := by omega
          have hi2 : (i : Int) < (n1 : Int) := by omega
          have hd1 : (0 : Int) ≤ (d : Int) := by omega
          have hd2 : (d : Int) < (m1 : Int) := by omega
          rw [← hd] at p3' p4'
          rw [← hm1] at p2'
          rw [← hn1] at p1'
          have HD3 := Lib.hid hd
          clear hd hn1 hm1
          have h18 : Tk i j < 18446744073709551616 := Nat.lt_of_lt_of_le (HC3.out.lim i j) (Nat.le_trans (Nat.pow_le_pow_right (by decide) hN) (by decide))
          have HHas := Lib.hid (fun W => has_calls (Tk i j) h18 x W)
          have HCut := Lib.hid (fun (W : World) (hW : Below w3.heap.size w3 W) => ccut_calls (HC3.out.below hW) hN hn B c r (Kd.C_below HR3.out hW) (fun s hs => by have := HRI.out.sym hRr.out hs; omega) i j hij hj)
          have HT : Hid (tabOf Tk i j x.toNat = hasN (Tk i j) x) := Lib.hid (by unfold tabOf; rw [Int.toNat_of_nonneg hx0])
          have H18 := Lib.hid h18
          clear h18
          cases hhas : hasN (Tk i j) x
          · rw [hhas] at HHas HT
            cases hcut : tb (Cut (tabOf Tk) tk r i j)
            · rw [hcut] at HCut
              go_wp2_with fail
              go_region_held3 (fun w' => w'.cell? ⟨b, 5, none⟩ = some (.slice (some ⟨O, 0, none⟩) n1 n1) ∧ w'.cell? ⟨O, i, none⟩ = some (.slice (some ⟨Bs i, 0, none⟩) m1 m1) ∧ w'.cell? ⟨Bs i, d, none⟩ = some (.int .u64 (Tk i j : Nat)) ∧ w'.cell? ⟨wo.heap.size, 0, none⟩ = some (.int .i64 x) ∧ w'.cell? ⟨wo.heap.size, 1, none⟩ = some (.slice B r.length c) ∧ Aside0 (Below w3.heap.size w3 w'))
                (first
                  | (refine ⟨?_, ?_, ?_, ?_, ?_, ⟨below_drew1 (Below.refl _ _)⟩⟩ <;> assumption)
                  | exact five_step hS.out hb.out
                  | (refine ⟨?_, ?_, ?_, ?_, ?_, ⟨pw_below_drewN (Below.refl _ _) _⟩⟩ <;> (rw [World.cell?_drewN]; assumption)))
                (first
                  | (go_at_call 38; have hS := Aside0.mk (by assumption : _ ∧ _ ∧ _ ∧ _ ∧ _ ∧ Aside0 (Below w3.heap.size w3 _)); refine (HHas.out _).mono ?_; rintro e w' ⟨rfl, n, rfl⟩; have hb := Aside0.mk (six_drew hS n))
                  | (go_at_call 57; have hS := Aside0.mk (by assumption : _ ∧ _ ∧ _ ∧ _ ∧ _ ∧ Aside0 (Below w3.heap.size w3 _)); refine (HCut.out _ hS.out.2.2.2.2.2.out).mono ?_; rintro e w4 ⟨rfl, hb4⟩; have hb := Aside0.mk hb4; have HB4 := Aside0.mk (below_next hS.out.2.2.2.2.2.out hb4); clear hb4))
              go_wp2
              go_roundw
              case rel => exact ⟨ag, k + 1, Tk, by omega, rfl, by go_num, ⟨HC3.out.below HB4.out⟩, HS2, HO2, ⟨fun h k' hk' => by
                rcases Nat.lt_or_ge k' k with h' | h'
                · exact HX2.out h k' h'
                · obtain rfl : k' = k := by omega
                  rw [HD.out]; exact .inr (fun h => by rw [tb_yes h] at hcut; cases hcut)⟩, HM2⟩
              case measure => simp [intOf]; omega
            · rw [hcut] at HCut
              have HWith := Lib.hid (fun W => with_calls (Tk i j) H18.out x W)
              go_wp2_with fail
              go_region_held3 (fun w' => w'.cell? ⟨b, 5, none⟩ = some (.slice (some ⟨O, 0, none⟩) n1 n1) ∧ w'.cell? ⟨O, i, none⟩ = some (.slice (some ⟨Bs i, 0, none⟩) m1 m1) ∧ w'.cell? ⟨Bs i, d, none⟩ = some (.int .u64 (Tk i j : Nat)) ∧ w'.cell? ⟨wo.heap.size, 0, none⟩ = some (.int .i64 x) ∧ w'.cell? ⟨wo.heap.size, 1, none⟩ = some (.slice B r.length c) ∧ Aside0 (Below w3.heap.size w3 w'))
                (first
                  | (refine ⟨?_, ?_, ?_, ?_, ?_, ⟨below_drew1 (Below.refl _ _)⟩⟩ <;> assumption)
                  | exact five_step hS.out hb.out
                  | (refine ⟨?_, ?_, ?_, ?_, ?_, ⟨pw_below_drewN (Below.refl _ _) _⟩⟩ <;> (rw [World.cell?_drewN]; assumption)))
                (first
                  | (go_at_call 38; have hS := Aside0.mk (by assumption : _ ∧ _ ∧ _ ∧ _ ∧ _ ∧ Aside0 (Below w3.heap.size w3 _)); refine (HHas.out _).mono ?_; rintro e w' ⟨rfl, n, rfl⟩; have hb := Aside0.mk (six_drew hS n))
                  | (go_at_call 57; have hS := Aside0.mk (by assumption : _ ∧ _ ∧ _ ∧ _ ∧ _ ∧ Aside0 (Below w3.heap.size w3 _)); refine (HCut.out _ hS.out.2.2.2.2.2.out).mono ?_; rintro e w4 ⟨rfl, hb4⟩; have hb := Aside0.mk hb4; have HB4 := Aside0.mk (below_next hS.out.2.2.2.2.2.out hb4); clear hb4))
              have p4 : w4.frozen? ⟨Bs i, d, none⟩ = false := by
                have h5 := HB4.out.frozen (p := ⟨Bs i, d, none⟩) (World.block_lt_of_cell? _ _ p3')
                exact h5.trans p4'
              have hcutH := Lib.hid hcut
              clear hcut hhas p1' p2' p3' p4' r0 r1 k1 k2 hw3
              obtain ⟨s1, s2, s3, s4, s5, -⟩ := five_step hS.out hb.out
              clear hS hb
              go_wp2_with fail
              go_still_tail 26, (by kernel_rfl)
              still_call (with_still (Tk i j) H18.out x _)
              repeat still_step
              refine wpStill_nil ?_
              change wpList _ _ _ _ _ w4.drew
              obtain ⟨w5, hw5⟩ : ∃ w5, w4.drew = w5 := ⟨_, rfl⟩
              have hb5 : Below w3.heap.size w3 w5 := by rw [← hw5]; exact HB4.out.drew
              have t3 : w5.cell? ⟨Bs i, d, none⟩ = some (.int .u64 (Tk i j : Nat)) := by rw [← hw5]; exact s3
              have t4 : w5.frozen? ⟨Bs i, d, none⟩ = false := by rw [← hw5]; exact p4
              have HC5 := Aside0.mk (HC3.out.below hb5)
              rw [hw5]
              clear hw5 hb5 s1 s2 s3 s4 s5 p4
              go_wp2
              go_roundw
              case rel =>
                have hxx : ((x.toNat : Nat) : Int) = x := Int.toNat_of_nonneg hx0
                obtain ⟨z1, z2⟩ := tab_put (i := i) (j := j) (k := x.toNat) HC3.out.lim hN (by omega)
                rw [hxx] at z1 z2
                have hcutT := tb_iff.1 hcutH.out
                refine ⟨true, k + 1, fun a c => if a = i ∧ c = j then withN (Tk i j) x else Tk a c, by omega, rfl, by go_num, ⟨?_⟩, ⟨?_⟩, ⟨?_⟩, ⟨fun h => by cases h⟩, ⟨?_⟩⟩
                · have hz := z1 i j
                  rw [if_pos ⟨rfl, rfl⟩] at hz
                  have := HC5.out.put i j hij hj (withN (Tk i j) x) hz
                  rwa [← HD3.out] at this
                · rw [z2]
                  exact HS2.out.upd ⟨(x, r), hRr.out, hxx.symm, Cut_sound HS2.out (fun s hs => (HRI.out.sym hRr.out hs).1) hj hcutT⟩
                · intro a c h
                  show (if a = i ∧ c = j then withN (Tk i j) x else Tk a c) = Tn a c
                  rw [if_neg h]; exact HO2.out a c h
                · rw [z2]
                  have := miss_upd (N := N) (T := tabOf Tk) (i := i) (j := j) (k := x.toNat) (by omega) HT.out
                  have h2 := HM2.out
                  simp only [if_true]
                  omega
              case measure => simp [intOf]; omega
          · rw [hhas] at HHas HT
            go_wp2_with fail
            go_quiet ((go_at_call 38; exact Calls.quiet_of (HHas.out _)))
            go_wp2
            go_roundw
            case rel => exact ⟨ag, k + 1, Tk, by omega, rfl, by go_num, ⟨HC3.out.below (by first | exact pw_below_drewN (Below.refl _ _) _ | exact (pw_below_drewN (Below.refl _ _) _).drew)⟩, HS2, HO2, ⟨fun h k' hk' => by
              rcases Nat.lt_or_ge k' k with h' | h'
              · exact HX2.out h k' h'
              · obtain rfl : k' = k := by omega
                rw [HD.out]; exact .inl HT.out⟩, HM2⟩
            case measure => simp [intOf]; omega
        · go_wp2
          go_roundg (2 * miss N (tabOf Tk i j) + (if ag then 1 else 0))
          case rel => exact ⟨ag, Tk, rfl, HC2, HS2, HO2, ⟨fun h r hr => by
            obtain ⟨k', hk', rfl⟩ := List.getElem_of_mem hr
            have := HX2.out h k' (by omega)
            rwa [List.getD_eq_getElem?_getD, List.getElem?_eq_getElem hk', Option.getD_some] at this⟩, ⟨rfl⟩⟩
          case measure => have h1 := HM2.out; have h2 := HM.out; simp at h2; cases ag <;> simp at h1 ⊢ <;> omega
end Go.Proofs.YtndimnomkcjeiaaDoor.Hand
/- Plainly: what a grammar that is right is like. -/
namespace Go.Proofs.YtndimnomkcjeiaaDoor.Hand
open Go.RowKit Go.Proofs.YtndimnomkcjeiaaDoorW.PrintWords Go.Proofs.YtndimnomkcjeiaaDoorW.PrintMore Go.Proofs.YtndimnomkcjeiaaDoor.Math

theorem firstBad_zero (t n : Nat) : ∀ (l : List (Int × List Int)) (i : Nat), (firstBad t n l i).1 = 0 → ∀ r ∈ l, ruleN t n r = 0
  | [], _, _, r, hr => by cases hr
  | x :: l, i, h, r, hr => by
    unfold firstBad at h
    by_cases h0 : ruleN t n x = 0
    · rw [if_pos h0] at h
      rcases List.mem_cons.1 hr with rfl | hr
      · exact h0
      · exact firstBad_zero t n l (i + 1) h r hr
    · rw [if_neg h0] at h
      exact absurd h h0
structure RightIs (g : Gr) : Prop where
  size : g.terms.length + g.nonterms.length ≤ 60
  rules : g.rules.length ≤ 120
  terms : NamesOk g.terms
  nonterms : NamesOk g.nonterms
  ax0 : 0 ≤ g.ax
  ax1 : g.ax < g.nonterms.length
  ruleN : ∀ r ∈ g.rules, ruleN g.terms.length g.nonterms.length r = 0
theorem checkN_zero {g : Gr} (h : (checkN g).1 = 0) : RightIs g := by
  unfold checkN at h
  split at h
  · cases h
  · split at h
    · cases h
    · split at h
      · cases h
      · rename_i h1 h2 h3
        have h2' : NamesOk g.terms ∧ NamesOk g.nonterms := ⟨Classical.byContradiction (fun x => h2 (.inl x)), Classical.byContradiction (fun x => h2 (.inr x))⟩
        exact ⟨by omega, by omega, h2'.1, h2'.2, by omega, by omega, firstBad_zero _ _ _ _ h⟩
theorem firstBad_ok (t n : Nat) : ∀ (l : List (Int × List Int)) (i : Nat), (firstBad t n l i).1 = 0 → firstBad t n l i = (0, -1)
  | [], _, _ => rfl
  | x :: l, i, h => by
    unfold firstBad at h ⊢
    by_cases h0 : Hand.ruleN t n x = 0
    · rw [if_pos h0] at h ⊢
      exact firstBad_ok t n l (i + 1) h
    · rw [if_neg h0] at h
      exact absurd h h0
theorem checkN_ok {g : Gr} (h : (checkN g).1 = 0) : checkN g = (0, -1) := by
  unfold checkN at h ⊢
  split at h
  · cases h
  · rename_i h1
    rw [if_neg h1]
    split at h
    · cases h
    · rename_i h2
      rw [if_neg h2]
      split at h
      · cases h
      · rename_i h3
        rw [if_neg h3]
        exact firstBad_ok _ _ _ _ h
theorem ruleN_len {t n : Nat} {r : Int × List Int} (h : Hand.ruleN t n r = 0) : r.2.length ≤ 32 := by
  unfold Hand.ruleN at h
  split at h
  · cases h
  · omega
/-- How many symbols all right sides have. -/
def sizeN (l : List (Int × List Int)) : Nat := (l.map (fun r => r.2.length)).sum
theorem sizeN_snoc (l : List (Int × List Int)) (r : Int × List Int) : sizeN (l ++ [r]) = sizeN l + r.2.length := by simp [sizeN]
theorem sizeN_le (l : List (Int × List Int)) (h : ∀ r ∈ l, r.2.length ≤ 32) : sizeN l ≤ 32 * l.length := by
  induction l with
  | nil => simp [sizeN]
  | cons x l ih =>
    have := ih (fun r hr => h r (List.mem_cons_of_mem _ hr))
    have h2 := h x List.mem_cons_self
    simp only [sizeN, List.map_cons, List.sum_cons, List.length_cons] at this ⊢
    omega
theorem sizeN_take (l : List (Int × List Int)) (k : Nat) : sizeN (l.take k) ≤ sizeN l := by
  have : sizeN l = sizeN (l.take k) + sizeN (l.drop k) := by
    conv => lhs; rw [← List.take_append_drop k l]
    simp [sizeN, -List.take_append_drop]
  omega
def tokBad (t : Nat) (x : Int) : Bool := decide (x < 0) || decide ((t : Int) ≤ x)
open Classical in
/-- What is wrong of a grammar and tokens: the error's number, and the rule. -/
noncomputable def mayN (g : Gr) (tk : List Int) : Nat × Int :=
  if (checkN g).1 ≠ 0 then checkN g
  else if 40 < tk.length ∨ 512 < sizeN g.rules then (12, -1)
  else if tk.any (tokBad g.terms.length) = true then (1, -1)
  else (0, -1)
end Go.Proofs.YtndimnomkcjeiaaDoor.Hand
/- errors.Is of the program's sentinels, of rules' errors over them and of nil; dovetailkit.Kind: which of the errors one is. -/
namespace Go.Proofs.YtndimnomkcjeiaaDoor.Hand
open Go.RowKit Go.Proofs.YtndimnomkcjeiaaDoorW.PrintWords Go.Proofs.YtndimnomkcjeiaaDoorW.PrintMore Go.Proofs.YtndimnomkcjeiaaDoor.Math
open Go.Extern.Stop Go.Stop Go.Extern

theorem isTypeOf (v : Value) (w : World) : (Extern.ReflectliteType.typeOf #[.iface 143 v]).run Tryd.prog w = .ok (.iface 121 (.agg #[.pointer (some ⟨15, 143, none⟩)])) w := by kernel_rfl
def cmpX : Array Value → Sem Value := Extern.ReflectliteType.method fun t => do Go.Extern.Rtype.noPackHeld "Comparable" t; pure (.bool (← typeInfo t).comparable)
theorem isComparable (w : World) : (cmpX #[.agg #[.pointer (some ⟨15, 143, none⟩)]]).run Tryd.prog w = .ok (.bool true) w := by kernel_rfl
theorem isMethodComparable (v : Value) (w : World) : (Go.method 281 121 v "Comparable").run Tryd.prog w = .ok (92, v) w := by kernel_rfl
theorem isComp : (Tryd.prog.info? 143).map (·.comparable) = some true := by kernel_rfl
theorem isSize : (Tryd.prog.info? 169).map (·.size) = some 1 := by kernel_rfl
theorem noIsE (v : Value) (xT : TypeId) (w : World) : (Instr.typeAssert (.iface 143 v) xT 123 true).run Tryd.prog w = .ok (.tuple #[.nilIface, .bool false]) w := run_typeAssert_lacksB Tryd.underlying123 (by kernel_rfl) (by kernel_rfl) v xT w
theorem noUnwrapE (v : Value) (xT : TypeId) (w : World) : (Instr.typeAssert (.iface 143 v) xT 126 true).run Tryd.prog w = .ok (.tuple #[.nilIface, .bool false]) w := run_typeAssert_lacksB Tryd.underlying126 (by kernel_rfl) (by kernel_rfl) v xT w
theorem noUnwrapsE (v : Value) (xT : TypeId) (w : World) : (Instr.typeAssert (.iface 143 v) xT 128 true).run Tryd.prog w = .ok (.tuple #[.nilIface, .bool false]) w := run_typeAssert_lacksB Tryd.underlying128 (by kernel_rfl) (by kernel_rfl) v xT w

set_option maxRecDepth 100000 in
/-- errors.Is(x, x), x a sentinel. -/
theorem is_same (b : Addr) (w : World) :
    Calls Tryd.prog 35 #[.iface 143 (.pointer (some b)), .iface 143 (.pointer (some b))] w fun e w' => e = .returned (.bool true) ∧ w = w' := by
  obtain ⟨i, hi, hcmp⟩ := Option.map_eq_some_iff.1 isComp
  obtain ⟨j, hj, hjs⟩ := Option.map_eq_some_iff.1 isSize
  have h8 := @run_callFunc_extern Tryd.prog 47 _ Extern.ReflectliteType.typeOf Tryd.func47 (by kernel_rfl) (by kernel_rfl) (by kernel_rfl) (by kernel_rfl)
  have h32 := @run_callFunc_extern Tryd.prog 92 _ cmpX Tryd.func92 (by kernel_rfl) (by kernel_rfl) (by kernel_rfl) (by kernel_rfl)
  have tT := isTypeOf
  have cT := isComparable
  have mR := isMethodComparable
  have nE := noIsE
  have uE := noUnwrapE
  have vE := noUnwrapsE
  have heq := run_eql_iface_ptr_same (P := Tryd.prog) w b Tryd.underlying31 Tryd.underlying143 hi hcmp hj
  go_enter Tryd.func35, Tryd.ntmps35
  go_wp2
  refine wp_loop_rounds 1 ?_
  rw [rounds_succ]
  go_wp2
  go_ret
  exact ⟨rfl, rfl⟩
set_option maxRecDepth 100000 in
/-- errors.Is(x, y), x and y two sentinels. -/
theorem is_other (a b : Addr) (ca cb : Array Value) (ta tb : TypeId) (w : World) (hne : a ≠ b) (ha : w.heap[a.block]? = some (.cells ca ta (0, 0))) (hb : w.heap[b.block]? = some (.cells cb tb (0, 0))) :
    Calls Tryd.prog 35 #[.iface 143 (.pointer (some a)), .iface 143 (.pointer (some b))] w fun e w' => e = .returned (.bool false) ∧ w = w' := by
  obtain ⟨i, hi, hcmp⟩ := Option.map_eq_some_iff.1 isComp
  obtain ⟨j, hj, hjs⟩ := Option.map_eq_some_iff.1 isSize
  have h8 := @run_callFunc_extern Tryd.prog 47 _ Extern.ReflectliteType.typeOf Tryd.func47 (by kernel_rfl) (by kernel_rfl) (by kernel_rfl) (by kernel_rfl)
  have h32 := @run_callFunc_extern Tryd.prog 92 _ cmpX Tryd.func92 (by kernel_rfl) (by kernel_rfl) (by kernel_rfl) (by kernel_rfl)
  have tT := isTypeOf
  have cT := isComparable
  have mR := isMethodComparable
  have nE := noIsE
  have uE := noUnwrapE
  have vE := noUnwrapsE
  have heq := run_eql_iface_ptr_other (P := Tryd.prog) w Tryd.underlying31 Tryd.underlying143 hi hcmp hj (by rw [hjs]; decide) hne ha hb
  go_enter Tryd.func35, Tryd.ntmps35
  go_wp2
  refine wp_loop_rounds 1 ?_
  rw [rounds_succ]
  go_wp2
  go_ret
  exact ⟨rfl, rfl⟩
theorem is_nil (b : Addr) (w : World) :
    Calls Tryd.prog 35 #[.nilIface, .iface 143 (.pointer (some b))] w fun e w' => e = .returned (.bool false) ∧ w = w' := by
  have hn := run_eql_iface_nil_left (P := Tryd.prog) w 143 (.pointer (some b)) Tryd.underlying31
  go_enter Tryd.func35, Tryd.ntmps35
  go_wp2
  go_ret
  exact ⟨rfl, rfl⟩
theorem noIsW_RuleError (v : Value) (xT : TypeId) (w : World) : (Instr.typeAssert (.iface 133 v) xT 123 true).run Tryd.prog w = .ok (.tuple #[.nilIface, .bool false]) w := run_typeAssert_lacksB Tryd.underlying123 (by kernel_rfl) (by kernel_rfl) v xT w
theorem hasUnwrap_RuleError (v : Value) (xT : TypeId) (w : World) : (Instr.typeAssert (.iface 133 v) xT 126 true).run Tryd.prog w = .ok (.tuple #[.iface 133 v, .bool true]) w := run_typeAssert_hasB Tryd.underlying126 (by kernel_rfl) v xT w
theorem methodUnwrap_RuleError (v : Value) (w : World) : (Go.method 281 133 v "Unwrap").run Tryd.prog w = .ok (102, v) w := by kernel_rfl
set_option maxRecDepth 100000 in
/-- errors.Is(e, x), e an error over x itself. -/
theorem is_same_RuleError (pb po : Nat) (b : Addr) (w : World) (h1 : w.cell? ⟨pb, po + 1, none⟩ = some (.iface 143 (.pointer (some b)))) :
    Calls Tryd.prog 35 #[.iface 133 (.pointer (some ⟨pb, po, none⟩)), .iface 143 (.pointer (some b))] w fun e w' => e = .returned (.bool true) ∧ w = w' := by
  obtain ⟨i, hi, hcmp⟩ := Option.map_eq_some_iff.1 isComp
  obtain ⟨j, hj, hjs⟩ := Option.map_eq_some_iff.1 isSize
  have h8 := @run_callFunc_extern Tryd.prog 47 _ Extern.ReflectliteType.typeOf Tryd.func47 (by kernel_rfl) (by kernel_rfl) (by kernel_rfl) (by kernel_rfl)
  have h32 := @run_callFunc_extern Tryd.prog 92 _ cmpX Tryd.func92 (by kernel_rfl) (by kernel_rfl) (by kernel_rfl) (by kernel_rfl)
  have tT := isTypeOf
  have cT := isComparable
  have mR := isMethodComparable
  have nE := noIsE
  have uE := noUnwrapE
  have vE := noUnwrapsE
  have nW := noIsW_RuleError
  have uW := hasUnwrap_RuleError
  have mU := methodUnwrap_RuleError
  have heq := run_eql_iface_ptr_same (P := Tryd.prog) w b Tryd.underlying31 Tryd.underlying143 hi hcmp hj
  have hty := run_eql_iface_types (P := Tryd.prog) 133 143 (.pointer (some ⟨pb, po, none⟩)) (.pointer (some b)) Tryd.underlying31 (by decide) w
  go_enter Tryd.func35, Tryd.ntmps35
  go_wp2
  refine wp_loop_rounds 2 ?_
  rw [rounds_succ]
  go_wp2
  rw [rounds_succ]
  go_wp2
  go_ret
  exact ⟨rfl, rfl⟩
set_option maxRecDepth 100000 in
/-- errors.Is(e, x), e an error over another sentinel. -/
theorem is_other_RuleError (pb po : Nat) (a b : Addr) (ca cb : Array Value) (ta tb : TypeId) (w : World) (h1 : w.cell? ⟨pb, po + 1, none⟩ = some (.iface 143 (.pointer (some a)))) (hne : a ≠ b) (ha : w.heap[a.block]? = some (.cells ca ta (0, 0))) (hb : w.heap[b.block]? = some (.cells cb tb (0, 0))) :
    Calls Tryd.prog 35 #[.iface 133 (.pointer (some ⟨pb, po, none⟩)), .iface 143 (.pointer (some b))] w fun e w' => e = .returned (.bool false) ∧ w = w' := by
  obtain ⟨i, hi, hcmp⟩ := Option.map_eq_some_iff.1 isComp
  obtain ⟨j, hj, hjs⟩ := Option.map_eq_some_iff.1 isSize
  have h8 := @run_callFunc_extern Tryd.prog 47 _ Extern.ReflectliteType.typeOf Tryd.func47 (by kernel_rfl) (by kernel_rfl) (by kernel_rfl) (by kernel_rfl)
  have h32 := @run_callFunc_extern Tryd.prog 92 _ cmpX Tryd.func92 (by kernel_rfl) (by kernel_rfl) (by kernel_rfl) (by kernel_rfl)
  have tT := isTypeOf
  have cT := isComparable
  have mR := isMethodComparable
  have nE := noIsE
  have uE := noUnwrapE
  have vE := noUnwrapsE
  have nW := noIsW_RuleError
  have uW := hasUnwrap_RuleError
  have mU := methodUnwrap_RuleError
  have heq := run_eql_iface_ptr_other (P := Tryd.prog) w Tryd.underlying31 Tryd.underlying143 hi hcmp hj (by rw [hjs]; decide) hne ha hb
  have hty := run_eql_iface_types (P := Tryd.prog) 133 143 (.pointer (some ⟨pb, po, none⟩)) (.pointer (some b)) Tryd.underlying31 (by decide) w
  go_enter Tryd.func35, Tryd.ntmps35
  go_wp2
  refine wp_loop_rounds 2 ?_
  rw [rounds_succ]
  go_wp2
  rw [rounds_succ]
  go_wp2
  go_ret
  exact ⟨rfl, rfl⟩
end Go.Proofs.YtndimnomkcjeiaaDoor.Hand
/- dovetailkit.Kind: which of the program's errors one is. -/
namespace Go.Proofs.YtndimnomkcjeiaaDoor.Hand
open Go.RowKit Go.Proofs.YtndimnomkcjeiaaDoorW.PrintWords Go.Proofs.YtndimnomkcjeiaaDoorW.PrintMore Go.Proofs.YtndimnomkcjeiaaDoor.Math

/-- The variables of the errors, in Kind's order. -/
def GE : List Nat := [0, 1, 2, 3, 4, 5, 6, 7, 8, 9, 10, 11, 12, 13, 14]
/-- The errors' variables hold pointers, each to a block of its own. -/
structure Errs (w : World) (A : Nat → Addr) : Prop where
  cells : ∀ i, i < 15 → w.cell? ⟨GE.getD i 0, 0, none⟩ = some (.iface 143 (.pointer (some (A i))))
  blks : ∀ i, i < 15 → ∃ c t, w.heap[(A i).block]? = some (.cells c t (0, 0))
  inj : ∀ i j, i < 15 → j < 15 → A i = A j → i = j
theorem Errs.below {w w' : World} {A : Nat → Addr} (h : Errs w A) (hb : Below w.heap.size w w') : Errs w' A :=
  ⟨fun i hi => (hb.cell (p := ⟨GE.getD i 0, 0, none⟩) (World.block_lt_of_cell? _ _ (h.cells i hi))).trans (h.cells i hi),
    fun i hi => by obtain ⟨c, t, e⟩ := h.blks i hi; exact ⟨c, t, (hb.block _ (Array.getElem?_eq_some_iff.1 e).1).trans e⟩, h.inj⟩
theorem Errs.drewN {w : World} {A : Nat → Addr} (h : Errs w A) (n : Nat) : Errs (w.drewN n) A := h.below (pw_below_drewN (Below.refl _ _) _)
/-- The errors that the looks at grammars and tokens may answer: a row may list these alone. -/
def EW : List Nat := [0, 2, 9, 11]
structure ErrsW (w : World) (A : Nat → Addr) : Prop where
  cells : ∀ i, i ∈ EW → w.cell? ⟨GE.getD i 0, 0, none⟩ = some (.iface 143 (.pointer (some (A i))))
theorem ErrsW.below {w w' : World} {A : Nat → Addr} (h : ErrsW w A) (hb : Below w.heap.size w w') : ErrsW w' A :=
  ⟨fun i hi => (hb.cell (p := ⟨GE.getD i 0, 0, none⟩) (World.block_lt_of_cell? _ _ (h.cells i hi))).trans (h.cells i hi)⟩
theorem Errs.weak {w : World} {A : Nat → Addr} (h : Errs w A) : ErrsW w A := ⟨fun i hi => h.cells i ((show ∀ i ∈ EW, i < 15 by decide) i hi)⟩
instance {w : World} {A : Nat → Addr} : Coe (Errs w A) (ErrsW w A) := ⟨Errs.weak⟩
/-- An error's value: nil, a sentinel, or a rule's error over one. -/
inductive ErrV (w : World) (A : Nat → Addr) : Value → Nat → Int → Prop
  | none : ErrV w A .nilIface 0 (-1)
  | sent (i : Nat) (hi : i < 15) : ErrV w A (.iface 143 (.pointer (some (A i)))) (i + 1) (-1)
  | rule (i : Nat) (hi : i < 15) (pb po : Nat) (r : Int) (h0 : w.cell? ⟨pb, po, none⟩ = some (.int .i64 r)) (h1 : w.cell? ⟨pb, po + 1, none⟩ = some (.iface 143 (.pointer (some (A i))))) : ErrV w A (.iface 133 (.pointer (some ⟨pb, po, none⟩))) (i + 1) r
theorem ErrV.below {w w' : World} {A : Nat → Addr} {v : Value} {k : Nat} {r : Int} (h : ErrV w A v k r) (hb : Below w.heap.size w w') : ErrV w' A v k r := by
  cases h with
  | none => exact .none
  | sent i hi => exact .sent i hi
  | rule i hi pb po r h0 h1 => exact .rule i hi pb po r ((hb.cell (p := ⟨pb, po, Option.none⟩) (World.block_lt_of_cell? _ _ h0)).trans h0) ((hb.cell (p := ⟨pb, po + 1, Option.none⟩) (World.block_lt_of_cell? _ _ h1)).trans h1)
theorem is_calls {w : World} {A : Nat → Addr} (h : Errs w A) {v : Value} {k : Nat} {r : Int} (hv : ErrV w A v k r) (j : Nat) (hj : j < 15) :
    Quiet 35 #[v, .iface 143 (.pointer (some (A j)))] w (.bool (decide (k = j + 1))) := by
  unfold Quiet
  obtain ⟨cb, tb, hb⟩ := h.blks j hj
  cases hv with
  | none => exact (is_nil (A j) w).mono (by rintro e w' ⟨rfl, rfl⟩; exact ⟨by simp, 0, rfl⟩)
  | sent i hi =>
    by_cases e : i = j
    · subst e; exact (is_same (A i) w).mono (by rintro e w' ⟨rfl, rfl⟩; exact ⟨by simp, 0, rfl⟩)
    · obtain ⟨ca, ta, ha⟩ := h.blks i hi
      exact (is_other (A i) (A j) ca cb ta tb w (fun x => e (h.inj i j hi hj x)) ha hb).mono (by rintro e w' ⟨rfl, rfl⟩; exact ⟨by simp [e], 0, rfl⟩)
  | rule i hi pb po r h0 h1 =>
    by_cases e : i = j
    · subst e; exact (is_same_RuleError pb po (A i) w h1).mono (by rintro e w' ⟨rfl, rfl⟩; exact ⟨by simp, 0, rfl⟩)
    · obtain ⟨ca, ta, ha⟩ := h.blks i hi
      exact (is_other_RuleError pb po (A i) (A j) ca cb ta tb w h1 (fun x => e (h.inj i j hi hj x)) ha hb).mono (by rintro e w' ⟨rfl, rfl⟩; exact ⟨by simp [e], 0, rfl⟩)
theorem ErrV.le {w : World} {A : Nat → Addr} {v : Value} {k : Nat} {r : Int} (h : ErrV w A v k r) : k ≤ 15 := by
  cases h <;> omega
/-- nil or not. -/
theorem ErrV.nil_iff {w : World} {A : Nat → Addr} {v : Value} {k : Nat} {r : Int} (h : ErrV w A v k r) : (k = 0 ∧ v = .nilIface) ∨ (0 < k ∧ ∃ t u, v = .iface t u) := by
  cases h
  · exact .inl ⟨rfl, rfl⟩
  all_goals exact .inr ⟨by omega, _, _, rfl⟩
/-- The value of an error's number. -/
def errOf (A : Nat → Addr) : Nat → Value
  | 0 => .nilIface
  | k + 1 => .iface 143 (.pointer (some (A k)))
theorem errOf_is {w : World} {A : Nat → Addr} (k : Nat) (hk : k ≤ 15) : ErrV w A (errOf A k) k (-1) := by
  cases k with
  | zero => exact .none
  | succ k => exact .sent k (by omega)
def hitN (k j : Nat) : Int := if 1 ≤ k ∧ k ≤ j then k else 99
set_option maxHeartbeats 1000000 in
set_option maxRecDepth 100000 in
theorem kind_calls {w : World} {A : Nat → Addr} (h : Errs w A) {v : Value} {k : Nat} {r : Int} (hv : ErrV w A v k r) :
    Calls Tryd.prog 14 #[v] w fun e w' => e = .returned (.int .i64 (k : Nat)) ∧ Below w.heap.size w w' := by
  rcases hv.nil_iff with ⟨rfl, rfl⟩ | ⟨h0, t, u, rfl⟩
  · go_enter Tryd.func14, Tryd.ntmps14
    go_wp2
    go_ret
    exact ⟨rfl, Below.refl _ _⟩
  have hk := hv.le
  have c0 : w.cell? ⟨0, 0, none⟩ = some (.iface 143 (.pointer (some (A 0)))) := h.cells 0 (by omega)
  have c1 : w.cell? ⟨1, 0, none⟩ = some (.iface 143 (.pointer (some (A 1)))) := h.cells 1 (by omega)
  have c2 : w.cell? ⟨2, 0, none⟩ = some (.iface 143 (.pointer (some (A 2)))) := h.cells 2 (by omega)
  have c3 : w.cell? ⟨3, 0, none⟩ = some (.iface 143 (.pointer (some (A 3)))) := h.cells 3 (by omega)
  have c4 : w.cell? ⟨4, 0, none⟩ = some (.iface 143 (.pointer (some (A 4)))) := h.cells 4 (by omega)
  have c5 : w.cell? ⟨5, 0, none⟩ = some (.iface 143 (.pointer (some (A 5)))) := h.cells 5 (by omega)
  have c6 : w.cell? ⟨6, 0, none⟩ = some (.iface 143 (.pointer (some (A 6)))) := h.cells 6 (by omega)
  have c7 : w.cell? ⟨7, 0, none⟩ = some (.iface 143 (.pointer (some (A 7)))) := h.cells 7 (by omega)
  have c8 : w.cell? ⟨8, 0, none⟩ = some (.iface 143 (.pointer (some (A 8)))) := h.cells 8 (by omega)
  have c9 : w.cell? ⟨9, 0, none⟩ = some (.iface 143 (.pointer (some (A 9)))) := h.cells 9 (by omega)
  have c10 : w.cell? ⟨10, 0, none⟩ = some (.iface 143 (.pointer (some (A 10)))) := h.cells 10 (by omega)
  have c11 : w.cell? ⟨11, 0, none⟩ = some (.iface 143 (.pointer (some (A 11)))) := h.cells 11 (by omega)
  have c12 : w.cell? ⟨12, 0, none⟩ = some (.iface 143 (.pointer (some (A 12)))) := h.cells 12 (by omega)
  have c13 : w.cell? ⟨13, 0, none⟩ = some (.iface 143 (.pointer (some (A 13)))) := h.cells 13 (by omega)
  have c14 : w.cell? ⟨14, 0, none⟩ = some (.iface 143 (.pointer (some (A 14)))) := h.cells 14 (by omega)
  obtain ⟨w1, hw1⟩ : ∃ w1, w.alloc (.cells #[.iface 143 (.pointer (some (A 0))), .iface 143 (.pointer (some (A 1))), .iface 143 (.pointer (some (A 2))), .iface 143 (.pointer (some (A 3))), .iface 143 (.pointer (some (A 4))), .iface 143 (.pointer (some (A 5))), .iface 143 (.pointer (some (A 6))), .iface 143 (.pointer (some (A 7))), .iface 143 (.pointer (some (A 8))), .iface 143 (.pointer (some (A 9))), .iface 143 (.pointer (some (A 10))), .iface 143 (.pointer (some (A 11))), .iface 143 (.pointer (some (A 12))), .iface 143 (.pointer (some (A 13))), .iface 143 (.pointer (some (A 14)))] 31) = w1 := ⟨_, rfl⟩
  have hb1 : Below w.heap.size w w1 := by rw [← hw1]; exact below_alloc (Below.refl _ _) _
  have HB1 := Lib.hid hb1
  have HC : Hid (∀ j, j < 15 → w1.cell? ⟨w.heap.size, j, none⟩ = some (.iface 143 (.pointer (some (A j))))) := Lib.hid (by
    rw [← hw1]; intro j hj
    match j, hj with
    | 0, _ => simp [go_sem]
    | 1, _ => simp [go_sem]
    | 2, _ => simp [go_sem]
    | 3, _ => simp [go_sem]
    | 4, _ => simp [go_sem]
    | 5, _ => simp [go_sem]
    | 6, _ => simp [go_sem]
    | 7, _ => simp [go_sem]
    | 8, _ => simp [go_sem]
    | 9, _ => simp [go_sem]
    | 10, _ => simp [go_sem]
    | 11, _ => simp [go_sem]
    | 12, _ => simp [go_sem]
    | 13, _ => simp [go_sem]
    | 14, _ => simp [go_sem]
    | j + 15, hj => omega)
  have HE := Lib.hid (h.below hb1)
  have HV := Lib.hid (hv.below hb1)
  clear h hv hb1
  go_enter Tryd.func14, Tryd.ntmps14
  go_wp2
  clear c0 c1 c2 c3 c4 c5 c6 c7 c8 c9 c10 c11 c12 c13 c14 hw1
  go_loopw [4, 5] (fun a i wr => ∃ (j d : Nat) (x : Int), j ≤ 15 ∧ i = .int .i64 j ∧ a = .int .i64 x ∧ Hid (x = hitN k j) ∧ wr = w1.drewN d) (fun _ i _ => 15 - (intOf i).toNat)
  case atStart => exact ⟨0, 0, 99, by omega, rfl, rfl, Lib.hid (by simp [hitN]; omega), rfl⟩
  case round =>
    obtain ⟨j, d, x, hj, rfl, rfl, HX, rfl⟩ := hrel
    by_cases hlt : j < 15
    · have hc := HC.out j hlt
      have hc' : w1.cell? ((⟨w.heap.size, 0, none⟩ : Addr).add j) = some (.iface 143 (.pointer (some (A j)))) := by
        rw [← hc]; congr 1; unfold Addr.add; by_cases e : j = 0 <;> simp [e]
      by_cases e : k = j + 1
      · have hx : x = 99 := by rw [HX.out]; unfold hitN; rw [if_neg (by omega)]
        subst hx
        have he : decide (k = j + 1) = true := by simp [e]
        have HS : Hid (hitN k (j + 1) = (j : Int) + 1) := Lib.hid (by unfold hitN; rw [if_pos (by omega)]; omega)
        clear HX e
        go_wp2_with (go_at_call 35; refine (is_calls (HE.out.drewN _) (HV.out.below (pw_below_drewN (Below.refl _ _) _)) j hlt).mono ?_; rintro e w' ⟨rfl, n, rfl⟩; rw [he])
        go_roundw
        case rel => exact ⟨j + 1, d + n, _, by omega, by go_num, rfl, Lib.hid HS.out.symm, rfl⟩
        case measure => simp [intOf]; omega
      · have he : decide (k = j + 1) = false := by simp [e]
        have HS : Hid (hitN k (j + 1) = x) := Lib.hid (by rw [HX.out]; unfold hitN; split <;> split <;> omega)
        clear e
        go_wp2_with (go_at_call 35; refine (is_calls (HE.out.drewN _) (HV.out.below (pw_below_drewN (Below.refl _ _) _)) j hlt).mono ?_; rintro e w' ⟨rfl, n, rfl⟩; rw [he])
        go_roundw
        case rel => exact ⟨j + 1, d + n, _, by omega, by go_num, rfl, Lib.hid HS.out.symm, rfl⟩
        case measure => simp [intOf]; omega
    · have HS : Hid (x = (k : Int)) := Lib.hid (by rw [HX.out]; unfold hitN; rw [if_pos (by omega)])
      go_wp2
      go_ret
      exact ⟨ret_int HS.out, pw_below_drewN HB1.out _⟩
end Go.Proofs.YtndimnomkcjeiaaDoor.Hand
/- Contracts of gram.Check and of dovetailref03.Check: both tell the same of every grammar. -/
namespace Go.Proofs.YtndimnomkcjeiaaDoor.Hand
open Go.RowKit Go.Proofs.YtndimnomkcjeiaaDoorW.PrintWords Go.Proofs.YtndimnomkcjeiaaDoorW.PrintMore Go.Proofs.YtndimnomkcjeiaaDoor.Math

theorem indexS_calls (A : Option Addr) (c : Nat) (l : List ByteArray) (s : ByteArray) (w : World) (hr : Kd.C Kd.string w A l.length l) :
    Calls Tryd.prog 73 #[.slice A l.length c, .string s] w fun e w' => ∃ n : Int, e = .returned (.int .i64 n) ∧ (∃ d, w' = w.drewN d) ∧ ((n = -1 ∧ s ∉ l) ∨ ∃ j : Nat, n = j ∧ j < l.length ∧ l.getD j ByteArray.empty = s ∧ s ∉ l.take j) := by
  have hlen := hr.2.1
  have HR := Lib.hid hr
  clear hr
  go_enter Tryd.func73, Tryd.ntmps73
  go_wp2
  go_loopw [8] (fun i wr => ∃ (j d : Nat), j ≤ l.length ∧ i = .int .i64 j ∧ wr = w.drewN d ∧ Hid (s ∉ l.take j)) (fun i _ => l.length - (intOf i).toNat)
  case atStart => exact ⟨0, 0, by omega, rfl, rfl, Lib.hid (by simp)⟩
  case round =>
    obtain ⟨j, d, hj, rfl, rfl, HT⟩ := hrel
    by_cases hlt : j < l.length
    · obtain ⟨ad, y, rfl, hc, HY⟩ := at_scalar HR.out j hlt ByteArray.empty
      by_cases e : s = y
      · subst e
        go_wp2
        go_ret
        exact ⟨_, rfl, ⟨_, rfl⟩, .inr ⟨j, rfl, hlt, HY.out, HT.out⟩⟩
      · have hn3 : (s.toList == y.toList) = false := beq_eq_false_iff_ne.mpr (fun h => e (str_inj h))
        have HN := Lib.hid e
        clear e
        go_wp2
        go_roundw
        case rel => exact ⟨j + 1, _, by omega, by go_num, rfl, Lib.hid (by rw [take_snocD l j ByteArray.empty hlt, List.mem_append, not_or]; exact ⟨HT.out, by rw [HY.out, List.mem_singleton]; exact HN.out⟩)⟩
        case measure => simp [intOf]; omega
    · have HE : Hid (s ∉ l) := Lib.hid (by have := HT.out; rwa [List.take_of_length_le (by omega)] at this)
      go_wp2
      go_ret
      exact ⟨_, rfl, ⟨_, rfl⟩, .inl ⟨rfl, HE.out⟩⟩
theorem containsS_calls (A : Option Addr) (c : Nat) (l : List ByteArray) (s : ByteArray) (w : World) (hr : Kd.C Kd.string w A l.length l) :
    Quiet 71 #[.slice A l.length c, .string s] w (.bool (tb (s ∈ l))) := by
  unfold Quiet
  have HR := Lib.hid hr
  clear hr
  go_enter Tryd.func71, Tryd.ntmps71
  go_wp2_with (go_at_call 73; refine (indexS_calls A c l s _ HR.out).mono ?_; rintro e w' ⟨n, rfl, ⟨d, rfl⟩, hn⟩; have HN := Lib.hid hn; clear hn)
  go_ret
  refine ⟨ret_bool (tb_bool ?_), _, rfl⟩
  rcases HN.out with ⟨rfl, h⟩ | ⟨j, rfl, hj, h, _⟩
  · simp [h]
  · have : s ∈ l := by rw [← h]; exact getD_mem l j _ hj
    simp [this]
theorem nameFault_calls (A : Option Addr) (c : Nat) (l : List ByteArray) (i : Nat) (hi : i < l.length) (hlc : l.length ≤ c) (w : World) (hr : Kd.C Kd.string w A l.length l) :
    Quiet 68 #[.slice A l.length c, .int .i64 i] w (.bool (tb (¬ NameOk l i))) := by
  unfold Quiet
  have hlen := hr.2.1
  have HR := Lib.hid hr
  have HTk := Lib.hid (Kd.C_take (k := Kd.string) (A := A) (w := w) (xs := l) (m := i) hr (by omega))
  obtain ⟨ad, y, rfl, hc, HY⟩ := at_scalar hr i hi ByteArray.empty
  have htl : Hid ((l.take i).length = i) := Lib.hid (by simp; omega)
  have hic : i ≤ c := by omega
  clear hr
  by_cases h0 : y.size = 0
  · have HN : Hid (tb (¬ NameOk l i) = true) := Lib.hid (tb_yes (fun h => h.1 (by rw [HY.out]; exact h0)))
    have h0I : ((y.size : Int) == 0) = true := by simp [h0]
    go_enter Tryd.func68, Tryd.ntmps68
    go_wp2
    go_ret
    exact ⟨ret_bool HN.out.symm, 0, rfl⟩
  · by_cases h1 : 32 < y.size
    · have HN : Hid (tb (¬ NameOk l i) = true) := Lib.hid (tb_yes (fun h => by have := h.2.1; rw [HY.out] at this; omega))
      go_enter Tryd.func68, Tryd.ntmps68
      go_wp2
      go_ret
      exact ⟨ret_bool HN.out.symm, 0, rfl⟩
    · have HN : Hid (tb (¬ NameOk l i) = tb (y ∈ l.take i)) := Lib.hid (tb_congr (by
        unfold NameOk; rw [HY.out]
        constructor
        · intro h; refine Classical.byContradiction (fun hm => h ⟨h0, by omega, hm⟩)
        · exact fun hm h => h.2.2 hm))
      have HC : Hid (∀ m, Quiet 71 #[.slice (some ad) i c, .string y] (w.drewN m) (.bool (tb (y ∈ l.take i)))) := Lib.hid (fun m => by
        have h := containsS_calls (some ad) c (l.take i) y (w.drewN m) (Kd.C_drewN HTk.out m)
        rwa [htl.out] at h)
      cases hb : tb (y ∈ l.take i)
      all_goals
        rw [hb] at HN HC
        go_enter Tryd.func68, Tryd.ntmps68
        go_wp2
        go_quiet ((go_at_call 71; exact Calls.quiet_of (HC.out _)))
        go_wp2
        go_ret
        exact ⟨ret_bool HN.out.symm, _, rfl⟩
theorem names_calls (A : Option Addr) (c : Nat) (l : List ByteArray) (hlc : l.length ≤ c) (w : World) (hr : Kd.C Kd.string w A l.length l) :
    Quiet 65 #[.slice A l.length c] w (.bool (tb (NamesOk l))) := by
  unfold Quiet
  have hlen := hr.2.1
  have HR := Lib.hid hr
  clear hr
  go_enter Tryd.func65, Tryd.ntmps65
  go_wp2
  go_loopw [6] (fun i wr => ∃ (j d : Nat), j ≤ l.length ∧ i = .int .i64 j ∧ wr = w.drewN d ∧ Hid (∀ i, i < j → NameOk l i)) (fun i _ => l.length - (intOf i).toNat)
  case atStart => exact ⟨0, 0, by omega, rfl, rfl, Lib.hid (fun i hi => by omega)⟩
  case round =>
    obtain ⟨j, d, hj, rfl, rfl, HT⟩ := hrel
    by_cases hlt : j < l.length
    · by_cases hb : NameOk l j
      · have HF := Lib.hid (tb_no (not_not_intro hb))
        have HB := Lib.hid hb
        clear hb
        go_wp2_with (go_at_call 68; refine (nameFault_calls A c l j hlt hlc _ (Kd.C_drewN HR.out _)).mono ?_; rw [HF.out]; rintro e w' ⟨rfl, n, rfl⟩)
        go_roundw
        case rel => exact ⟨j + 1, _, by omega, by go_num, rfl, Lib.hid (fun i hi => by
          rcases Nat.lt_or_ge i j with h | h
          · exact HT.out i h
          · obtain rfl : i = j := by omega
            exact HB.out)⟩
        case measure => simp [intOf]; omega
      · have HF := Lib.hid (tb_yes hb)
        have HE : Hid (tb (NamesOk l) = false) := Lib.hid (tb_no (fun h => hb (h j hlt)))
        clear hb
        go_wp2_with (go_at_call 68; refine (nameFault_calls A c l j hlt hlc _ (Kd.C_drewN HR.out _)).mono ?_; rw [HF.out]; rintro e w' ⟨rfl, n, rfl⟩)
        go_ret
        exact ⟨ret_bool HE.out.symm, _, rfl⟩
    · have HE : Hid (tb (NamesOk l) = true) := Lib.hid (tb_yes (fun i hi => HT.out i (by omega)))
      go_wp2
      go_ret
      exact ⟨ret_bool HE.out.symm, _, rfl⟩
theorem ruleF_calls (b : Nat) (AT AN : Option Addr) (t n cT cN : Nat) (s : Int) (w : World) (h0 : w.cell? ⟨b, 0, none⟩ = some (.slice AT t cT)) (h1 : w.cell? ⟨b, 1, none⟩ = some (.slice AN n cN)) (hn : n ≤ 60) :
    Quiet 70 #[.int .i64 s, .pointer (some ⟨b, 0, none⟩)] w (.bool (symBad t n s)) := by
  unfold Quiet
  by_cases h : (t : Int) ≤ s
  · have H : Hid (symBad t n s = true) := Lib.hid (by simp [symBad, h])
    go_enter Tryd.func70, Tryd.ntmps70
    go_wp2
    go_ret
    exact ⟨ret_bool H.out.symm, 0, rfl⟩
  · have H : Hid (symBad t n s = decide (s < -(n : Int))) := Lib.hid (by simp [symBad, h])
    go_enter Tryd.func70, Tryd.ntmps70
    go_wp2
    go_ret
    exact ⟨ret_bool H.out.symm, 0, rfl⟩
theorem indexF_calls (A : Option Addr) (c : Nat) (l : List Int) (b : Nat) (AT AN : Option Addr) (t n cT cN : Nat) (w : World) (h0 : w.cell? ⟨b, 0, none⟩ = some (.slice AT t cT)) (h1 : w.cell? ⟨b, 1, none⟩ = some (.slice AN n cN)) (hn : n ≤ 60) (hr : Kd.C (Kd.int .i64) w A l.length l) :
    Calls Tryd.prog 72 #[.slice A l.length c, .func (.func 70) #[] #[.pointer (some ⟨b, 0, none⟩)]] w fun e w' => ∃ k : Int, e = .returned (.int .i64 k) ∧ (∃ d, w' = w.drewN d) ∧ ((k = -1 ∧ l.any (symBad t n) = false) ∨ (0 ≤ k ∧ l.any (symBad t n) = true)) := by
  have hlen := hr.2.1
  have HR := Lib.hid hr
  clear hr
  have HF := Lib.hid (fun (m : Nat) (s : Int) => ruleF_calls b AT AN t n cT cN s (w.drewN m) (by rw [World.cell?_drewN]; exact h0) (by rw [World.cell?_drewN]; exact h1) hn)
  clear h0 h1
  go_enter Tryd.func72, Tryd.ntmps72
  go_wp2
  go_loopw [8] (fun i wr => ∃ (j d : Nat), j ≤ l.length ∧ i = .int .i64 j ∧ wr = w.drewN d ∧ Hid ((l.take j).any (symBad t n) = false)) (fun i _ => l.length - (intOf i).toNat)
  case atStart => exact ⟨0, 0, by omega, rfl, rfl, Lib.hid (by simp)⟩
  case round =>
    obtain ⟨j, d, hj, rfl, rfl, HT⟩ := hrel
    by_cases hlt : j < l.length
    · obtain ⟨ad, y, rfl, hc, HY⟩ := at_scalar HR.out j hlt 0
      cases hb : symBad t n y
      · go_wp2_with (go_at_call 70; refine (HF.out d y).mono ?_; rw [hb]; rintro e w' ⟨rfl, n1, rfl⟩)
        go_roundw
        case rel => exact ⟨j + 1, _, by omega, by go_num, rfl, Lib.hid (by rw [any_take_snoc l _ j hlt, HT.out, HY.out, hb]; rfl)⟩
        case measure => simp [intOf]; omega
      · have HE : Hid (l.any (symBad t n) = true) := Lib.hid (List.any_eq_true.2 ⟨y, by rw [← HY.out]; exact getD_mem l j 0 hlt, hb⟩)
        go_wp2_with (go_at_call 70; refine (HF.out d y).mono ?_; rw [hb]; rintro e w' ⟨rfl, n1, rfl⟩)
        go_ret
        exact ⟨_, rfl, ⟨_, rfl⟩, .inr ⟨by omega, HE.out⟩⟩
    · have HE : Hid (l.any (symBad t n) = false) := Lib.hid (by have := HT.out; rwa [List.take_of_length_le (by omega)] at this)
      go_wp2
      go_ret
      exact ⟨_, rfl, ⟨_, rfl⟩, .inl ⟨rfl, HE.out⟩⟩
theorem containsF_calls (A : Option Addr) (c : Nat) (l : List Int) (b : Nat) (AT AN : Option Addr) (t n cT cN : Nat) (w : World) (h0 : w.cell? ⟨b, 0, none⟩ = some (.slice AT t cT)) (h1 : w.cell? ⟨b, 1, none⟩ = some (.slice AN n cN)) (hn : n ≤ 60) (hr : Kd.C (Kd.int .i64) w A l.length l) :
    Quiet 69 #[.slice A l.length c, .func (.func 70) #[] #[.pointer (some ⟨b, 0, none⟩)]] w (.bool (l.any (symBad t n))) := by
  unfold Quiet
  have HC := Lib.hid (indexF_calls A c l b AT AN t n cT cN w h0 h1 hn hr)
  clear h0 h1 hr
  go_enter Tryd.func69, Tryd.ntmps69
  go_wp2_with (go_at_call 72; refine HC.out.mono ?_; rintro e w' ⟨k, rfl, ⟨d, rfl⟩, hk⟩; have HK := Lib.hid hk; clear hk)
  go_ret
  refine ⟨ret_bool ?_, _, rfl⟩
  rcases HK.out with ⟨rfl, h⟩ | ⟨hk, h⟩
  · rw [h]; rfl
  · rw [h]; simp [hk]
theorem rule_calls (AT AN AR B : Option Addr) (t n m cT cN cR c : Nat) (ax : Int) (r : Int × List Int) (w : World) (A : Nat → Addr) (hE : ErrsW w A) (hn : n ≤ 60) (hr : Kd.C (Kd.int .i64) w B r.2.length r.2) :
    Calls Tryd.prog 66 #[.agg #[.slice AT t cT, .slice AN n cN, .int .i64 ax, .slice AR m cR], .agg #[.int .i64 r.1, .slice B r.2.length c]] w fun e w' => e = .returned (errOf A (ruleN t n r)) ∧ Below w.heap.size w w' := by
  obtain ⟨x, l⟩ := r
  simp only at hr ⊢
  obtain ⟨w1, hw1⟩ : ∃ w1, (w.alloc (.cells #[.slice AT t cT, .slice AN n cN, .int .i64 ax, .slice AR m cR] 25)).alloc (.cells #[.int .i64 x, .slice B l.length c] 51) = w1 := ⟨_, rfl⟩
  have hb1 : Below w.heap.size w w1 := by rw [← hw1]; exact below_alloc (below_alloc (Below.refl _ _) _) _
  have g0 : w1.cell? ⟨w.heap.size, 0, none⟩ = some (.slice AT t cT) := by rw [← hw1]; simp [go_sem]
  have g1 : w1.cell? ⟨w.heap.size, 1, none⟩ = some (.slice AN n cN) := by rw [← hw1]; simp [go_sem]
  have r0 : w1.cell? ⟨w.heap.size + 1, 0, none⟩ = some (.int .i64 x) := by rw [← hw1]; simp [go_sem]
  have r1 : w1.cell? ⟨w.heap.size + 1, 1, none⟩ = some (.slice B l.length c) := by rw [← hw1]; simp [go_sem]
  have hE1 := hE.below hb1
  have e0 : w1.cell? ⟨0, 0, none⟩ = some (.iface 143 (.pointer (some (A 0)))) := hE1.cells 0 (by decide)
  have e2 : w1.cell? ⟨2, 0, none⟩ = some (.iface 143 (.pointer (some (A 2)))) := hE1.cells 2 (by decide)
  have HB1 := Lib.hid hb1
  have HC := Lib.hid (containsF_calls B c l w.heap.size AT AN t n cT cN w1 g0 g1 hn (Kd.C_below hr hb1))
  clear hb1 hE hE1 hr
  by_cases h0 : 32 < l.length
  · have H : Hid (errOf A (ruleN t n (x, l)) = .iface 143 (.pointer (some (A 2)))) := Lib.hid (by simp [ruleN, h0, errOf])
    go_enter Tryd.func66, Tryd.ntmps66
    go_wp2
    go_ret
    exact ⟨congrArg Ending.returned H.out.symm, HB1.out⟩
  · by_cases h1 : x < 0
    · have H : Hid (errOf A (ruleN t n (x, l)) = .iface 143 (.pointer (some (A 0)))) := Lib.hid (by simp [ruleN, h0, h1, errOf])
      go_enter Tryd.func66, Tryd.ntmps66
      go_wp2
      go_ret
      exact ⟨congrArg Ending.returned H.out.symm, HB1.out⟩
    · by_cases h2 : (n : Int) ≤ x
      · have H : Hid (errOf A (ruleN t n (x, l)) = .iface 143 (.pointer (some (A 0)))) := Lib.hid (by simp [ruleN, h0, h2, errOf])
        go_enter Tryd.func66, Tryd.ntmps66
        go_wp2
        go_ret
        exact ⟨congrArg Ending.returned H.out.symm, HB1.out⟩
      · cases h3 : l.any (symBad t n)
        · have H : Hid (errOf A (ruleN t n (x, l)) = .nilIface) := Lib.hid (by unfold ruleN; rw [if_neg h0, if_neg (by simp only [h3]; simp; omega)]; rfl)
          rw [h3] at HC
          go_enter Tryd.func66, Tryd.ntmps66
          go_wp2_with (go_at_call 69; refine HC.out.mono ?_; rintro e w' ⟨rfl, d, rfl⟩)
          go_ret
          exact ⟨congrArg Ending.returned H.out.symm, pw_below_drewN HB1.out _⟩
        · have H : Hid (errOf A (ruleN t n (x, l)) = .iface 143 (.pointer (some (A 0)))) := Lib.hid (by unfold ruleN; rw [if_neg h0, if_pos (by simp only [h3]; simp)]; rfl)
          rw [h3] at HC
          go_enter Tryd.func66, Tryd.ntmps66
          go_wp2_with (go_at_call 69; refine HC.out.mono ?_; rintro e w' ⟨rfl, d, rfl⟩)
          go_ret
          exact ⟨congrArg Ending.returned H.out.symm, pw_below_drewN HB1.out _⟩
theorem blk_cells2 {g : Nat} {a b c d : Value} {t : TypeId} {w : World} (h : w.heap[g]? = some (.cells #[a, b, c, d] t (0, 0))) :
    w.cell? ⟨g, 0, none⟩ = some a ∧ w.cell? ⟨g, 1, none⟩ = some b ∧ w.cell? ⟨g, 2, none⟩ = some c ∧ w.cell? ⟨g, 3, none⟩ = some d := by
  refine ⟨?_, ?_, ?_, ?_⟩ <;> simp [World.cell?, h]
theorem blk_keep {g : Nat} {o : Obj} {w w' : World} (h : w.heap[g]? = some o) (hb : Below w.heap.size w w') : w'.heap[g]? = some o := (hb.block g (Array.getElem?_eq_some_iff.1 h).1).trans h
set_option maxHeartbeats 800000 in
theorem check_calls (v : Value) (g : Gr) (w : World) (A : Nat → Addr) (hE : ErrsW w A) (hv : GramAt w v g) :
    Calls Tryd.prog 56 #[v] w fun e w' => ∃ u, e = .returned u ∧ ErrV w' A u (checkN g).1 (checkN g).2 ∧ Below w.heap.size w w' := by
  obtain ⟨AT, cT, AN, cN, AR, cR, rfl, q1, q2, q3, q4, q5, q6⟩ := hv
  have l1 := q4.2.1
  have l2 := q5.2.1
  have l3 := q6.2.1
  obtain ⟨w1, hw1⟩ : ∃ w1, w.alloc (.cells #[.slice AT g.terms.length cT, .slice AN g.nonterms.length cN, .int .i64 g.ax, .slice AR g.rules.length cR] 25) = w1 := ⟨_, rfl⟩
  have hb1 : Below w.heap.size w w1 := by rw [← hw1]; exact below_alloc (Below.refl _ _) _
  have hk1 : w1.heap[w.heap.size]? = some (.cells #[.slice AT g.terms.length cT, .slice AN g.nonterms.length cN, .int .i64 g.ax, .slice AR g.rules.length cR] 25 (0, 0)) := by rw [← hw1]; exact heap_alloc_new w _
  obtain ⟨c0, c1, c2, c3⟩ := blk_cells2 hk1
  have hE1 := hE.below hb1
  have e0 : w1.cell? ⟨0, 0, none⟩ = some (.iface 143 (.pointer (some (A 0)))) := hE1.cells 0 (by decide)
  have e2 : w1.cell? ⟨2, 0, none⟩ = some (.iface 143 (.pointer (some (A 2)))) := hE1.cells 2 (by decide)
  have e9 : w1.cell? ⟨9, 0, none⟩ = some (.iface 143 (.pointer (some (A 9)))) := hE1.cells 9 (by decide)
  have HB1 := Lib.hid hb1
  have HK1 := Lib.hid hk1
  have HE := Lib.hid hE1
  have HNT := Lib.hid (names_calls AT cT g.terms q1 w1 (Kd.C_below q4 hb1))
  have HNN := Lib.hid (fun m => names_calls AN cN g.nonterms q2 (w1.drewN m) (Kd.C_drewN (Kd.C_below q5 hb1) m))
  have HR := Lib.hid (Kd.C_below q6 hb1)
  clear hb1 hk1 hE hE1 q4 q5 q6
  by_cases h1 : 60 < g.terms.length + g.nonterms.length ∨ 120 < g.rules.length
  · have H : Hid (checkN g = (3, -1)) := Lib.hid (by unfold checkN; rw [if_pos h1])
    by_cases a1 : 60 < g.terms.length
    · go_enter Tryd.func56, Tryd.ntmps56
      go_wp2
      go_ret
      exact ⟨_, rfl, by rw [H.out]; exact .sent 2 (by omega), HB1.out⟩
    · by_cases a2 : 60 - (g.terms.length : Int) < g.nonterms.length
      · go_enter Tryd.func56, Tryd.ntmps56
        go_wp2
        go_ret
        exact ⟨_, rfl, by rw [H.out]; exact .sent 2 (by omega), HB1.out⟩
      · have a3 : 120 < g.rules.length := by omega
        go_enter Tryd.func56, Tryd.ntmps56
        go_wp2
        go_ret
        exact ⟨_, rfl, by rw [H.out]; exact .sent 2 (by omega), HB1.out⟩
  · have a1 : ¬ 60 < g.terms.length := by omega
    have a2 : ¬ 60 - (g.terms.length : Int) < g.nonterms.length := by omega
    have a3 : ¬ 120 < g.rules.length := by omega
    by_cases h2 : NamesOk g.terms
    · have T1 := tb_yes h2
      rw [T1] at HNT
      by_cases h3 : NamesOk g.nonterms
      · have T2 := tb_yes h3
        rw [T2] at HNN
        by_cases h4 : g.ax < 0 ∨ (g.nonterms.length : Int) ≤ g.ax
        · have H : Hid (checkN g = (1, -1)) := Lib.hid (by unfold checkN; rw [if_neg h1, if_neg (by simp [h2, h3]), if_pos h4])
          by_cases a4 : g.ax < 0
          all_goals
            go_enter Tryd.func56, Tryd.ntmps56
            go_wp2_with (first
              | (go_at_call 65; have t_ := T1; refine HNT.out.mono ?_; rintro e w' ⟨rfl, n1, rfl⟩; clear T1 t_)
              | (go_at_call 65; refine (HNN.out _).mono ?_; rintro e w' ⟨rfl, n2, rfl⟩))
            go_ret
            exact ⟨_, rfl, by rw [H.out]; exact .sent 0 (by omega), pw_below_drewN HB1.out _⟩
        · have H : Hid (checkN g = firstBad g.terms.length g.nonterms.length g.rules 0) := Lib.hid (by unfold checkN; rw [if_neg h1, if_neg (by simp [h2, h3]), if_neg h4])
          have a4 : ¬ g.ax < 0 := by omega
          have a5 : ¬ (g.nonterms.length : Int) ≤ g.ax := by omega
          have hnn : g.nonterms.length ≤ 60 := by omega
          clear h1 h2 h3 h4
          go_enter Tryd.func56, Tryd.ntmps56
          go_wp2_with (first
            | (go_at_call 65; have t_ := T1; refine HNT.out.mono ?_; rintro e w' ⟨rfl, n1, rfl⟩; clear T1 t_)
            | (go_at_call 65; refine (HNN.out _).mono ?_; rintro e w' ⟨rfl, n2, rfl⟩))
          clear e0 e2 e9 c0 c1 c2 c3
          go_loopw [53] (fun i wr => ∃ (j : Nat), j ≤ g.rules.length ∧ i = .int .i64 j ∧ Aside0 (Below w.heap.size w wr) ∧ Aside0 (wr.heap[w.heap.size]? = some (.cells #[.slice AT g.terms.length cT, .slice AN g.nonterms.length cN, .int .i64 g.ax, .slice AR g.rules.length cR] 25 (0, 0))) ∧ Aside0 (Below w1.heap.size w1 wr) ∧ Hid (∀ k, k < j → ruleN g.terms.length g.nonterms.length (g.rules.getD k (0, [])) = 0)) (fun i _ => g.rules.length - (intOf i).toNat)
          case atStart => exact ⟨0, by omega, rfl, ⟨pw_below_drewN HB1.out _⟩, ⟨HK1.out⟩, ⟨pw_below_drewN (Below.refl _ _) _⟩, Lib.hid (fun k hk => by omega)⟩
          case round =>
            obtain ⟨j, hj, rfl, HBw, HK, HB2, HT⟩ := hrel
            obtain ⟨w2, rfl⟩ : ∃ w2, wr = w2 := ⟨_, rfl⟩
            by_cases hlt : j < g.rules.length
            · obtain ⟨ad, x, B, c, r, rfl, k1, k2, hrc, hr, HD⟩ := at_rule (Kd.C_below HR.out HB2.out) j hlt
              obtain ⟨c0, c1, c2, c3⟩ := blk_cells2 HK.out
              have hsz : w.heap.size < wr.heap.size := (Array.getElem?_eq_some_iff.1 HK.out).1
              have HRr := Lib.hid (Kd.C_alloc hr (.cells #[.int .i64 x, .slice B r.length c] 51))
              have HEr := Lib.hid ((HE.out.below HB2.out).below (below_alloc (Below.refl wr.heap.size wr) (.cells #[.int .i64 x, .slice B r.length c] 51)))
              have HC := Lib.hid (rule_calls AT AN (some ad) B g.terms.length g.nonterms.length g.rules.length cT cN cR c g.ax (x, r) _ A HEr.out hnn HRr.out)
              clear hr
              rcases ruleN_cases g.terms.length g.nonterms.length (x, r) with hz | hz | hz
              all_goals
                rw [hz] at HC
                go_wp2_with (go_at_call 66; refine HC.out.mono ?_; rintro e w3 ⟨rfl, hb3⟩; simp only [errOf]; have hb4 := (below_alloc (Below.refl wr.heap.size wr) (.cells #[.int .i64 x, .slice B r.length c] 51)).trans (hb3.mono (by simp)); have HB4 := Lib.hid hb4; clear hb3 hb4)
              · go_roundw
                case rel => exact ⟨j + 1, by omega, by go_num, ⟨below_next HBw.out HB4.out⟩, ⟨blk_keep HK.out HB4.out⟩, ⟨below_next HB2.out HB4.out⟩, Lib.hid (fun k hk => by
                  rcases Nat.lt_or_ge k j with h | h
                  · exact HT.out k h
                  · obtain rfl : k = j := by omega
                    rw [HD.out]; exact hz)⟩
                case measure => simp [intOf]; omega
              · have HF : Hid (checkN g = (1, (j : Int))) := Lib.hid (by rw [H.out, firstBad_at _ _ _ j HT.out hlt (by rw [HD.out, hz]; decide), HD.out, hz])
                go_ret
                refine ⟨_, rfl, ?_, below_next (below_next HBw.out HB4.out) (below_alloc (Below.refl _ _) _)⟩
                rw [HF.out]
                refine .rule 0 (by omega) _ 0 j ?_ ?_ <;> simp [go_sem]
              · have HF : Hid (checkN g = (3, (j : Int))) := Lib.hid (by rw [H.out, firstBad_at _ _ _ j HT.out hlt (by rw [HD.out, hz]; decide), HD.out, hz])
                go_ret
                refine ⟨_, rfl, ?_, below_next (below_next HBw.out HB4.out) (below_alloc (Below.refl _ _) _)⟩
                rw [HF.out]
                refine .rule 2 (by omega) _ 0 j ?_ ?_ <;> simp [go_sem]
            · have HF : Hid (checkN g = (0, -1)) := Lib.hid (by rw [H.out]; exact firstBad_none _ _ _ (fun k hk => HT.out k (by omega)))
              go_wp2
              go_ret
              exact ⟨_, rfl, by rw [HF.out]; exact .none, HBw.out⟩
      · have T2 := tb_no h3
        rw [T2] at HNN
        have H : Hid (checkN g = (10, -1)) := Lib.hid (by unfold checkN; rw [if_neg h1, if_pos (by simp [h3])])
        go_enter Tryd.func56, Tryd.ntmps56
        go_wp2_with (first
          | (go_at_call 65; have t_ := T1; refine HNT.out.mono ?_; rintro e w' ⟨rfl, n1, rfl⟩; clear T1 t_)
          | (go_at_call 65; refine (HNN.out _).mono ?_; rintro e w' ⟨rfl, n2, rfl⟩))
        go_ret
        exact ⟨_, rfl, by rw [H.out]; exact .sent 9 (by omega), pw_below_drewN HB1.out _⟩
    · have T1 := tb_no h2
      rw [T1] at HNT
      have H : Hid (checkN g = (10, -1)) := Lib.hid (by unfold checkN; rw [if_neg h1, if_pos (by simp [h2])])
      go_enter Tryd.func56, Tryd.ntmps56
      go_wp2_with (go_at_call 65; refine HNT.out.mono ?_; rintro e w' ⟨rfl, n1, rfl⟩)
      go_ret
      exact ⟨_, rfl, by rw [H.out]; exact .sent 9 (by omega), pw_below_drewN HB1.out _⟩
end Go.Proofs.YtndimnomkcjeiaaDoor.Hand
/- Contracts of package member: may. -/
namespace Go.Proofs.YtndimnomkcjeiaaDoor.Hand
open Go.RowKit Go.Proofs.YtndimnomkcjeiaaDoorW.PrintWords Go.Proofs.YtndimnomkcjeiaaDoorW.PrintMore Go.Proofs.YtndimnomkcjeiaaDoor.Math

theorem gblk_keep' {g : Nat} {o : Obj} {w w' : World} (h : w.heap[g]? = some o) (hb : Below w.heap.size w w') : w'.heap[g]? = some o := (hb.block g (Array.getElem?_eq_some_iff.1 h).1).trans h
theorem tok_take_snoc (l : List Int) (f : Int → Bool) (j : Nat) (h : j < l.length) : (l.take (j + 1)).any f = ((l.take j).any f || f (l.getD j 0)) := by
  rw [take_snocD l j 0 h, List.any_append]; simp
theorem ErrV.nil_of {w : World} {A : Nat → Addr} {v : Value} {k : Nat} {r : Int} (h : ErrV w A v k r) (hk : k = 0) : v = .nilIface := by
  cases h with
  | none => rfl
  | sent i hi => omega
  | rule i hi pb po r h0 h1 => omega
/-- The types that an error's value may have. -/
def errTs : List Nat := [143
  , 133
  ]
theorem ErrV.iface_of {w : World} {A : Nat → Addr} {v : Value} {k : Nat} {r : Int} (h : ErrV w A v k r) (hk : ¬ k = 0) : ∃ T p, T ∈ errTs ∧ v = .iface T (.pointer p) := by
  cases h with
  | none => exact absurd rfl hk
  | sent i hi => exact ⟨_, _, by simp [errTs], rfl⟩
  | rule i hi pb po r h0 h1 => exact ⟨_, _, by simp [errTs], rfl⟩
set_option maxHeartbeats 1600000 in
set_option maxRecDepth 100000 in
theorem may_calls (v : Value) (g : Gr) (At : Option Addr) (ct : Nat) (tk : List Int) (w : World) (A : Nat → Addr) (hE : ErrsW w A) (hv : GramAt w v g) (_hlc : tk.length ≤ ct) (hr : Kd.C (Kd.int .i64) w At tk.length tk) :
    Calls Tryd.prog 42 #[v, .slice At tk.length ct] w fun e w' => ∃ u, e = .returned u ∧ ErrV w' A u (mayN g tk).1 (mayN g tk).2 ∧ Below w.heap.size w w' := by
  have HV := Lib.hid hv
  obtain ⟨AT, cT, AN, cN, AR, cR, rfl, q1, q2, q3, q4, q5, q6⟩ := hv
  have l1 := q4.2.1
  have l2 := q5.2.1
  have l3 := q6.2.1
  have hlen := hr.2.1
  obtain ⟨w1, hw1⟩ : ∃ w1, w.alloc (.cells #[.slice AT g.terms.length cT, .slice AN g.nonterms.length cN, .int .i64 g.ax, .slice AR g.rules.length cR] 25) = w1 := ⟨_, rfl⟩
  have hb1 : Below w.heap.size w w1 := by rw [← hw1]; exact below_alloc (Below.refl _ _) _
  have hk1 : w1.heap[w.heap.size]? = some (.cells #[.slice AT g.terms.length cT, .slice AN g.nonterms.length cN, .int .i64 g.ax, .slice AR g.rules.length cR] 25 (0, 0)) := by rw [← hw1]; exact heap_alloc_new w _
  obtain ⟨c0, c1, c2, c3⟩ := blk_cells2 hk1
  have HB1 := Lib.hid hb1
  have HK1 := Lib.hid hk1
  have HE := Lib.hid (hE.below hb1)
  have HC := Lib.hid (check_calls _ g w1 A (hE.below hb1) (HV.out.below hb1))
  have HR := Lib.hid (Kd.C_below q6 hb1)
  have HT := Lib.hid (Kd.C_below hr hb1)
  clear hb1 hk1 hE q4 q5 q6 hr
  by_cases h0 : (checkN g).1 = 0
  case neg =>
    have HM : Hid (mayN g tk = checkN g) := Lib.hid (by unfold mayN; rw [if_pos h0])
    go_enter Tryd.func42, Tryd.ntmps42
    go_wp2_with (go_at_call 56; refine HC.out.mono ?_; rintro e w2 ⟨u, rfl, hu, hb2⟩; have HU := Lib.hid hu; have HB2 := Lib.hid hb2; obtain ⟨T, p, hT, rfl⟩ := hu.iface_of h0; clear hu hb2 hT)
    go_ret
    exact ⟨_, rfl, by rw [HM.out]; exact HU.out, below_next HB1.out HB2.out⟩
  obtain ⟨z1, z2, z3, z4, z5, z6, z7⟩ := checkN_zero h0
  have HZ := Lib.hid z7
  clear z3 z4 z7
  have hmk : ∀ r, r ∈ g.rules → r.2.length ≤ 32 := fun r hr => ruleN_len (HZ.out r hr)
  have hs32 := sizeN_le g.rules hmk
  have HMk := Lib.hid hmk
  have HM : Hid (mayN g tk = if 40 < tk.length ∨ 512 < sizeN g.rules then (12, -1) else if tk.any (tokBad g.terms.length) = true then (1, -1) else (0, -1)) := Lib.hid (by unfold mayN; rw [if_neg (by simp [h0])])
  clear hmk
  go_enter Tryd.func42, Tryd.ntmps42
  go_wp2_with (go_at_call 56; refine HC.out.mono ?_; rintro e w2 ⟨u, rfl, hu, hb2⟩; have HB2 := Lib.hid hb2; have HK2 := Lib.hid (gblk_keep' HK1.out hb2); obtain rfl := hu.nil_of h0; obtain ⟨d0, d1, d2, d3⟩ := blk_cells2 HK2.out; clear hu hb2)
  clear c0 c1 c2 c3
  go_loopw [6, 19] (fun v x wr => ∃ k : Nat, k ≤ g.rules.length ∧ v = .int .i64 (sizeN (g.rules.take k) : Nat) ∧ x = .int .i64 k ∧ Aside0 (Below w2.heap.size w2 wr)) (fun _ x _ => g.rules.length - (intOf x).toNat)
  case atStart => exact ⟨0, by omega, by simp [sizeN], rfl, ⟨Below.refl _ _⟩⟩
  case round =>
    obtain ⟨k, hk, rfl, rfl, HB3⟩ := hrel
    by_cases hlt : k < g.rules.length
    · obtain ⟨ad, x, B, c, r, rfl, k1, k2, hrc, hr, HD⟩ := at_rule (Kd.C_below (Kd.C_below HR.out HB2.out) HB3.out) k hlt
      have hr32 : r.length ≤ 32 := by have := HMk.out (g.rules.getD k (0, [])) (getD_mem _ _ _ hlt); rw [HD.out] at this; exact this
      have hmn : Builtin.min2 (.int .i64 (r.length : Nat)) (.int .i64 513) = pure (.int .i64 (r.length : Nat)) := by rw [min2_int, if_neg (by omega)]
      have hsk : sizeN (g.rules.take k) ≤ 3840 := by have := sizeN_take g.rules k; omega
      have HSk : Hid (sizeN (g.rules.take (k + 1)) = sizeN (g.rules.take k) + r.length) := Lib.hid (by rw [take_snocD _ _ (0, []) hlt, sizeN_snoc, HD.out])
      have HB4 := Lib.hid (below_alloc (Below.refl wr.heap.size wr) (.cells #[.int .i64 x, .slice B r.length c] 51))
      clear hr
      obtain ⟨sk, hske⟩ : ∃ sk, sizeN (g.rules.take k) = sk := ⟨_, rfl⟩
      rw [hske] at hsk HSk ⊢
      clear hske
      go_wp2
      go_roundw
      case rel => exact ⟨k + 1, by omega, by rw [HSk.out]; go_num, by go_num, ⟨below_next HB3.out HB4.out⟩⟩
      case measure => simp [intOf]; omega
    · have hall : g.rules.take k = g.rules := List.take_of_length_le (by omega)
      have hszn : sizeN g.rules ≤ 3840 := by omega
      rw [hall]
      obtain ⟨sz, hsz⟩ : ∃ sz, sizeN g.rules = sz := ⟨_, rfl⟩
      rw [hsz] at hszn hs32 HM ⊢
      clear hsz hall
      have HB4 := Lib.hid (below_next HB1.out (below_next HB2.out HB3.out))
      have HE3 := Lib.hid ((HE.out.below HB2.out).below HB3.out)
      have e0 : wr.cell? ⟨0, 0, none⟩ = some (.iface 143 (.pointer (some (A 0)))) := HE3.out.cells 0 (by decide)
      have e11 : wr.cell? ⟨11, 0, none⟩ = some (.iface 143 (.pointer (some (A 11)))) := HE3.out.cells 11 (by decide)
      have HK3 := Lib.hid (gblk_keep' HK2.out HB3.out)
      obtain ⟨f0, f1, f2, f3⟩ := blk_cells2 HK3.out
      by_cases a1 : 40 < tk.length
      · have HF : Hid (mayN g tk = (12, -1)) := Lib.hid (by rw [HM.out, if_pos (.inl a1)])
        go_wp2
        go_ret
        exact ⟨_, rfl, by rw [HF.out]; exact .sent 11 (by omega), HB4.out⟩
      · by_cases a2 : 512 < sz
        · have HF : Hid (mayN g tk = (12, -1)) := Lib.hid (by rw [HM.out, if_pos (.inr a2)])
          go_wp2
          go_ret
          exact ⟨_, rfl, by rw [HF.out]; exact .sent 11 (by omega), HB4.out⟩
        · have HF : Hid (mayN g tk = if tk.any (tokBad g.terms.length) = true then (1, -1) else (0, -1)) := Lib.hid (by rw [HM.out, if_neg (by omega)])
          have HT3 := Lib.hid (Kd.C_below (Kd.C_below HT.out HB2.out) HB3.out)
          obtain ⟨w5, rfl⟩ : ∃ w5 : World, w5 = wr := ⟨_, rfl⟩
          go_wp2
          clear d0 d1 d2 d3
          go_loopw [40] (fun x wr => ∃ k : Nat, k ≤ tk.length ∧ x = .int .i64 k ∧ wr = w5 ∧ Hid ((tk.take k).any (tokBad g.terms.length) = false)) (fun x _ => tk.length - (intOf x).toNat)
          case atStart => exact ⟨0, by omega, rfl, rfl, Lib.hid (by simp)⟩
          case round =>
            obtain ⟨j, hj, rfl, rfl, HY⟩ := hrel
            by_cases hjt : j < tk.length
            · obtain ⟨ad2, y, rfl, hc2, HD2⟩ := at_scalar HT3.out j hjt 0
              by_cases b1 : y < 0
              · have HG : Hid (mayN g tk = (1, -1)) := Lib.hid (by
                  rw [HF.out, if_pos (List.any_eq_true.2 ⟨y, by rw [← HD2.out]; exact getD_mem tk j 0 hjt, by simp [tokBad, b1]⟩)])
                go_wp2
                go_ret
                exact ⟨_, rfl, by rw [HG.out]; exact .sent 0 (by omega), HB4.out⟩
              · by_cases b2 : (g.terms.length : Int) ≤ y
                · have HG : Hid (mayN g tk = (1, -1)) := Lib.hid (by
                    rw [HF.out, if_pos (List.any_eq_true.2 ⟨y, by rw [← HD2.out]; exact getD_mem tk j 0 hjt, by simp [tokBad, b2]⟩)])
                  go_wp2
                  go_ret
                  exact ⟨_, rfl, by rw [HG.out]; exact .sent 0 (by omega), HB4.out⟩
                · have HG : Hid ((tk.take (j + 1)).any (tokBad g.terms.length) = false) := Lib.hid (by rw [tok_take_snoc tk _ j hjt, HY.out, HD2.out]; simp [tokBad]; omega)
                  go_wp2
                  go_roundw
                  case rel => exact ⟨j + 1, by omega, by go_num, by first | rfl | trivial, HG⟩
                  case measure => simp [intOf]; omega
            · have HG : Hid (mayN g tk = (0, -1)) := Lib.hid (by
                have := HY.out
                rw [List.take_of_length_le (by omega)] at this
                rw [HF.out, if_neg (by simp [this])])
              go_wp2
              go_ret
              exact ⟨_, rfl, by rw [HG.out]; exact .none, HB4.out⟩
end Go.Proofs.YtndimnomkcjeiaaDoor.Hand
/- Contracts of package member: fill0, charted. -/
namespace Go.Proofs.YtndimnomkcjeiaaDoor.Hand
open Go.RowKit Go.Proofs.YtndimnomkcjeiaaDoorW.PrintWords Go.Proofs.YtndimnomkcjeiaaDoorW.PrintMore Go.Proofs.YtndimnomkcjeiaaDoor.Math

def ChartIs (w0 : World) (R : List (Int × List Int)) (tk : List Int) (N b O : Nat) (Bs : Nat → Nat) (P : Nat → Nat → Prop) (w : World) : Prop :=
  ∃ Tn, Chart w0 R tk N b O Bs Tn w ∧ Sound R tk tk.length N (tabOf Tn) ∧ ∀ a c, P a c → Full1 R tk N (tabOf Tn) a c
theorem ChartIs.imp {w0 w : World} {R : List (Int × List Int)} {tk : List Int} {N b O : Nat} {Bs : Nat → Nat} {P P' : Nat → Nat → Prop} (h : ChartIs w0 R tk N b O Bs P w) (hp : ∀ a c, P' a c → P a c) : ChartIs w0 R tk N b O Bs P' w := by
  obtain ⟨Tn, h1, h2, h3⟩ := h
  exact ⟨Tn, h1, h2, fun a c h => h3 a c (hp a c h)⟩
theorem cfill_is {w0 w : World} {R : List (Int × List Int)} {tk : List Int} {t N b O : Nat} {Bs : Nat → Nat} {P : Nat → Nat → Prop} (h : ChartIs w0 R tk N b O Bs P w) (hN : N ≤ 60) (ht : t ≤ 60) (hn : tk.length ≤ 40) (hRI : RulesIn t N R) (i j : Nat) (hij : i ≤ j) (hj : j ≤ tk.length)
    (hP : ∀ i' j', i ≤ i' → i' ≤ j' → j' ≤ j → ¬ (i' = i ∧ j' = j) → P i' j') :
    Calls Tryd.prog 44 #[.pointer (some ⟨b, 0, none⟩), .int .i64 i, .int .i64 j] w fun e w' => e = .returned (.tuple #[]) ∧ ChartIs w0 R tk N b O Bs (fun a c => P a c ∨ (a = i ∧ c = j)) w' := by
  obtain ⟨Tn, h1, h2, h3⟩ := h
  refine (cfill_calls h1 hN ht hn hRI i j hij hj h2).mono ?_
  rintro e w' ⟨rfl, Tn', k1, k2, k3, k4⟩
  have hkeep : ∀ a c, ¬ (a = i ∧ c = j) → Full1 R tk N (tabOf Tn) a c → Full1 R tk N (tabOf Tn') a c := by
    intro a c hne hf k hk hd
    have := hf k hk hd
    unfold tabOf at this ⊢
    rwa [k3 a c hne]
  refine ⟨rfl, Tn', k1, k2, ?_⟩
  intro a c hac
  by_cases e : a = i ∧ c = j
  · obtain ⟨rfl, rfl⟩ := e
    exact fixed_full hj (fun r hr => hRI.left hr) (fun i' j' q1 q2 q3 q4 => hkeep i' j' q4 (h3 i' j' (hP i' j' q1 q2 q3 q4))) k4
  · exact hkeep a c e (h3 a c (hac.resolve_right e))
theorem cfill0_is {w0 w : World} {R : List (Int × List Int)} {tk : List Int} {t N b O : Nat} {Bs : Nat → Nat} (h : ChartIs w0 R tk N b O Bs (fun _ _ => False) w) (hN : N ≤ 60) (ht : t ≤ 60) (hn : tk.length ≤ 40) (hRI : RulesIn t N R) :
    Calls Tryd.prog 43 #[.pointer (some ⟨b, 0, none⟩)] w fun e w' => e = .returned (.tuple #[]) ∧ ChartIs w0 R tk N b O Bs (fun a c => a = c ∧ a ≤ tk.length) w' := by
  have hhead : w.cell? ⟨b, 5, none⟩ = some (.slice (some ⟨O, 0, none⟩) (tk.length + 1) (tk.length + 1)) := by obtain ⟨Tn, h1, _⟩ := h; exact h1.head
  have H := Lib.hid h
  have HRI := Lib.hid hRI
  clear h hRI
  go_enter Tryd.func43, Tryd.ntmps43
  go_wp2
  go_loopw [8] (fun x wr => ∃ k : Nat, k ≤ tk.length + 1 ∧ x = .int .i64 k ∧ Aside0 (ChartIs w0 R tk N b O Bs (fun a c => a = c ∧ a < k) wr)) (fun x _ => tk.length + 1 - (intOf x).toNat)
  case atStart => exact ⟨0, by omega, rfl, ⟨H.out.imp (fun a c h => by omega)⟩⟩
  case round =>
    obtain ⟨k, hk, rfl, HC⟩ := hrel
    by_cases hlt : k < tk.length + 1
    · have HCall := Lib.hid (cfill_is HC.out hN ht hn HRI.out k k (Nat.le_refl _) (by omega) (fun i' j' h1 h2 h3 h4 => by omega))
      go_wp2_with (go_at_call 44; refine HCall.out.mono ?_; rintro e w2 ⟨rfl, hc2⟩; have HC2 := Aside0.mk hc2; clear hc2)
      go_roundw
      case rel => exact ⟨k + 1, by omega, by go_num, ⟨HC2.out.imp (fun a c h => by omega)⟩⟩
      case measure => simp [intOf]; omega
    · go_wp2
      go_end0
      exact ⟨rfl, HC.out.imp (fun a c h => by omega)⟩
/-- A chart that is being made. -/
structure PreChart (w0 : World) (R : List (Int × List Int)) (tk : List Int) (b O : Nat) (Bs : Nat → Nat) (k : Nat) (w : World) : Prop where
  bel : Below w0.heap.size w0 w
  rules : ∃ AR cR, R.length ≤ cR ∧ KRule.C w0 AR R.length R ∧ w.cell? ⟨b, 3, none⟩ = some (.slice AR R.length cR)
  toks : ∃ At ct, tk.length ≤ ct ∧ Kd.C (Kd.int .i64) w0 At tk.length tk ∧ w.cell? ⟨b, 4, none⟩ = some (.slice At tk.length ct)
  head : w.cell? ⟨b, 5, none⟩ = some (.slice (some ⟨O, 0, none⟩) (tk.length + 1) (tk.length + 1))
  out : Row w O (tk.length + 1) (fun i => if i < k then .slice (some ⟨Bs i, 0, none⟩) (tk.length - i + 1) (tk.length - i + 1) else .slice none 0 0)
  inn : ∀ i, i < k → Row w (Bs i) (tk.length - i + 1) (fun _ => .int .u64 0)
  hb : w0.heap.size ≤ b
  hO : w0.heap.size ≤ O ∧ O ≠ b
  hB : ∀ i, i < k → w0.heap.size ≤ Bs i ∧ Bs i ≠ b ∧ Bs i ≠ O
  inj : ∀ i j, i < k → j < k → Bs i = Bs j → i = j
theorem PreChart.below {w0 w w' : World} {R : List (Int × List Int)} {tk : List Int} {b O k : Nat} {Bs : Nat → Nat} (h : PreChart w0 R tk b O Bs k w) (hb : Below w.heap.size w w') : PreChart w0 R tk b O Bs k w' := by
  have hlt : b < w.heap.size := World.block_lt_of_cell? w _ h.head
  obtain ⟨AR, cR, q1, q2, q3⟩ := h.rules
  obtain ⟨At, ct, p1, p2, p3⟩ := h.toks
  exact ⟨below_next h.bel hb, ⟨AR, cR, q1, q2, (hb.cell hlt).trans q3⟩, ⟨At, ct, p1, p2, (hb.cell hlt).trans p3⟩, (hb.cell hlt).trans h.head, h.out.below hb, fun i hi => (h.inn i hi).below hb, h.hb, h.hO, h.hB, h.inj⟩
theorem PreChart.step {w0 w : World} {R : List (Int × List Int)} {tk : List Int} {b O k : Nat} {Bs : Nat → Nat} (h : PreChart w0 R tk b O Bs k w) (hk : k ≤ tk.length) (e : TypeId) :
    PreChart w0 R tk b O (fun i => if i = k then w.heap.size else Bs i) (k + 1) ((w.alloc (.cells (madeCells #[.int .u64 0] (tk.length - k + 1)) e)).setCell ⟨O, k, none⟩ (.slice (some ⟨w.heap.size, 0, none⟩) (tk.length - k + 1) (tk.length - k + 1))) := by
  have hba := below_alloc (Below.refl w.heap.size w) (.cells (madeCells #[.int .u64 0] (tk.length - k + 1)) e)
  have h1 := h.below hba
  have hmade := Row.made w (.int .u64 0) (tk.length - k + 1) e
  have hOlt : O < w.heap.size := h.out.lt
  have hblt : b < w.heap.size := World.block_lt_of_cell? w _ h.head
  have hs0 : w0.heap.size ≤ w.heap.size := h.bel.size
  generalize w.alloc (.cells (madeCells #[.int .u64 0] (tk.length - k + 1)) e) = W at *
  obtain ⟨AR, cR, q1, q2, q3⟩ := h1.rules
  obtain ⟨At, ct, p1, p2, p3⟩ := h1.toks
  have hc : ∀ n v u, W.cell? ⟨b, n, none⟩ = some v → (W.setCell ⟨O, k, none⟩ u).cell? ⟨b, n, none⟩ = some v := fun n v u hv => (World.cell?_setCell_other W _ _ _ (fun e => h.hO.2 (by injection e))).trans hv
  refine ⟨h1.bel.setCell h.hO.1 _, ⟨AR, cR, q1, q2, hc _ _ _ q3⟩, ⟨At, ct, p1, p2, hc _ _ _ p3⟩, hc _ _ _ h1.head, ?_, ?_, h.hb, h.hO, ?_, ?_⟩
  · refine (h1.out.set k (by omega) _).ext (fun q hq => ?_)
    by_cases e : q = k
    · subst e; simp
    · have : q < k + 1 ↔ q < k := by omega
      simp [e, this]
  · intro i hi
    by_cases e : i = k
    · subst e
      simp only [if_true]
      exact hmade.far ⟨O, i, none⟩ (by show O ≠ _; omega) _
    · simp only [e, if_false]
      exact (h1.inn i (by omega)).far ⟨O, k, none⟩ (fun q => (h.hB i (by omega)).2.2 q.symm) _
  · intro i hi
    by_cases e : i = k
    · subst e
      simp only [if_true]
      exact ⟨hs0, by omega, by omega⟩
    · simp only [e, if_false]
      exact h.hB i (by omega)
  · intro i j hi hj hij
    have hlt : ∀ i, i < k → Bs i < w.heap.size := fun i hi => (h.inn i hi).lt
    by_cases e : i = k
    · by_cases e2 : j = k
      · omega
      · have := hlt j (by omega)
        subst e
        simp only [if_true, e2, if_false] at hij
        omega
    · by_cases e2 : j = k
      · have := hlt i (by omega)
        subst e2
        simp only [if_true, e, if_false] at hij
        omega
      · simp only [e, e2, if_false] at hij
        exact h.inj i j (by omega) (by omega) hij
theorem PreChart.done {w0 w : World} {R : List (Int × List Int)} {tk : List Int} {b O : Nat} {Bs : Nat → Nat} (h : PreChart w0 R tk b O Bs (tk.length + 1) w) (N : Nat) : ChartIs w0 R tk N b O Bs (fun _ _ => False) w := by
  refine ⟨fun _ _ => 0, ⟨h.bel, h.rules, h.toks, h.head, ?_, ?_, ?_, h.hb, h.hO, fun i hi => h.hB i (by omega), fun i j hi hj => h.inj i j (by omega) (by omega)⟩, ?_, fun a c h => h.elim⟩
  · exact h.out.ext (fun q hq => by rw [if_pos hq])
  · exact fun i hi => h.inn i (by omega)
  · exact fun _ _ => Nat.two_pow_pos N
  · intro i j k _ _ _ hT
    simp [tabOf, hasN] at hT
set_option maxHeartbeats 1600000 in
set_option maxRecDepth 100000 in
theorem charted_calls (v : Value) (g : Gr) (At : Option Addr) (ct : Nat) (tk : List Int) (w : World) (A : Nat → Addr) (hE : ErrsW w A) (hv : GramAt w v g) (hlc : tk.length ≤ ct) (hr : Kd.C (Kd.int .i64) w At tk.length tk) (hok : (mayN g tk).1 = 0) :
    Calls Tryd.prog 32 #[v, .slice At tk.length ct] w fun e w' => ∃ b O Bs, e = .returned (.tuple #[.pointer (some ⟨b, 0, none⟩), .nilIface]) ∧ ChartIs w g.rules tk g.nonterms.length b O Bs (fun a c => a ≤ c ∧ c ≤ tk.length) w' := by
  have HV := Lib.hid hv
  obtain ⟨AT, cT, AN, cN, AR, cR, rfl, q1, q2, q3, q4, q5, q6⟩ := hv
  have hok2 : (checkN g).1 = 0 ∧ tk.length ≤ 40 := by
    unfold mayN at hok
    split at hok
    · rename_i h; exact absurd hok h
    · rename_i h
      split at hok
      · cases hok
      · exact ⟨by omega, by omega⟩
  obtain ⟨hc0, hn⟩ := hok2
  obtain ⟨z1, z2, z3, z4, z5, z6, z7⟩ := checkN_zero hc0
  have HZ : Hid (RulesIn g.terms.length g.nonterms.length g.rules) := Lib.hid z7
  clear z3 z4 z7 hc0
  have hlen := hr.2.1
  obtain ⟨w1, hw1⟩ : ∃ w1, w.alloc (.cells #[.slice AT g.terms.length cT, .slice AN g.nonterms.length cN, .int .i64 g.ax, .slice AR g.rules.length cR] 25) = w1 := ⟨_, rfl⟩
  have hb1 : Below w.heap.size w w1 := by rw [← hw1]; exact below_alloc (Below.refl _ _) _
  have hk1 : w1.heap[w.heap.size]? = some (.cells #[.slice AT g.terms.length cT, .slice AN g.nonterms.length cN, .int .i64 g.ax, .slice AR g.rules.length cR] 25 (0, 0)) := by rw [← hw1]; exact heap_alloc_new w _
  obtain ⟨c0, c1, c2, c3⟩ := blk_cells2 hk1
  have HB1 := Lib.hid hb1
  have HK1 := Lib.hid hk1
  have HM := Lib.hid (may_calls _ g At ct tk w1 A (hE.below hb1) (HV.out.below hb1) hlc (Kd.C_below hr hb1))
  have HR := Lib.hid q6
  have HT := Lib.hid hr
  have HOK := Lib.hid hok
  clear hb1 hk1 hE q4 q5 q6 hr hok
  obtain ⟨m, hm⟩ : ∃ m : Nat, m = tk.length + 1 := ⟨_, rfl⟩
  have hmI : ((tk.length : Int) + 1) = (m : Int) := by omega
  have hmk : ∀ W : World, (Instr.makeSlice 29 (.int .i64 ((m : Nat) : Int)) (.int .i64 ((m : Nat) : Int))).run Tryd.prog W = .ok (.slice (some ⟨W.heap.size, 0, none⟩) m m) (W.alloc (.cells (madeCells #[.slice none 0 0] m) 40)) :=
    print_make_of (P := Tryd.prog) 29 40 (.slice none 0 0) 24 rfl (by kernel_rfl) rfl (by decide) m (by omega)
  go_enter Tryd.func32, Tryd.ntmps32
  go_wp2_with (go_at_call 42; refine HM.out.mono ?_; rintro e w2 ⟨u, rfl, hu, hb2⟩; have HB2 := Lib.hid hb2; have HK2 := Lib.hid (gblk_keep' HK1.out hb2); obtain rfl := hu.nil_of HOK.out; obtain ⟨d0, d1, d2, d3⟩ := blk_cells2 HK2.out; clear hu hb2)
  have hwr : IntKind.i64.wrap ((tk.length : Int) + 1) = (m : Int) := by rw [Go.IntWalk.i64_in _ (by omega)]; omega
  have hlt2 : w.heap.size < w2.heap.size := World.block_lt_of_cell? w2 _ d0
  have e0 := (World.cell?_alloc_lt w2 (.cells (madeCells #[.slice none 0 0] m) 40) ⟨w.heap.size, 0, none⟩ hlt2).trans d0
  have e1 := (World.cell?_alloc_lt w2 (.cells (madeCells #[.slice none 0 0] m) 40) ⟨w.heap.size, 1, none⟩ hlt2).trans d1
  have e2 := (World.cell?_alloc_lt w2 (.cells (madeCells #[.slice none 0 0] m) 40) ⟨w.heap.size, 2, none⟩ hlt2).trans d2
  have e3 := (World.cell?_alloc_lt w2 (.cells (madeCells #[.slice none 0 0] m) 40) ⟨w.heap.size, 3, none⟩ hlt2).trans d3
  have HMm := Lib.hid hm
  clear hmI hm
  go_region
  obtain ⟨w3, hw3⟩ : ∃ w3, ((w2.alloc (.cells (madeCells #[.slice none 0 0] m) 40)).alloc (.cells #[.slice AT g.terms.length cT, .slice AN g.nonterms.length cN, .int .i64 g.ax, .slice AR g.rules.length cR, .slice At tk.length ct, .slice (some ⟨w2.heap.size, 0, none⟩) m m] 69)).drew = w3 := ⟨_, rfl⟩
  have HP : Aside0 (PreChart w g.rules tk (w2.heap.size + 1) w2.heap.size (fun _ => 0) 0 w3) := by
    have hbA := below_alloc (Below.refl w2.heap.size w2) (.cells (madeCells #[.slice none 0 0] m) 40)
    have hRow := Row.made w2 (.slice none 0 0) m 40
    have hB2 : Below w.heap.size w w2 := below_next HB1.out HB2.out
    have hsz : (w2.alloc (.cells (madeCells #[.slice none 0 0] m) 40)).heap.size = w2.heap.size + 1 := World.size_alloc _ _
    generalize w2.alloc (.cells (madeCells #[.slice none 0 0] m) 40) = W at *
    have hbB := below_alloc (Below.refl W.heap.size W) (.cells #[.slice AT g.terms.length cT, .slice AN g.nonterms.length cN, .int .i64 g.ax, .slice AR g.rules.length cR, .slice At tk.length ct, .slice (some ⟨w2.heap.size, 0, none⟩) m m] 69)
    have hcell : ∀ i, (W.alloc (.cells #[.slice AT g.terms.length cT, .slice AN g.nonterms.length cN, .int .i64 g.ax, .slice AR g.rules.length cR, .slice At tk.length ct, .slice (some ⟨w2.heap.size, 0, none⟩) m m] 69)).cell? ⟨w2.heap.size + 1, i, none⟩ = (#[.slice AT g.terms.length cT, .slice AN g.nonterms.length cN, .int .i64 g.ax, .slice AR g.rules.length cR, .slice At tk.length ct, .slice (some ⟨w2.heap.size, 0, none⟩) m m] : Array Value)[i]? := fun i => by rw [← hsz]; exact World.cell?_alloc_new _ _ _ _
    rw [← hw3]
    have hmm := HMm.out
    have hz := HB1.out.size
    have hz2 := HB2.out.size
    refine ⟨((below_next hB2 hbA).trans (hbB.mono (by have := hB2.size; omega))).drew, ⟨AR, cR, q3, HR.out, hcell 3⟩, ⟨At, ct, hlc, HT.out, hcell 4⟩, by rw [← hmm]; exact hcell 5, ?_, fun i hi => by omega, by omega, ⟨by omega, by omega⟩, fun i hi => by omega, fun i j hi => by omega⟩
    rw [← hmm]
    exact (hRow.below hbB).drewN 1
  rw [hw3]
  clear hw3 e0 e1 e2 e3 d0 d1 d2 d3 hwr
  obtain ⟨b, hbb⟩ : ∃ b, w2.heap.size + 1 = b := ⟨_, rfl⟩
  obtain ⟨O, hOO⟩ : ∃ O, w2.heap.size = O := ⟨_, rfl⟩
  rw [hbb, hOO] at HP ⊢
  clear hbb hOO
  have hhead := HP.out.head
  have hmm := HMm.out
  rw [← hmm] at hhead
  clear hmm
  go_wp2
  go_loopw [32] (fun x wr => ∃ (k : Nat) (Bs : Nat → Nat), k ≤ m ∧ x = .int .i64 k ∧ Aside0 (PreChart w g.rules tk b O Bs k wr)) (fun x _ => m - (intOf x).toNat)
  case atStart => exact ⟨0, fun _ => 0, by omega, rfl, HP⟩
  case round =>
    obtain ⟨k, Bs, hk, rfl, HQ⟩ := hrel
    obtain ⟨wo, rfl⟩ : ∃ wo : World, wo = wr := ⟨_, rfl⟩
    have hmm := HMm.out
    by_cases hlt : k < m
    · obtain ⟨d, hd⟩ : ∃ d : Nat, d = tk.length - k := ⟨_, rfl⟩
      obtain ⟨m1, hm1⟩ : ∃ m1 : Nat, m1 = d + 1 := ⟨_, rfl⟩
      have hmk2 : ∀ W : World, (Instr.makeSlice 40 (.int .i64 ((m1 : Nat) : Int)) (.int .i64 ((m1 : Nat) : Int))).run Tryd.prog W = .ok (.slice (some ⟨W.heap.size, 0, none⟩) m1 m1) (W.alloc (.cells (madeCells #[.int .u64 0] m1) 57)) :=
        print_make_of (P := Tryd.prog) 40 57 (.int .u64 0) 8 rfl infoSet rfl (by decide) m1 (by omega)
      have x1 : IntKind.i64.wrap ((tk.length : Int) - k) = (d : Int) := by rw [Go.IntWalk.i64_in _ (by omega)]; omega
      have x2 : IntKind.i64.wrap ((d : Int) + 1) = (m1 : Int) := by rw [Go.IntWalk.i64_in _ (by omega)]; omega
      have x3 : (0 : Int) ≤ (k : Int) := by omega
      have x4 : (k : Int) < (m : Int) := by omega
      have HD := Lib.hid (show d + 1 = tk.length - k + 1 ∧ m1 = d + 1 by omega)
      have HKle := Lib.hid (show k ≤ tk.length by omega)
      have y1 := HQ.out.head
      have y2 := HQ.out.out.cell k (by omega)
      have y3 := HQ.out.out.free k
      rw [if_neg (by omega)] at y2
      rw [← hmm] at y1
      have hblt : b < wo.heap.size := World.block_lt_of_cell? wo _ y1
      have hOlt : O < wo.heap.size := HQ.out.out.lt
      have v1 := (World.cell?_alloc_lt wo (.cells (madeCells #[.int .u64 0] m1) 57) ⟨b, 5, none⟩ hblt).trans y1
      have v2 := (World.cell?_alloc_lt wo (.cells (madeCells #[.int .u64 0] m1) 57) ⟨O, k, none⟩ hOlt).trans y2
      have v3 := (World.frozen?_alloc_old wo (.cells (madeCells #[.int .u64 0] m1) 57) ⟨O, k, none⟩ (Nat.ne_of_lt hOlt)).trans y3
      have hm41 : m ≤ 41 := by omega
      clear hd hm1 hmm hblt hOlt
      go_wp2_with fail
      go_region
      go_wp2
      go_roundw
      case rel =>
        refine ⟨k + 1, fun i => if i = k then wo.heap.size else Bs i, by omega, by go_num, ⟨?_⟩⟩
        · have h := (HQ.out.step HKle.out 57).below (w' := World.drew _) (pw_below_drewN (Below.refl _ _) 1)
          rw [← HD.out.1, ← HD.out.2] at h
          exact h
      case measure => simp [intOf]; omega
    · obtain rfl : k = m := by omega
      have HC0 := Lib.hid (show ChartIs w g.rules tk g.nonterms.length b O Bs (fun _ _ => False) wo from PreChart.done (by rw [← hmm]; exact HQ.out) _)
      have HF0 := Lib.hid (cfill0_is HC0.out (t := g.terms.length) (by omega) (by omega) hn HZ.out)
      clear hmm hmk
      go_wp2_with (go_at_call 43; refine HF0.out.mono ?_; rintro e w4 ⟨rfl, hc4⟩; have HC4 := Aside0.mk hc4; clear hc4)
      go_loopw [10] (fun x wr => ∃ l : Nat, 1 ≤ l ∧ l ≤ tk.length + 1 ∧ x = .int .i64 l ∧ Aside0 (ChartIs w g.rules tk g.nonterms.length b O Bs (fun a c => a ≤ c ∧ c ≤ tk.length ∧ c - a < l) wr)) (fun x _ => tk.length + 1 - (intOf x).toNat)
      case atStart => exact ⟨1, by omega, by omega, rfl, ⟨HC4.out.imp (fun a c h => by omega)⟩⟩
      case round =>
        obtain ⟨l, hl1, hl2, rfl, HC5⟩ := hrel
        obtain ⟨w5, rfl⟩ : ∃ w5 : World, w5 = wr := ⟨_, rfl⟩
        by_cases hll : l ≤ tk.length
        · go_wp2
          go_loopw [11] (fun x wr => ∃ i : Nat, i + l ≤ tk.length + 1 ∧ x = .int .i64 i ∧ Aside0 (ChartIs w g.rules tk g.nonterms.length b O Bs (fun a c => a ≤ c ∧ c ≤ tk.length ∧ (c - a < l ∨ c - a = l ∧ a < i)) wr)) (fun x _ => tk.length + 1 - (intOf x).toNat)
          case atStart => exact ⟨0, by omega, rfl, ⟨HC5.out.imp (fun a c h => by omega)⟩⟩
          case round =>
            obtain ⟨i, hi, rfl, HC6⟩ := hrel
            by_cases hil : i + l ≤ tk.length
            · have HF := Lib.hid (show Calls Tryd.prog 44 #[.pointer (some ⟨b, 0, none⟩), .int .i64 i, .int .i64 ((i : Int) + l)] wr _ by
                have h := cfill_is HC6.out (t := g.terms.length) (by omega) (by omega) hn HZ.out i (i + l) (by omega) hil (fun i' j' h1 h2 h3 h4 => by omega)
                rw [Int.natCast_add] at h
                exact h)
              go_wp2_with (go_at_call 44; refine HF.out.mono ?_; rintro e w7 ⟨rfl, hc7⟩; have HC7 := Aside0.mk hc7; clear hc7)
              go_roundw
              case rel => exact ⟨i + 1, by omega, by go_num, ⟨HC7.out.imp (fun a c h => by omega)⟩⟩
              case measure => simp [intOf]; omega
            · go_wp2
              go_roundw
              case rel => exact ⟨l + 1, by omega, by omega, by go_num, ⟨HC6.out.imp (fun a c h => by omega)⟩⟩
              case measure => simp [intOf]; omega
        · go_wp2
          go_ret2
          exact ⟨b, O, Bs, rfl, HC5.out.imp (fun a c h => by omega)⟩
end Go.Proofs.YtndimnomkcjeiaaDoor.Hand
/- Contracts of package member: Sets, From, Derives. -/
namespace Go.Proofs.YtndimnomkcjeiaaDoor.Hand
open Go.RowKit Go.Proofs.YtndimnomkcjeiaaDoorW.PrintWords Go.Proofs.YtndimnomkcjeiaaDoorW.PrintMore Go.Proofs.YtndimnomkcjeiaaDoor.Math

theorem charted_err (v : Value) (g : Gr) (At : Option Addr) (ct : Nat) (tk : List Int) (w : World) (A : Nat → Addr) (hE : ErrsW w A) (hv : GramAt w v g) (hlc : tk.length ≤ ct) (hr : Kd.C (Kd.int .i64) w At tk.length tk) (hok : ¬ (mayN g tk).1 = 0) :
    Calls Tryd.prog 32 #[v, .slice At tk.length ct] w fun e w' => ∃ u, e = .returned (.tuple #[.pointer none, u]) ∧ ErrV w' A u (mayN g tk).1 (mayN g tk).2 ∧ Below w.heap.size w w' := by
  have HV := Lib.hid hv
  obtain ⟨AT, cT, AN, cN, AR, cR, rfl, q1, q2, q3, q4, q5, q6⟩ := hv
  have hlen := hr.2.1
  obtain ⟨w1, hw1⟩ : ∃ w1, w.alloc (.cells #[.slice AT g.terms.length cT, .slice AN g.nonterms.length cN, .int .i64 g.ax, .slice AR g.rules.length cR] 25) = w1 := ⟨_, rfl⟩
  have hb1 : Below w.heap.size w w1 := by rw [← hw1]; exact below_alloc (Below.refl _ _) _
  have hk1 : w1.heap[w.heap.size]? = some (.cells #[.slice AT g.terms.length cT, .slice AN g.nonterms.length cN, .int .i64 g.ax, .slice AR g.rules.length cR] 25 (0, 0)) := by rw [← hw1]; exact heap_alloc_new w _
  obtain ⟨c0, c1, c2, c3⟩ := blk_cells2 hk1
  have HB1 := Lib.hid hb1
  have HM := Lib.hid (may_calls _ g At ct tk w1 A (hE.below hb1) (HV.out.below hb1) hlc (Kd.C_below hr hb1))
  have HOK := Lib.hid hok
  clear hb1 hk1 hE q4 q5 q6 hr hok
  go_enter Tryd.func32, Tryd.ntmps32
  go_wp2_with (go_at_call 42; refine HM.out.mono ?_; rintro e w2 ⟨u, rfl, hu, hb2⟩; have HU := Lib.hid hu; have HB2 := Lib.hid hb2; obtain ⟨T, p, hT, rfl⟩ := hu.iface_of HOK.out; clear hu hb2 hT)
  go_ret2
  exact ⟨_, rfl, HU.out, below_next HB1.out HB2.out⟩
/-- What a right chart holds. -/
structure SetsAt (w0 : World) (g : Gr) (tk : List Int) (O : Nat) (Bs : Nat → Nat) (Tn : Nat → Nat → Nat) (w : World) : Prop where
  bel : Below w0.heap.size w0 w
  out : Row w O (tk.length + 1) (fun i => .slice (some ⟨Bs i, 0, none⟩) (tk.length - i + 1) (tk.length - i + 1))
  inn : ∀ i, i ≤ tk.length → Row w (Bs i) (tk.length - i + 1) (fun d => .int .u64 (Tn i (i + d) : Nat))
  lim : ∀ i j, Tn i j < 2 ^ g.nonterms.length
  is : Exact g.rules tk tk.length g.nonterms.length (tabOf Tn)
  hO : w0.heap.size ≤ O
  hB : ∀ i, i ≤ tk.length → w0.heap.size ≤ Bs i ∧ Bs i ≠ O
  inj : ∀ i j, i ≤ tk.length → j ≤ tk.length → Bs i = Bs j → i = j
theorem ChartIs.sets {w0 w : World} {g : Gr} {tk : List Int} {b O : Nat} {Bs : Nat → Nat} (h : ChartIs w0 g.rules tk g.nonterms.length b O Bs (fun a c => a ≤ c ∧ c ≤ tk.length) w) : ∃ Tn, SetsAt w0 g tk O Bs Tn w ∧ w.cell? ⟨b, 5, none⟩ = some (.slice (some ⟨O, 0, none⟩) (tk.length + 1) (tk.length + 1)) := by
  obtain ⟨Tn, h1, h2, h3⟩ := h
  exact ⟨Tn, ⟨h1.bel, h1.out, h1.inn, h1.lim, fun i j k hij hj hk => ⟨h2 i j k hij hj hk, h3 i j ⟨hij, hj⟩ k hk⟩, h1.hO.1, fun i hi => ⟨(h1.hB i hi).1, (h1.hB i hi).2.2⟩, h1.inj⟩, h1.head⟩
def SetsRes (w0 : World) (A : Nat → Addr) (g : Gr) (tk : List Int) (e : Ending) (w' : World) : Prop :=
  (∃ u, e = .returned (.tuple #[.slice none 0 0, u]) ∧ ¬ (mayN g tk).1 = 0 ∧ ErrV w' A u (mayN g tk).1 (mayN g tk).2 ∧ Below w0.heap.size w0 w') ∨
  (∃ O Bs Tn, e = .returned (.tuple #[.slice (some ⟨O, 0, none⟩) (tk.length + 1) (tk.length + 1), .nilIface]) ∧ (mayN g tk).1 = 0 ∧ SetsAt w0 g tk O Bs Tn w')
theorem msets_calls (v : Value) (g : Gr) (At : Option Addr) (ct : Nat) (tk : List Int) (w : World) (A : Nat → Addr) (hE : ErrsW w A) (hv : GramAt w v g) (hlc : tk.length ≤ ct) (hr : Kd.C (Kd.int .i64) w At tk.length tk) :
    Calls Tryd.prog 12 #[v, .slice At tk.length ct] w fun e w' => SetsRes w A g tk e w' := by
  have HV := Lib.hid hv
  obtain ⟨AT, cT, AN, cN, AR, cR, rfl, q1, q2, q3, q4, q5, q6⟩ := hv
  have hlen := hr.2.1
  obtain ⟨w1, hw1⟩ : ∃ w1, w.alloc (.cells #[.slice AT g.terms.length cT, .slice AN g.nonterms.length cN, .int .i64 g.ax, .slice AR g.rules.length cR] 25) = w1 := ⟨_, rfl⟩
  have hb1 : Below w.heap.size w w1 := by rw [← hw1]; exact below_alloc (Below.refl _ _) _
  have hk1 : w1.heap[w.heap.size]? = some (.cells #[.slice AT g.terms.length cT, .slice AN g.nonterms.length cN, .int .i64 g.ax, .slice AR g.rules.length cR] 25 (0, 0)) := by rw [← hw1]; exact heap_alloc_new w _
  obtain ⟨c0, c1, c2, c3⟩ := blk_cells2 hk1
  have HB1 := Lib.hid hb1
  have HE := Lib.hid (hE.below hb1)
  have HG := Lib.hid (HV.out.below hb1)
  have HT := Lib.hid (Kd.C_below hr hb1)
  clear hb1 hk1 hE q4 q5 q6 hr
  by_cases hok : (mayN g tk).1 = 0
  · have HM := Lib.hid (charted_calls _ g At ct tk w1 A HE.out HG.out hlc HT.out hok)
    have HOK := Lib.hid hok
    clear hok
    go_enter Tryd.func12, Tryd.ntmps12
    go_wp2_with (go_at_call 32; refine HM.out.mono ?_; rintro e w2 ⟨b, O, Bs, rfl, hc⟩; obtain ⟨Tn, hs, h5⟩ := hc.sets; have HS := Lib.hid hs; clear hc hs)
    go_ret2
    have hz := HB1.out.size
    exact .inr ⟨O, Bs, Tn, rfl, HOK.out, below_next HB1.out HS.out.bel, HS.out.out, HS.out.inn, HS.out.lim, HS.out.is, Nat.le_trans hz HS.out.hO, fun i hi => ⟨Nat.le_trans hz (HS.out.hB i hi).1, (HS.out.hB i hi).2⟩, HS.out.inj⟩
  · have HM := Lib.hid (charted_err _ g At ct tk w1 A HE.out HG.out hlc HT.out hok)
    have HOK := Lib.hid hok
    clear hok
    go_enter Tryd.func12, Tryd.ntmps12
    go_wp2_with (go_at_call 32; refine HM.out.mono ?_; rintro e w2 ⟨u, rfl, hu, hb2⟩; have HU := Lib.hid hu; have HB2 := Lib.hid hb2; obtain ⟨T, p, hT, rfl⟩ := hu.iface_of HOK.out; clear hu hb2 hT)
    go_ret2
    exact .inl ⟨_, rfl, HOK.out, HU.out, below_next HB1.out HB2.out⟩
open Classical in
/-- Which error From tells; what it answers. -/
noncomputable def fromK (g : Gr) (tk : List Int) (x : Int) : Nat := if (mayN g tk).1 ≠ 0 then (mayN g tk).1 else if x < 0 ∨ (g.nonterms.length : Int) ≤ x then 1 else 0
noncomputable def fromB (g : Gr) (tk : List Int) (x : Int) : Bool := tb (fromK g tk x = 0 ∧ Der g.rules tk x.toNat 0 tk.length)
set_option maxHeartbeats 1000000 in
set_option maxRecDepth 20000 in
theorem mfrom_calls (v : Value) (g : Gr) (At : Option Addr) (ct : Nat) (tk : List Int) (x : Int) (w : World) (A : Nat → Addr) (hE : ErrsW w A) (hv : GramAt w v g) (hlc : tk.length ≤ ct) (hr : Kd.C (Kd.int .i64) w At tk.length tk) :
    Calls Tryd.prog 20 #[v, .int .i64 x, .slice At tk.length ct] w fun e w' => ∃ u r, e = .returned (.tuple #[.bool (fromB g tk x), u]) ∧ ErrV w' A u (fromK g tk x) r ∧ Below w.heap.size w w' := by
  have HV := Lib.hid hv
  obtain ⟨AT, cT, AN, cN, AR, cR, rfl, q1, q2, q3, q4, q5, q6⟩ := hv
  have hlen := hr.2.1
  have l2 := q5.2.1
  obtain ⟨w1, hw1⟩ : ∃ w1, w.alloc (.cells #[.slice AT g.terms.length cT, .slice AN g.nonterms.length cN, .int .i64 g.ax, .slice AR g.rules.length cR] 25) = w1 := ⟨_, rfl⟩
  have hb1 : Below w.heap.size w w1 := by rw [← hw1]; exact below_alloc (Below.refl _ _) _
  have hk1 : w1.heap[w.heap.size]? = some (.cells #[.slice AT g.terms.length cT, .slice AN g.nonterms.length cN, .int .i64 g.ax, .slice AR g.rules.length cR] 25 (0, 0)) := by rw [← hw1]; exact heap_alloc_new w _
  obtain ⟨c0, c1, c2, c3⟩ := blk_cells2 hk1
  have HB1 := Lib.hid hb1
  have HK1 := Lib.hid hk1
  have HE := Lib.hid (hE.below hb1)
  have HG := Lib.hid (HV.out.below hb1)
  have HT := Lib.hid (Kd.C_below hr hb1)
  clear hb1 hk1 hE q4 q5 q6 hr
  by_cases hok : (mayN g tk).1 = 0
  · have HM := Lib.hid (charted_calls _ g At ct tk w1 A HE.out HG.out hlc HT.out hok)
    have hlim : tk.length ≤ 40 ∧ g.nonterms.length ≤ 60 := by
      have h := hok
      unfold mayN at h
      split at h
      · rename_i h2; exact absurd h h2
      · rename_i h0
        have hz := checkN_zero (g := g) (by simpa using h0)
        split at h
        · cases h
        · exact ⟨by omega, by have := hz.size; omega⟩
    obtain ⟨hn, hN⟩ := hlim
    have HOK := Lib.hid hok
    clear hok
    by_cases hx : x < 0 ∨ (g.nonterms.length : Int) ≤ x
    · have HF : Hid (fromK g tk x = 1 ∧ fromB g tk x = false) := Lib.hid (by
        have h1 : fromK g tk x = 1 := by unfold fromK; rw [if_neg (by simp [HOK.out]), if_pos hx]
        exact ⟨h1, tb_no (by rw [h1]; simp)⟩)
      by_cases hx0 : x < 0
      all_goals
        go_enter Tryd.func20, Tryd.ntmps20
        go_wp2_with (go_at_call 32; refine HM.out.mono ?_; rintro e w2 ⟨b, O, Bs, rfl, hc⟩; obtain ⟨Tn, hs, h5⟩ := hc.sets; have HS := Lib.hid hs; obtain ⟨d0, d1, d2, d3⟩ := blk_cells2 (gblk_keep' HK1.out hs.bel); have e0 : w2.cell? ⟨0, 0, none⟩ = some (.iface 143 (.pointer (some (A 0)))) := (HE.out.below hs.bel).cells 0 (by decide); clear hc hs)
        go_quiet (fail)
        go_wp2
        go_ret2
        exact ⟨.iface 143 (.pointer (some (A 0))), -1, by rw [HF.out.2]; rfl, by rw [HF.out.1]; exact .sent 0 (by omega), pw_below_drewN (below_next HB1.out HS.out.bel) _⟩
    · have HF : Hid (fromK g tk x = 0) := Lib.hid (by unfold fromK; rw [if_neg (by simp [HOK.out]), if_neg hx])
      have hx0 : ¬ x < 0 := by omega
      have hx1 : ¬ (g.nonterms.length : Int) ≤ x := by omega
      clear hx
      obtain ⟨n1, hn1⟩ : ∃ n1 : Nat, n1 = tk.length + 1 := ⟨_, rfl⟩
      have hlt1 : 0 < n1 := by omega
      have hlt2 : tk.length < n1 := by omega
      have HN1 := Lib.hid hn1
      clear hn1
      go_enter Tryd.func20, Tryd.ntmps20
      go_wp2_with (first
        | (go_at_call 32; refine HM.out.mono ?_; rintro e w2 ⟨b, O, Bs, rfl, hc⟩; obtain ⟨Tn, hs, h5⟩ := hc.sets; have HS := Lib.hid hs; obtain ⟨d0, d1, d2, d3⟩ := blk_cells2 (gblk_keep' HK1.out hs.bel); have a1 := hs.out.cell 0 (by omega); have a2 := (hs.inn 0 (by omega)).cell tk.length (by omega); rw [Nat.sub_zero] at a1; rw [Nat.zero_add] at a2; rw [← HN1.out] at a1 h5; have h18 : Tn 0 tk.length < 18446744073709551616 := Nat.lt_of_lt_of_le (hs.lim 0 tk.length) (Nat.le_trans (Nat.pow_le_pow_right (by decide) hN) (by decide)); have HCall := Lib.hid (fun W => has_calls (Tn 0 tk.length) h18 x W); clear hc hs h18)
        | (go_at_call 38; refine (HCall.out _).mono ?_; rintro e w' ⟨rfl, n, rfl⟩))
      go_ret2
      have hxx : ((x.toNat : Nat) : Int) = x := Int.toNat_of_nonneg (by omega)
      have hB : fromB g tk x = hasN (Tn 0 tk.length) x := by
        unfold fromB
        rw [HF.out]
        have := HS.out.is 0 tk.length x.toNat (by omega) (Nat.le_refl _) (by omega)
        unfold tabOf at this
        rw [hxx] at this
        exact (tb_bool (by rw [this]; simp)).symm
      exact ⟨.nilIface, -1, by rw [hB]; rfl, by rw [HF.out]; exact .none, pw_below_drewN (below_next HB1.out HS.out.bel) _⟩
  · have HM := Lib.hid (charted_err _ g At ct tk w1 A HE.out HG.out hlc HT.out hok)
    have HOK := Lib.hid hok
    have HF : Hid (fromK g tk x = (mayN g tk).1 ∧ fromB g tk x = false) := Lib.hid (by
      have h1 : fromK g tk x = (mayN g tk).1 := by unfold fromK; rw [if_pos hok]
      exact ⟨h1, tb_no (by rw [h1]; exact fun h => hok h.1)⟩)
    clear hok
    go_enter Tryd.func20, Tryd.ntmps20
    go_wp2_with (go_at_call 32; refine HM.out.mono ?_; rintro e w2 ⟨u, rfl, hu, hb2⟩; have HU := Lib.hid hu; have HB2 := Lib.hid hb2; obtain ⟨T, p, hT, rfl⟩ := hu.iface_of HOK.out; clear hu hb2 hT)
    go_ret2
    exact ⟨.iface T (.pointer p), _, by rw [HF.out.2]; rfl, by rw [HF.out.1]; exact HU.out, below_next HB1.out HB2.out⟩
theorem mderives_calls (v : Value) (g : Gr) (At : Option Addr) (ct : Nat) (tk : List Int) (w : World) (A : Nat → Addr) (hE : ErrsW w A) (hv : GramAt w v g) (hlc : tk.length ≤ ct) (hr : Kd.C (Kd.int .i64) w At tk.length tk) :
    Calls Tryd.prog 18 #[v, .slice At tk.length ct] w fun e w' => ∃ u r, e = .returned (.tuple #[.bool (fromB g tk g.ax), u]) ∧ ErrV w' A u (fromK g tk g.ax) r ∧ Below w.heap.size w w' := by
  have HV := Lib.hid hv
  obtain ⟨AT, cT, AN, cN, AR, cR, rfl, q1, q2, q3, q4, q5, q6⟩ := hv
  have hlen := hr.2.1
  obtain ⟨w1, hw1⟩ : ∃ w1, w.alloc (.cells #[.slice AT g.terms.length cT, .slice AN g.nonterms.length cN, .int .i64 g.ax, .slice AR g.rules.length cR] 25) = w1 := ⟨_, rfl⟩
  have hb1 : Below w.heap.size w w1 := by rw [← hw1]; exact below_alloc (Below.refl _ _) _
  have hk1 : w1.heap[w.heap.size]? = some (.cells #[.slice AT g.terms.length cT, .slice AN g.nonterms.length cN, .int .i64 g.ax, .slice AR g.rules.length cR] 25 (0, 0)) := by rw [← hw1]; exact heap_alloc_new w _
  obtain ⟨c0, c1, c2, c3⟩ := blk_cells2 hk1
  have HB1 := Lib.hid hb1
  have HM := Lib.hid (mfrom_calls _ g At ct tk g.ax w1 A (hE.below hb1) (HV.out.below hb1) hlc (Kd.C_below hr hb1))
  clear hb1 hk1 hE q4 q5 q6 hr
  go_enter Tryd.func18, Tryd.ntmps18
  go_wp2_with (go_at_call 20; refine HM.out.mono ?_; rintro e w2 ⟨u, r, rfl, hu, hb2⟩; have HU := Lib.hid hu; have HB2 := Lib.hid hb2; clear hu hb2)
  go_ret2
  exact ⟨u, r, rfl, HU.out, below_next HB1.out HB2.out⟩
end Go.Proofs.YtndimnomkcjeiaaDoor.Hand
/- Maps that a call makes, from keys to whole numbers: by what they hold at each key. -/
namespace Go.Proofs.YtndimnomkcjeiaaDoor.Hand
open Go.RowKit Go.Proofs.YtndimnomkcjeiaaDoorW.PrintWords Go.Proofs.YtndimnomkcjeiaaDoorW.PrintMore Go.Proofs.YtndimnomkcjeiaaDoor.Math
open Go.Maps (Keyed)

/-- Block b is a map from keys of type k, all of which satisfy K, to numbers of kind q; it holds F; it has at most n entries. -/
def MapN (w : World) (k e : TypeId) (q : IntKind) (b n : Nat) (K : Value → Prop) (F : Value → Option Int) : Prop :=
  ∃ L : List (Lit × DataW Unit), w.ownsMap Tryd.prog k (plainElem Tryd.prog e) b L.length (.map L) ∧ L.length ≤ n ∧ (∀ p ∈ L, ∃ v, K v ∧ keyOf Tryd.prog k v = some p.1) ∧
    ∀ v kl, keyOf Tryd.prog k v = some kl → (F v = none → Maps.has (.map L) kl = false) ∧ ∀ c, F v = some c → Maps.has (.map L) kl = true ∧ ∀ z, (DataW.map L).atKey kl z = .lit (.int q c)
theorem ownsMap_tight {w : World} {k : TypeId} {R : Value → Option (DataW Unit × List MemPlace)} {b n : Nat} {L : List (Lit × DataW Unit)} (h : w.ownsMap Tryd.prog k R b n (.map L)) : w.ownsMap Tryd.prog k R b L.length (.map L) := by
  obtain ⟨es, clock, hb, F, hs, hD⟩ := h
  refine ⟨es, clock, hb, F, ?_, hD⟩
  injection hD with hD
  rw [hD, length_sorted]
  simp
section
variable {w w' : World} {k e t : TypeId} {q : IntKind} {b n : Nat} {K : Value → Prop} {F : Value → Option Int}
theorem MapN.made (w : World) (k e : TypeId) (q : IntKind) (K : Value → Prop) : MapN (w.alloc (.map #[] 0)) k e q w.heap.size 0 K (fun _ => none) :=
  ⟨[], World.ownsMap_made w _ _ _, Nat.le_refl _, (fun p hp => by cases hp), (fun v kl _ => ⟨(fun _ => rfl), (fun c h => by cases h)⟩)⟩
theorem MapN.block (h : MapN w k e q b n K F) (hb : w'.heap[b]? = w.heap[b]?) : MapN w' k e q b n K F := by
  obtain ⟨L, ⟨es, clock, h1, h2⟩, h3⟩ := h
  exact ⟨L, ⟨es, clock, hb.trans h1, h2⟩, h3⟩
theorem MapN.lt (h : MapN w k e q b n K F) : b < w.heap.size := by
  obtain ⟨L, h1, _⟩ := h
  exact h1.lt
theorem MapN.le {m : Nat} (h : MapN w k e q b n K F) (hm : n ≤ m) : MapN w k e q b m K F := by
  obtain ⟨L, h1, h2, h3⟩ := h
  exact ⟨L, h1, Nat.le_trans h2 hm, h3⟩
theorem MapN.below (h : MapN w k e q b n K F) (hb : Below w.heap.size w w') : MapN w' k e q b n K F := h.block (hb.block b h.lt)
theorem MapN.look (h : MapN w k e q b n K F) (Kd : Keyed Tryd.prog k) (ht : Tryd.prog.underlying t = some (.map k e)) (he : Tryd.prog.underlying e = some (.int q)) (hz : (zeroValue e).run Tryd.prog w = .ok (.int q 0) w) {v : Value} {kl : Lit} (hk : keyOf Tryd.prog k v = some kl) :
    (Instr.lookup t (.map (some b)) v false).run Tryd.prog w = .ok (.int q ((F v).getD 0)) w := by
  obtain ⟨L, h1, _, _, h4⟩ := h
  obtain ⟨c, hrun, hat, _⟩ := h1.lookup_int Kd ht he hz hk
  obtain ⟨a1, a2⟩ := h4 v kl hk
  rw [hrun]
  cases hF : F v with
  | none =>
    rw [Maps.atKey_of_not_has (a1 hF)] at hat
    simp only [DataW.lit.injEq, Lit.int.injEq, true_and] at hat
    subst hat
    first | simp only [Option.getD_none] | simp only [Option.getD_some]
  | some d =>
    rw [(a2 d hF).2] at hat
    simp only [DataW.lit.injEq, Lit.int.injEq, true_and] at hat
    subst hat
    first | simp only [Option.getD_none] | simp only [Option.getD_some]
theorem MapN.lookOk (h : MapN w k e q b n K F) (Kd : Keyed Tryd.prog k) (ht : Tryd.prog.underlying t = some (.map k e)) (he : Tryd.prog.underlying e = some (.int q)) (hz : (zeroValue e).run Tryd.prog w = .ok (.int q 0) w) {v : Value} {kl : Lit} (hk : keyOf Tryd.prog k v = some kl) :
    (Instr.lookup t (.map (some b)) v true).run Tryd.prog w = .ok (.tuple #[.int q ((F v).getD 0), .bool (F v).isSome]) w := by
  obtain ⟨L, h1, _, _, h4⟩ := h
  have hw0 : (Lit.int q 0).wf = true := by cases q <;> decide
  obtain ⟨u, ps, hrun, hv⟩ := h1.look_ok Kd ht hz (plainElem_int he hw0) hk
  obtain ⟨c, rfl, hc, _⟩ := plainElem_int_inv he hv
  simp only [Prod.mk.injEq] at hc
  have hat := hc.1
  obtain ⟨a1, a2⟩ := h4 v kl hk
  rw [hrun]
  cases hF : F v with
  | none =>
    rw [Maps.atKey_of_not_has (a1 hF)] at hat
    simp only [DataW.lit.injEq, Lit.int.injEq, true_and] at hat
    subst hat
    simp only [Option.getD_none, a1 hF, Option.isSome_none]
  | some d =>
    rw [(a2 d hF).2] at hat
    simp only [DataW.lit.injEq, Lit.int.injEq, true_and] at hat
    subst hat
    simp only [Option.getD_some, (a2 d hF).1, Option.isSome_some]
open Classical in
noncomputable def updF (F : Value → Option Int) (v : Value) (c : Int) : Value → Option Int := fun u => if u = v then some c else F u
theorem updF_same {F : Value → Option Int} {v : Value} {c : Int} : updF F v c v = some c := by unfold updF; rw [if_pos rfl]
theorem updF_other {F : Value → Option Int} {u v : Value} {c : Int} (h : u ≠ v) : updF F v c u = F u := by unfold updF; rw [if_neg h]
theorem MapN.store (h : MapN w k e q b n K F) (Kd : Keyed Tryd.prog k) (ht : Tryd.prog.underlying t = some (.map k e)) (he : Tryd.prog.underlying e = some (.int q)) (hn : n < maxLen) {v : Value} {kl : Lit} (hk : keyOf Tryd.prog k v = some kl) (hKv : K v) {c : Int} (hc : (Lit.int q c).wf = true) :
    ∃ w', (Instr.mapUpdate t (.map (some b)) v (.int q c)).run Tryd.prog w = .ok () w' ∧ MapN w' k e q b (n + 1) K (updF F v c) ∧ w.grownBy w' (some b) := by
  obtain ⟨L, h1, h2, h3, h4⟩ := h
  obtain ⟨w', hrun, hown, hg⟩ := h1.update Kd ht (Nat.lt_of_le_of_lt h2 hn) hk (plainElem_int he hc)
  refine ⟨w', hrun, ⟨_, ownsMap_tight hown, ?_, ?_, ?_⟩, hg⟩
  · have := hown.size_le
    simp only [Maps.size] at this
    have e : (DataW.insert (kl, DataW.lit (Lit.int q c)) (L.filter fun p => !p.1.sameKey kl)).length ≤ L.length + 1 := this
    omega
  · intro p hp
    rcases ChangeMaps.mem_insert_iff.1 hp with rfl | hp
    · exact ⟨v, hKv, hk⟩
    · exact h3 p (List.mem_filter.1 hp).1
  · intro u ul hu
    show (updF F v c u = none → Maps.has ((DataW.map L).put kl (.lit (.int q c))) ul = false) ∧ _
    by_cases e : u = v
    · subst e
      obtain rfl : ul = kl := Option.some.inj (hu.symm.trans hk)
      rw [updF_same]
      refine ⟨(fun h => by cases h), (fun d hd => ?_)⟩
      obtain rfl := Option.some.inj hd
      exact ⟨Maps.has_put_same ⟨L, rfl⟩ (Kd.key hk) _, fun z => Maps.atKey_put_same ⟨L, rfl⟩ (Kd.key hk) _ z⟩
    · have hne : ul ≠ kl := fun h => e (Kd.inj hu (by rw [h]; exact hk))
      rw [updF_other e]
      obtain ⟨a1, a2⟩ := h4 u ul hu
      have b1 : Maps.has ((DataW.map L).put kl (.lit (.int q c))) ul = Maps.has (.map L) ul := Maps.has_put_other hne _
      have b2 : ∀ z, ((DataW.map L).put kl (.lit (.int q c))).atKey ul z = (DataW.map L).atKey ul z := fun z => Maps.atKey_put_other hne _ z
      exact ⟨(fun h => b1.trans (a1 h)), (fun d hd => ⟨b1.trans (a2 d hd).1, (fun z => (b2 z).trans ((a2 d hd).2 z))⟩)⟩
theorem nodup_le {α : Type} : ∀ {l m : List α}, l.Pairwise (· ≠ ·) → (∀ x ∈ l, x ∈ m) → l.length ≤ m.length
  | [], _, _, _ => Nat.zero_le _
  | x :: l, m, h, hs => by
    classical
    obtain ⟨h1, h2⟩ := List.pairwise_cons.1 h
    have hx := hs x (List.mem_cons_self ..)
    have := nodup_le (l := l) (m := m.erase x) h2 (fun y hy => (List.mem_erase_of_ne (fun e => h1 y hy e.symm)).2 (hs y (List.mem_cons_of_mem _ hy)))
    rw [List.length_erase_of_mem hx] at this
    have hp := List.length_pos_of_mem hx
    simp only [List.length_cons]
    omega
theorem MapN.trim (h : MapN w k e q b n K F) (Kd : Keyed Tryd.prog k) (box : List Value) (hb : ∀ v, K v → v ∈ box) : MapN w k e q b box.length K F := by
  obtain ⟨L, h1, h2, h3, h4⟩ := h
  refine ⟨L, h1, ?_, h3, h4⟩
  obtain ⟨es, he, hp⟩ := h1.tidy Kd
  injection he with he
  subst he
  have := nodup_le (l := L.map (·.1)) (m := box.filterMap (keyOf Tryd.prog k)) (by rw [List.pairwise_map]; exact hp) (fun x hx => by
    obtain ⟨p, hp, rfl⟩ := List.mem_map.1 hx
    obtain ⟨v, hv, hk⟩ := h3 p hp
    exact List.mem_filterMap.2 ⟨v, hb v hv, hk⟩)
  rw [List.length_map] at this
  exact Nat.le_trans this (List.length_filterMap_le _ _)
end
end Go.Proofs.YtndimnomkcjeiaaDoor.Hand
