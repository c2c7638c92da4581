/- Contracts of dovetailref24: the chart by tables of Booleans: has, cut. -/
import Derived.Test.YtndimnomkcjeiaaDoorMemMath
import Derived.Test.YtndimnomkcjeiaaDoorRow
namespace Go.Proofs.YtndimnomkcjeiaaDoor.Hand
open Go.RowKit Go.Proofs.YtndimnomkcjeiaaDoorW.PrintWords Go.Proofs.YtndimnomkcjeiaaDoorW.PrintMore Go.Proofs.YtndimnomkcjeiaaDoor.Math

/-- The document's chart in memory. -/
structure RChart (w0 : World) (tk : List Int) (N b O cO : Nat) (P cP : Nat → Nat) (Q : Nat → Nat → Nat) (T : Nat → Nat → Nat → Bool) (w : World) : Prop where
  bel : Below w0.heap.size w0 w
  toks : ∃ At ct, tk.length ≤ ct ∧ Kd.C (Kd.int .i64) w0 At tk.length tk ∧ w.cell? ⟨b, 4, none⟩ = some (.slice At tk.length ct)
  head : w.cell? ⟨b, 5, none⟩ = some (.slice (some ⟨O, 0, none⟩) (tk.length + 1) cO)
  out : ∀ i, i ≤ tk.length → w.cell? ⟨O, i, none⟩ = some (.slice (some ⟨P i, 0, none⟩) (tk.length + 1) (cP i))
  mid : ∀ i j, i ≤ tk.length → j ≤ tk.length → w.cell? ⟨P i, j, none⟩ = some (.slice (some ⟨Q i j, 0, none⟩) N N)
  leaf : ∀ i j, i ≤ tk.length → j ≤ tk.length → Row w (Q i j) N (fun k => .bool (T i j k))
  cO1 : tk.length + 1 ≤ cO
  cP1 : ∀ i, i ≤ tk.length → tk.length + 1 ≤ cP i
  hb : w0.heap.size ≤ b
  hQ : ∀ i j, i ≤ tk.length → j ≤ tk.length → w0.heap.size ≤ Q i j ∧ Q i j ≠ b ∧ Q i j ≠ O ∧ ∀ i', i' ≤ tk.length → Q i j ≠ P i'
  inj : ∀ i j i' j', i ≤ tk.length → j ≤ tk.length → i' ≤ tk.length → j' ≤ tk.length → Q i j = Q i' j' → i = i' ∧ j = j'
section
variable {w0 w w' : World} {tk : List Int} {N b O cO : Nat} {P cP : Nat → Nat} {Q : Nat → Nat → Nat} {T : Nat → Nat → Nat → Bool}
theorem RChart.below (h : RChart w0 tk N b O cO P cP Q T w) (hb : Below w.heap.size w w') : RChart w0 tk N b O cO P cP Q T w' := by
  obtain ⟨At, ct, p1, p2, p3⟩ := h.toks
  have hk : ∀ a v, w.cell? a = some v → w'.cell? a = some v := fun a v hv => (hb.cell (World.block_lt_of_cell? w _ hv)).trans hv
  exact ⟨below_next h.bel hb, ⟨At, ct, p1, p2, hk _ _ p3⟩, hk _ _ h.head, fun i hi => hk _ _ (h.out i hi), fun i j hi hj => hk _ _ (h.mid i j hi hj), fun i j hi hj => (h.leaf i j hi hj).below hb, h.cO1, h.cP1, h.hb, h.hQ, h.inj⟩
theorem RChart.put (h : RChart w0 tk N b O cO P cP Q T w) (i j k : Nat) (hi : i ≤ tk.length) (hj : j ≤ tk.length) (hk : k < N) :
    RChart w0 tk N b O cO P cP Q (upd T i j k) (w.setCell ⟨Q i j, k, none⟩ (.bool true)) := by
  obtain ⟨At, ct, p1, p2, p3⟩ := h.toks
  obtain ⟨k1, k2, k3, k4⟩ := h.hQ i j hi hj
  have hc : ∀ a v, Q i j ≠ a.block → w.cell? a = some v → (w.setCell ⟨Q i j, k, none⟩ (.bool true)).cell? a = some v := fun a v ha hv => (World.cell?_setCell_other w _ _ _ (fun e => ha (by rw [← e]))).trans hv
  refine ⟨h.bel.setCell k1 _, ⟨At, ct, p1, p2, hc _ _ k2 p3⟩, hc _ _ k2 h.head, fun a ha => hc _ _ k3 (h.out a ha), fun a c ha hc' => hc _ _ (k4 a ha) (h.mid a c ha hc'), fun a c ha hc' => ?_, h.cO1, h.cP1, h.hb, h.hQ, h.inj⟩
  by_cases e : a = i ∧ c = j
  · obtain ⟨rfl, rfl⟩ := e
    refine ((h.leaf a c ha hc').set k hk (.bool true)).ext (fun q hq => ?_)
    by_cases e2 : q = k
    · subst e2; rw [if_pos rfl, upd_same]
    · rw [if_neg e2]; unfold upd; rw [if_neg (fun x => e2 x.2.2)]
  · refine ((h.leaf a c ha hc').far ⟨Q i j, k, none⟩ (fun q => e ?_) _).ext (fun q hq => by rw [upd_other e])
    obtain ⟨e1, e2⟩ := h.inj i j a c hi hj ha hc' q
    exact ⟨e1.symm, e2.symm⟩
end
theorem rchas_calls {w0 w : World} {tk : List Int} {N b O cO : Nat} {P cP : Nat → Nat} {Q : Nat → Nat → Nat} {T : Nat → Nat → Nat → Bool} (h : RChart w0 tk N b O cO P cP Q T w) (hN : N ≤ 60) (hn : tk.length ≤ 40) (s : Int) (hs : -(N : Int) ≤ s) (hs2 : s < 4611686018427387904) (i j : Nat) (hij : i ≤ j) (hj : j ≤ tk.length) :
    Quiet 60 #[.pointer (some ⟨b, 0, none⟩), .int .i64 s, .int .i64 i, .int .i64 j] w (.bool (Hb T tk s i j)) := by
  unfold Quiet
  obtain ⟨At, ct, p1, p2, p3⟩ := h.toks
  have hlen := p2.2.1
  have p2' := Kd.C_below p2 h.bel
  by_cases h0 : 0 ≤ s
  · by_cases h1 : j = i + 1
    · subst h1
      obtain ⟨ad, y, rfl, hc, HY⟩ := at_nat p2' i (by omega)
      have HE : Hid (Hb T tk s i (i + 1) = (y == s)) := Lib.hid (by unfold Hb; rw [if_pos h0, HY.out]; simp)
      clear h p2 p2'
      have hii : (((i + 1 : Nat) : Int) == (i : Int) + 1) = true := by simp
      go_enter Tryd.func60, Tryd.ntmps60
      go_wp2
      go_ret
      exact ⟨ret_bool (by rw [HE.out]), 0, rfl⟩
    · have HE : Hid (Hb T tk s i j = false) := Lib.hid (by unfold Hb; rw [if_pos h0]; simp [h1])
      clear h p2 p2'
      have hii : ((j : Int) == (i : Int) + 1) = false := by rw [beq_eq_false_iff_ne]; omega
      clear h1
      go_enter Tryd.func60, Tryd.ntmps60
      go_wp2
      go_ret
      exact ⟨ret_bool HE.out.symm, 0, rfl⟩
  · have HE : Hid (Hb T tk s i j = T i j (-1 - s).toNat) := Lib.hid (by unfold Hb; rw [if_neg h0])
    have k1 := h.head
    have k2 := h.out i (by omega)
    have k3 := h.mid i j (by omega) hj
    have k4 := (h.leaf i j (by omega) hj).cell (-1 - s).toNat (by omega)
    have c1 := h.cO1
    have c2 := h.cP1 i (by omega)
    clear h p2 p2' p3
    have d1 : 0 ≤ -1 - s := by omega
    have d2 : -1 - s < (N : Int) := by omega
    go_enter Tryd.func60, Tryd.ntmps60
    go_wp2
    go_ret
    exact ⟨ret_bool HE.out.symm, 0, rfl⟩
/-- Where the symbols so far, and the next one from some of the places, may end: by absolute places. -/
def nextA (T : Nat → Nat → Nat → Bool) (tk l : List Int) (s : Int) (i p q d : Nat) : Prop := ∃ p', i ≤ p' ∧ p' ≤ d ∧ (p' < p ∨ (p' = p ∧ d < q)) ∧ Cut T tk l i p' ∧ Hb T tk s p' d = true
theorem nextA_zero {T : Nat → Nat → Nat → Bool} {tk l : List Int} {s : Int} {i d : Nat} : ¬ nextA T tk l s i i 0 d := by rintro ⟨p', _, _, h, _⟩; omega
theorem nextA_start {T : Nat → Nat → Nat → Bool} {tk l : List Int} {s : Int} {i p d : Nat} : nextA T tk l s i p p d ↔ nextA T tk l s i p 0 d := by
  constructor <;> (rintro ⟨p', h0, h1, h2, h3⟩; exact ⟨p', h0, h1, by omega, h3⟩)
theorem nextA_none {T : Nat → Nat → Nat → Bool} {tk l : List Int} {s : Int} {i p q d : Nat} (h : ¬ Cut T tk l i p) : nextA T tk l s i p q d ↔ nextA T tk l s i (p + 1) 0 d := by
  constructor
  · rintro ⟨p', h0, h1, h2, h3⟩; exact ⟨p', h0, h1, by omega, h3⟩
  · rintro ⟨p', h0, h1, h2, h3⟩
    refine ⟨p', h0, h1, ?_, h3⟩
    rcases Nat.lt_or_ge p' p with h' | h'
    · exact .inl h'
    · obtain rfl : p' = p := by omega
      exact absurd h3.1 h
theorem nextA_full {T : Nat → Nat → Nat → Bool} {tk l : List Int} {s : Int} {i p m d : Nat} (hd : d < m) : nextA T tk l s i p m d ↔ nextA T tk l s i (p + 1) 0 d := by
  constructor <;> (rintro ⟨p', h0, h1, h2, h3⟩; exact ⟨p', h0, h1, by omega, h3⟩)
theorem nextA_step {T : Nat → Nat → Nat → Bool} {tk l : List Int} {s : Int} {i p q : Nat} (hip : i ≤ p) (hpq : p ≤ q) (h : Cut T tk l i p) : nextA T tk l s i p (q + 1) q ↔ (nextA T tk l s i p q q ∨ Hb T tk s p q = true) := by
  constructor
  · rintro ⟨p', h0, h1, h2, h3, h4⟩
    rcases h2 with h2 | ⟨rfl, _⟩
    · exact .inl ⟨p', h0, h1, .inl h2, h3, h4⟩
    · exact .inr h4
  · rintro (⟨p', h0, h1, h2, h3⟩ | h4)
    · exact ⟨p', h0, h1, by omega, h3⟩
    · exact ⟨p, hip, hpq, by omega, h, h4⟩
theorem nextA_other {T : Nat → Nat → Nat → Bool} {tk l : List Int} {s : Int} {i p q d : Nat} (hd : d ≠ q) : nextA T tk l s i p (q + 1) d ↔ nextA T tk l s i p q d := by
  constructor <;> (rintro ⟨p', h0, h1, h2, h3⟩; exact ⟨p', h0, h1, by omega, h3⟩)
theorem nextA_all {T : Nat → Nat → Nat → Bool} {tk l : List Int} {s : Int} {i m d : Nat} (hd : d < m) : nextA T tk l s i m 0 d ↔ Cut T tk (l ++ [s]) i d := by
  rw [Cut_snoc]
  constructor
  · rintro ⟨p', h0, h1, h2, h3, h4⟩; exact ⟨p', h0, h1, h3, h4⟩
  · rintro ⟨p, h1, h2, h3, h4⟩
    exact ⟨p, h1, h2, by omega, h3, h4⟩
set_option maxHeartbeats 1600000 in
set_option maxRecDepth 20000 in
theorem rccut_calls {w0 w : World} {tk : List Int} {N b O cO : Nat} {P cP : Nat → Nat} {Q : Nat → Nat → Nat} {T : Nat → Nat → Nat → Bool} (h : RChart w0 tk N b O cO P cP Q T w) (hN : N ≤ 60) (hn : tk.length ≤ 40) (B : Option Addr) (c : Nat) (r : List Int) (hr : Kd.C (Kd.int .i64) w B r.length r) (hs : ∀ s ∈ r, -(N : Int) ≤ s ∧ s < 4611686018427387904) (i j : Nat) (hij : i ≤ j) (hj : j ≤ tk.length) :
    Calls Tryd.prog 46 #[.pointer (some ⟨b, 0, none⟩), .slice B r.length c, .int .i64 i, .int .i64 j] w fun e w' => e = .returned (.bool (tb (Cut T tk r i j))) ∧ Below w.heap.size w w' := by
  obtain ⟨m, hm⟩ : ∃ m : Nat, m = j + 1 := ⟨_, rfl⟩
  have hmI : ((j : Int) + 1) = (m : Int) := by omega
  have hmk : ∀ W : World, (Instr.makeSlice 73 (.int .i64 ((m : Nat) : Int)) (.int .i64 ((m : Nat) : Int))).run Tryd.prog W = .ok (.slice (some ⟨W.heap.size, 0, none⟩) m m) (W.alloc (.cells (madeCells #[.bool false] m) 4)) :=
    print_make_of (P := Tryd.prog) 73 4 (.bool false) 1 rfl infoBool rfl (by decide) m (by omega)
  have hlen := hr.2.1
  have HH := Lib.hid h
  have HR := Lib.hid hr
  have HS := Lib.hid hs
  have hjm : j < m := by omega
  have hm41 : m ≤ 41 := by omega
  have HMj := Lib.hid hm
  obtain ⟨w1, hw1⟩ : ∃ w1, w.alloc (.cells (madeCells #[.bool false] m) 4) = w1 := ⟨_, rfl⟩
  have hrow1 : Row w1 w.heap.size m (fun _ => .bool false) := by rw [← hw1]; exact Row.made w _ m _
  have hb1 : Below w.heap.size w w1 := by rw [← hw1]; exact below_alloc (Below.refl _ _) _
  have hc1 := hrow1.cell i (by omega)
  have hf1 := hrow1.free i
  have him : i < m := by omega
  have HB2 := Aside0.mk (hb1.setCell (p := ⟨w.heap.size, i, none⟩) (Nat.le_refl _) (.bool true))
  have HR2 := Aside0.mk ((hrow1.set i (by omega) (.bool true)).ext (f' := fun d => .bool (tb (Cut T tk (r.take 0) i d))) (fun q hq => by
    by_cases e : q = i
    · subst e; rw [if_pos rfl, tb_yes]; rfl
    · rw [if_neg e, tb_no]; intro (h : i = q); omega))
  clear h hr hs hrow1 hb1 hm
  go_enter Tryd.func46, Tryd.ntmps46
  go_wp2
  clear hw1 hc1 hf1
  go_loopw [9, 10] (fun v x wr => ∃ (g k : Nat), k ≤ r.length ∧ v = .slice (some ⟨g, 0, none⟩) m m ∧ x = .int .i64 k ∧ Aside0 (w.heap.size ≤ g) ∧ Aside0 (Below w.heap.size w wr) ∧ Aside0 (Row wr g m (fun d => .bool (tb (Cut T tk (r.take k) i d))))) (fun _ x _ => r.length - (intOf x).toNat)
  case atStart => exact ⟨w.heap.size, 0, by omega, rfl, rfl, ⟨Nat.le_refl _⟩, HB2, HR2⟩
  case round =>
    obtain ⟨g, k, hk, rfl, rfl, HG, HB, HRow⟩ := hrel
    obtain ⟨wo, rfl⟩ : ∃ wo : World, wo = wr := ⟨_, rfl⟩
    by_cases hlt : k < r.length
    · obtain ⟨ad, s, rfl, hc, HY⟩ := at_scalar (Kd.C_below HR.out HB.out) k hlt 0
      have HSy := Lib.hid (HS.out s (by rw [← HY.out]; exact getD_mem r k 0 hlt))
      obtain ⟨w3, hw3⟩ : ∃ w3, wo.alloc (.cells (madeCells #[.bool false] m) 4) = w3 := ⟨_, rfl⟩
      have hrow3 : Row w3 wo.heap.size m (fun _ => .bool false) := by rw [← hw3]; exact Row.made wo _ m _
      have hb3 : Below wo.heap.size wo w3 := by rw [← hw3]; exact below_alloc (Below.refl _ _) _
      have HX3 := Aside0.mk (hrow3.ext (f' := fun d => .bool (tb (nextA T tk (r.take k) s i i 0 d))) (fun q hq => by rw [tb_no nextA_zero]))
      have HRow3 := Aside0.mk (HRow.out.below hb3)
      have HB3 := Aside0.mk (below_next HB.out hb3)
      have HBo := Aside0.mk hb3
      have hgne : g ≠ wo.heap.size := Nat.ne_of_lt HRow.out.lt
      have HRb := Lib.hid (fun (W : World) (hW : Below w.heap.size w W) => Kd.C_below HR.out hW)
      clear hrow3 hb3 hc
      go_wp2
      clear hw3
      go_loopw [12] (fun x wr => ∃ p : Nat, i ≤ p ∧ p ≤ m ∧ x = .int .i64 p ∧ Aside0 (Below w.heap.size w wr) ∧ Aside0 (Row wr g m (fun d => .bool (tb (Cut T tk (r.take k) i d)))) ∧ Aside0 (Row wr wo.heap.size m (fun d => .bool (tb (nextA T tk (r.take k) s i p 0 d))))) (fun x _ => m - (intOf x).toNat)
      case atStart => exact ⟨i, by omega, by omega, rfl, HB3, HRow3, HX3⟩
      case round =>
        obtain ⟨p, hip, hp, rfl, HB4, HRow4, HX4⟩ := hrel
        obtain ⟨w4, rfl⟩ : ∃ wo : World, wo = wr := ⟨_, rfl⟩
        by_cases hpm : p ≤ j
        · have hpm' : p < m := by omega
          have hcell := HRow4.out.cell p hpm'
          cases hcut : tb (Cut T tk (r.take k) i p)
          · rw [hcut] at hcell
            have HX5 := Aside0.mk (HX4.out.ext (f' := fun d => .bool (tb (nextA T tk (r.take k) s i (p + 1) 0 d))) (fun q hq => by rw [tb_congr (nextA_none (q := 0) (fun h => by rw [tb_yes h] at hcut; cases hcut))]))
            clear hcut
            go_wp2
            go_roundw
            case rel => exact ⟨p + 1, by omega, by omega, by go_num, HB4, HRow4, HX5⟩
            case measure => simp [intOf]; omega
          · rw [hcut] at hcell
            have HC := Lib.hid (tb_iff.1 hcut)
            clear hcut
            have HX5 := Aside0.mk (HX4.out.ext (f' := fun d => .bool (tb (nextA T tk (r.take k) s i p p d))) (fun q hq => by rw [tb_congr nextA_start]))
            go_wp2
            clear hcell
            go_loopw [13] (fun x wr => ∃ q : Nat, p ≤ q ∧ q ≤ m ∧ x = .int .i64 q ∧ Aside0 (Below w.heap.size w wr) ∧ Aside0 (Row wr g m (fun d => .bool (tb (Cut T tk (r.take k) i d)))) ∧ Aside0 (Row wr wo.heap.size m (fun d => .bool (tb (nextA T tk (r.take k) s i p q d))))) (fun x _ => m - (intOf x).toNat)
            case atStart => exact ⟨p, by omega, by omega, rfl, HB4, HRow4, HX5⟩
            case round =>
              obtain ⟨q, hpq, hq, rfl, HB6, HRow6, HX6⟩ := hrel
              by_cases hqm : q ≤ j
              · have hqm' : q < m := by omega
                have hcq := HX6.out.cell q hqm'
                have hfq := HX6.out.free q
                have hst := HSy.out
                have HCall := Lib.hid (rchas_calls (HH.out.below HB6.out) hN hn s hst.1 hst.2 p q hpq (by omega))
                clear hst
                obtain ⟨ad9, s9, e9, hc9, HY9⟩ := at_scalar (HRb.out _ HB6.out) k hlt 0
                simp only [Option.some.injEq] at e9
                subst e9
                obtain rfl : s = s9 := HY.out.symm.trans HY9.out
                have HZ := Lib.hid HB.out.size
                cases hh : Hb T tk s p q
                · rw [hh] at HCall
                  have HX7 := Lib.hid (fun (n : Nat) => (HX6.out.drewN n).ext (f' := fun d => .bool (tb (nextA T tk (r.take k) s i p (q + 1) d))) (fun d hd => by
                    by_cases e : d = q
                    · subst e; rw [tb_congr (nextA_step hip hpq HC.out)]; congr 1; exact tb_congr (by simp [hh])
                    · rw [tb_congr (nextA_other e)]))
                  clear hh
                  go_wp2_with (go_at_call 60; refine HCall.out.mono ?_; rintro e w' ⟨rfl, n, rfl⟩)
                  go_roundw
                  case rel => exact ⟨q + 1, by omega, by omega, by go_num, ⟨pw_below_drewN HB6.out _⟩, ⟨HRow6.out.drewN _⟩, ⟨HX7.out _⟩⟩
                  case measure => simp [intOf]; omega
                · rw [hh] at HCall
                  have HX7 := Lib.hid (fun (n : Nat) => ((HX6.out.drewN n).set q hqm' (.bool true)).ext (f' := fun d => .bool (tb (nextA T tk (r.take k) s i p (q + 1) d))) (fun d hd => by
                    by_cases e : d = q
                    · subst e; rw [if_pos rfl, tb_yes ((nextA_step hip hpq HC.out).2 (.inr hh))]
                    · rw [if_neg e, tb_congr (nextA_other e)]))
                  clear hh
                  go_wp2_with (go_at_call 60; refine HCall.out.mono ?_; rintro e w' ⟨rfl, n, rfl⟩)
                  go_roundw
                  case rel => exact ⟨q + 1, by omega, by omega, by go_num, ⟨(pw_below_drewN HB6.out _).setCell (p := ⟨wo.heap.size, q, none⟩) HZ.out _⟩, ⟨(HRow6.out.drewN _).far ⟨wo.heap.size, q, none⟩ (Ne.symm hgne) _⟩, ⟨HX7.out _⟩⟩
                  case measure => simp [intOf]; omega
              · have HX7 := Aside0.mk (HX6.out.ext (f' := fun d => .bool (tb (nextA T tk (r.take k) s i (p + 1) 0 d))) (fun d hd => by rw [tb_congr (nextA_full (by have := HMj.out; omega))]))
                go_wp2
                go_roundw
                case rel => exact ⟨p + 1, by omega, by omega, by go_num, HB6, HRow6, HX7⟩
                case measure => simp [intOf]; omega
        · have HX5 := Aside0.mk (HX4.out.ext (f' := fun d => .bool (tb (Cut T tk (r.take (k + 1)) i d))) (fun d hd => by
            obtain rfl : p = m := by have := HMj.out; omega
            rw [take_snocD r k 0 hlt, HY.out, tb_congr (nextA_all hd)]))
          go_wp2
          go_roundw
          case rel => exact ⟨wo.heap.size, k + 1, by omega, rfl, by go_num, ⟨HB.out.size⟩, HB4, HX5⟩
          case measure => simp [intOf]; omega
    · have HE : Hid (r.take k = r) := Lib.hid (List.take_of_length_le (by omega))
      have hcell := HRow.out.cell j hjm
      rw [HE.out] at hcell
      go_wp2
      go_ret
      exact ⟨rfl, HB.out⟩
end Go.Proofs.YtndimnomkcjeiaaDoor.Hand
