/- Contracts of package useful: which nonterminals derive something, which are reached. -/
import Derived.Test.YtagcmhnanngfbaaDoorUseMath
import Derived.Test.YtagcmhnanngfbaaDoorSetsB
import Derived.Test.YtagcmhnanngfbaaDoorMemC
import Derived.Deep.LoopGhost
import Derived.WalkMore
import Derived.ScopeJumps
namespace Go.Proofs.YtagcmhnanngfbaaDoor.Hand
open Go.RowKit Go.Proofs.YtagcmhnanngfbaaDoorW.PrintWords Go.Proofs.YtagcmhnanngfbaaDoorW.PrintMore Go.Proofs.YtagcmhnanngfbaaDoor.Math

/-- A scope that begins with its own label, to which the run jumps back. -/
theorem wp_scope_label {P : Program} {a : Act} {w : World} {Q : Exit → Act → World → Prop} {rest : Code} (l : Nat) (J : Act → World → Prop) (μ : Act → World → Nat) (start : J a w)
    (pass : ∀ a w, J a w → rest.wp P (Exit.jump l (fun a' w' => J a' w' ∧ μ a' w' < μ a w) Q) a w) : (Code.scope ((Code.label l).seq rest)).wp P Q a w := by
  refine wp_scope_jumps l J μ (rest := Code.skip.seq rest) (by simp [findLabel]) ?_ (fun a w h => wp_seq (wp_skip (pass a w h)))
  refine wp_seq (wp_label ?_)
  refine wp_mono (pass a w start) (fun e a' w' h => ?_)
  cases e with
  | goto l' => exact ⟨h.1, h.2.1⟩
  | _ => exact h
theorem within_iff {s t : Nat} (hs : s < 18446744073709551616) : minusN s t = 0 ↔ ∀ i, s.testBit i = true → t.testBit i = true := by
  constructor
  · intro h i hi
    have := minusN_test t hs i
    rw [h, Nat.zero_testBit, hi] at this
    simpa using this
  · intro h
    apply Nat.eq_of_testBit_eq
    intro i
    rw [minusN_test t hs i, Nat.zero_testBit]
    cases hi : s.testBit i
    · rfl
    · rw [h i hi]; rfl
theorem ntN_within {l : List Int} {t : Nat} (hl : ∀ s ∈ l, -(60 : Int) ≤ s) : minusN (ntN l) t = 0 ↔ AllIn (fun k => t.testBit k = true) l := by
  rw [within_iff (ntN_lt l)]
  constructor
  · intro h s hs h0
    exact h _ ((ntN_test hl _).2 ⟨s, hs, h0, rfl⟩)
  · intro h i hi
    obtain ⟨s, hs, h0, rfl⟩ := (ntN_test hl i).1 hi
    exact h s hs h0
theorem unonterms_calls (B : Option Addr) (c : Nat) (l : List Int) (w : World) (hr : Kd.C (Kd.int .i64) w B l.length l) (hl : ∀ s ∈ l, -(60 : Int) ≤ s ∧ s < 4611686018427387904) : Quiet 54 #[.slice B l.length c] w (.int .u64 (ntN l : Nat)) := by
  unfold Quiet
  have hlen := hr.2.1
  have HR := Lib.hid hr
  have HL := Lib.hid hl
  clear hr hl
  go_enter Tryd.func54, Tryd.ntmps54
  go_wp2
  go_loopw [2, 7] (fun a i wr => ∃ (j d x : Nat), j ≤ l.length ∧ i = .int .i64 j ∧ a = .int .u64 x ∧ Hid (x = ntN (l.take j)) ∧ wr = w.drewN d) (fun _ i _ => l.length - (intOf i).toNat)
  case atStart => exact ⟨0, 0, 0, by omega, rfl, rfl, Lib.hid rfl, rfl⟩
  case round =>
    obtain ⟨j, d, x, hj, rfl, rfl, HX, rfl⟩ := hrel
    by_cases hlt : j < l.length
    · obtain ⟨ad, y, rfl, hc, HY⟩ := at_scalar HR.out j hlt 0
      have hy := HL.out y (by rw [← HY.out]; exact getD_mem l j 0 hlt)
      obtain ⟨hy1, hy2⟩ := hy
      have HXL : Hid (x < 18446744073709551616) := Lib.hid (by rw [HX.out]; exact ntN_lt _)
      have HS : Hid (ntN (l.take (j + 1)) = if y < 0 then withN x (-1 - y) else x) := Lib.hid (by rw [take_snocD l j 0 hlt, ntN_snoc, ← HX.out, HY.out])
      by_cases h0 : y < 0
      · go_wp2_with (go_at_call 55; refine (with_calls x HXL.out (-1 - y) _).mono ?_; rintro e w' ⟨rfl, n1, rfl⟩)
        go_roundw
        case rel => exact ⟨j + 1, d + n1, _, by omega, by go_num, rfl, Lib.hid (by rw [HS.out, if_pos h0]), rfl⟩
        case measure => simp [intOf]; omega
      · go_wp2
        go_roundw
        case rel => exact ⟨j + 1, d, _, by omega, by go_num, rfl, Lib.hid (by rw [HS.out, if_neg h0]), rfl⟩
        case measure => simp [intOf]; omega
    · have HE : Hid (x = ntN l) := Lib.hid (by rw [HX.out, List.take_of_length_le (by omega)])
      go_wp2
      go_ret
      exact ⟨ret_int (by rw [HE.out]), _, rfl⟩
/-- A grammar that is right: what is used of it. -/
structure GOk (g : Gr) : Prop where
  size : g.terms.length + g.nonterms.length ≤ 60
  rules : g.rules.length ≤ 120
  ax0 : 0 ≤ g.ax
  ax1 : g.ax < g.nonterms.length
  right : RulesIn g.terms.length g.nonterms.length g.rules
theorem GOk.of {g : Gr} (h : (checkN g).1 = 0) : GOk g := by
  obtain ⟨z1, z2, z3, z4, z5, z6, z7⟩ := checkN_zero h
  exact ⟨z1, z2, z5, z6, z7⟩
set_option maxHeartbeats 1000000 in
set_option maxRecDepth 20000 in
theorem uproductive_calls (v : Value) (g : Gr) (w : World) (hv : GramAt w v g) (hc : GOk g) :
    Calls Tryd.prog 36 #[v] w fun e w' => e = .returned (.int .u64 ((setOf g.nonterms.length (PD g.rules) : Nat) : Int)) ∧ Below w.heap.size w w' := by
  have HV := Lib.hid hv
  obtain ⟨AT, cT, AN, cN, AR, cR, rfl, q1, q2, q3, q4, q5, q6⟩ := hv
  have hlr := q6.2.1
  obtain ⟨w1, hw1⟩ : ∃ w1, w.alloc (.cells #[.slice AT g.terms.length cT, .slice AN g.nonterms.length cN, .int .i64 g.ax, .slice AR g.rules.length cR] 25) = w1 := ⟨_, rfl⟩
  have hb1 : Below w.heap.size w w1 := by rw [← hw1]; exact below_alloc (Below.refl _ _) _
  have hk1 : w1.heap[w.heap.size]? = some (.cells #[.slice AT g.terms.length cT, .slice AN g.nonterms.length cN, .int .i64 g.ax, .slice AR g.rules.length cR] 25 (0, 0)) := by rw [← hw1]; exact heap_alloc_new w _
  have HB1 := Lib.hid hb1
  have HK1 := Lib.hid hk1
  have HR := Lib.hid (Kd.C_below q6 hb1)
  have HC := Lib.hid hc
  clear hb1 hk1 q4 q5 q6 hc
  go_enter Tryd.func36, Tryd.ntmps36
  go_wp2
  clear hw1
  have HJ : ∃ J : Act → World → Prop, Hid (J = fun a' w' => ∃ (s : Nat) (u3 u4 u5 u6 u7 u8 u9 u10 u11 u12 u13 u14 u15 u16 u17 u18 u19 u20 u21 u22 u23 u24 u25 u26 u27 u28 u29 : Value), a' = { tmps := #[.agg #[.slice AT g.terms.length cT, .slice AN g.nonterms.length cN, .int .i64 g.ax, .slice AR g.rules.length cR], .pointer (some ⟨w.heap.size, 0, none⟩), .int .u64 s, u3, u4, u5, u6, u7, u8, u9, u10, u11, u12, u13, u14, u15, u16, u17, u18, u19, u20, u21, u22, u23, u24, u25, u26, u27, u28, u29], defers := [] } ∧ s < 2 ^ g.nonterms.length ∧ (∀ k, k < g.nonterms.length → s.testBit k = true → PD g.rules k) ∧ Below w1.heap.size w1 w') := ⟨_, Lib.hid rfl⟩
  obtain ⟨J, HJ⟩ := HJ
  refine wp_scope_label 0 J (fun a' _ => miss g.nonterms.length (fun k => (intOf (a'.tmps.getD 2 undef)).toNat.testBit k)) ?_ ?_
  · rw [HJ.out]
    exact ⟨0, _, _, _, _, _, _, _, _, _, _, _, _, _, _, _, _, _, _, _, _, _, _, _, _, _, _, _, rfl, Nat.two_pow_pos _, fun k hk h => by simp at h, Below.refl _ _⟩
  · intro a' w' hJ
    rw [HJ.out] at hJ
    obtain ⟨s, u3, u4, u5, u6, u7, u8, u9, u10, u11, u12, u13, u14, u15, u16, u17, u18, u19, u20, u21, u22, u23, u24, u25, u26, u27, u28, u29, rfl, hs, HS, HBW⟩ := hJ
    have HB := Lib.hid HBW
    obtain ⟨c0, c1, c2, c3⟩ := blk_cells2 (gblk_keep' HK1.out HBW)
    have HSS := Lib.hid HS
    have HS2 := Lib.hid hs
    clear HBW HS
    go_wp2
    go_loopw [2, 8] (fun a x wr => ∃ k : Nat, k ≤ g.rules.length ∧ a = .int .u64 s ∧ x = .int .i64 k ∧ Aside0 (Below w'.heap.size w' wr) ∧ Aside0 (∀ k', k' < k → s.testBit (g.rules.getD k' (0, [])).1.toNat = true ∨ ¬ AllIn (fun n => s.testBit n = true) (g.rules.getD k' (0, [])).2)) (fun _ x _ => g.rules.length - (intOf x).toNat)
    case atStart => exact ⟨0, by omega, rfl, rfl, ⟨Below.refl _ _⟩, ⟨fun k' h => by omega⟩⟩
    case round =>
      obtain ⟨k, hk, rfl, rfl, HB2, HX⟩ := hrel
      obtain ⟨wo, rfl⟩ : ∃ wo : World, wo = wr := ⟨_, rfl⟩
      by_cases hlt : k < g.rules.length
      · obtain ⟨ad, x, B, c, r, rfl, k1, k2, hrc, hr, HD⟩ := at_rule (Kd.C_below HR.out (below_next HB.out HB2.out)) k hlt
        have hRr : Hid ((x, r) ∈ g.rules) := Lib.hid (by rw [← HD.out]; exact getD_mem g.rules k _ hlt)
        have hx0 : 0 ≤ x := (HC.out.right.left hRr.out).1
        have hxN : x < g.nonterms.length := (HC.out.right.left hRr.out).2
        obtain ⟨w3, hw3⟩ : ∃ w3, wo.alloc (.cells #[.int .i64 x, .slice B r.length c] 56) = w3 := ⟨_, rfl⟩
        have hb3 : Below wo.heap.size wo w3 := by rw [← hw3]; exact below_alloc (Below.refl _ _) _
        have r0 : w3.cell? ⟨wo.heap.size, 0, none⟩ = some (.int .i64 x) := by rw [← hw3]; simp [go_sem]
        have r1 : w3.cell? ⟨wo.heap.size, 1, none⟩ = some (.slice B r.length c) := by rw [← hw3]; simp [go_sem]
        have HB3 := Aside0.mk (below_next HB2.out hb3)
        have HR3 := Lib.hid (Kd.C_below hr hb3)
        clear hr hb3
        have h18 : s < 18446744073709551616 := lt_u64 HS2.out (by have := HC.out.size; omega)
        have HL : Hid (∀ z ∈ r, -(60 : Int) ≤ z ∧ z < 4611686018427387904) := Lib.hid (fun z hz => by have := HC.out.right.sym hRr.out hz; have := HC.out.size; omega)
        have HHas := Lib.hid (fun W => has_calls s h18 x W)
        have HNt := Lib.hid (fun (n : Nat) => unonterms_calls B c r (w3.drewN n) (Kd.C_drewN HR3.out n) HL.out)
        have HWi := Lib.hid (fun W => within_calls (ntN r) s (ntN_lt r) h18 W)
        have HWith := Lib.hid (fun W => with_calls s h18 x W)
        clear h18
        cases hhas : hasN s x
        · rw [hhas] at HHas
          cases hin : decide (minusN (ntN r) s = 0)
          · rw [hin] at HWi
            go_wp2_with (first
              | (go_at_call 52; refine (HHas.out _).mono ?_; rintro e w' ⟨rfl, n1, rfl⟩)
              | (go_at_call 54; refine (HNt.out _).mono ?_; rintro e w' ⟨rfl, n2, rfl⟩)
              | (go_at_call 53; refine (HWi.out _).mono ?_; rintro e w' ⟨rfl, n3, rfl⟩))
            have HN := Lib.hid hin
            clear hin
            go_roundw
            case rel => exact ⟨k + 1, by omega, rfl, by go_num, ⟨pw_below_drewN HB3.out _⟩, ⟨fun k' hk' => by
              rcases Nat.lt_or_ge k' k with h' | h'
              · exact HX.out k' h'
              · obtain rfl : k' = k := by omega
                rw [HD.out]; exact .inr (fun h => of_decide_eq_false HN.out ((ntN_within (fun z hz => (HL.out z hz).1)).2 h))⟩⟩
            case measure => simp [intOf]; omega
          · rw [hin] at HWi
            go_wp2_with (first
              | (go_at_call 52; refine (HHas.out _).mono ?_; rintro e w' ⟨rfl, n1, rfl⟩)
              | (go_at_call 54; refine (HNt.out _).mono ?_; rintro e w' ⟨rfl, n2, rfl⟩)
              | (go_at_call 53; refine (HWi.out _).mono ?_; rintro e w' ⟨rfl, n3, rfl⟩)
              | (go_at_call 55; refine (HWith.out _).mono ?_; rintro e w' ⟨rfl, n4, rfl⟩))
            go_step3
            have hx63 : x ≤ 63 := by have := HC.out.size; omega
            have hN64 : g.nonterms.length ≤ 64 := by have := HC.out.size; omega
            have HN3 := Lib.hid hin
            have HH := Lib.hid hhas
            clear hin hhas
            refine (show (0 = 0) ∧ (J _ _ ∧ miss g.nonterms.length (fun k => (withN s x).testBit k) < miss g.nonterms.length (fun k => s.testBit k)) from ⟨rfl, ?_, ?_⟩)
            · rw [HJ.out]
              refine ⟨withN s x, _, _, _, _, _, _, _, _, _, _, _, _, _, _, _, _, _, _, _, _, _, _, _, _, _, _, _, rfl, withN_lt2 HS2.out hx0 hxN hN64, fun k hk h => ?_, pw_below_drewN (below_next HB.out HB3.out) _⟩
              rw [withN_test hx0 hx63, Bool.or_eq_true, decide_eq_true_eq] at h
              rcases h with h | rfl
              · exact HSS.out k hk h
              · have hA := (ntN_within (t := s) (fun z hz => (HL.out z hz).1)).1 (of_decide_eq_true HN3.out)
                exact PD.mk (x, r) hRr.out (fun z hz h0 => HSS.out _ (by have := HC.out.right.sym hRr.out hz; omega) (hA z hz h0))
            · refine miss_lt (fun k hk h => ?_) (k := x.toNat) (by omega) ?_ ?_
              · rw [withN_test hx0 hx63, h, Bool.true_or]
              · rw [← hasN_nat hx0 hx63]; exact HH.out
              · rw [withN_test hx0 hx63]; simp
        · rw [hhas] at HHas
          have HT : Hid (s.testBit x.toNat = true) := Lib.hid (by unfold hasN at hhas; rw [Bool.and_eq_true] at hhas; exact hhas.2)
          clear hhas
          go_wp2_with (go_at_call 52; refine (HHas.out _).mono ?_; rintro e w' ⟨rfl, n1, rfl⟩)
          go_roundw
          case rel => exact ⟨k + 1, by omega, rfl, by go_num, ⟨pw_below_drewN HB3.out _⟩, ⟨fun k' hk' => by
            rcases Nat.lt_or_ge k' k with h' | h'
            · exact HX.out k' h'
            · obtain rfl : k' = k := by omega
              rw [HD.out]; exact .inl HT.out⟩⟩
          case measure => simp [intOf]; omega
      · have HE : Hid (s = setOf g.nonterms.length (PD g.rules)) := Lib.hid (by
          refine SetIs.of ⟨HS2.out, fun n hn => ⟨HSS.out n hn, fun hp => ?_⟩⟩ (by have := HC.out.size; omega)
          refine PD.closed (S := fun n => s.testBit n = true) (fun r hr hin => ?_) hp
          obtain ⟨k', hk', rfl⟩ := List.getElem_of_mem hr
          have h := HX.out k' (by omega)
          rw [List.getD_eq_getElem?_getD, List.getElem?_eq_getElem hk', Option.getD_some] at h
          exact h.resolve_right (fun h => h hin))
        go_wp2
        simp only [Exit.jump]
        go_ret
        exact ⟨ret_int (by rw [HE.out]), below_next (below_next HB1.out HB.out) HB2.out⟩
theorem lit_C {α : Type} {enc : α → Value} (h1 : ∀ x, (enc x).oneCell' = true) (xs : List α) (W : World) (T : TypeId) (hx : xs.length ≤ 9223372036854775807) : (Kd.scalar enc h1).C (W.alloc (.cells (xs.map enc).toArray T)) (some ⟨W.heap.size, 0, none⟩) xs.length xs := by
  refine ⟨rfl, hx, fun _ => ⟨⟨W.heap.size, 0, none⟩, rfl, fun j p hj => ⟨[enc p], rfl, rfl, fun i u hu => ?_⟩⟩⟩
  have h0 : i = 0 := by
    have := (List.getElem?_eq_some_iff.1 hu).1
    simp at this
    exact this
  subst h0
  simp at hu
  subst hu
  have e : ((⟨W.heap.size, 0, none⟩ : Addr).add j) = ⟨W.heap.size, j, none⟩ := by unfold Addr.add; by_cases h : j = 0 <;> simp [h]
  have hc := World.cell?_alloc_new W (xs.map enc).toArray T j
  show (W.alloc _).cell? ((⟨W.heap.size, 0, none⟩ : Addr).add (j * 1 + 0)) = _
  rw [Nat.mul_one, Nat.add_zero, e, hc]
  simp [hj]
set_option maxHeartbeats 1600000 in
set_option maxRecDepth 20000 in
theorem ureached_calls (v : Value) (g : Gr) (I : Nat) (w : World) (hI : I < 18446744073709551616) (hv : GramAt w v g) (hc : GOk g) :
    Calls Tryd.prog 37 #[v, .int .u64 I] w fun e w' => e = .returned (.int .u64 ((setOf g.nonterms.length (RD g.rules g.ax.toNat (fun k => I.testBit k = true)) : Nat) : Int)) ∧ Below w.heap.size w w' := by
  have HV := Lib.hid hv
  obtain ⟨AT, cT, AN, cN, AR, cR, rfl, q1, q2, q3, q4, q5, q6⟩ := hv
  have hlr := q6.2.1
  obtain ⟨w1, hw1⟩ : ∃ w1, w.alloc (.cells #[.slice AT g.terms.length cT, .slice AN g.nonterms.length cN, .int .i64 g.ax, .slice AR g.rules.length cR] 25) = w1 := ⟨_, rfl⟩
  have hb1 : Below w.heap.size w w1 := by rw [← hw1]; exact below_alloc (Below.refl _ _) _
  have hk1 : w1.heap[w.heap.size]? = some (.cells #[.slice AT g.terms.length cT, .slice AN g.nonterms.length cN, .int .i64 g.ax, .slice AR g.rules.length cR] 25 (0, 0)) := by rw [← hw1]; exact heap_alloc_new w _
  obtain ⟨c0, c1, c2, c3⟩ := blk_cells2 hk1
  have HB1 := Lib.hid hb1
  have HK1 := Lib.hid hk1
  have HR := Lib.hid (Kd.C_below q6 hb1)
  have HC := Lib.hid hc
  have HI := Lib.hid hI
  have HOf := Lib.hid (fun (T : TypeId) => of_calls (some ⟨w1.heap.size, 0, none⟩) 1 [g.ax] (w1.alloc (.cells #[.int .i64 g.ax] T)) (lit_C (enc := Value.int .i64) (fun _ => rfl) [g.ax] w1 T (by simp)))
  have HX : Hid (∀ k, k < g.nonterms.length → ((ofN [g.ax]).testBit k = true ↔ k = g.ax.toNat)) := Lib.hid (fun k hk => by
    have := hc.ax0
    have := hc.ax1
    have := hc.size
    show (withN 0 g.ax).testBit k = true ↔ _
    rw [withN_test (by omega) (by omega), Nat.zero_testBit, Bool.false_or, decide_eq_true_eq]
    exact ⟨fun h => h.symm, fun h => h.symm⟩)
  have HXL : Hid (ofN [g.ax] < 2 ^ g.nonterms.length) := Lib.hid (withN_lt2 (s := 0) (Nat.two_pow_pos _) hc.ax0 hc.ax1 (by have := hc.size; omega))
  clear hb1 hk1 q4 q5 q6 hc hI
  go_enter Tryd.func37, Tryd.ntmps37
  go_wp2
  go_step3
  go_wp2_with (go_at_call 69; refine (HOf.out _).mono ?_; rintro e w' ⟨rfl, n1, rfl⟩)
  go_step3
  go_wp2
  obtain ⟨w2, hw2⟩ : ∃ w2, (w1.alloc (.cells #[.int .i64 g.ax] 3)).drewN n1 = w2 := ⟨_, rfl⟩
  rw [hw2]
  have HB2 := Aside0.mk (show Below w1.heap.size w1 w2 by rw [← hw2]; exact pw_below_drewN (below_alloc (Below.refl _ _) _) _)
  clear hw2 hw1 c0 c1 c2 c3
  obtain ⟨s0, hs0⟩ : ∃ s0, ofN [g.ax] = s0 := ⟨_, rfl⟩
  rw [hs0] at HX HXL ⊢
  clear hs0
  go_loopg [5] (miss g.nonterms.length (fun k => s0.testBit k)) (fun m a wr => ∃ s : Nat, a = .int .u64 s ∧ Aside0 (s < 2 ^ g.nonterms.length) ∧ Aside0 (∀ k, k < g.nonterms.length → s.testBit k = true → RD g.rules g.ax.toNat (fun k => I.testBit k = true) k) ∧ Aside0 (s.testBit g.ax.toNat = true) ∧ Aside0 (Below w1.heap.size w1 wr) ∧ Aside0 (m = miss g.nonterms.length (fun k => s.testBit k)))
  case atStart => exact ⟨s0, rfl, ⟨HXL.out⟩, ⟨fun k hk h => by rw [(HX.out k hk).1 h]; exact .base⟩, ⟨(HX.out _ (by have := HC.out.ax0; have := HC.out.ax1; omega)).2 rfl⟩, HB2, ⟨rfl⟩⟩
  case round =>
    obtain ⟨s, rfl, HS2, HSS, HAx, HBW, HM⟩ := hrel
    obtain ⟨w', rfl⟩ : ∃ wo : World, wo = wr := ⟨_, rfl⟩
    obtain ⟨c0, c1, c2, c3⟩ := blk_cells2 (gblk_keep' HK1.out HBW.out)
    go_wp2
    clear c0 c1 c2 c3
    go_loopw [5, 16] (fun a x wr => ∃ k : Nat, k ≤ g.rules.length ∧ a = .int .u64 s ∧ x = .int .i64 k ∧ Aside0 (Below w'.heap.size w' wr) ∧ Aside0 (∀ k', k' < k → ¬ s.testBit (g.rules.getD k' (0, [])).1.toNat = true ∨ ¬ AllIn (fun n => I.testBit n = true) (g.rules.getD k' (0, [])).2 ∨ AllIn (fun n => s.testBit n = true) (g.rules.getD k' (0, [])).2)) (fun _ x _ => g.rules.length - (intOf x).toNat)
    case atStart => exact ⟨0, by omega, rfl, rfl, ⟨Below.refl _ _⟩, ⟨fun k' h => by omega⟩⟩
    case round =>
      obtain ⟨k, hk, rfl, rfl, HBx, HX2⟩ := hrel
      obtain ⟨wo, rfl⟩ : ∃ wo : World, wo = wr := ⟨_, rfl⟩
      by_cases hlt : k < g.rules.length
      · obtain ⟨ad, x, B, c, r, rfl, k1, k2, hrc, hr, HD⟩ := at_rule (Kd.C_below HR.out (below_next HBW.out HBx.out)) k hlt
        have hRr : Hid ((x, r) ∈ g.rules) := Lib.hid (by rw [← HD.out]; exact getD_mem g.rules k _ hlt)
        have hx0 : 0 ≤ x := (HC.out.right.left hRr.out).1
        have hxN : x < g.nonterms.length := (HC.out.right.left hRr.out).2
        have HL : Hid (∀ z ∈ r, -(60 : Int) ≤ z ∧ z < 4611686018427387904) := Lib.hid (fun z hz => by have := HC.out.right.sym hRr.out hz; have := HC.out.size; omega)
        have HLN : Hid (∀ z ∈ r, -(g.nonterms.length : Int) ≤ z) := Lib.hid (fun z hz => (HC.out.right.sym hRr.out hz).1)
        obtain ⟨w3, hw3⟩ : ∃ w3, wo.alloc (.cells #[.int .i64 x, .slice B r.length c] 56) = w3 := ⟨_, rfl⟩
        have hb3 : Below wo.heap.size wo w3 := by rw [← hw3]; exact below_alloc (Below.refl _ _) _
        have r0 : w3.cell? ⟨wo.heap.size, 0, none⟩ = some (.int .i64 x) := by rw [← hw3]; simp [go_sem]
        have r1 : w3.cell? ⟨wo.heap.size, 1, none⟩ = some (.slice B r.length c) := by rw [← hw3]; simp [go_sem]
        have HB3 := Aside0.mk (below_next HBx.out hb3)
        have HR3 := Lib.hid (Kd.C_below hr hb3)
        have HNt := Lib.hid (fun (n : Nat) => unonterms_calls B c r (w3.drewN n) (Kd.C_drewN HR3.out n) HL.out)
        clear hr hb3
        have h18 : s < 18446744073709551616 := lt_u64 HS2.out (by have := HC.out.size; omega)
        have hN64 : g.nonterms.length ≤ 64 := by have := HC.out.size; omega
        have hx63 : x ≤ 63 := by have := HC.out.size; omega
        have HHas := Lib.hid (fun W => has_calls s h18 x W)
        have HWI := Lib.hid (fun W => within_calls (ntN r) I (ntN_lt r) HI.out W)
        have HWS := Lib.hid (fun W => within_calls (ntN r) s (ntN_lt r) h18 W)
        have HUn := Lib.hid (fun (W : World) (T : TypeId) => union_calls (some ⟨W.heap.size, 0, none⟩) 2 [s, ntN r] (W.alloc (.cells #[.int .u64 ((s : Nat) : Int), .int .u64 ((ntN r : Nat) : Int)] T)) (lit_C (enc := fun n : Nat => Value.int .u64 (n : Int)) (fun _ => rfl) [s, ntN r] W T (by simp)) (fun z hz => by
          rcases List.mem_cons.1 hz with rfl | hz
          · exact h18
          · rw [List.mem_singleton.1 hz]; exact ntN_lt r))
        rw [hasN_nat hx0 hx63] at HHas
        have HIW : Hid (minusN (ntN r) I = 0 ↔ AllIn (fun n => I.testBit n = true) r) := Lib.hid (ntN_within (fun z hz => (HL.out z hz).1))
        have HSW : Hid (minusN (ntN r) s = 0 ↔ AllIn (fun n => s.testBit n = true) r) := Lib.hid (ntN_within (fun z hz => (HL.out z hz).1))
        obtain ⟨b1, hb1⟩ : ∃ b, s.testBit x.toNat = b := ⟨_, rfl⟩
        obtain ⟨b2, hb2⟩ : ∃ b, decide (minusN (ntN r) I = 0) = b := ⟨_, rfl⟩
        obtain ⟨b3, hb3⟩ : ∃ b, decide (minusN (ntN r) s = 0) = b := ⟨_, rfl⟩
        rw [hb1] at HHas
        rw [hb2] at HWI
        rw [hb3] at HWS
        have HD1 := Lib.hid hb1
        have HD2 := Lib.hid hb2
        have HD3 := Lib.hid hb3
        clear hb1 hb2 hb3 h18
        have hcase : (b1 = true ∧ b2 = true ∧ b3 = false) ∨ (b1 = false) ∨ (b1 = true ∧ b2 = false) ∨ (b1 = true ∧ b2 = true ∧ b3 = true) := by
          cases b1 <;> cases b2 <;> cases b3 <;> simp
        rcases hcase with ⟨rfl, rfl, rfl⟩ | rfl | ⟨rfl, rfl⟩ | ⟨rfl, rfl, rfl⟩
        · go_wp2_with (first
            | (go_at_call 52; refine (HHas.out _).mono ?_; rintro e w' ⟨rfl, n2, rfl⟩)
            | (go_at_call 54; refine (HNt.out 0).mono ?_; rintro e w' ⟨rfl, n3, rfl⟩)
            | (go_at_call 53; have n4' := n4; refine (HWS.out _).mono ?_; rintro e w' ⟨rfl, n5, rfl⟩)
            | (go_at_call 53; refine (HWI.out _).mono ?_; rintro e w' ⟨rfl, n4, rfl⟩)
            | (go_at_call 70; refine (HUn.out _ _).mono ?_; rintro e w' ⟨rfl, n6, rfl⟩))
          obtain ⟨s', hs'⟩ : ∃ s', unionN [s, ntN r] = s' := ⟨_, rfl⟩
          have HT : Hid (∀ j, s'.testBit j = (s.testBit j || (ntN r).testBit j)) := Lib.hid (fun j => by rw [← hs']; simp [unionN])
          have HL2 : Hid (s' < 2 ^ g.nonterms.length) := Lib.hid (by
            have e : s' = s ||| ntN r := Nat.eq_of_testBit_eq (fun j => by rw [HT.out j, Nat.testBit_or])
            rw [e]
            exact Nat.or_lt_two_pow HS2.out (ntN_lt2 hN64 r HLN.out))
          rw [hs']
          clear hs'
          go_roundg (miss g.nonterms.length (fun k => s'.testBit k))
          case rel =>
            refine ⟨s', rfl, ⟨HL2.out⟩, ⟨fun k hk h => ?_⟩, ⟨by rw [HT.out, HAx.out]; rfl⟩, ⟨pw_below_drewN (below_alloc (pw_below_drewN (below_next HBW.out HB3.out) _) _) _⟩, ⟨rfl⟩⟩
            rw [HT.out, Bool.or_eq_true] at h
            rcases h with h | h
            · exact HSS.out k hk h
            · obtain ⟨z, hz, h0, rfl⟩ := (ntN_test (fun z hz => (HL.out z hz).1) k).1 h
              exact .step (x, r) hRr.out (HSS.out _ (by omega) HD1.out) (HIW.out.1 (of_decide_eq_true HD2.out)) z hz h0
          case measure =>
            have hm := HM.out
            rw [hm]
            obtain ⟨z, hz, h0, hn⟩ := not_allIn (fun h => of_decide_eq_false HD3.out (HSW.out.2 h))
            refine miss_lt (fun k hk h => by rw [HT.out, h, Bool.true_or]) (k := (-1 - z).toNat) (by have := HLN.out z hz; omega) (by simpa using hn) ?_
            rw [HT.out, Bool.or_eq_true]
            exact .inr ((ntN_test (fun z hz => (HL.out z hz).1) _).2 ⟨z, hz, h0, rfl⟩)
        all_goals
          go_wp2_with (first
            | (go_at_call 52; refine (HHas.out _).mono ?_; rintro e w' ⟨rfl, n2, rfl⟩)
            | (go_at_call 54; refine (HNt.out 0).mono ?_; rintro e w' ⟨rfl, n3, rfl⟩)
            | (go_at_call 53; have n4' := n4; refine (HWS.out _).mono ?_; rintro e w' ⟨rfl, n5, rfl⟩)
            | (go_at_call 53; refine (HWI.out _).mono ?_; rintro e w' ⟨rfl, n4, rfl⟩)
            | (go_at_call 70; refine (HUn.out _ _).mono ?_; rintro e w' ⟨rfl, n6, rfl⟩))
          go_roundw
          case rel => exact ⟨k + 1, by omega, rfl, by go_num, ⟨pw_below_drewN HB3.out _⟩, ⟨fun k' hk' => by
            rcases Nat.lt_or_ge k' k with h' | h'
            · exact HX2.out k' h'
            · obtain rfl : k' = k := by omega
              rw [HD.out]
              first
                | exact .inl (by rw [HD1.out]; decide)
                | exact .inr (.inl (fun h => of_decide_eq_false HD2.out (HIW.out.2 h)))
                | exact .inr (.inr (HSW.out.1 (of_decide_eq_true HD3.out)))⟩⟩
          case measure => simp [intOf]; omega
      · have HE : Hid (s = setOf g.nonterms.length (RD g.rules g.ax.toNat (fun k => I.testBit k = true))) := Lib.hid (by
          refine SetIs.of ⟨HS2.out, fun n hn => ⟨HSS.out n hn, fun hp => ?_⟩⟩ (by have := HC.out.size; omega)
          refine RD.closed (S := fun n => s.testBit n = true) HAx.out (fun r hr h1 hin => ?_) hp
          obtain ⟨k', hk', rfl⟩ := List.getElem_of_mem hr
          have h := HX2.out k' (by omega)
          rw [List.getD_eq_getElem?_getD, List.getElem?_eq_getElem hk', Option.getD_some] at h
          rcases h with h | h | h
          · exact absurd h1 h
          · exact absurd hin h
          · exact h)
        go_wp2
        rw [Exit.noGoto_ret]
        go_ret
        exact ⟨ret_int (by rw [HE.out]), below_next (below_next HB1.out HBW.out) HBx.out⟩
end Go.Proofs.YtagcmhnanngfbaaDoor.Hand
