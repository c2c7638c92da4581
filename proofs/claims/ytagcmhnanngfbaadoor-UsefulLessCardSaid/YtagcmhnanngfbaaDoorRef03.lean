/- Contracts of dovetailref03.named and Check: they tell of every grammar what the plain words tell. -/
import Derived.Test.YtagcmhnanngfbaaDoorGramMath
namespace Go.Proofs.YtagcmhnanngfbaaDoor.Hand
open Go.RowKit Go.Proofs.YtagcmhnanngfbaaDoorW.PrintWords Go.Proofs.YtagcmhnanngfbaaDoorW.PrintMore Go.Proofs.YtagcmhnanngfbaaDoor.Math

theorem named_calls (A : Option Addr) (c : Nat) (l : List ByteArray) (w : World) (hr : Kd.C Kd.string w A l.length l) :
    Quiet 71 #[.slice A l.length c] w (.bool (tb (NamesOk l))) := by
  unfold Quiet
  have hlen := hr.2.1
  have HR := Lib.hid hr
  clear hr
  go_enter Tryd.func71, Tryd.ntmps71
  go_wp2
  go_loopw [3] (fun i wr => ∃ (j : Nat), j ≤ l.length ∧ i = .int .i64 j ∧ Hid (∃ d, wr = w.drewN d) ∧ Hid (∀ i, i < j → NameOk l i)) (fun i _ => l.length - (intOf i).toNat)
  case atStart => exact ⟨0, by omega, rfl, Lib.hid ⟨0, rfl⟩, Lib.hid (fun i hi => by omega)⟩
  case round =>
    obtain ⟨j, hj, rfl, HW, HT⟩ := hrel
    obtain ⟨wo, rfl⟩ : ∃ wo : World, wo = wr := ⟨_, rfl⟩
    have HR1 := Lib.hid (show Kd.C Kd.string wo A l.length l by obtain ⟨d, e⟩ := HW.out; rw [e]; exact Kd.C_drewN HR.out d)
    by_cases hlt : j < l.length
    · obtain ⟨ad, y, rfl, hc, HY⟩ := at_scalar HR1.out j hlt ByteArray.empty
      by_cases h0 : y.size = 0
      · have HE : Hid (tb (NamesOk l) = false) := Lib.hid (tb_no (fun h => (h j hlt).1 (by rw [HY.out]; exact h0)))
        have h0I : ((y.size : Int) == 0) = true := by simp [h0]
        go_wp2
        go_ret
        exact ⟨ret_bool HE.out.symm, HW.out⟩
      · by_cases h1 : 32 < y.size
        · have HE : Hid (tb (NamesOk l) = false) := Lib.hid (tb_no (fun h => by have := (h j hlt).2.1; rw [HY.out] at this; omega))
          go_wp2
          go_ret
          exact ⟨ret_bool HE.out.symm, HW.out⟩
        · have h0I : ((y.size : Int) == 0) = false := by rw [beq_eq_false_iff_ne]; omega
          go_wp2
          go_loopw [4] (fun i wr2 => ∃ (k : Nat), k ≤ j ∧ i = .int .i64 k ∧ Hid (∃ d, wr2 = w.drewN d) ∧ Hid (y ∉ l.take k)) (fun i _ => j - (intOf i).toNat)
          case atStart => exact ⟨0, by omega, rfl, HW, Lib.hid (by simp)⟩
          case round =>
            obtain ⟨k, hk, rfl, HW2, HT2⟩ := hrel
            have HR2 := Lib.hid (show Kd.C Kd.string wr (some ad) l.length l by obtain ⟨d, e⟩ := HW2.out; rw [e]; exact Kd.C_drewN HR.out d)
            by_cases hlt2 : k < j
            · obtain ⟨ad2, y2, e2, hc2, HY2⟩ := at_scalar HR2.out k (by omega) ByteArray.empty
              simp only [Option.some.injEq] at e2
              subst e2
              obtain ⟨ad3, y3, e3, hc3, HY3⟩ := at_scalar HR2.out j hlt ByteArray.empty
              simp only [Option.some.injEq] at e3
              subst e3
              obtain rfl : y3 = y := HY3.out.symm.trans HY.out
              by_cases e : y2 = y3
              · subst e
                have HE : Hid (tb (NamesOk l) = false) := Lib.hid (tb_no (fun h => (h j hlt).2.2 (by
                  rw [HY.out, ← HY2.out]
                  have : (l.take j).getD k ByteArray.empty = l.getD k ByteArray.empty := by
                    rw [List.getD_eq_getElem?_getD, List.getD_eq_getElem?_getD, List.getElem?_take_of_lt hlt2]
                  rw [← this]; exact getD_mem _ _ _ (by simp; omega))))
                go_wp2
                go_quiet (fail)
                go_wp2
                go_ret
                exact ⟨ret_bool HE.out.symm, by obtain ⟨d, e⟩ := HW2.out; exact ⟨_, by rw [e, World.drewN_drewN]⟩⟩
              · have hn3 : (y2.toList == y3.toList) = false := beq_eq_false_iff_ne.mpr (fun h => e (str_inj h))
                have HN := Lib.hid e
                clear e
                go_wp2
                go_quiet (fail)
                go_wp2
                go_roundw
                case rel => exact ⟨k + 1, by omega, by go_num, Lib.hid (by obtain ⟨d, e⟩ := HW2.out; exact ⟨_, by rw [e, World.drewN_drewN]⟩), Lib.hid (by rw [take_snocD l k ByteArray.empty (by omega), List.mem_append, not_or]; exact ⟨HT2.out, by rw [HY2.out, List.mem_singleton]; exact fun h => HN.out h.symm⟩)⟩
                case measure => simp [intOf]; omega
            · obtain rfl : k = j := by omega
              have HN : Hid (NameOk l k) := Lib.hid ⟨by rw [HY.out]; exact h0, by rw [HY.out]; omega, by rw [HY.out]; exact HT2.out⟩
              go_wp2
              go_roundw
              case rel => exact ⟨k + 1, by omega, by go_num, HW2, Lib.hid (fun i hi => by
                rcases Nat.lt_or_ge i k with h | h
                · exact HT.out i h
                · obtain rfl : i = k := by omega
                  exact HN.out)⟩
              case measure => simp [intOf]; omega
    · have HE : Hid (tb (NamesOk l) = true) := Lib.hid (tb_yes (fun i hi => HT.out i (by omega)))
      go_wp2
      go_ret
      exact ⟨ret_bool HE.out.symm, HW.out⟩
theorem gblk_cells {g : Nat} {a b c d : Value} {t : TypeId} {w : World} (h : w.heap[g]? = some (.cells #[a, b, c, d] t (0, 0))) :
    w.cell? ⟨g, 0, none⟩ = some a ∧ w.cell? ⟨g, 1, none⟩ = some b ∧ w.cell? ⟨g, 2, none⟩ = some c ∧ w.cell? ⟨g, 3, none⟩ = some d := by
  refine ⟨?_, ?_, ?_, ?_⟩ <;> simp [World.cell?, h]
theorem gblk_keep {g : Nat} {o : Obj} {w w' : World} (h : w.heap[g]? = some o) (hb : Below w.heap.size w w') : w'.heap[g]? = some o := (hb.block g (Array.getElem?_eq_some_iff.1 h).1).trans h
set_option maxHeartbeats 4000000 in
set_option maxRecDepth 100000 in
theorem rcheck_loop (v : Value) (g : Gr) (w : World) (hv : GramAt w v g) (h1 : ¬ (60 < g.terms.length + g.nonterms.length ∨ 120 < g.rules.length)) (h2 : NamesOk g.terms) (h3 : NamesOk g.nonterms) (h4 : ¬ (g.ax < 0 ∨ (g.nonterms.length : Int) ≤ g.ax)) :
    Calls Tryd.prog 40 #[v] w fun e w' => e = .returned (.tuple #[.int .i64 ((checkN g).1 : Nat), .int .i64 (checkN g).2]) ∧ Below w.heap.size w w' := by
  obtain ⟨AT, cT, AN, cN, AR, cR, rfl, q1, q2, q3, q4, q5, q6⟩ := hv
  have l1 := q4.2.1
  have l2 := q5.2.1
  have l3 := q6.2.1
  obtain ⟨w1, hw1⟩ : ∃ w1, w.alloc (.cells #[.slice AT g.terms.length cT, .slice AN g.nonterms.length cN, .int .i64 g.ax, .slice AR g.rules.length cR] 25) = w1 := ⟨_, rfl⟩
  have hb1 : Below w.heap.size w w1 := by rw [← hw1]; exact below_alloc (Below.refl _ _) _
  have hk1 : w1.heap[w.heap.size]? = some (.cells #[.slice AT g.terms.length cT, .slice AN g.nonterms.length cN, .int .i64 g.ax, .slice AR g.rules.length cR] 25 (0, 0)) := by rw [← hw1]; exact heap_alloc_new w _
  obtain ⟨c0, c1, c2, c3⟩ := gblk_cells hk1
  have HB1 := Lib.hid hb1
  have HK1 := Lib.hid hk1
  have HNT := Lib.hid (named_calls AT cT g.terms w1 (Kd.C_below q4 hb1))
  have HNN := Lib.hid (fun m => named_calls AN cN g.nonterms (w1.drewN m) (Kd.C_drewN (Kd.C_below q5 hb1) m))
  have HR := Lib.hid (Kd.C_below q6 hb1)
  clear hb1 hk1 q4 q5 q6
  have a1 : ¬ 60 < g.terms.length := by omega
  have a2 : ¬ 60 < g.nonterms.length := by omega
  have a3 : ¬ (60 : Int) < (g.terms.length : Int) + g.nonterms.length := by omega
  have a4 : ¬ 120 < g.rules.length := by omega
  have T1 := tb_yes h2
  rw [T1] at HNT
  have T2 := tb_yes h3
  rw [T2] at HNN
  have H : Hid (checkN g = firstBad g.terms.length g.nonterms.length g.rules 0) := Lib.hid (by unfold checkN; rw [if_neg h1, if_neg (by simp [h2, h3]), if_neg h4])
  have a5 : ¬ g.ax < 0 := by omega
  have a6 : ¬ (g.nonterms.length : Int) ≤ g.ax := by omega
  have b1 : ((g.nonterms.length : Int) == 0) = false := by rw [beq_eq_false_iff_ne]; omega
  have hnn : g.nonterms.length ≤ 60 := by omega
  have htt : g.terms.length ≤ 60 := by omega
  clear h1 h2 h3 h4
  go_enter Tryd.func40, Tryd.ntmps40
  go_wp2_with (first
    | (go_at_call 71; have t_ := T1; refine HNT.out.mono ?_; rintro e w' ⟨rfl, n1, rfl⟩; clear T1 t_)
    | (go_at_call 71; refine (HNN.out _).mono ?_; rintro e w' ⟨rfl, n2, rfl⟩))
  clear c0 c1 c2 c3
  go_loopw [6] (fun i wr => ∃ (j : Nat), j ≤ g.rules.length ∧ i = .int .i64 j ∧ Aside0 (Below w.heap.size w wr) ∧ Aside0 (wr.heap[w.heap.size]? = some (.cells #[.slice AT g.terms.length cT, .slice AN g.nonterms.length cN, .int .i64 g.ax, .slice AR g.rules.length cR] 25 (0, 0))) ∧ Aside0 (Below w1.heap.size w1 wr) ∧ Hid (∀ k, k < j → ruleN g.terms.length g.nonterms.length (g.rules.getD k (0, [])) = 0)) (fun i _ => g.rules.length - (intOf i).toNat)
  case atStart => exact ⟨0, by omega, rfl, ⟨pw_below_drewN HB1.out _⟩, ⟨HK1.out⟩, ⟨pw_below_drewN (Below.refl _ _) _⟩, Lib.hid (fun k hk => by omega)⟩
  case round =>
    obtain ⟨j, hj, rfl, HBw, HK, HB2, HT⟩ := hrel
    obtain ⟨wo, rfl⟩ : ∃ wo : World, wo = wr := ⟨_, rfl⟩
    obtain ⟨c0, c1, c2, c3⟩ := gblk_cells HK.out
    by_cases hlt : j < g.rules.length
    · obtain ⟨ad, x, B, c, r, rfl, k1, k2, hrc, hr, HD⟩ := at_rule (Kd.C_below HR.out HB2.out) j hlt
      have hsz : w.heap.size < wo.heap.size := (Array.getElem?_eq_some_iff.1 HK.out).1
      have hrl := hr.2.1
      have hb3 := below_alloc (Below.refl wo.heap.size wo) (.cells #[.int .i64 x, .slice B r.length c] 56)
      have HRr := Lib.hid (Kd.C_below hr hb3)
      have HB3 := Lib.hid hb3
      clear hr hb3
      by_cases hr1 : 32 < r.length
      · have HF : Hid (checkN g = (3, (j : Int))) := Lib.hid (by rw [H.out, firstBad_at _ _ _ j HT.out hlt (by rw [HD.out]; simp [ruleN, hr1]), HD.out]; simp [ruleN, hr1])
        go_wp2
        go_ret2
        exact ⟨by rw [HF.out]; rfl, below_next HBw.out HB3.out⟩
      · by_cases hr2 : x < 0
        · have HF : Hid (checkN g = (1, (j : Int))) := Lib.hid (by rw [H.out, firstBad_at _ _ _ j HT.out hlt (by rw [HD.out]; simp [ruleN, hr1, hr2]), HD.out]; simp [ruleN, hr1, hr2])
          go_wp2
          go_ret2
          exact ⟨by rw [HF.out]; rfl, below_next HBw.out HB3.out⟩
        · by_cases hr3 : (g.nonterms.length : Int) ≤ x
          · have HF : Hid (checkN g = (1, (j : Int))) := Lib.hid (by rw [H.out, firstBad_at _ _ _ j HT.out hlt (by rw [HD.out]; simp [ruleN, hr1, hr3]), HD.out]; simp [ruleN, hr1, hr3])
            go_wp2
            go_ret2
            exact ⟨by rw [HF.out]; rfl, below_next HBw.out HB3.out⟩
          · obtain ⟨w2, hw2⟩ : ∃ w2, wo.alloc (.cells #[.int .i64 x, .slice B r.length c] 56) = w2 := ⟨_, rfl⟩
            have r1 : w2.cell? ⟨wo.heap.size, 1, none⟩ = some (.slice B r.length c) := by rw [← hw2]; simp [go_sem]
            have r0 : w2.cell? ⟨wo.heap.size, 0, none⟩ = some (.int .i64 x) := by rw [← hw2]; simp [go_sem]
            rw [hw2] at HB3 HRr
            have HK2 := Lib.hid (gblk_keep HK.out HB3.out)
            obtain ⟨d0, d1, d2, d3⟩ := gblk_cells HK2.out
            go_wp2
            clear hw2 r0 d0 d1 d2 d3 c0 c1 c2 c3
            go_loopw [8] (fun i wr => ∃ (k : Nat), k ≤ r.length ∧ i = .int .i64 k ∧ Hid (∃ d, wr = w2.drewN d) ∧ Hid ((r.take k).any (symBad g.terms.length g.nonterms.length) = false)) (fun i _ => r.length - (intOf i).toNat)
            case atStart => exact ⟨0, by omega, rfl, Lib.hid ⟨0, rfl⟩, Lib.hid (by simp)⟩
            case round =>
              obtain ⟨k, hk, rfl, HW2, HT2⟩ := hrel
              have r2 : wr.cell? ⟨wo.heap.size, 1, none⟩ = some (.slice B r.length c) := by obtain ⟨d, e⟩ := HW2.out; rw [e, World.cell?_drewN]; exact r1
              have HB4 : Hid (Below w2.heap.size w2 wr) := Lib.hid (by obtain ⟨d, e⟩ := HW2.out; rw [e]; exact pw_below_drewN (Below.refl _ _) _)
              by_cases hlt2 : k < r.length
              · obtain ⟨ad2, y, rfl, hc2, HY⟩ := at_scalar (Kd.C_below HRr.out HB4.out) k hlt2 0
                by_cases s1 : (g.terms.length : Int) ≤ y
                · have hany : r.any (symBad g.terms.length g.nonterms.length) = true := List.any_eq_true.2 ⟨y, by rw [← HY.out]; exact getD_mem r k 0 hlt2, by simp [symBad, s1]⟩
                  have HF : Hid (checkN g = (1, (j : Int))) := Lib.hid (by rw [H.out, firstBad_at _ _ _ j HT.out hlt (by rw [HD.out]; simp only [ruleN, hr1, hany]; simp), HD.out]; simp only [ruleN, hr1, hany]; simp)
                  clear hany
                  go_wp2
                  go_ret2
                  exact ⟨by rw [HF.out]; rfl, below_next (below_next HBw.out HB3.out) HB4.out⟩
                · by_cases s2 : y < -(g.nonterms.length : Int)
                  · have hany : r.any (symBad g.terms.length g.nonterms.length) = true := List.any_eq_true.2 ⟨y, by rw [← HY.out]; exact getD_mem r k 0 hlt2, by simp [symBad, s2]⟩
                    have HF : Hid (checkN g = (1, (j : Int))) := Lib.hid (by rw [H.out, firstBad_at _ _ _ j HT.out hlt (by rw [HD.out]; simp only [ruleN, hr1, hany]; simp), HD.out]; simp only [ruleN, hr1, hany]; simp)
                    clear hany
                    go_wp2
                    go_ret2
                    exact ⟨by rw [HF.out]; rfl, below_next (below_next HBw.out HB3.out) HB4.out⟩
                  · have HS : Hid ((r.take (k + 1)).any (symBad g.terms.length g.nonterms.length) = false) := Lib.hid (by rw [any_take_snoc r _ k hlt2, HT2.out, HY.out]; simp [symBad]; omega)
                    go_wp2
                    go_roundw
                    case rel => exact ⟨k + 1, by omega, by go_num, by first | exact HW2 | exact Lib.hid (by obtain ⟨d, e⟩ := HW2.out; exact ⟨_, by rw [e, World.drewN_drewN]⟩), HS⟩
                    case measure => simp [intOf]; omega
              · have HZ : Hid (ruleN g.terms.length g.nonterms.length (x, r) = 0) := Lib.hid (by
                  have h := HT2.out
                  rw [List.take_of_length_le (by omega)] at h
                  unfold ruleN; rw [if_neg hr1, if_neg (by simp only [h]; simp; omega)])
                have HB5 := Lib.hid (below_next HB3.out HB4.out)
                go_wp2
                go_roundw
                case rel => exact ⟨j + 1, by omega, by go_num, ⟨below_next HBw.out HB5.out⟩, ⟨gblk_keep HK.out HB5.out⟩, ⟨below_next HB2.out HB5.out⟩, Lib.hid (fun k hk => by
                  rcases Nat.lt_or_ge k j with h | h
                  · exact HT.out k h
                  · obtain rfl : k = j := by omega
                    rw [HD.out]; exact HZ.out)⟩
                case measure => simp [intOf]; omega
    · have HF : Hid (checkN g = (0, -1)) := Lib.hid (by rw [H.out]; exact firstBad_none _ _ _ (fun k hk => HT.out k (by omega)))
      go_wp2
      go_ret2
      exact ⟨by rw [HF.out]; rfl, HBw.out⟩
set_option maxHeartbeats 1600000 in
set_option maxRecDepth 100000 in
theorem rcheck_calls (v : Value) (g : Gr) (w : World) (hv : GramAt w v g) :
    Calls Tryd.prog 40 #[v] w fun e w' => e = .returned (.tuple #[.int .i64 ((checkN g).1 : Nat), .int .i64 (checkN g).2]) ∧ Below w.heap.size w w' := by
  have HV := Lib.hid hv
  obtain ⟨AT, cT, AN, cN, AR, cR, rfl, q1, q2, q3, q4, q5, q6⟩ := hv
  have l1 := q4.2.1
  have l2 := q5.2.1
  have l3 := q6.2.1
  obtain ⟨w1, hw1⟩ : ∃ w1, w.alloc (.cells #[.slice AT g.terms.length cT, .slice AN g.nonterms.length cN, .int .i64 g.ax, .slice AR g.rules.length cR] 25) = w1 := ⟨_, rfl⟩
  have hb1 : Below w.heap.size w w1 := by rw [← hw1]; exact below_alloc (Below.refl _ _) _
  have hk1 : w1.heap[w.heap.size]? = some (.cells #[.slice AT g.terms.length cT, .slice AN g.nonterms.length cN, .int .i64 g.ax, .slice AR g.rules.length cR] 25 (0, 0)) := by rw [← hw1]; exact heap_alloc_new w _
  obtain ⟨c0, c1, c2, c3⟩ := gblk_cells hk1
  have HB1 := Lib.hid hb1
  have HK1 := Lib.hid hk1
  have HNT := Lib.hid (named_calls AT cT g.terms w1 (Kd.C_below q4 hb1))
  have HNN := Lib.hid (fun m => named_calls AN cN g.nonterms (w1.drewN m) (Kd.C_drewN (Kd.C_below q5 hb1) m))
  have HR := Lib.hid (Kd.C_below q6 hb1)
  clear hb1 hk1 q4 q5 q6
  by_cases h1 : 60 < g.terms.length + g.nonterms.length ∨ 120 < g.rules.length
  · have H : Hid (checkN g = (3, -1)) := Lib.hid (by unfold checkN; rw [if_pos h1])
    by_cases a1 : 60 < g.terms.length
    · go_enter Tryd.func40, Tryd.ntmps40
      go_wp2
      go_ret2
      exact ⟨by rw [H.out]; rfl, HB1.out⟩
    · by_cases a2 : 60 < g.nonterms.length
      · go_enter Tryd.func40, Tryd.ntmps40
        go_wp2
        go_ret2
        exact ⟨by rw [H.out]; rfl, HB1.out⟩
      · by_cases a3 : (60 : Int) < (g.terms.length : Int) + g.nonterms.length
        · go_enter Tryd.func40, Tryd.ntmps40
          go_wp2
          go_ret2
          exact ⟨by rw [H.out]; rfl, HB1.out⟩
        · have a4 : 120 < g.rules.length := by omega
          go_enter Tryd.func40, Tryd.ntmps40
          go_wp2
          go_ret2
          exact ⟨by rw [H.out]; rfl, HB1.out⟩
  · have a1 : ¬ 60 < g.terms.length := by omega
    have a2 : ¬ 60 < g.nonterms.length := by omega
    have a3 : ¬ (60 : Int) < (g.terms.length : Int) + g.nonterms.length := by omega
    have a4 : ¬ 120 < g.rules.length := by omega
    by_cases h2 : NamesOk g.terms
    · have T1 := tb_yes h2
      rw [T1] at HNT
      by_cases h3 : NamesOk g.nonterms
      · have T2 := tb_yes h3
        rw [T2] at HNN
        by_cases h4 : g.ax < 0 ∨ (g.nonterms.length : Int) ≤ g.ax
        · have H : Hid (checkN g = (1, -1)) := Lib.hid (by unfold checkN; rw [if_neg h1, if_neg (by simp [h2, h3]), if_pos h4])
          by_cases b0 : g.nonterms.length = 0
          · have b1 : ((g.nonterms.length : Int) == 0) = true := by simp [b0]
            clear b0 h1 h2 h3 h4
            go_enter Tryd.func40, Tryd.ntmps40
            go_wp2_with (first
              | (go_at_call 71; have t_ := T1; refine HNT.out.mono ?_; rintro e w' ⟨rfl, n1, rfl⟩; clear T1 t_)
              | (go_at_call 71; refine (HNN.out _).mono ?_; rintro e w' ⟨rfl, n2, rfl⟩))
            go_ret2
            exact ⟨by rw [H.out]; rfl, pw_below_drewN HB1.out _⟩
          · have b1 : ((g.nonterms.length : Int) == 0) = false := by rw [beq_eq_false_iff_ne]; omega
            by_cases a5 : g.ax < 0
            all_goals
              go_enter Tryd.func40, Tryd.ntmps40
              go_wp2_with (first
                | (go_at_call 71; have t_ := T1; refine HNT.out.mono ?_; rintro e w' ⟨rfl, n1, rfl⟩; clear T1 t_)
                | (go_at_call 71; refine (HNN.out _).mono ?_; rintro e w' ⟨rfl, n2, rfl⟩))
              go_ret2
              exact ⟨by rw [H.out]; rfl, pw_below_drewN HB1.out _⟩
        · exact rcheck_loop _ g w HV.out h1 h2 h3 h4
      · have T2 := tb_no h3
        rw [T2] at HNN
        have H : Hid (checkN g = (10, -1)) := Lib.hid (by unfold checkN; rw [if_neg h1, if_pos (by simp [h3])])
        go_enter Tryd.func40, Tryd.ntmps40
        go_wp2_with (first
          | (go_at_call 71; have t_ := T1; refine HNT.out.mono ?_; rintro e w' ⟨rfl, n1, rfl⟩; clear T1 t_)
          | (go_at_call 71; refine (HNN.out _).mono ?_; rintro e w' ⟨rfl, n2, rfl⟩))
        go_ret2
        exact ⟨by rw [H.out]; rfl, pw_below_drewN HB1.out _⟩
    · have T1 := tb_no h2
      rw [T1] at HNT
      have H : Hid (checkN g = (10, -1)) := Lib.hid (by unfold checkN; rw [if_neg h1, if_pos (by simp [h2])])
      go_enter Tryd.func40, Tryd.ntmps40
      go_wp2_with (go_at_call 71; refine HNT.out.mono ?_; rintro e w' ⟨rfl, n1, rfl⟩)
      go_ret2
      exact ⟨by rw [H.out]; rfl, pw_below_drewN HB1.out _⟩
end Go.Proofs.YtagcmhnanngfbaaDoor.Hand
