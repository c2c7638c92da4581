/- Contracts of package member: may. -/
import Derived.Test.YtndimnomkcjeiaaDoorRight
import Derived.Test.YtndimnomkcjeiaaDoorGram
namespace Go.Proofs.YtndimnomkcjeiaaDoor.Hand
open Go.RowKit Go.Proofs.YtndimnomkcjeiaaDoorW.PrintWords Go.Proofs.YtndimnomkcjeiaaDoorW.PrintMore Go.Proofs.YtndimnomkcjeiaaDoor.Math

theorem gblk_keep' {g : Nat} {o : Obj} {w w' : World} (h : w.heap[g]? = some o) (hb : Below w.heap.size w w') : w'.heap[g]? = some o := (hb.block g (Array.getElem?_eq_some_iff.1 h).1).trans h
theorem tok_take_snoc (l : List Int) (f : Int → Bool) (j : Nat) (h : j < l.length) : (l.take (j + 1)).any f = ((l.take j).any f || f (l.getD j 0)) := by
  rw [take_snocD l j 0 h, List.any_append]; simp
theorem ErrV.nil_of {w : World} {A : Nat → Addr} {v : Value} {k : Nat} {r : Int} (h : ErrV w A v k r) (hk : k = 0) : v = .nilIface := by
  cases h with
  | none => rfl
  | sent i hi => omega
  | rule i hi pb po r h0 h1 => omega
/-- The types that an error's value may have. -/
def errTs : List Nat := [143
  , 133
  ]
theorem ErrV.iface_of {w : World} {A : Nat → Addr} {v : Value} {k : Nat} {r : Int} (h : ErrV w A v k r) (hk : ¬ k = 0) : ∃ T p, T ∈ errTs ∧ v = .iface T (.pointer p) := by
  cases h with
  | none => exact absurd rfl hk
  | sent i hi => exact ⟨_, _, by simp [errTs], rfl⟩
  | rule i hi pb po r h0 h1 => exact ⟨_, _, by simp [errTs], rfl⟩
set_option maxHeartbeats 1600000 in
set_option maxRecDepth 100000 in
theorem may_calls (v : Value) (g : Gr) (At : Option Addr) (ct : Nat) (tk : List Int) (w : World) (A : Nat → Addr) (hE : Errs w A) (hv : GramAt w v g) (hlc : tk.length ≤ ct) (hr : Kd.C (Kd.int .i64) w At tk.length tk) :
    Calls Tryd.prog 42 #[v, .slice At tk.length ct] w fun e w' => ∃ u, e = .returned u ∧ ErrV w' A u (mayN g tk).1 (mayN g tk).2 ∧ Below w.heap.size w w' := by
  have HV := Lib.hid hv
  obtain ⟨AT, cT, AN, cN, AR, cR, rfl, q1, q2, q3, q4, q5, q6⟩ := hv
  have l1 := q4.2.1
  have l2 := q5.2.1
  have l3 := q6.2.1
  have hlen := hr.2.1
  obtain ⟨w1, hw1⟩ : ∃ w1, w.alloc (.cells #[.slice AT g.terms.length cT, .slice AN g.nonterms.length cN, .int .i64 g.ax, .slice AR g.rules.length cR] 25) = w1 := ⟨_, rfl⟩
  have hb1 : Below w.heap.size w w1 := by rw [← hw1]; exact below_alloc (Below.refl _ _) _
  have hk1 : w1.heap[w.heap.size]? = some (.cells #[.slice AT g.terms.length cT, .slice AN g.nonterms.length cN, .int .i64 g.ax, .slice AR g.rules.length cR] 25 (0, 0)) := by rw [← hw1]; exact heap_alloc_new w _
  obtain ⟨c0, c1, c2, c3⟩ := blk_cells2 hk1
  have HB1 := Lib.hid hb1
  have HK1 := Lib.hid hk1
  have HE := Lib.hid (hE.below hb1)
  have HC := Lib.hid (check_calls _ g w1 A (hE.below hb1) (HV.out.below hb1))
  have HR := Lib.hid (Kd.C_below q6 hb1)
  have HT := Lib.hid (Kd.C_below hr hb1)
  clear hb1 hk1 hE q4 q5 q6 hr
  by_cases h0 : (checkN g).1 = 0
  case neg =>
    have HM : Hid (mayN g tk = checkN g) := Lib.hid (by unfold mayN; rw [if_pos h0])
    go_enter Tryd.func42, Tryd.ntmps42
    go_wp2_with (go_at_call 56; refine HC.out.mono ?_; rintro e w2 ⟨u, rfl, hu, hb2⟩; have HU := Lib.hid hu; have HB2 := Lib.hid hb2; obtain ⟨T, p, hT, rfl⟩ := hu.iface_of h0; clear hu hb2 hT)
    go_ret
    exact ⟨_, rfl, by rw [HM.out]; exact HU.out, below_next HB1.out HB2.out⟩
  obtain ⟨z1, z2, z3, z4, z5, z6, z7⟩ := checkN_zero h0
  have HZ := Lib.hid z7
  clear z3 z4 z7
  have hmk : ∀ r, r ∈ g.rules → r.2.length ≤ 32 := fun r hr => ruleN_len (HZ.out r hr)
  have hs32 := sizeN_le g.rules hmk
  have HMk := Lib.hid hmk
  have HM : Hid (mayN g tk = if 40 < tk.length ∨ 512 < sizeN g.rules then (12, -1) else if tk.any (tokBad g.terms.length) = true then (1, -1) else (0, -1)) := Lib.hid (by unfold mayN; rw [if_neg (by simp [h0])])
  clear hmk
  go_enter Tryd.func42, Tryd.ntmps42
  go_wp2_with (go_at_call 56; refine HC.out.mono ?_; rintro e w2 ⟨u, rfl, hu, hb2⟩; have HB2 := Lib.hid hb2; have HK2 := Lib.hid (gblk_keep' HK1.out hb2); obtain rfl := hu.nil_of h0; obtain ⟨d0, d1, d2, d3⟩ := blk_cells2 HK2.out; clear hu hb2)
  clear c0 c1 c2 c3
  go_loopw [6, 19] (fun v x wr => ∃ k : Nat, k ≤ g.rules.length ∧ v = .int .i64 (sizeN (g.rules.take k) : Nat) ∧ x = .int .i64 k ∧ Aside0 (Below w2.heap.size w2 wr)) (fun _ x _ => g.rules.length - (intOf x).toNat)
  case atStart => exact ⟨0, by omega, by simp [sizeN], rfl, ⟨Below.refl _ _⟩⟩
  case round =>
    obtain ⟨k, hk, rfl, rfl, HB3⟩ := hrel
    by_cases hlt : k < g.rules.length
    · obtain ⟨ad, x, B, c, r, rfl, k1, k2, hrc, hr, HD⟩ := at_rule (Kd.C_below (Kd.C_below HR.out HB2.out) HB3.out) k hlt
      have hr32 : r.length ≤ 32 := by have := HMk.out (g.rules.getD k (0, [])) (getD_mem _ _ _ hlt); rw [HD.out] at this; exact this
      have hmn : Builtin.min2 (.int .i64 (r.length : Nat)) (.int .i64 513) = pure (.int .i64 (r.length : Nat)) := by rw [min2_int, if_neg (by omega)]
      have hsk : sizeN (g.rules.take k) ≤ 3840 := by have := sizeN_take g.rules k; omega
      have HSk : Hid (sizeN (g.rules.take (k + 1)) = sizeN (g.rules.take k) + r.length) := Lib.hid (by rw [take_snocD _ _ (0, []) hlt, sizeN_snoc, HD.out])
      have HB4 := Lib.hid (below_alloc (Below.refl wr.heap.size wr) (.cells #[.int .i64 x, .slice B r.length c] 51))
      clear hr
      obtain ⟨sk, hske⟩ : ∃ sk, sizeN (g.rules.take k) = sk := ⟨_, rfl⟩
      rw [hske] at hsk HSk ⊢
      clear hske
      go_wp2
      go_roundw
      case rel => exact ⟨k + 1, by omega, by rw [HSk.out]; go_num, by go_num, ⟨below_next HB3.out HB4.out⟩⟩
      case measure => simp [intOf]; omega
    · have hall : g.rules.take k = g.rules := List.take_of_length_le (by omega)
      have hszn : sizeN g.rules ≤ 3840 := by omega
      rw [hall]
      obtain ⟨sz, hsz⟩ : ∃ sz, sizeN g.rules = sz := ⟨_, rfl⟩
      rw [hsz] at hszn hs32 HM ⊢
      clear hsz hall
      have HB4 := Lib.hid (below_next HB1.out (below_next HB2.out HB3.out))
      have HE3 := Lib.hid ((HE.out.below HB2.out).below HB3.out)
      have e0 : wr.cell? ⟨0, 0, none⟩ = some (.iface 143 (.pointer (some (A 0)))) := HE3.out.cells 0 (by omega)
      have e11 : wr.cell? ⟨11, 0, none⟩ = some (.iface 143 (.pointer (some (A 11)))) := HE3.out.cells 11 (by omega)
      have HK3 := Lib.hid (gblk_keep' HK2.out HB3.out)
      obtain ⟨f0, f1, f2, f3⟩ := blk_cells2 HK3.out
      by_cases a1 : 40 < tk.length
      · have HF : Hid (mayN g tk = (12, -1)) := Lib.hid (by rw [HM.out, if_pos (.inl a1)])
        go_wp2
        go_ret
        exact ⟨_, rfl, by rw [HF.out]; exact .sent 11 (by omega), HB4.out⟩
      · by_cases a2 : 512 < sz
        · have HF : Hid (mayN g tk = (12, -1)) := Lib.hid (by rw [HM.out, if_pos (.inr a2)])
          go_wp2
          go_ret
          exact ⟨_, rfl, by rw [HF.out]; exact .sent 11 (by omega), HB4.out⟩
        · have HF : Hid (mayN g tk = if tk.any (tokBad g.terms.length) = true then (1, -1) else (0, -1)) := Lib.hid (by rw [HM.out, if_neg (by omega)])
          have HT3 := Lib.hid (Kd.C_below (Kd.C_below HT.out HB2.out) HB3.out)
          obtain ⟨w5, rfl⟩ : ∃ w5 : World, w5 = wr := ⟨_, rfl⟩
          go_wp2
          clear d0 d1 d2 d3
          go_loopw [40] (fun x wr => ∃ k : Nat, k ≤ tk.length ∧ x = .int .i64 k ∧ wr = w5 ∧ Hid ((tk.take k).any (tokBad g.terms.length) = false)) (fun x _ => tk.length - (intOf x).toNat)
          case atStart => exact ⟨0, by omega, rfl, rfl, Lib.hid (by simp)⟩
          case round =>
            obtain ⟨j, hj, rfl, rfl, HY⟩ := hrel
            by_cases hjt : j < tk.length
            · obtain ⟨ad2, y, rfl, hc2, HD2⟩ := at_scalar HT3.out j hjt 0
              by_cases b1 : y < 0
              · have HG : Hid (mayN g tk = (1, -1)) := Lib.hid (by
                  rw [HF.out, if_pos (List.any_eq_true.2 ⟨y, by rw [← HD2.out]; exact getD_mem tk j 0 hjt, by simp [tokBad, b1]⟩)])
                go_wp2
                go_ret
                exact ⟨_, rfl, by rw [HG.out]; exact .sent 0 (by omega), HB4.out⟩
              · by_cases b2 : (g.terms.length : Int) ≤ y
                · have HG : Hid (mayN g tk = (1, -1)) := Lib.hid (by
                    rw [HF.out, if_pos (List.any_eq_true.2 ⟨y, by rw [← HD2.out]; exact getD_mem tk j 0 hjt, by simp [tokBad, b2]⟩)])
                  go_wp2
                  go_ret
                  exact ⟨_, rfl, by rw [HG.out]; exact .sent 0 (by omega), HB4.out⟩
                · have HG : Hid ((tk.take (j + 1)).any (tokBad g.terms.length) = false) := Lib.hid (by rw [tok_take_snoc tk _ j hjt, HY.out, HD2.out]; simp [tokBad]; omega)
                  go_wp2
                  go_roundw
                  case rel => exact ⟨j + 1, by omega, by go_num, by first | rfl | trivial, HG⟩
                  case measure => simp [intOf]; omega
            · have HG : Hid (mayN g tk = (0, -1)) := Lib.hid (by
                have := HY.out
                rw [List.take_of_length_le (by omega)] at this
                rw [HF.out, if_neg (by simp [this])])
              go_wp2
              go_ret
              exact ⟨_, rfl, by rw [HG.out]; exact .none, HB4.out⟩
end Go.Proofs.YtndimnomkcjeiaaDoor.Hand
