/- Contracts of dovetailref24: From, Derives. -/
import Derived.Test.YtndimnomkcjeiaaDoorRnew
import Derived.Test.YtndimnomkcjeiaaDoorRmay
import Derived.Test.YtndimnomkcjeiaaDoorMemE
namespace Go.Proofs.YtndimnomkcjeiaaDoor.Hand
open Go.RowKit Go.Proofs.YtndimnomkcjeiaaDoorW.PrintWords Go.Proofs.YtndimnomkcjeiaaDoorW.PrintMore Go.Proofs.YtndimnomkcjeiaaDoor.Math

theorem may_lim {g : Gr} {tk : List Int} (hok : (mayN g tk).1 = 0) : tk.length ≤ 40 ∧ g.nonterms.length ≤ 60 := by
  have h := hok
  unfold mayN at h
  split at h
  · rename_i h2; exact absurd h h2
  · rename_i h0
    have hz := checkN_zero (g := g) (by simpa using h0)
    split at h
    · cases h
    · exact ⟨by omega, by have := hz.size; omega⟩
set_option maxHeartbeats 1000000 in
set_option maxRecDepth 20000 in
theorem rfrom_calls (v : Value) (g : Gr) (At : Option Addr) (ct : Nat) (tk : List Int) (x : Int) (w : World) (hv : GramAt w v g) (hlc : tk.length ≤ ct) (hr : Kd.C (Kd.int .i64) w At tk.length tk) :
    Calls Tryd.prog 21 #[v, .int .i64 x, .slice At tk.length ct] w fun e w' => e = .returned (.tuple #[.bool (fromB g tk x), .int .i64 (fromK g tk x : Nat)]) ∧ Below w.heap.size w w' := by
  have HV := Lib.hid hv
  obtain ⟨AT, cT, AN, cN, AR, cR, rfl, q1, q2, q3, q4, q5, q6⟩ := hv
  have hlen := hr.2.1
  have l2 := q5.2.1
  obtain ⟨w1, hw1⟩ : ∃ w1, w.alloc (.cells #[.slice AT g.terms.length cT, .slice AN g.nonterms.length cN, .int .i64 g.ax, .slice AR g.rules.length cR] 25) = w1 := ⟨_, rfl⟩
  have hb1 : Below w.heap.size w w1 := by rw [← hw1]; exact below_alloc (Below.refl _ _) _
  have hk1 : w1.heap[w.heap.size]? = some (.cells #[.slice AT g.terms.length cT, .slice AN g.nonterms.length cN, .int .i64 g.ax, .slice AR g.rules.length cR] 25 (0, 0)) := by rw [← hw1]; exact heap_alloc_new w _
  obtain ⟨c0, c1, c2, c3⟩ := blk_cells2 hk1
  have HB1 := Lib.hid hb1
  have HK1 := Lib.hid hk1
  have HM := Lib.hid (rmay_calls _ g At ct tk w1 (HV.out.below hb1) hlc (Kd.C_below hr hb1))
  have HG := Lib.hid (HV.out.below hb1)
  have HT := Lib.hid (Kd.C_below hr hb1)
  clear hb1 hk1 q4 q5 q6 hr
  by_cases hok : (mayN g tk).1 = 0
  · obtain ⟨hn, hN⟩ := may_lim hok
    have HNew := Lib.hid (fun (W : World) (hW : Below w1.heap.size w1 W) => rnew_calls _ g At ct tk W (HG.out.below hW) hlc (Kd.C_below HT.out hW) hok)
    have HOK := Lib.hid hok
    rw [hok] at HM
    clear hok
    by_cases hx : x < 0 ∨ (g.nonterms.length : Int) ≤ x
    · have HF : Hid (fromK g tk x = 1 ∧ fromB g tk x = false) := Lib.hid (by
        have h1 : fromK g tk x = 1 := by unfold fromK; rw [if_neg (by simp [HOK.out]), if_pos hx]
        exact ⟨h1, tb_no (by rw [h1]; simp)⟩)
      by_cases hx0 : x < 0
      all_goals
        go_enter Tryd.func21, Tryd.ntmps21
        go_wp2_with (go_at_call 33; refine HM.out.mono ?_; rintro e w2 ⟨rfl, hb2⟩; have HB2 := Lib.hid hb2; obtain ⟨d0, d1, d2, d3⟩ := blk_cells2 (gblk_keep' HK1.out hb2); clear hb2)
        go_ret2
        exact ⟨by rw [HF.out.1, HF.out.2]; rfl, below_next HB1.out HB2.out⟩
    · have HF : Hid (fromK g tk x = 0) := Lib.hid (by unfold fromK; rw [if_neg (by simp [HOK.out]), if_neg hx])
      have hx0 : ¬ x < 0 := by omega
      have hx1 : ¬ (g.nonterms.length : Int) ≤ x := by omega
      clear hx
      obtain ⟨n1, hn1⟩ : ∃ n1 : Nat, n1 = tk.length + 1 := ⟨_, rfl⟩
      have hlt1 : 0 < n1 := by omega
      have hlt2 : tk.length < n1 := by omega
      have HN1 := Lib.hid hn1
      clear hn1
      go_enter Tryd.func21, Tryd.ntmps21
      go_wp2_with (first
        | (go_at_call 33; refine HM.out.mono ?_; rintro e w2 ⟨rfl, hb2⟩; have HB2 := Lib.hid hb2; obtain ⟨d0, d1, d2, d3⟩ := blk_cells2 (gblk_keep' HK1.out hb2); clear hb2)
        | (go_at_call 34; refine (HNew.out w2 HB2.out).mono ?_; rintro e w3 ⟨w9, b, O, cO, P, cP, Q, T, rfl, hb9, hc, hx⟩; have HC := Lib.hid hc; have HB9 := Lib.hid (below_next hb9 hc.bel); have HX := Lib.hid hx; have p1 := hc.head; have p2 := hc.out 0 (by omega); have p3 := hc.mid 0 tk.length (by omega) (by omega); have p4 := (hc.leaf 0 tk.length (by omega) (by omega)).cell x.toNat (by omega); have hcO := hc.cO1; have hcP := hc.cP1 0 (by omega); rw [← HN1.out] at p1 p2 hcO hcP; clear hc hb9 hx d0 d1 d2 d3))
      go_ret2
      have hB : fromB g tk x = T 0 tk.length x.toNat := by
        unfold fromB
        rw [HF.out]
        have := HX.out 0 tk.length x.toNat (by omega) (Nat.le_refl _) (by omega)
        exact (tb_bool (by rw [this]; simp)).symm
      exact ⟨by rw [HF.out, hB]; rfl, below_next (below_next HB1.out HB2.out) HB9.out⟩
  · have HF : Hid (fromK g tk x = (mayN g tk).1 ∧ fromB g tk x = false) := Lib.hid (by
      have h1 : fromK g tk x = (mayN g tk).1 := by unfold fromK; rw [if_pos hok]
      exact ⟨h1, tb_no (by rw [h1]; exact fun h => hok h.1)⟩)
    have hk0 : (((mayN g tk).1 : Int) == 0) = false := by rw [beq_eq_false_iff_ne]; omega
    clear hok
    go_enter Tryd.func21, Tryd.ntmps21
    go_wp2_with (go_at_call 33; refine HM.out.mono ?_; rintro e w2 ⟨rfl, hb2⟩; have HB2 := Lib.hid hb2; clear hb2)
    go_ret2
    exact ⟨by rw [HF.out.1, HF.out.2]; rfl, below_next HB1.out HB2.out⟩
theorem rderives_calls (v : Value) (g : Gr) (At : Option Addr) (ct : Nat) (tk : List Int) (w : World) (hv : GramAt w v g) (hlc : tk.length ≤ ct) (hr : Kd.C (Kd.int .i64) w At tk.length tk) :
    Calls Tryd.prog 19 #[v, .slice At tk.length ct] w fun e w' => e = .returned (.tuple #[.bool (fromB g tk g.ax), .int .i64 (fromK g tk g.ax : Nat)]) ∧ Below w.heap.size w w' := by
  have HV := Lib.hid hv
  obtain ⟨AT, cT, AN, cN, AR, cR, rfl, q1, q2, q3, q4, q5, q6⟩ := hv
  obtain ⟨w1, hw1⟩ : ∃ w1, w.alloc (.cells #[.slice AT g.terms.length cT, .slice AN g.nonterms.length cN, .int .i64 g.ax, .slice AR g.rules.length cR] 25) = w1 := ⟨_, rfl⟩
  have hb1 : Below w.heap.size w w1 := by rw [← hw1]; exact below_alloc (Below.refl _ _) _
  have hk1 : w1.heap[w.heap.size]? = some (.cells #[.slice AT g.terms.length cT, .slice AN g.nonterms.length cN, .int .i64 g.ax, .slice AR g.rules.length cR] 25 (0, 0)) := by rw [← hw1]; exact heap_alloc_new w _
  obtain ⟨c0, c1, c2, c3⟩ := blk_cells2 hk1
  have HB1 := Lib.hid hb1
  have HM := Lib.hid (rfrom_calls _ g At ct tk g.ax w1 (HV.out.below hb1) hlc (Kd.C_below hr hb1))
  clear hb1 hk1 q4 q5 q6 hr
  go_enter Tryd.func19, Tryd.ntmps19
  go_wp2_with (go_at_call 21; refine HM.out.mono ?_; rintro e w2 ⟨rfl, hb2⟩; have HB2 := Lib.hid hb2; clear hb2)
  go_ret2
  exact ⟨rfl, below_next HB1.out HB2.out⟩
end Go.Proofs.YtndimnomkcjeiaaDoor.Hand
