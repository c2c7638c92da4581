/- The walk of SetsNumbers: it answers true and leaves the memory that it was given as it was. -/
import Derived.Test.YtgbiihmacinnmaaHandb
namespace Go.Proofs.Ytgbiihmacinnmaa.Hand
open Go.RowKit Go.Proofs.YtgbiihmacinnmaaW.PrintWords Go.Proofs.YtgbiihmacinnmaaW.PrintMore Go.Proofs.Ytgbiihmacinnmaa.Math

theorem lent_reads {w : World} {v : Value} {l : List Int} (h : Lent w v l) : ∃ ad d, v = .slice (some ad) l.length d ∧ Kd.C (Kd.int .i64) w (some ad) l.length l := by
  obtain ⟨ad, d, rfl, hd, hv⟩ := h
  refine ⟨ad, d, rfl, ?_⟩
  have h2 := Kd.C_take (k := Kd.int .i64) (A := some ad) (w := w) (xs := l ++ [(-7171)]) (m := l.length) (by simpa using hv) (by simp)
  simpa using h2
theorem lent_drewN {w : World} {v : Value} {l : List Int} (h : Lent w v l) (m : Nat) : Lent (w.drewN m) v l := by
  obtain ⟨ad, d, rfl, hd, hv⟩ := h
  exact ⟨ad, d, rfl, hd, Kd.C_drewN hv m⟩
theorem law_calls (A : Option Addr) (c : Nat) (l : List Int) (n k : Int) (s : Nat) (hs : s < 18446744073709551616) (w : World) (hr : Kd.C (Kd.int .i64) w A l.length l) (hl : l.length < 17592186044415) :
    Calls Try.prog 3 #[.slice A l.length c, .int .i64 n, .int .u64 s, .int .i64 k] w fun e w' => e = .returned (.bool true) ∧ Below w.heap.size w w' := by
  have HR := Lib.hid hr
  have HL := Lib.hid hl
  have HS := Lib.hid hs
  clear hr hl hs
  go_enter Try.func3, Try.ntmps3
  go_wp2_with (first | (go_at_call 4; refine (lent_calls A c l w HR.out HL.out).mono ?_; rintro e w1 ⟨v, rfl, HV, HB⟩; have HR1 := Lib.hid (Kd.C_below HR.out HB); have HC0 := lent_reads HV; have HV1 := Lib.hid HV; have HB1 := Lib.hid HB; clear HV HB; obtain ⟨ad, d, rfl, HC1⟩ := HC0; have HC := Lib.hid HC1; clear HC1)
                     | (go_at_call 5; refine (of_calls (some ad) d l _ (by first | exact HC.out | exact Kd.C_drewN HC.out _)).mono ?_; rintro e w' ⟨rfl, n1, rfl⟩)
                     | (go_at_call 6; refine (rof_calls A c l _ (by first | exact HR1.out | exact Kd.C_drewN HR1.out _)).mono ?_; rintro e w' ⟨rfl, n2, rfl⟩)
                     | (go_at_call 7; refine (kept_calls A c _ l _ (by first | exact HV1.out | exact lent_drewN HV1.out _) (by first | exact HR1.out | exact Kd.C_drewN HR1.out _)).mono ?_; rintro e w' ⟨rfl, n3, rfl⟩)
                     | (go_at_call 8; refine (full_calls n _).mono ?_; rintro e w' ⟨rfl, n4, rfl⟩)
                     | (go_at_call 9; refine (rfull_calls n _).mono ?_; rintro e w' ⟨rfl, n5, rfl⟩)
                     | (go_at_call 10; refine (has_calls s HS.out k _).mono ?_; rintro e w' ⟨rfl, n6, rfl⟩)
                     | (go_at_call 11; refine (rhas_calls s HS.out k _).mono ?_; rintro e w' ⟨rfl, n7, rfl⟩)
                     | (go_at_call 12; refine (with_calls s HS.out k _).mono ?_; rintro e w' ⟨rfl, n8, rfl⟩)
                     | (go_at_call 13; refine (rwith_calls s HS.out k _).mono ?_; rintro e w' ⟨rfl, n9, rfl⟩)
                     | (go_at_call 14; refine (without_calls s HS.out k _).mono ?_; rintro e w' ⟨rfl, n10, rfl⟩)
                     | (go_at_call 15; refine (rwithout_calls s HS.out k _).mono ?_; rintro e w' ⟨rfl, n11, rfl⟩))
  go_ret
  exact ⟨rfl, pw_below_drewN HB1.out _⟩
theorem law_walk (a0 : Option Addr) (len0 cap0 : Nat) (z0 : List Int) (a1 a2 a3 : Int) (w : World) (w0 : (a0 = none ∧ len0 = 0 ∧ cap0 = 0 ∧ z0 = []) ∨ ∃ x, a0 = some x ∧ len0 ≤ cap0 ∧ cap0 ≤ maxLen ∧ z0.length = cap0 ∧ (∀ i, i < z0.length → w.cell? (x.add i) = some (.int .i64 (z0.getD i 0))) ∧ ∀ n ∈ z0, (Lit.int .i64 n).wf = true)
    (y0 : len0 * 8 ≤ 140737488351232) (w1 : (Lit.int .i64 a1).wf = true) (w2 : (Lit.int .u64 a2).wf = true) (w3 : (Lit.int .i64 a3).wf = true) :
    Calls Try.prog 3 #[.slice a0 len0 cap0, .int .i64 a1, .int .u64 a2, .int .i64 a3] w fun e w' => e = .returned (.bool true) ∧ Below w.heap.size w w' := by
  obtain ⟨l0, rfl, hr0, hm0, hw0, hc0⟩ := ReadsInt.ofRowC w0
  have h2 : 0 ≤ a2 ∧ a2 < 18446744073709551616 := by
    simp only [Lit.wf, IntKind.min, IntKind.max, IntKind.signed, IntKind.bits, Bool.and_eq_true, decide_eq_true_eq] at w2
    have := w2
    simp at this
    omega
  obtain ⟨s, rfl⟩ := Int.eq_ofNat_of_zero_le h2.1
  exact law_calls a0 cap0 l0 a1 a3 s (by omega) w (Kd.C_of_reads (d := (0 : Int)) (h1 := fun _ => rfl) hr0) (by omega)
end Go.Proofs.Ytgbiihmacinnmaa.Hand
