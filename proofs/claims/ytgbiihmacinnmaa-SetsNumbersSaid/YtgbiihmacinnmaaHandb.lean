/- Contracts over lists of numbers: Of, dovetailkit's Ints, LentInts and KeptInts. -/
import Derived.Test.YtgbiihmacinnmaaHand
namespace Go.Proofs.Ytgbiihmacinnmaa.Hand
open Go.RowKit Go.Proofs.YtgbiihmacinnmaaW.PrintWords Go.Proofs.YtgbiihmacinnmaaW.PrintMore Go.Proofs.Ytgbiihmacinnmaa.Math

theorem at_nat {w : World} {k : IntKind} {A : Option Addr} {n : Nat} {l : List Int} (h : (Kd.int k).C w A n l) (i : Nat) (hi : i < l.length) : ∃ ad y, A = some ad ∧ w.cell? (ad.add i) = some (.int k y) ∧ Hid (l.getD i 0 = y) := by
  have hn : n = l.length := h.1.symm
  obtain ⟨ad, h1, h2⟩ := Kd.at_int h (i : Int) (by omega) (by omega)
  exact ⟨ad, _, h1, h2, Lib.hid rfl⟩
theorem take_snoc_getD (l : List Int) (i : Nat) (h : i < l.length) : l.take (i + 1) = l.take i ++ [l.getD i 0] := by
  rw [List.take_succ_eq_append_getElem h, List.getD_eq_getElem?_getD, List.getElem?_eq_getElem h]; rfl

theorem of_calls (A : Option Addr) (c : Nat) (l : List Int) (w : World) (hr : Kd.C (Kd.int .i64) w A l.length l) : Quiet 5 #[.slice A l.length c] w (.int .u64 (ofN l)) := by
  unfold Quiet
  have hlen := hr.2.1
  have HR := Lib.hid hr
  clear hr
  go_enter Try.func5, Try.ntmps5
  go_wp2
  go_loopw [2, 7] (fun a i wr => ∃ (j d x : Nat), j ≤ l.length ∧ i = .int .i64 j ∧ a = .int .u64 x ∧ Hid (x = ofN (l.take j)) ∧ wr = w.drewN d) (fun _ i _ => l.length - (intOf i).toNat)
  case atStart => exact ⟨0, 0, 0, by omega, rfl, rfl, Lib.hid rfl, rfl⟩
  case round =>
    obtain ⟨j, d, x, hj, rfl, rfl, HX, rfl⟩ := hrel
    by_cases hlt : j < l.length
    · obtain ⟨ad, y, rfl, hc, HY⟩ := at_nat HR.out j hlt
      have HL : Hid (x < 18446744073709551616) := Lib.hid (by rw [HX.out]; exact ofN_lt _)
      have HO := Lib.hid (bits_or x (bitN y) HL.out (bitN_lt _))
      have HS : Hid (ofN (l.take (j + 1)) = x ||| bitN y) := Lib.hid (by rw [take_snoc_getD l j hlt, ofN_snoc, HX.out, HY.out]; rfl)
      go_wp2_with (go_at_call 16; refine (bit_calls _ _).mono ?_; rintro e w' ⟨rfl, n1, rfl⟩)
      go_roundw
      case rel => exact ⟨j + 1, d + n1, _, by omega, by go_num, by rw [HO.out], Lib.hid HS.out.symm, rfl⟩
      case measure => simp [intOf]; omega
    · have HE : Hid (x = ofN l) := Lib.hid (by rw [HX.out, List.take_of_length_le (by omega)])
      go_wp2
      go_ret
      exact ⟨ret_int (by rw [HE.out]), _, rfl⟩
theorem rof_calls (A : Option Addr) (c : Nat) (l : List Int) (w : World) (hr : Kd.C (Kd.int .i64) w A l.length l) : Quiet 6 #[.slice A l.length c] w (.int .u64 (ofN l)) := by
  unfold Quiet
  have hlen := hr.2.1
  have HR := Lib.hid hr
  clear hr
  go_enter Try.func6, Try.ntmps6
  go_wp2
  go_loopw [3, 4] (fun a i wr => ∃ (j d x : Nat), j ≤ l.length ∧ i = .int .i64 j ∧ a = .int .u64 x ∧ Hid (x = ofN (l.take j)) ∧ wr = w.drewN d) (fun _ i _ => l.length - (intOf i).toNat)
  case atStart => exact ⟨0, 0, 0, by omega, rfl, rfl, Lib.hid rfl, rfl⟩
  case round =>
    obtain ⟨j, d, x, hj, rfl, rfl, HX, rfl⟩ := hrel
    by_cases hlt : j < l.length
    · obtain ⟨ad, y, rfl, hc, HY⟩ := at_nat HR.out j hlt
      have HL : Hid (x < 18446744073709551616) := Lib.hid (by rw [HX.out]; exact ofN_lt _)
      have HS : Hid (ofN (l.take (j + 1)) = withN x y) := Lib.hid (by rw [take_snoc_getD l j hlt, ofN_snoc, HX.out, HY.out])
      go_wp2_with (go_at_call 13; refine (rwith_calls _ HL.out _ _).mono ?_; rintro e w' ⟨rfl, n1, rfl⟩)
      go_roundw
      case rel => exact ⟨j + 1, d + n1, _, by omega, by go_num, rfl, Lib.hid HS.out.symm, rfl⟩
      case measure => simp [intOf]; omega
    · have HE : Hid (x = ofN l) := Lib.hid (by rw [HX.out, List.take_of_length_le (by omega)])
      go_wp2
      go_ret
      exact ⟨ret_int (by rw [HE.out]), _, rfl⟩
/-- Two lists that are one. -/
theorem ints_same (A B : Option Addr) (c d : Nat) (l : List Int) (w : World) (hr : Kd.C (Kd.int .i64) w A l.length l) (hq : Kd.C (Kd.int .i64) w B l.length l) : Quiet 17 #[.slice A l.length c, .slice B l.length d] w (.bool true) := by
  unfold Quiet
  have hlen := hr.2.1
  have HR := Lib.hid hr
  have HQ := Lib.hid hq
  clear hr hq
  go_enter Try.func17, Try.ntmps17
  go_wp2
  go_loopw [5] (fun i wr => ∃ (j d : Nat), j ≤ l.length ∧ i = .int .i64 j ∧ wr = w.drewN d) (fun i _ => l.length - (intOf i).toNat)
  case atStart => exact ⟨0, 0, by omega, rfl, rfl⟩
  case round =>
    obtain ⟨j, d, hj, rfl, rfl⟩ := hrel
    by_cases hlt : j < l.length
    · obtain ⟨ad, y, rfl, hc, HY⟩ := at_nat HR.out j hlt
      obtain ⟨ad2, y2, rfl, hc2, HY2⟩ := at_nat HQ.out j hlt
      obtain rfl : y = y2 := HY.out.symm.trans HY2.out
      go_wp2
      go_quiet (fail)
      go_wp2
      go_roundw
      case rel => exact ⟨j + 1, _, by omega, by go_num, rfl⟩
      case measure => simp [intOf]; omega
    · go_wp2
      go_ret
      exact ⟨rfl, _, rfl⟩
/-- A row lent: a slice of length n over n + 1 cells, the last one being the mark. -/
def Lent (w : World) (v : Value) (l : List Int) : Prop :=
  ∃ ad c, v = .slice (some ad) l.length c ∧ l.length + 1 ≤ c ∧ Kd.C (Kd.int .i64) w (some ad) (l.length + 1) (l ++ [(-7171)])
theorem info3 : (Try.prog.info? 3).map (fun i => (i.zero, i.size, i.bytes)) = some (some (.int .i64 0), 1, 8) := by kernel_rfl
theorem lent_calls (A0 : Option Addr) (c0 : Nat) (l0 : List Int) (w : World) (hr0 : Kd.C (Kd.int .i64) w A0 l0.length l0) (hl : l0.length < 17592186044415) :
    Calls Try.prog 4 #[.slice A0 l0.length c0] w fun e w' => ∃ v, e = .returned v ∧ Lent w' v l0 ∧ Below w.heap.size w w' := by
  have HR0 := Aside0.mk hr0
  have HL := Aside0.mk hl
  clear hr0 hl
  have HB := Aside0.mk (Below.refl w.heap.size w)
  go_enter Try.func4, Try.ntmps4
  go_wp2_with (first | ((with_reducible refine gate_builtin (b := .append) (xs := #[.tmp 4, .tmp 5]) rfl ?_); at_builtin; refine Kd.R_append_rows (Kd.int .i64) (w0 := w) w.heap.size rfl (.tmp 4) (.tmp 5) 22 3 (.int .i64 0) 8 rfl Try.underlying22 info3 rfl (by decide) (by omega) (.slice none 0 0) ([] : List Int) l0 _ _ _ (fun _ => True) (fun _ => False) rfl rfl (Kd.R_nil _ _ _ _ _) HR0.out (fun _ _ h => h) (fun _ h => h.elim) (fun _ _ => trivial) HB.out (Nat.le_refl _) (by have := HL.out; simp; omega) ?_; intro v1 w1 ho hb _ _; rw [List.nil_append] at ho; have HO := Aside0.mk ho; have HB1 := Aside0.mk hb; clear ho hb)
                     | ((with_reducible refine gate_builtin (b := .append) (xs := #[.tmp 7, .tmp 8]) rfl ?_); at_builtin; refine Kd.R_append (Kd.int .i64) (w0 := w) w.heap.size rfl (.tmp 7) (.tmp 8) 22 3 (.int .i64 0) 8 rfl Try.underlying22 info3 rfl (by decide) (by omega) v1 l0 (-7171) [.int .i64 (-7171)] (fun _ => True) (fun _ => False) rfl rfl rfl (fun _ hk => hk.elim) (fun _ _ => trivial) HO.out HB1.out HB1.out.size (by have := HL.out; omega) ?_; intro v2 w2 ho hb _ _; have HO2 := Aside0.mk ho; have HB2 := Aside0.mk hb; clear ho hb; obtain ⟨A, c, rfl⟩ := Kd.R_slice HO2.out; have hc : l0.length + 1 ≤ c := (by have := (Kd.R_reads' HO2.out).2.1; simpa using this)))
  go_ret
  have hr := (Kd.R_reads' HO2.out).2.2
  obtain ⟨ad, rfl, -⟩ := hr.2.2 (by simp)
  exact ⟨_, rfl, ⟨ad, c, rfl, hc, by simpa using hr⟩, HB2.out⟩
theorem kept_calls (B : Option Addr) (d : Nat) (v : Value) (l : List Int) (w : World) (hv : Lent w v l) (hq : Kd.C (Kd.int .i64) w B l.length l) : Quiet 7 #[v, .slice B l.length d] w (.bool true) := by
  unfold Quiet
  obtain ⟨ad, c, rfl, hc, hr⟩ := hv
  have hlen := hr.2.1
  obtain ⟨ad2, y, e, hcell, HY⟩ := at_nat hr l.length (by simp)
  simp only [Option.some.injEq] at e
  subst e
  have hy : y = -7171 := by rw [← HY.out]; simp
  subst hy
  have HC : Kd.C (Kd.int .i64) w (some ad) l.length l := by
    have h2 := Kd.C_take (k := Kd.int .i64) (A := some ad) (w := w) (xs := l ++ [(-7171)]) (m := l.length) (by simpa using hr) (by simp)
    simpa using h2
  have HR := Lib.hid HC
  have HQ := Lib.hid hq
  clear hr hq HC HY
  go_enter Try.func7, Try.ntmps7
  go_wp2_with (go_at_call 17; refine (ints_same (some ad) B c d l _ HR.out HQ.out).mono ?_; rintro e w' ⟨rfl, n, rfl⟩)
  go_ret
  exact ⟨rfl, _, rfl⟩
end Go.Proofs.Ytgbiihmacinnmaa.Hand
