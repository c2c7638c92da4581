/- Contracts of the functions of sets and of dovetailref01 on single numbers: each answers by the plain laws of sets. -/
import Derived.Test.YtagcmhnanngfbaaDoorBase
namespace Go.Proofs.YtagcmhnanngfbaaDoor.Hand
open Go.RowKit Go.Proofs.YtagcmhnanngfbaaDoorW.PrintWords Go.Proofs.YtagcmhnanngfbaaDoorW.PrintMore Go.Proofs.YtagcmhnanngfbaaDoor.Math

theorem u64_half (x : Nat) (h : x < 18446744073709551616) : IntKind.u64.wrap (Int.tdiv (x : Int) 2) = ((x / 2 : Nat) : Int) := by
  rw [Int.tdiv_eq_ediv_of_nonneg (by omega), wrap_u64]; omega
theorem odd_bit (x : Nat) : ((Int.tmod (x : Int) 2) == 1) = x.testBit 0 := by
  rw [Int.tmod_eq_emod_of_nonneg (by omega), Nat.testBit_zero, Bool.eq_iff_iff]; simp; omega
theorem full_sub (a b : Nat) (h : a = b + 1) (h2 : a < 18446744073709551616) : IntKind.u64.wrap ((a : Int) - 1) = (b : Int) := by
  rw [wrap_u64]; omega
theorem shl_bit (k : Int) (h0 : 0 ≤ k) (h1 : k ≤ 63) : IntKind.u64.wrap (2 ^ min k.toNat 64) = ((bitN k : Nat) : Int) := by
  have h : min k.toNat 64 = k.toNat := by omega
  rw [h]
  have h2 : bitN k = 2 ^ k.toNat := by rw [bitN, (inR_iff k).2 ⟨h0, h1⟩]; simp
  have h3 : ((2 : Int) ^ k.toNat) = ((2 ^ k.toNat : Nat) : Int) := by simp
  rw [h2, h3]
  exact wrap_u64_nat _ (by rw [← h2]; exact bitN_lt k)
theorem bit_lo (k : Int) (h : k < 0) : bitN k = 0 := by rw [bitN, (inR_no k).2 (by omega)]; simp
theorem bit_hi (k : Int) (h : 63 < k) : bitN k = 0 := by rw [bitN, (inR_no k).2 (by omega)]; simp

theorem bit_calls (k : Int) (w : World) : Quiet 77 #[.int .i64 k] w (.int .u64 (bitN k)) := by
  unfold Quiet
  by_cases h0 : k < 0
  · have H := Lib.hid (bit_lo k h0)
    go_enter Tryd.func77, Tryd.ntmps77
    go_wp2
    go_ret
    exact ⟨ret_int (by rw [H.out]; rfl), 0, rfl⟩
  · by_cases h1 : 63 < k
    · have H := Lib.hid (bit_hi k h1)
      go_enter Tryd.func77, Tryd.ntmps77
      go_wp2
      go_ret
      exact ⟨ret_int (by rw [H.out]; rfl), 0, rfl⟩
    · have H := Lib.hid (shl_bit k (by omega) (by omega))
      go_enter Tryd.func77, Tryd.ntmps77
      go_wp2
      go_ret
      refine ⟨ret_int ?_, 0, rfl⟩
      exact (congrArg (fun n => IntKind.u64.wrap (2 ^ n)) (show k.toNat = min k.toNat 64 by omega)).trans H.out
theorem has_calls (s : Nat) (hs : s < 18446744073709551616) (k : Int) (w : World) : Quiet 52 #[.int .u64 s, .int .i64 k] w (.bool (hasN s k)) := by
  unfold Quiet
  have H1 := Lib.hid (bits_and s (bitN k) hs (bitN_lt k))
  have H2 := Lib.hid (and_bit s k)
  clear hs
  go_enter Tryd.func52, Tryd.ntmps52
  go_wp2_with (go_at_call 77; refine (bit_calls k _).mono ?_; rintro e w' ⟨rfl, n, rfl⟩)
  go_ret
  exact ⟨ret_bool (by rw [H1.out, ← H2.out]; exact nat_ne _), _, rfl⟩
theorem with_calls (s : Nat) (hs : s < 18446744073709551616) (k : Int) (w : World) : Quiet 55 #[.int .u64 s, .int .i64 k] w (.int .u64 (withN s k)) := by
  unfold Quiet
  have H1 := Lib.hid (bits_or s (bitN k) hs (bitN_lt k))
  clear hs
  go_enter Tryd.func55, Tryd.ntmps55
  go_wp2_with (go_at_call 77; refine (bit_calls k _).mono ?_; rintro e w' ⟨rfl, n, rfl⟩)
  go_ret
  exact ⟨ret_int (by rw [H1.out]; rfl), _, rfl⟩
theorem bit_still (k : Int) (w : World) : Calls Tryd.prog 77 #[.int .i64 k] w (fun e w' => e = .returned (.int .u64 (bitN k)) ∧ w' = w) := by
  by_cases h0 : k < 0
  · have H := Lib.hid (bit_lo k h0)
    go_enter Tryd.func77, Tryd.ntmps77
    go_wp2
    go_ret
    exact ⟨ret_int (by rw [H.out]; rfl), rfl⟩
  · by_cases h1 : 63 < k
    · have H := Lib.hid (bit_hi k h1)
      go_enter Tryd.func77, Tryd.ntmps77
      go_wp2
      go_ret
      exact ⟨ret_int (by rw [H.out]; rfl), rfl⟩
    · have H := Lib.hid (shl_bit k (by omega) (by omega))
      go_enter Tryd.func77, Tryd.ntmps77
      go_wp2
      go_ret
      refine ⟨ret_int ?_, rfl⟩
      exact (congrArg (fun n => IntKind.u64.wrap (2 ^ n)) (show k.toNat = min k.toNat 64 by omega)).trans H.out
theorem with_still (s : Nat) (hs : s < 18446744073709551616) (k : Int) (w : World) : Calls Tryd.prog 55 #[.int .u64 s, .int .i64 k] w (fun e w' => e = .returned (.int .u64 (withN s k)) ∧ w' = w) := by
  have H1 := Lib.hid (bits_or s (bitN k) hs (bitN_lt k))
  clear hs
  go_enter Tryd.func55, Tryd.ntmps55
  go_wp2_with (go_at_call 77; refine (bit_still k _).mono ?_; rintro e w' ⟨rfl, rfl⟩)
  go_ret
  exact ⟨ret_int (by rw [H1.out]; rfl), rfl⟩
theorem full_calls (n : Int) (w : World) : Quiet 38 #[.int .i64 n] w (.int .u64 (fullN n)) := by
  unfold Quiet
  by_cases h0 : n < 1
  · have H : Hid (fullN n = 0) := Lib.hid (by unfold fullN; rw [show min n.toNat 64 = 0 by omega])
    go_enter Tryd.func38, Tryd.ntmps38
    go_wp2
    go_ret
    exact ⟨ret_int (by rw [H.out]; rfl), 0, rfl⟩
  · by_cases h1 : 63 < n
    · have H : Hid (fullN n = 18446744073709551615) := Lib.hid (by unfold fullN; rw [show min n.toNat 64 = 64 by omega])
      go_enter Tryd.func38, Tryd.ntmps38
      go_wp2
      go_ret
      exact ⟨ret_int (by rw [H.out]; rfl), 0, rfl⟩
    · have H := Lib.hid (shl_bit n (by omega) (by omega))
      have H2 : Hid (bitN n = fullN n + 1) := Lib.hid (by
        unfold fullN bitN; rw [(inR_iff n).2 (by omega), show min n.toNat 64 = n.toNat by omega]
        have := Nat.two_pow_pos n.toNat; simp; omega)
      have H3 := Lib.hid (bitN_lt n)
      go_enter Tryd.func38, Tryd.ntmps38
      go_wp2
      go_ret
      exact ⟨ret_int ((congrArg (fun x => IntKind.u64.wrap (x - 1)) ((congrArg (fun n => IntKind.u64.wrap (2 ^ n)) (show n.toNat = min n.toNat 64 by omega)).trans H.out)).trans (full_sub _ _ H2.out H3.out)), 0, rfl⟩
theorem of_calls (A : Option Addr) (c : Nat) (l : List Int) (w : World) (hr : Kd.C (Kd.int .i64) w A l.length l) : Quiet 69 #[.slice A l.length c] w (.int .u64 (ofN l)) := by
  unfold Quiet
  have hlen := hr.2.1
  have HR := Lib.hid hr
  clear hr
  go_enter Tryd.func69, Tryd.ntmps69
  go_wp2
  go_loopw [2, 7] (fun a i wr => ∃ (j d x : Nat), j ≤ l.length ∧ i = .int .i64 j ∧ a = .int .u64 x ∧ Hid (x = ofN (l.take j)) ∧ wr = w.drewN d) (fun _ i _ => l.length - (intOf i).toNat)
  case atStart => exact ⟨0, 0, 0, by omega, rfl, rfl, Lib.hid rfl, rfl⟩
  case round =>
    obtain ⟨j, d, x, hj, rfl, rfl, HX, rfl⟩ := hrel
    by_cases hlt : j < l.length
    · obtain ⟨ad, y, rfl, hc, HY⟩ := at_nat HR.out j hlt
      have HL : Hid (x < 18446744073709551616) := Lib.hid (by rw [HX.out]; exact ofN_lt _)
      have HO := Lib.hid (bits_or x (bitN y) HL.out (bitN_lt _))
      have HS : Hid (ofN (l.take (j + 1)) = x ||| bitN y) := Lib.hid (by rw [take_snoc_getD l j hlt, ofN_snoc, HX.out, HY.out]; rfl)
      go_wp2_with (go_at_call 77; refine (bit_calls _ _).mono ?_; rintro e w' ⟨rfl, n1, rfl⟩)
      go_roundw
      case rel => exact ⟨j + 1, d + n1, _, by omega, by go_num, by rw [HO.out], Lib.hid HS.out.symm, rfl⟩
      case measure => simp [intOf]; omega
    · have HE : Hid (x = ofN l) := Lib.hid (by rw [HX.out, List.take_of_length_le (by omega)])
      go_wp2
      go_ret
      exact ⟨ret_int (by rw [HE.out]), _, rfl⟩
end Go.Proofs.YtagcmhnanngfbaaDoor.Hand
