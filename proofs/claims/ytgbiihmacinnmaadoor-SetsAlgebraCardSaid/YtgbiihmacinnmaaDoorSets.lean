/- Contracts of the functions of sets and of dovetailref01 on single numbers: each answers by the plain laws of sets. -/
import Derived.Test.YtgbiihmacinnmaaDoorBase
namespace Go.Proofs.YtgbiihmacinnmaaDoor.Hand
open Go.RowKit Go.Proofs.YtgbiihmacinnmaaDoorW.PrintWords Go.Proofs.YtgbiihmacinnmaaDoorW.PrintMore Go.Proofs.YtgbiihmacinnmaaDoor.Math

theorem u64_half (x : Nat) (h : x < 18446744073709551616) : IntKind.u64.wrap (Int.tdiv (x : Int) 2) = ((x / 2 : Nat) : Int) := by
  rw [Int.tdiv_eq_ediv_of_nonneg (by omega), wrap_u64]; omega
theorem odd_bit (x : Nat) : ((Int.tmod (x : Int) 2) == 1) = x.testBit 0 := by
  rw [Int.tmod_eq_emod_of_nonneg (by omega), Nat.testBit_zero, Bool.eq_iff_iff]; simp; omega
theorem full_sub (a b : Nat) (h : a = b + 1) (h2 : a < 18446744073709551616) : IntKind.u64.wrap ((a : Int) - 1) = (b : Int) := by
  rw [wrap_u64]; omega
theorem shl_bit (k : Int) (h0 : 0 ≤ k) (h1 : k ≤ 63) : IntKind.u64.wrap (2 ^ min k.toNat 64) = ((bitN k : Nat) : Int) := by
  have h : min k.toNat 64 = k.toNat := by omega
  rw [h]
  have h2 : bitN k = 2 ^ k.toNat := by rw [bitN, (inR_iff k).2 ⟨h0, h1⟩]; simp
  have h3 : ((2 : Int) ^ k.toNat) = ((2 ^ k.toNat : Nat) : Int) := by simp
  rw [h2, h3]
  exact wrap_u64_nat _ (by rw [← h2]; exact bitN_lt k)
theorem bit_lo (k : Int) (h : k < 0) : bitN k = 0 := by rw [bitN, (inR_no k).2 (by omega)]; simp
theorem bit_hi (k : Int) (h : 63 < k) : bitN k = 0 := by rw [bitN, (inR_no k).2 (by omega)]; simp

theorem bit_calls (k : Int) (w : World) : Quiet 43 #[.int .i64 k] w (.int .u64 (bitN k)) := by
  unfold Quiet
  by_cases h0 : k < 0
  · have H := Lib.hid (bit_lo k h0)
    go_enter Tryd.func43, Tryd.ntmps43
    go_wp2
    go_ret
    exact ⟨ret_int (by rw [H.out]; rfl), 0, rfl⟩
  · by_cases h1 : 63 < k
    · have H := Lib.hid (bit_hi k h1)
      go_enter Tryd.func43, Tryd.ntmps43
      go_wp2
      go_ret
      exact ⟨ret_int (by rw [H.out]; rfl), 0, rfl⟩
    · have H := Lib.hid (shl_bit k (by omega) (by omega))
      go_enter Tryd.func43, Tryd.ntmps43
      go_wp2
      go_ret
      refine ⟨ret_int ?_, 0, rfl⟩
      exact (congrArg (fun n => IntKind.u64.wrap (2 ^ n)) (show k.toNat = min k.toNat 64 by omega)).trans H.out
theorem has_calls (s : Nat) (hs : s < 18446744073709551616) (k : Int) (w : World) : Quiet 29 #[.int .u64 s, .int .i64 k] w (.bool (hasN s k)) := by
  unfold Quiet
  have H1 := Lib.hid (bits_and s (bitN k) hs (bitN_lt k))
  have H2 := Lib.hid (and_bit s k)
  clear hs
  go_enter Tryd.func29, Tryd.ntmps29
  go_wp2_with (go_at_call 43; refine (bit_calls k _).mono ?_; rintro e w' ⟨rfl, n, rfl⟩)
  go_ret
  exact ⟨ret_bool (by rw [H1.out, ← H2.out]; exact nat_ne _), _, rfl⟩
theorem with_calls (s : Nat) (hs : s < 18446744073709551616) (k : Int) (w : World) : Quiet 31 #[.int .u64 s, .int .i64 k] w (.int .u64 (withN s k)) := by
  unfold Quiet
  have H1 := Lib.hid (bits_or s (bitN k) hs (bitN_lt k))
  clear hs
  go_enter Tryd.func31, Tryd.ntmps31
  go_wp2_with (go_at_call 43; refine (bit_calls k _).mono ?_; rintro e w' ⟨rfl, n, rfl⟩)
  go_ret
  exact ⟨ret_int (by rw [H1.out]; rfl), _, rfl⟩
theorem without_calls (s : Nat) (hs : s < 18446744073709551616) (k : Int) (w : World) : Quiet 30 #[.int .u64 s, .int .i64 k] w (.int .u64 (withoutN s k)) := by
  unfold Quiet
  have H1 := Lib.hid (bits_andNot s (bitN k) hs (bitN_lt k))
  clear hs
  go_enter Tryd.func30, Tryd.ntmps30
  go_wp2_with (go_at_call 43; refine (bit_calls k _).mono ?_; rintro e w' ⟨rfl, n, rfl⟩)
  go_ret
  exact ⟨ret_int (by rw [H1.out]; rfl), _, rfl⟩
theorem full_calls (n : Int) (w : World) : Quiet 42 #[.int .i64 n] w (.int .u64 (fullN n)) := by
  unfold Quiet
  by_cases h0 : n < 1
  · have H : Hid (fullN n = 0) := Lib.hid (by unfold fullN; rw [show min n.toNat 64 = 0 by omega])
    go_enter Tryd.func42, Tryd.ntmps42
    go_wp2
    go_ret
    exact ⟨ret_int (by rw [H.out]; rfl), 0, rfl⟩
  · by_cases h1 : 63 < n
    · have H : Hid (fullN n = 18446744073709551615) := Lib.hid (by unfold fullN; rw [show min n.toNat 64 = 64 by omega])
      go_enter Tryd.func42, Tryd.ntmps42
      go_wp2
      go_ret
      exact ⟨ret_int (by rw [H.out]; rfl), 0, rfl⟩
    · have H := Lib.hid (shl_bit n (by omega) (by omega))
      have H2 : Hid (bitN n = fullN n + 1) := Lib.hid (by
        unfold fullN bitN; rw [(inR_iff n).2 (by omega), show min n.toNat 64 = n.toNat by omega]
        have := Nat.two_pow_pos n.toNat; simp; omega)
      have H3 := Lib.hid (bitN_lt n)
      go_enter Tryd.func42, Tryd.ntmps42
      go_wp2
      go_ret
      exact ⟨ret_int ((congrArg (fun x => IntKind.u64.wrap (x - 1)) ((congrArg (fun n => IntKind.u64.wrap (2 ^ n)) (show n.toNat = min n.toNat 64 by omega)).trans H.out)).trans (full_sub _ _ H2.out H3.out)), 0, rfl⟩
theorem rhas_calls (s : Nat) (hs : s < 18446744073709551616) (k : Int) (w : World) : Quiet 32 #[.int .u64 s, .int .i64 k] w (.bool (hasN s k)) := by
  unfold Quiet
  by_cases h0 : k < 0
  · have H := Lib.hid (hasN_out (s := s) ((inR_no k).2 (.inl h0)))
    clear hs
    go_enter Tryd.func32, Tryd.ntmps32
    go_wp2
    go_ret
    exact ⟨ret_bool (by rw [H.out]), 0, rfl⟩
  · by_cases h1 : 63 < k
    · have H := Lib.hid (hasN_out (s := s) ((inR_no k).2 (.inr h1)))
      clear hs
      go_enter Tryd.func32, Tryd.ntmps32
      go_wp2
      go_ret
      exact ⟨ret_bool (by rw [H.out]), 0, rfl⟩
    · have h0' : 0 ≤ k := by omega
      have h1' : k ≤ 63 := by omega
      clear h0 h1
      go_enter Tryd.func32, Tryd.ntmps32
      go_wp2
      go_loop [0, 5] (fun a i => ∃ j x : Nat, (j : Int) ≤ k ∧ x < 18446744073709551616 ∧ i = .int .i64 j ∧ a = .int .u64 x ∧ Hid (x = s / 2 ^ j)) (fun _ i => k.toNat - (intOf i).toNat)
      case atStart => exact ⟨0, s, by omega, hs, rfl, rfl, Lib.hid (by simp)⟩
      case round =>
        obtain ⟨j, x, hj, hx, rfl, rfl, HX⟩ := hrel
        by_cases hlt : (j : Int) < k
        · go_wp2
          go_round
          case rel => exact ⟨j + 1, x / 2, by omega, by omega, by go_num, by go_num, Lib.hid (by rw [HX.out, Nat.pow_succ, ← Nat.div_div_eq_div_mul])⟩
          case measure => simp [intOf]; omega
        · have e : j = k.toNat := by omega
          have HB : Hid (x.testBit 0 = hasN s k) := Lib.hid (by rw [HX.out, Nat.testBit_div_two_pow, hasN, (inR_iff k).2 ⟨h0', h1'⟩, e]; simp)
          clear e
          go_wp2
          go_ret
          exact ⟨ret_bool ((odd_bit x).trans HB.out), 0, rfl⟩
theorem one_calls (k : Int) (h0 : 0 ≤ k) (h1 : k ≤ 63) (w : World) : Quiet 44 #[.int .i64 k] w (.int .u64 ((2 ^ k.toNat : Nat) : Int)) := by
  unfold Quiet
  obtain ⟨r, HR⟩ : ∃ r : Nat, Hid (2 ^ k.toNat = r) := ⟨_, Lib.hid rfl⟩
  rw [HR.out]
  go_enter Tryd.func44, Tryd.ntmps44
  go_wp2
  go_loop [3, 4] (fun a i => ∃ j x : Nat, (j : Int) ≤ k ∧ i = .int .i64 j ∧ a = .int .u64 x ∧ Hid (x = 2 ^ j)) (fun _ i => k.toNat - (intOf i).toNat)
  case atStart => exact ⟨0, 1, by omega, rfl, rfl, Lib.hid rfl⟩
  case round =>
    obtain ⟨j, x, hj, rfl, rfl, HX⟩ := hrel
    by_cases hlt : (j : Int) < k
    · have hp := Nat.pow_le_pow_right (show 0 < 2 by decide) (show j + 1 ≤ 63 by omega)
      have HH : Hid (IntKind.u64.wrap ((x : Int) * 2) = ((2 ^ (j + 1) : Nat) : Int)) := Lib.hid (by rw [HX.out, wrap_u64, Nat.pow_succ]; rw [Nat.pow_succ] at hp; omega)
      clear hp
      go_wp2
      go_round
      case rel => exact ⟨j + 1, 2 ^ (j + 1), by omega, by go_num, by rw [HH.out], Lib.hid rfl⟩
      case measure => simp [intOf]; omega
    · have e : Hid (x = r) := Lib.hid (by rw [HX.out, ← HR.out, show k.toNat = j by omega])
      go_wp2
      go_ret
      exact ⟨ret_int (by rw [e.out]), 0, rfl⟩
theorem rwith_calls (s : Nat) (hs : s < 18446744073709551616) (k : Int) (w : World) : Quiet 33 #[.int .u64 s, .int .i64 k] w (.int .u64 (withN s k)) := by
  unfold Quiet
  by_cases h0 : k < 0
  · have H := Lib.hid (withN_out (s := s) ((inR_no k).2 (.inl h0)))
    clear hs
    go_enter Tryd.func33, Tryd.ntmps33
    go_wp2
    go_ret
    exact ⟨ret_int (by rw [H.out]), 0, rfl⟩
  · by_cases h1 : 63 < k
    · have H := Lib.hid (withN_out (s := s) ((inR_no k).2 (.inr h1)))
      clear hs
      go_enter Tryd.func33, Tryd.ntmps33
      go_wp2
      go_ret
      exact ⟨ret_int (by rw [H.out]), 0, rfl⟩
    · have h0' : 0 ≤ k := by omega
      have h1' : k ≤ 63 := by omega
      have HS := Lib.hid hs
      clear hs h0 h1
      cases hb : hasN s k
      · have H : Hid (IntKind.u64.wrap ((s : Int) + ((2 ^ k.toNat : Nat) : Int)) = ((withN s k : Nat) : Int)) := Lib.hid (by
          rw [withN_add ((inR_iff k).2 ⟨h0', h1'⟩) hb]
          have := withN_lt HS.out k
          rw [withN_add ((inR_iff k).2 ⟨h0', h1'⟩) hb] at this
          rw [← Int.natCast_add]; exact wrap_u64_nat _ this)
        obtain ⟨r, HR⟩ : ∃ r : Nat, Hid (2 ^ k.toNat = r) := ⟨_, Lib.hid rfl⟩
        go_enter Tryd.func33, Tryd.ntmps33
        go_wp2_with (first | (go_at_call 32; refine (rhas_calls s HS.out k _).mono ?_; rintro e w' ⟨rfl, n, rfl⟩) | (go_at_call 44; refine (one_calls k h0' h1' _).mono ?_; rw [HR.out]; rintro e w' ⟨rfl, n2, rfl⟩))
        go_ret
        exact ⟨ret_int (by rw [← H.out, HR.out]), _, rfl⟩
      · have H := Lib.hid (withN_has hb)
        go_enter Tryd.func33, Tryd.ntmps33
        go_wp2_with (go_at_call 32; refine (rhas_calls s HS.out k _).mono ?_; rintro e w' ⟨rfl, n, rfl⟩)
        go_ret
        exact ⟨ret_int (by rw [H.out]), _, rfl⟩
theorem of_calls (A : Option Addr) (c : Nat) (l : List Int) (w : World) (hr : Kd.C (Kd.int .i64) w A l.length l) : Quiet 28 #[.slice A l.length c] w (.int .u64 (ofN l)) := by
  unfold Quiet
  have hlen := hr.2.1
  have HR := Lib.hid hr
  clear hr
  go_enter Tryd.func28, Tryd.ntmps28
  go_wp2
  go_loopw [2, 7] (fun a i wr => ∃ (j d x : Nat), j ≤ l.length ∧ i = .int .i64 j ∧ a = .int .u64 x ∧ Hid (x = ofN (l.take j)) ∧ wr = w.drewN d) (fun _ i _ => l.length - (intOf i).toNat)
  case atStart => exact ⟨0, 0, 0, by omega, rfl, rfl, Lib.hid rfl, rfl⟩
  case round =>
    obtain ⟨j, d, x, hj, rfl, rfl, HX, rfl⟩ := hrel
    by_cases hlt : j < l.length
    · obtain ⟨ad, y, rfl, hc, HY⟩ := at_nat HR.out j hlt
      have HL : Hid (x < 18446744073709551616) := Lib.hid (by rw [HX.out]; exact ofN_lt _)
      have HO := Lib.hid (bits_or x (bitN y) HL.out (bitN_lt _))
      have HS : Hid (ofN (l.take (j + 1)) = x ||| bitN y) := Lib.hid (by rw [take_snoc_getD l j hlt, ofN_snoc, HX.out, HY.out]; rfl)
      go_wp2_with (go_at_call 43; refine (bit_calls _ _).mono ?_; rintro e w' ⟨rfl, n1, rfl⟩)
      go_roundw
      case rel => exact ⟨j + 1, d + n1, _, by omega, by go_num, by rw [HO.out], Lib.hid HS.out.symm, rfl⟩
      case measure => simp [intOf]; omega
    · have HE : Hid (x = ofN l) := Lib.hid (by rw [HX.out, List.take_of_length_le (by omega)])
      go_wp2
      go_ret
      exact ⟨ret_int (by rw [HE.out]), _, rfl⟩
end Go.Proofs.YtgbiihmacinnmaaDoor.Hand
