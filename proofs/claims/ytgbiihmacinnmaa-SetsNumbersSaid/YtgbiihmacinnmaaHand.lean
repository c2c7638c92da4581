/- Contracts of sets' and dovetailref01's functions: each one answers by the plain laws of sets. -/
import Derived.Test.YtgbiihmacinnmaaProg
import Derived.WalkKit
import Derived.KernelRfl
import Derived.Below
import Derived.Outline
import Derived.Deep.QuietTactic
import Derived.BigQuiet
import Derived.Lib.Hide
import Derived.Test.YtgbiihmacinnmaaWMore
import Derived.Test.YtgbiihmacinnmaaMath
namespace Go.Proofs.Ytgbiihmacinnmaa.Hand
open Go.RowKit Go.Proofs.YtgbiihmacinnmaaW.PrintWords Go.Proofs.YtgbiihmacinnmaaW.PrintMore Go.Proofs.Ytgbiihmacinnmaa.Math

theorem ret_int {k : IntKind} {a b : Int} (h : a = b) : Ending.returned (.int k a) = .returned (.int k b) := by rw [h]
theorem ret_bool {a b : Bool} (h : a = b) : Ending.returned (.bool a) = .returned (.bool b) := by rw [h]

/-- A call that answers v and leaves memory alone. -/
def Quiet (f : FuncId) (args : Array Value) (w : World) (v : Value) : Prop :=
  Calls Try.prog f args w fun e w' => e = .returned v ∧ ∃ n, w' = w.drewN n

theorem nat_ne (n : Nat) : (((n : Nat) : Int) != 0) = (n != 0) := by
  rw [Bool.eq_iff_iff]; simp
theorem u64_half (x : Nat) (h : x < 18446744073709551616) : IntKind.u64.wrap (Int.tdiv (x : Int) 2) = ((x / 2 : Nat) : Int) := by
  rw [Int.tdiv_eq_ediv_of_nonneg (by omega), wrap_u64]; omega
theorem odd_bit (x : Nat) : ((Int.tmod (x : Int) 2) == 1) = x.testBit 0 := by
  rw [Int.tmod_eq_emod_of_nonneg (by omega), Nat.testBit_zero, Bool.eq_iff_iff]; simp; omega
theorem full_sub (a b : Nat) (h : a = b + 1) (h2 : a < 18446744073709551616) : IntKind.u64.wrap ((a : Int) - 1) = (b : Int) := by
  rw [wrap_u64]; omega
theorem shl_bit (k : Int) (h0 : 0 ≤ k) (h1 : k ≤ 63) : IntKind.u64.wrap (2 ^ min k.toNat 64) = ((bitN k : Nat) : Int) := by
  have h : min k.toNat 64 = k.toNat := by omega
  rw [h]
  have h2 : bitN k = 2 ^ k.toNat := by rw [bitN, (inR_iff k).2 ⟨h0, h1⟩]; simp
  have h3 : ((2 : Int) ^ k.toNat) = ((2 ^ k.toNat : Nat) : Int) := by simp
  rw [h2, h3]
  exact wrap_u64_nat _ (by rw [← h2]; exact bitN_lt k)
theorem bit_lo (k : Int) (h : k < 0) : bitN k = 0 := by rw [bitN, (inR_no k).2 (by omega)]; simp
theorem bit_hi (k : Int) (h : 63 < k) : bitN k = 0 := by rw [bitN, (inR_no k).2 (by omega)]; simp

theorem bit_calls (k : Int) (w : World) : Quiet 16 #[.int .i64 k] w (.int .u64 (bitN k)) := by
  unfold Quiet
  by_cases h0 : k < 0
  · have H := Lib.hid (bit_lo k h0)
    go_enter Try.func16, Try.ntmps16
    go_wp2
    go_ret
    exact ⟨ret_int (by rw [H.out]; rfl), 0, rfl⟩
  · by_cases h1 : 63 < k
    · have H := Lib.hid (bit_hi k h1)
      go_enter Try.func16, Try.ntmps16
      go_wp2
      go_ret
      exact ⟨ret_int (by rw [H.out]; rfl), 0, rfl⟩
    · have H := Lib.hid (shl_bit k (by omega) (by omega))
      go_enter Try.func16, Try.ntmps16
      go_wp2
      go_ret
      refine ⟨ret_int ?_, 0, rfl⟩
      exact (congrArg (fun n => IntKind.u64.wrap (2 ^ n)) (show k.toNat = min k.toNat 64 by omega)).trans H.out

theorem has_calls (s : Nat) (hs : s < 18446744073709551616) (k : Int) (w : World) : Quiet 10 #[.int .u64 s, .int .i64 k] w (.bool (hasN s k)) := by
  unfold Quiet
  have H1 := Lib.hid (bits_and s (bitN k) hs (bitN_lt k))
  have H2 := Lib.hid (and_bit s k)
  clear hs
  go_enter Try.func10, Try.ntmps10
  go_wp2_with (go_at_call 16; refine (bit_calls k _).mono ?_; rintro e w' ⟨rfl, n, rfl⟩)
  go_ret
  exact ⟨ret_bool (by rw [H1.out, ← H2.out]; exact nat_ne _), _, rfl⟩
theorem with_calls (s : Nat) (hs : s < 18446744073709551616) (k : Int) (w : World) : Quiet 12 #[.int .u64 s, .int .i64 k] w (.int .u64 (withN s k)) := by
  unfold Quiet
  have H1 := Lib.hid (bits_or s (bitN k) hs (bitN_lt k))
  clear hs
  go_enter Try.func12, Try.ntmps12
  go_wp2_with (go_at_call 16; refine (bit_calls k _).mono ?_; rintro e w' ⟨rfl, n, rfl⟩)
  go_ret
  exact ⟨ret_int (by rw [H1.out]; rfl), _, rfl⟩
theorem without_calls (s : Nat) (hs : s < 18446744073709551616) (k : Int) (w : World) : Quiet 14 #[.int .u64 s, .int .i64 k] w (.int .u64 (withoutN s k)) := by
  unfold Quiet
  have H1 := Lib.hid (bits_andNot s (bitN k) hs (bitN_lt k))
  clear hs
  go_enter Try.func14, Try.ntmps14
  go_wp2_with (go_at_call 16; refine (bit_calls k _).mono ?_; rintro e w' ⟨rfl, n, rfl⟩)
  go_ret
  exact ⟨ret_int (by rw [H1.out]; rfl), _, rfl⟩
theorem full_calls (n : Int) (w : World) : Quiet 8 #[.int .i64 n] w (.int .u64 (fullN n)) := by
  unfold Quiet
  by_cases h0 : n < 1
  · have H : Hid (fullN n = 0) := Lib.hid (by unfold fullN; rw [show min n.toNat 64 = 0 by omega])
    go_enter Try.func8, Try.ntmps8
    go_wp2
    go_ret
    exact ⟨ret_int (by rw [H.out]; rfl), 0, rfl⟩
  · by_cases h1 : 63 < n
    · have H : Hid (fullN n = 18446744073709551615) := Lib.hid (by unfold fullN; rw [show min n.toNat 64 = 64 by omega])
      go_enter Try.func8, Try.ntmps8
      go_wp2
      go_ret
      exact ⟨ret_int (by rw [H.out]; rfl), 0, rfl⟩
    · have H := Lib.hid (shl_bit n (by omega) (by omega))
      have H2 : Hid (bitN n = fullN n + 1) := Lib.hid (by
        unfold fullN bitN; rw [(inR_iff n).2 (by omega), show min n.toNat 64 = n.toNat by omega]
        have := Nat.two_pow_pos n.toNat; simp; omega)
      have H3 := Lib.hid (bitN_lt n)
      go_enter Try.func8, Try.ntmps8
      go_wp2
      go_ret
      exact ⟨ret_int ((congrArg (fun x => IntKind.u64.wrap (x - 1)) ((congrArg (fun n => IntKind.u64.wrap (2 ^ n)) (show n.toNat = min n.toNat 64 by omega)).trans H.out)).trans (full_sub _ _ H2.out H3.out)), 0, rfl⟩
theorem rhas_calls (s : Nat) (hs : s < 18446744073709551616) (k : Int) (w : World) : Quiet 11 #[.int .u64 s, .int .i64 k] w (.bool (hasN s k)) := by
  unfold Quiet
  by_cases h0 : k < 0
  · have H := Lib.hid (hasN_out (s := s) ((inR_no k).2 (.inl h0)))
    clear hs
    go_enter Try.func11, Try.ntmps11
    go_wp2
    go_ret
    exact ⟨ret_bool (by rw [H.out]), 0, rfl⟩
  · by_cases h1 : 63 < k
    · have H := Lib.hid (hasN_out (s := s) ((inR_no k).2 (.inr h1)))
      clear hs
      go_enter Try.func11, Try.ntmps11
      go_wp2
      go_ret
      exact ⟨ret_bool (by rw [H.out]), 0, rfl⟩
    · have h0' : 0 ≤ k := by omega
      have h1' : k ≤ 63 := by omega
      clear h0 h1
      go_enter Try.func11, Try.ntmps11
      go_wp2
      go_loop [0, 5] (fun a i => ∃ j x : Nat, (j : Int) ≤ k ∧ x < 18446744073709551616 ∧ i = .int .i64 j ∧ a = .int .u64 x ∧ Hid (x = s / 2 ^ j)) (fun _ i => k.toNat - (intOf i).toNat)
      case atStart => exact ⟨0, s, by omega, hs, rfl, rfl, Lib.hid (by simp)⟩
      case round =>
        obtain ⟨j, x, hj, hx, rfl, rfl, HX⟩ := hrel
        by_cases hlt : (j : Int) < k
        · go_wp2
          go_round
          case rel => exact ⟨j + 1, x / 2, by omega, by omega, by go_num, by go_num, Lib.hid (by rw [HX.out, Nat.pow_succ, ← Nat.div_div_eq_div_mul])⟩
          case measure => simp [intOf]; omega
        · have e : j = k.toNat := by omega
          have HB : Hid (x.testBit 0 = hasN s k) := Lib.hid (by rw [HX.out, Nat.testBit_div_two_pow, hasN, (inR_iff k).2 ⟨h0', h1'⟩, e]; simp)
          clear e
          go_wp2
          go_ret
          exact ⟨ret_bool ((odd_bit x).trans HB.out), 0, rfl⟩
theorem one_calls (k : Int) (h0 : 0 ≤ k) (h1 : k ≤ 63) (w : World) : Quiet 18 #[.int .i64 k] w (.int .u64 ((2 ^ k.toNat : Nat) : Int)) := by
  unfold Quiet
  obtain ⟨r, HR⟩ : ∃ r : Nat, Hid (2 ^ k.toNat = r) := ⟨_, Lib.hid rfl⟩
  rw [HR.out]
  go_enter Try.func18, Try.ntmps18
  go_wp2
  go_loop [3, 4] (fun a i => ∃ j x : Nat, (j : Int) ≤ k ∧ i = .int .i64 j ∧ a = .int .u64 x ∧ Hid (x = 2 ^ j)) (fun _ i => k.toNat - (intOf i).toNat)
  case atStart => exact ⟨0, 1, by omega, rfl, rfl, Lib.hid rfl⟩
  case round =>
    obtain ⟨j, x, hj, rfl, rfl, HX⟩ := hrel
    by_cases hlt : (j : Int) < k
    · have hp := Nat.pow_le_pow_right (show 0 < 2 by decide) (show j + 1 ≤ 63 by omega)
      have HH : Hid (IntKind.u64.wrap ((x : Int) * 2) = ((2 ^ (j + 1) : Nat) : Int)) := Lib.hid (by rw [HX.out, wrap_u64, Nat.pow_succ]; rw [Nat.pow_succ] at hp; omega)
      clear hp
      go_wp2
      go_round
      case rel => exact ⟨j + 1, 2 ^ (j + 1), by omega, by go_num, by rw [HH.out], Lib.hid rfl⟩
      case measure => simp [intOf]; omega
    · have e : Hid (x = r) := Lib.hid (by rw [HX.out, ← HR.out, show k.toNat = j by omega])
      go_wp2
      go_ret
      exact ⟨ret_int (by rw [e.out]), 0, rfl⟩
theorem rwith_calls (s : Nat) (hs : s < 18446744073709551616) (k : Int) (w : World) : Quiet 13 #[.int .u64 s, .int .i64 k] w (.int .u64 (withN s k)) := by
  unfold Quiet
  by_cases h0 : k < 0
  · have H := Lib.hid (withN_out (s := s) ((inR_no k).2 (.inl h0)))
    clear hs
    go_enter Try.func13, Try.ntmps13
    go_wp2
    go_ret
    exact ⟨ret_int (by rw [H.out]), 0, rfl⟩
  · by_cases h1 : 63 < k
    · have H := Lib.hid (withN_out (s := s) ((inR_no k).2 (.inr h1)))
      clear hs
      go_enter Try.func13, Try.ntmps13
      go_wp2
      go_ret
      exact ⟨ret_int (by rw [H.out]), 0, rfl⟩
    · have h0' : 0 ≤ k := by omega
      have h1' : k ≤ 63 := by omega
      have HS := Lib.hid hs
      clear hs h0 h1
      cases hb : hasN s k
      · have H : Hid (IntKind.u64.wrap ((s : Int) + ((2 ^ k.toNat : Nat) : Int)) = ((withN s k : Nat) : Int)) := Lib.hid (by
          rw [withN_add ((inR_iff k).2 ⟨h0', h1'⟩) hb]
          have := withN_lt HS.out k
          rw [withN_add ((inR_iff k).2 ⟨h0', h1'⟩) hb] at this
          rw [← Int.natCast_add]; exact wrap_u64_nat _ this)
        obtain ⟨r, HR⟩ : ∃ r : Nat, Hid (2 ^ k.toNat = r) := ⟨_, Lib.hid rfl⟩
        go_enter Try.func13, Try.ntmps13
        go_wp2_with (first | (go_at_call 11; refine (rhas_calls s HS.out k _).mono ?_; rintro e w' ⟨rfl, n, rfl⟩) | (go_at_call 18; refine (one_calls k h0' h1' _).mono ?_; rw [HR.out]; rintro e w' ⟨rfl, n2, rfl⟩))
        go_ret
        exact ⟨ret_int (by rw [← H.out, HR.out]), _, rfl⟩
      · have H := Lib.hid (withN_has hb)
        go_enter Try.func13, Try.ntmps13
        go_wp2_with (go_at_call 11; refine (rhas_calls s HS.out k _).mono ?_; rintro e w' ⟨rfl, n, rfl⟩)
        go_ret
        exact ⟨ret_int (by rw [H.out]), _, rfl⟩
theorem rwithout_calls (s : Nat) (hs : s < 18446744073709551616) (k : Int) (w : World) : Quiet 15 #[.int .u64 s, .int .i64 k] w (.int .u64 (withoutN s k)) := by
  unfold Quiet
  have HS := Lib.hid hs
  clear hs
  cases hb : hasN s k
  · have H := Lib.hid (withoutN_hasnt HS.out hb)
    go_enter Try.func15, Try.ntmps15
    go_wp2_with (go_at_call 11; refine (rhas_calls s HS.out k _).mono ?_; rintro e w' ⟨rfl, n, rfl⟩)
    go_ret
    exact ⟨ret_int (by rw [H.out]), _, rfl⟩
  · have hr : 0 ≤ k ∧ k ≤ 63 := by
      have := hb
      simp only [hasN, Bool.and_eq_true] at this
      exact (inR_iff k).1 this.1
    obtain ⟨h0', h1'⟩ := hr
    have H : Hid (IntKind.u64.wrap ((s : Int) - ((2 ^ k.toNat : Nat) : Int)) = ((withoutN s k : Nat) : Int)) := Lib.hid (by
      have := withoutN_sub HS.out hb
      have h2 := withoutN_lt HS.out k
      have : (s : Int) - ((2 ^ k.toNat : Nat) : Int) = (withoutN s k : Nat) := by omega
      rw [this]; exact wrap_u64_nat _ h2)
    obtain ⟨r, HR⟩ : ∃ r : Nat, Hid (2 ^ k.toNat = r) := ⟨_, Lib.hid rfl⟩
    go_enter Try.func15, Try.ntmps15
    go_wp2_with (first | (go_at_call 11; refine (rhas_calls s HS.out k _).mono ?_; rintro e w' ⟨rfl, n, rfl⟩) | (go_at_call 18; refine (one_calls k h0' h1' _).mono ?_; rw [HR.out]; rintro e w' ⟨rfl, n2, rfl⟩))
    go_ret
    exact ⟨ret_int (by rw [← H.out, HR.out]), _, rfl⟩
theorem rfull_calls (n : Int) (w : World) : Quiet 9 #[.int .i64 n] w (.int .u64 (fullN n)) := by
  unfold Quiet
  go_enter Try.func9, Try.ntmps9
  go_wp2
  go_loopw [3, 4] (fun a i wr => ∃ (j d : Nat), j ≤ 64 ∧ (j : Int) ≤ max n 0 ∧ i = .int .i64 j ∧ a = .int .u64 (fullN j : Nat) ∧ wr = w.drewN d) (fun _ i _ => 64 - (intOf i).toNat)
  case atStart => exact ⟨0, 0, by omega, by omega, rfl, rfl, rfl⟩
  case round =>
    obtain ⟨j, d, hj, hn, rfl, rfl, rfl⟩ := hrel
    have HL : Hid (fullN j < 18446744073709551616) := Lib.hid (by
      unfold fullN; have := Nat.pow_le_pow_right (show 0 < 2 by decide) (show min (j:Int).toNat 64 ≤ 64 by omega)
      rw [show (2:Nat) ^ 64 = 18446744073709551616 from by decide] at this; omega)
    have HE : Hid (64 = j ∨ (j : Int) = max n 0 → fullN j = fullN n) := Lib.hid (by
      intro h; unfold fullN; rw [show min (j:Int).toNat 64 = min n.toNat 64 by omega])
    have HW : Hid (j < 64 → withN (fullN j) j = fullN ((j : Int) + 1)) := Lib.hid (by
      intro h; have := fullN_succ j h; unfold fullN
      rw [show min (j:Int).toNat 64 = j by omega, show min ((j:Int) + 1).toNat 64 = j + 1 by omega]; exact this)
    by_cases h64 : j < 64
    · by_cases hlt : (j : Int) < n
      · go_wp2_with (go_at_call 13; refine (rwith_calls _ HL.out j _).mono ?_; rintro e w' ⟨rfl, n1, rfl⟩)
        go_roundw
        case rel => exact ⟨j + 1, d + n1, by omega, by omega, by go_num, by rw [HW.out h64]; go_num, rfl⟩
        case measure => simp [intOf]; omega
      · go_wp2
        go_ret
        exact ⟨ret_int (by rw [HE.out (by omega)]), _, rfl⟩
    · go_wp2
      go_ret
      exact ⟨ret_int (by rw [HE.out (by omega)]), _, rfl⟩
end Go.Proofs.Ytgbiihmacinnmaa.Hand
