/- Contracts: OnesCount64, TrailingZeros64, and the functions of sets and dovetailref01 on whole sets. -/
import Derived.Test.YtagcmhnanngfbaaDoorSets
import Derived.Test.YtagcmhnanngfbaaDoorBitsC
namespace Go.Proofs.YtagcmhnanngfbaaDoor.Hand
open Go.RowKit Go.Proofs.YtagcmhnanngfbaaDoorW.PrintWords Go.Proofs.YtagcmhnanngfbaaDoorW.PrintMore Go.Proofs.YtagcmhnanngfbaaDoor.Math

theorem and127 (n : Nat) (h : n < 18446744073709551616) : bits .and .i64 (wrap64 (n : Int)) 127 = ((n % 128 : Nat) : Int) := by
  have e1 : (BitVec.ofInt 64 (wrap64 (n : Int))).toNat = n := by
    rw [BitVec.toNat_ofInt]; unfold wrap64; omega
  have e2 : (BitVec.ofInt 64 127).toNat = 127 := by decide
  show IntKind.i64.wrap ((BitVec.ofInt 64 (wrap64 (n : Int)) &&& BitVec.ofInt 64 127).toNat : Int) = _
  rw [BitVec.toNat_and, e1, e2, show 127 = 2 ^ 7 - 1 from rfl, Nat.and_two_pow_sub_one_eq_mod, IntKind.wrap_i64]
  omega
theorem ones_calls (x : Nat) (hx : x < 18446744073709551616) (w : World) : Quiet 78 #[.int .u64 x] w (.int .i64 (pc 64 x : Nat)) := by
  unfold Quiet
  obtain ⟨h3, h4, h5, h6, h7⟩ := ones_all x hx
  have m1 : mk 85 8 < 18446744073709551616 := by rw [mk_85]; decide
  have m2 : mk 51 8 < 18446744073709551616 := by rw [mk_51]; decide
  have m3 : mk 15 8 < 18446744073709551616 := by rw [mk_15]; decide
  have x1 : x / 2 < 18446744073709551616 := by omega
  have a1 := bits_and (x / 2) (mk 85 8) x1 m1
  have b1 := bits_and x (mk 85 8) hx m1
  have hs1 : s1 8 x < 18446744073709551616 := by
    have ha : x / 2 &&& mk 85 8 ≤ mk 85 8 := Nat.and_le_right
    have hb : x &&& mk 85 8 ≤ mk 85 8 := Nat.and_le_right
    unfold s1; rw [mk_85] at *; omega
  have c1 : IntKind.u64.wrap (((x / 2 &&& mk 85 8 : Nat) : Int) + ((x &&& mk 85 8 : Nat) : Int)) = (s1 8 x : Nat) := by rw [← Int.natCast_add]; exact wrap_u64_nat _ hs1
  generalize s1 8 x = y at *
  have y1 : y / 4 < 18446744073709551616 := by omega
  have a2 := bits_and (y / 4) (mk 51 8) y1 m2
  have b2 := bits_and y (mk 51 8) hs1 m2
  have hs2 : s2 8 y < 18446744073709551616 := by
    have ha : y / 4 &&& mk 51 8 ≤ mk 51 8 := Nat.and_le_right
    have hb : y &&& mk 51 8 ≤ mk 51 8 := Nat.and_le_right
    unfold s2; rw [mk_51] at *; omega
  have c2 : IntKind.u64.wrap (((y / 4 &&& mk 51 8 : Nat) : Int) + ((y &&& mk 51 8 : Nat) : Int)) = (s2 8 y : Nat) := by rw [← Int.natCast_add]; exact wrap_u64_nat _ hs2
  have hs2' : s2 8 y ≤ 7378697629483820646 := by
    have ha : y / 4 &&& mk 51 8 ≤ mk 51 8 := Nat.and_le_right
    have hb : y &&& mk 51 8 ≤ mk 51 8 := Nat.and_le_right
    unfold s2; rw [mk_51] at *; omega
  generalize s2 8 y = z at *
  have c3 : IntKind.u64.wrap (((z / 16 : Nat) : Int) + (z : Int)) = (z / 16 + z : Nat) := by rw [← Int.natCast_add]; exact wrap_u64_nat _ (by omega)
  have a3 := bits_and (z / 16 + z) (mk 15 8) (by omega) m3
  rw [show (z / 16 + z) &&& mk 15 8 = s3 8 z from rfl] at a3
  generalize s3 8 z = u at *
  have c4 : IntKind.u64.wrap ((u : Int) + ((u / 256 : Nat) : Int)) = (fold1 u : Nat) := by rw [← Int.natCast_add]; exact wrap_u64_nat _ h4
  generalize fold1 u = u1 at *
  have c5 : IntKind.u64.wrap ((u1 : Int) + ((u1 / 65536 : Nat) : Int)) = (fold2 u1 : Nat) := by rw [← Int.natCast_add]; exact wrap_u64_nat _ h5
  generalize fold2 u1 = u2 at *
  have c6 : IntKind.u64.wrap ((u2 : Int) + ((u2 / 4294967296 : Nat) : Int)) = (fold3 u2 : Nat) := by rw [← Int.natCast_add]; exact wrap_u64_nat _ h6
  generalize fold3 u2 = u3 at *
  rw [mk_85] at a1 b1 c1
  rw [mk_51] at a2 b2 c2
  rw [mk_15] at a3
  rw [Int.natCast_ediv] at a1 a2 c3 c4 c5 c6
  have HR : Hid (u3 % 128 = pc 64 x) := Lib.hid h7
  have HB : Hid (u3 < 18446744073709551616) := Lib.hid h6
  simp only [Int.cast_ofNat_Int] at a1 b1 a2 b2 a3 c3 c4 c5 c6
  clear h3 h4 h5 h6 h7 m1 m2 m3 x1 hs1 y1 hs2 hs2'
  generalize (x / 2 &&& 6148914691236517205) = v1 at *
  generalize (x &&& 6148914691236517205) = v2 at *
  generalize (y / 4 &&& 3689348814741910323) = v3 at *
  generalize (y &&& 3689348814741910323) = v4 at *
  generalize (z / 16 + z) = v5 at *
  clear hx
  go_enter Tryd.func78, Tryd.ntmps78
  go_wp2
  go_ret
  exact ⟨ret_int ((and127 u3 HB.out).trans (by rw [HR.out])), 0, rfl⟩
/-- The library's table in its variable. -/
def TabIn (w : World) : Prop := ∀ j, j < Lib.deBruijn64tab.length → w.cell? ⟨15, j, none⟩ = some (.int .u8 (Lib.deBruijn64tab.getD j 0))
theorem TabIn.drewN {w : World} (h : TabIn w) (m : Nat) : TabIn (w.drewN m) := by
  intro j hj; rw [World.cell?_drewN]; exact h j hj
theorem TabIn.below {w w' : World} {B : Nat} (h : TabIn w) (hg : 15 < B) (hb : Below B w w') : TabIn w' := by
  intro j hj; rw [hb.cell (p := ⟨15, j, none⟩) hg]; exact h j hj
theorem tz64_key (x a : Nat) (hx : x < 18446744073709551616) (hx0 : x ≠ 0) (hlow : x &&& (18446744073709551616 - x) = a) :
    IntKind.u64.wrap (bits BinOp.and IntKind.u64 (x : Int) (IntKind.u64.wrap (-(x : Int))) * 285870213051353865) / 288230376151711744 = ((a * 285870213051353865 % 18446744073709551616 / 288230376151711744 : Nat) : Int) := by
  have e1 : IntKind.u64.wrap (-(x : Int)) = ((18446744073709551616 - x : Nat) : Int) := by rw [wrap_u64]; omega
  rw [e1, bits_and x _ hx (by omega), hlow, wrap_u64]
  omega
theorem tz_core (x k idx : Nat) (w : World) (hx0 : ((x : Int) == 0) = false)
    (key : IntKind.u64.wrap (bits BinOp.and IntKind.u64 (x : Int) (IntKind.u64.wrap (-(x : Int))) * 285870213051353865) / 288230376151711744 = (idx : Int))
    (hi : idx < 64) (hk : k < 64) (hcell : w.cell? ⟨15, idx, none⟩ = some (.int .u8 k)) : Quiet 80 #[.int .u64 x] w (.int .i64 k) := by
  unfold Quiet
  go_enter Tryd.func80, Tryd.ntmps80
  go_wp2_with (simp only [key])
  go_ret
  exact ⟨rfl, 0, rfl⟩
theorem tz_calls (x : Nat) (h0 : x ≠ 0) (hx : x < 18446744073709551616) (w : World) (hT : TabIn w) : Quiet 80 #[.int .u64 x] w (.int .i64 (Lib.ctz 64 x)) := by
  obtain ⟨hlow, hk⟩ := Lib.lowest_bit 64 x h0 hx
  obtain ⟨hi, htab⟩ := Lib.deBruijn64_at _ hk
  have hcell := hT _ hi
  rw [htab] at hcell
  exact tz_core x _ _ w (by simp; omega) (tz64_key x _ hx h0 hlow) hi hk hcell
theorem len_calls (s : Nat) (hs : s < 18446744073709551616) (w : World) : Quiet 57 #[.int .u64 s] w (.int .i64 (pc 64 s : Nat)) := by
  unfold Quiet
  have HS := Lib.hid hs
  clear hs
  go_enter Tryd.func57, Tryd.ntmps57
  go_wp2_with (go_at_call 78; refine (ones_calls s HS.out _).mono ?_; rintro e w' ⟨rfl, n, rfl⟩)
  go_ret
  exact ⟨rfl, _, rfl⟩
theorem within_calls (s t : Nat) (hs : s < 18446744073709551616) (ht : t < 18446744073709551616) (w : World) : Quiet 53 #[.int .u64 s, .int .u64 t] w (.bool (decide (minusN s t = 0))) := by
  unfold Quiet
  have H := Lib.hid (bits_andNot s t hs ht)
  clear hs ht
  go_enter Tryd.func53, Tryd.ntmps53
  go_wp2
  go_ret
  exact ⟨ret_bool (by rw [H.out, Bool.eq_iff_iff, beq_iff_eq, decide_eq_true_eq]; exact Int.natCast_eq_zero), 0, rfl⟩
theorem meet_calls (s t : Nat) (hs : s < 18446744073709551616) (ht : t < 18446744073709551616) (w : World) : Quiet 58 #[.int .u64 s, .int .u64 t] w (.int .u64 (s &&& t : Nat)) := by
  unfold Quiet
  have H := Lib.hid (bits_and s t hs ht)
  clear hs ht
  go_enter Tryd.func58, Tryd.ntmps58
  go_wp2
  go_ret
  exact ⟨ret_int H.out, 0, rfl⟩
theorem union_calls (A : Option Addr) (c : Nat) (l : List Nat) (w : World) (hr : Kd.C KSet w A l.length l) (hl : ∀ x ∈ l, x < 18446744073709551616) : Quiet 70 #[.slice A l.length c] w (.int .u64 (unionN l : Nat)) := by
  unfold Quiet
  have hlen := hr.2.1
  have HR := Lib.hid hr
  have HL := Lib.hid hl
  clear hr hl
  go_enter Tryd.func70, Tryd.ntmps70
  go_wp2
  go_loopw [2, 7] (fun a i wr => ∃ (j d x : Nat), j ≤ l.length ∧ i = .int .i64 j ∧ a = .int .u64 x ∧ Hid (x = unionN (l.take j)) ∧ wr = w.drewN d) (fun _ i _ => l.length - (intOf i).toNat)
  case atStart => exact ⟨0, 0, 0, by omega, rfl, rfl, Lib.hid rfl, rfl⟩
  case round =>
    obtain ⟨j, d, x, hj, rfl, rfl, HX, rfl⟩ := hrel
    by_cases hlt : j < l.length
    · obtain ⟨ad, y, rfl, hc, HY⟩ := at_scalar HR.out j hlt 0
      have HYL : Hid (y < 18446744073709551616) := Lib.hid (by rw [← HY.out]; exact HL.out _ (getD_mem l j 0 hlt))
      have HXL : Hid (x < 18446744073709551616) := Lib.hid (by rw [HX.out]; exact unionN_lt _ (fun z hz => HL.out z (List.mem_of_mem_take hz)))
      have HO := Lib.hid (bits_or x y HXL.out HYL.out)
      have HS : Hid (unionN (l.take (j + 1)) = x ||| y) := Lib.hid (by rw [take_snocD l j 0 hlt, unionN_snoc, HX.out, HY.out])
      go_wp2
      go_roundw
      case rel => exact ⟨j + 1, d, _, by omega, by go_num, by rw [HO.out], Lib.hid HS.out.symm, rfl⟩
      case measure => simp [intOf]; omega
    · have HE : Hid (x = unionN l) := Lib.hid (by rw [HX.out, List.take_of_length_le (by omega)])
      go_wp2
      go_ret
      exact ⟨ret_int (by rw [HE.out]), _, rfl⟩
end Go.Proofs.YtagcmhnanngfbaaDoor.Hand
