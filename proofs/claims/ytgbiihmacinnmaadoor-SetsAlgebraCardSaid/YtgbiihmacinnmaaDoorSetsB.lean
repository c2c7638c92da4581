/- Contracts: OnesCount64, TrailingZeros64, and the functions of sets and dovetailref01 on whole sets. -/
import Derived.Test.YtgbiihmacinnmaaDoorSets
import Derived.Test.YtgbiihmacinnmaaDoorBitsC
namespace Go.Proofs.YtgbiihmacinnmaaDoor.Hand
open Go.RowKit Go.Proofs.YtgbiihmacinnmaaDoorW.PrintWords Go.Proofs.YtgbiihmacinnmaaDoorW.PrintMore Go.Proofs.YtgbiihmacinnmaaDoor.Math

theorem and127 (n : Nat) (h : n < 18446744073709551616) : bits .and .i64 (wrap64 (n : Int)) 127 = ((n % 128 : Nat) : Int) := by
  have e1 : (BitVec.ofInt 64 (wrap64 (n : Int))).toNat = n := by
    rw [BitVec.toNat_ofInt]; unfold wrap64; omega
  have e2 : (BitVec.ofInt 64 127).toNat = 127 := by decide
  show IntKind.i64.wrap ((BitVec.ofInt 64 (wrap64 (n : Int)) &&& BitVec.ofInt 64 127).toNat : Int) = _
  rw [BitVec.toNat_and, e1, e2, show 127 = 2 ^ 7 - 1 from rfl, Nat.and_two_pow_sub_one_eq_mod, IntKind.wrap_i64]
  omega
theorem ones_calls (x : Nat) (hx : x < 18446744073709551616) (w : World) : Quiet 34 #[.int .u64 x] w (.int .i64 (pc 64 x : Nat)) := by
  unfold Quiet
  obtain ⟨h3, h4, h5, h6, h7⟩ := ones_all x hx
  have m1 : mk 85 8 < 18446744073709551616 := by rw [mk_85]; decide
  have m2 : mk 51 8 < 18446744073709551616 := by rw [mk_51]; decide
  have m3 : mk 15 8 < 18446744073709551616 := by rw [mk_15]; decide
  have x1 : x / 2 < 18446744073709551616 := by omega
  have a1 := bits_and (x / 2) (mk 85 8) x1 m1
  have b1 := bits_and x (mk 85 8) hx m1
  have hs1 : s1 8 x < 18446744073709551616 := by
    have ha : x / 2 &&& mk 85 8 ≤ mk 85 8 := Nat.and_le_right
    have hb : x &&& mk 85 8 ≤ mk 85 8 := Nat.and_le_right
    unfold s1; rw [mk_85] at *; omega
  have c1 : IntKind.u64.wrap (((x / 2 &&& mk 85 8 : Nat) : Int) + ((x &&& mk 85 8 : Nat) : Int)) = (s1 8 x : Nat) := by rw [← Int.natCast_add]; exact wrap_u64_nat _ hs1
  generalize s1 8 x = y at *
  have y1 : y / 4 < 18446744073709551616 := by omega
  have a2 := bits_and (y / 4) (mk 51 8) y1 m2
  have b2 := bits_and y (mk 51 8) hs1 m2
  have hs2 : s2 8 y < 18446744073709551616 := by
    have ha : y / 4 &&& mk 51 8 ≤ mk 51 8 := Nat.and_le_right
    have hb : y &&& mk 51 8 ≤ mk 51 8 := Nat.and_le_right
    unfold s2; rw [mk_51] at *; omega
  have c2 : IntKind.u64.wrap (((y / 4 &&& mk 51 8 : Nat) : Int) + ((y &&& mk 51 8 : Nat) : Int)) = (s2 8 y : Nat) := by rw [← Int.natCast_add]; exact wrap_u64_nat _ hs2
  have hs2' : s2 8 y ≤ 7378697629483820646 := by
    have ha : y / 4 &&& mk 51 8 ≤ mk 51 8 := Nat.and_le_right
    have hb : y &&& mk 51 8 ≤ mk 51 8 := Nat.and_le_right
    unfold s2; rw [mk_51] at *; omega
  generalize s2 8 y = z at *
  have c3 : IntKind.u64.wrap (((z / 16 : Nat) : Int) + (z : Int)) = (z / 16 + z : Nat) := by rw [← Int.natCast_add]; exact wrap_u64_nat _ (by omega)
  have a3 := bits_and (z / 16 + z) (mk 15 8) (by omega) m3
  rw [show (z / 16 + z) &&& mk 15 8 = s3 8 z from rfl] at a3
  generalize s3 8 z = u at *
  have c4 : IntKind.u64.wrap ((u : Int) + ((u / 256 : Nat) : Int)) = (fold1 u : Nat) := by rw [← Int.natCast_add]; exact wrap_u64_nat _ h4
  generalize fold1 u = u1 at *
  have c5 : IntKind.u64.wrap ((u1 : Int) + ((u1 / 65536 : Nat) : Int)) = (fold2 u1 : Nat) := by rw [← Int.natCast_add]; exact wrap_u64_nat _ h5
  generalize fold2 u1 = u2 at *
  have c6 : IntKind.u64.wrap ((u2 : Int) + ((u2 / 4294967296 : Nat) : Int)) = (fold3 u2 : Nat) := by rw [← Int.natCast_add]; exact wrap_u64_nat _ h6
  generalize fold3 u2 = u3 at *
  rw [mk_85] at a1 b1 c1
  rw [mk_51] at a2 b2 c2
  rw [mk_15] at a3
  rw [Int.natCast_ediv] at a1 a2 c3 c4 c5 c6
  have HR : Hid (u3 % 128 = pc 64 x) := Lib.hid h7
  have HB : Hid (u3 < 18446744073709551616) := Lib.hid h6
  simp only [Int.cast_ofNat_Int] at a1 b1 a2 b2 a3 c3 c4 c5 c6
  clear h3 h4 h5 h6 h7 m1 m2 m3 x1 hs1 y1 hs2 hs2'
  generalize (x / 2 &&& 6148914691236517205) = v1 at *
  generalize (x &&& 6148914691236517205) = v2 at *
  generalize (y / 4 &&& 3689348814741910323) = v3 at *
  generalize (y &&& 3689348814741910323) = v4 at *
  generalize (z / 16 + z) = v5 at *
  clear hx
  go_enter Tryd.func34, Tryd.ntmps34
  go_wp2
  go_ret
  exact ⟨ret_int ((and127 u3 HB.out).trans (by rw [HR.out])), 0, rfl⟩
/-- The library's table in its variable. -/
def TabIn (w : World) : Prop := ∀ j, j < Lib.deBruijn64tab.length → w.cell? ⟨0, j, none⟩ = some (.int .u8 (Lib.deBruijn64tab.getD j 0))
theorem TabIn.drewN {w : World} (h : TabIn w) (m : Nat) : TabIn (w.drewN m) := by
  intro j hj; rw [World.cell?_drewN]; exact h j hj
theorem TabIn.below {w w' : World} {B : Nat} (h : TabIn w) (hg : 0 < B) (hb : Below B w w') : TabIn w' := by
  intro j hj; rw [hb.cell (p := ⟨0, j, none⟩) hg]; exact h j hj
theorem tz64_key (x a : Nat) (hx : x < 18446744073709551616) (hx0 : x ≠ 0) (hlow : x &&& (18446744073709551616 - x) = a) :
    IntKind.u64.wrap (bits BinOp.and IntKind.u64 (x : Int) (IntKind.u64.wrap (-(x : Int))) * 285870213051353865) / 288230376151711744 = ((a * 285870213051353865 % 18446744073709551616 / 288230376151711744 : Nat) : Int) := by
  have e1 : IntKind.u64.wrap (-(x : Int)) = ((18446744073709551616 - x : Nat) : Int) := by rw [wrap_u64]; omega
  rw [e1, bits_and x _ hx (by omega), hlow, wrap_u64]
  omega
theorem tz_core (x k idx : Nat) (w : World) (hx0 : ((x : Int) == 0) = false)
    (key : IntKind.u64.wrap (bits BinOp.and IntKind.u64 (x : Int) (IntKind.u64.wrap (-(x : Int))) * 285870213051353865) / 288230376151711744 = (idx : Int))
    (hi : idx < 64) (hk : k < 64) (hcell : w.cell? ⟨0, idx, none⟩ = some (.int .u8 k)) : Quiet 35 #[.int .u64 x] w (.int .i64 k) := by
  unfold Quiet
  go_enter Tryd.func35, Tryd.ntmps35
  go_wp2_with (simp only [key])
  go_ret
  exact ⟨rfl, 0, rfl⟩
theorem tz_calls (x : Nat) (h0 : x ≠ 0) (hx : x < 18446744073709551616) (w : World) (hT : TabIn w) : Quiet 35 #[.int .u64 x] w (.int .i64 (Lib.ctz 64 x)) := by
  obtain ⟨hlow, hk⟩ := Lib.lowest_bit 64 x h0 hx
  obtain ⟨hi, htab⟩ := Lib.deBruijn64_at _ hk
  have hcell := hT _ hi
  rw [htab] at hcell
  exact tz_core x _ _ w (by simp; omega) (tz64_key x _ hx h0 hlow) hi hk hcell
theorem len_calls (s : Nat) (hs : s < 18446744073709551616) (w : World) : Quiet 16 #[.int .u64 s] w (.int .i64 (pc 64 s : Nat)) := by
  unfold Quiet
  have HS := Lib.hid hs
  clear hs
  go_enter Tryd.func16, Tryd.ntmps16
  go_wp2_with (go_at_call 34; refine (ones_calls s HS.out _).mono ?_; rintro e w' ⟨rfl, n, rfl⟩)
  go_ret
  exact ⟨rfl, _, rfl⟩
theorem least_none (w : World) : Quiet 17 #[.int .u64 0] w (.tuple #[.int .i64 0, .bool false]) := by
  unfold Quiet
  go_enter Tryd.func17, Tryd.ntmps17
  go_wp2
  go_ret2
  exact ⟨rfl, 0, rfl⟩
theorem least_some (s : Nat) (h0 : s ≠ 0) (hs : s < 18446744073709551616) (w : World) (hT : TabIn w) : Quiet 17 #[.int .u64 s] w (.tuple #[.int .i64 (Lib.ctz 64 s : Nat), .bool true]) := by
  unfold Quiet
  have HS := Lib.hid hs
  have HT := Lib.hid hT
  have H0 := Lib.hid h0
  have hz : ((s : Int) == 0) = false := by simp; exact h0
  clear hs hT h0
  go_enter Tryd.func17, Tryd.ntmps17
  go_wp2_with (go_at_call 35; refine (tz_calls s H0.out HS.out _ HT.out).mono ?_; rintro e w' ⟨rfl, n, rfl⟩)
  go_ret2
  exact ⟨rfl, _, rfl⟩
theorem within_calls (s t : Nat) (hs : s < 18446744073709551616) (ht : t < 18446744073709551616) (w : World) : Quiet 18 #[.int .u64 s, .int .u64 t] w (.bool (decide (minusN s t = 0))) := by
  unfold Quiet
  have H := Lib.hid (bits_andNot s t hs ht)
  clear hs ht
  go_enter Tryd.func18, Tryd.ntmps18
  go_wp2
  go_ret
  exact ⟨ret_bool (by rw [H.out, Bool.eq_iff_iff, beq_iff_eq, decide_eq_true_eq]; exact Int.natCast_eq_zero), 0, rfl⟩
theorem meet_calls (s t : Nat) (hs : s < 18446744073709551616) (ht : t < 18446744073709551616) (w : World) : Quiet 12 #[.int .u64 s, .int .u64 t] w (.int .u64 (s &&& t : Nat)) := by
  unfold Quiet
  have H := Lib.hid (bits_and s t hs ht)
  clear hs ht
  go_enter Tryd.func12, Tryd.ntmps12
  go_wp2
  go_ret
  exact ⟨ret_int H.out, 0, rfl⟩
theorem minus_calls (s t : Nat) (hs : s < 18446744073709551616) (ht : t < 18446744073709551616) (w : World) : Quiet 14 #[.int .u64 s, .int .u64 t] w (.int .u64 (minusN s t : Nat)) := by
  unfold Quiet
  have H := Lib.hid (bits_andNot s t hs ht)
  clear hs ht
  go_enter Tryd.func14, Tryd.ntmps14
  go_wp2
  go_ret
  exact ⟨ret_int H.out, 0, rfl⟩
theorem union_calls (A : Option Addr) (c : Nat) (l : List Nat) (w : World) (hr : Kd.C KSet w A l.length l) (hl : ∀ x ∈ l, x < 18446744073709551616) : Quiet 9 #[.slice A l.length c] w (.int .u64 (unionN l : Nat)) := by
  unfold Quiet
  have hlen := hr.2.1
  have HR := Lib.hid hr
  have HL := Lib.hid hl
  clear hr hl
  go_enter Tryd.func9, Tryd.ntmps9
  go_wp2
  go_loopw [2, 7] (fun a i wr => ∃ (j d x : Nat), j ≤ l.length ∧ i = .int .i64 j ∧ a = .int .u64 x ∧ Hid (x = unionN (l.take j)) ∧ wr = w.drewN d) (fun _ i _ => l.length - (intOf i).toNat)
  case atStart => exact ⟨0, 0, 0, by omega, rfl, rfl, Lib.hid rfl, rfl⟩
  case round =>
    obtain ⟨j, d, x, hj, rfl, rfl, HX, rfl⟩ := hrel
    by_cases hlt : j < l.length
    · obtain ⟨ad, y, rfl, hc, HY⟩ := at_scalar HR.out j hlt 0
      have HYL : Hid (y < 18446744073709551616) := Lib.hid (by rw [← HY.out]; exact HL.out _ (getD_mem l j 0 hlt))
      have HXL : Hid (x < 18446744073709551616) := Lib.hid (by rw [HX.out]; exact unionN_lt _ (fun z hz => HL.out z (List.mem_of_mem_take hz)))
      have HO := Lib.hid (bits_or x y HXL.out HYL.out)
      have HS : Hid (unionN (l.take (j + 1)) = x ||| y) := Lib.hid (by rw [take_snocD l j 0 hlt, unionN_snoc, HX.out, HY.out])
      go_wp2
      go_roundw
      case rel => exact ⟨j + 1, d, _, by omega, by go_num, by rw [HO.out], Lib.hid HS.out.symm, rfl⟩
      case measure => simp [intOf]; omega
    · have HE : Hid (x = unionN l) := Lib.hid (by rw [HX.out, List.take_of_length_le (by omega)])
      go_wp2
      go_ret
      exact ⟨ret_int (by rw [HE.out]), _, rfl⟩
theorem isnan_calls (s : Nat) (w : World) : Quiet 45 #[.int .u64 s] w (.bool false) := by
  unfold Quiet
  go_enter Tryd.func45, Tryd.ntmps45
  go_wp2
  go_ret
  exact ⟨ret_bool (by simp), 0, rfl⟩
def cmpN (s t : Nat) : Int := if s < t then -1 else if t < s then 1 else 0
theorem cmpcmp_calls (s t : Nat) (w : World) : Quiet 36 #[.int .u64 s, .int .u64 t] w (.int .i64 (cmpN s t)) := by
  unfold Quiet
  rcases Nat.lt_trichotomy s t with h | h | h
  · have H : Hid (cmpN s t = -1) := Lib.hid (by simp [cmpN, h])
    go_enter Tryd.func36, Tryd.ntmps36
    go_wp2_with (go_at_call 45; refine (isnan_calls _ _).mono ?_; rintro e w' ⟨rfl, n, rfl⟩)
    go_ret
    exact ⟨ret_int H.out.symm, _, rfl⟩
  · subst h
    have H : Hid (cmpN s s = 0) := Lib.hid (by simp [cmpN])
    go_enter Tryd.func36, Tryd.ntmps36
    go_wp2_with (go_at_call 45; refine (isnan_calls _ _).mono ?_; rintro e w' ⟨rfl, n, rfl⟩)
    go_ret
    exact ⟨ret_int H.out.symm, _, rfl⟩
  · have H : Hid (cmpN s t = 1) := Lib.hid (by simp [cmpN, h]; omega)
    have h' : ¬ s < t := by omega
    go_enter Tryd.func36, Tryd.ntmps36
    go_wp2_with (go_at_call 45; refine (isnan_calls _ _).mono ?_; rintro e w' ⟨rfl, n, rfl⟩)
    go_ret
    exact ⟨ret_int H.out.symm, _, rfl⟩
theorem compare_calls (s t : Nat) (w : World) : Quiet 19 #[.int .u64 s, .int .u64 t] w (.int .i64 (cmpN s t)) := by
  unfold Quiet
  go_enter Tryd.func19, Tryd.ntmps19
  go_wp2_with (go_at_call 36; refine (cmpcmp_calls _ _ _).mono ?_; rintro e w' ⟨rfl, n, rfl⟩)
  go_ret
  exact ⟨rfl, _, rfl⟩
theorem rnums_calls (s : Nat) (hs : s < 18446744073709551616) (w : World) :
    Calls Tryd.prog 8 #[.int .u64 s] w fun e w' => ∃ v, e = .returned v ∧ Kd.R (Kd.int .i64) 3 w' w.heap.size (fun _ => True) v (numsI s) ∧ Below w.heap.size w w' := by
  have HS := Lib.hid hs
  clear hs
  go_enter Tryd.func8, Tryd.ntmps8
  go_wp2
  go_loopw [3, 4] (fun v i wr => ∃ (j : Nat), j ≤ 64 ∧ i = .int .i64 j ∧ Aside0 (Kd.R (Kd.int .i64) 3 wr w.heap.size (fun _ => True) v ((numsUp s j).map (fun j : Nat => (j : Int)))) ∧ Aside0 (Below w.heap.size w wr)) (fun _ i _ => 64 - (intOf i).toNat)
  case atStart => exact ⟨0, by omega, rfl, ⟨Kd.R_nil _ _ _ _ _⟩, ⟨Below.refl _ _⟩⟩
  case round =>
    obtain ⟨j, hj, rfl, HO, HB⟩ := hrel
    rename_i v _
    by_cases hlt : j < 64
    · have HU := Lib.hid (numsI_up s j hlt)
      have hlen : ((numsUp s j).map (fun j : Nat => (j : Int))).length ≤ 64 := by
        rw [List.length_map]; exact Nat.le_trans (List.length_filter_le _ _) (by simp; omega)
      cases hb : hasN s j
      · go_wp2_with (go_at_call 32; refine (rhas_calls s HS.out j _).mono ?_; rintro e w' ⟨rfl, n, rfl⟩)
        go_roundw
        case rel => exact ⟨j + 1, by omega, by go_num, ⟨by rw [HU.out, hb]; simp; exact Kd.R_drewN HO.out _⟩, ⟨pw_below_drewN HB.out _⟩⟩
        case measure => simp [intOf]; omega
      · go_wp2_with (first | (go_at_call 32; refine (rhas_calls s HS.out j _).mono ?_; rintro e w' ⟨rfl, n, rfl⟩) | ((with_reducible refine gate_builtin (b := .append) (xs := #[.tmp 12, .tmp 14]) rfl ?_); at_builtin; refine Kd.R_append (Kd.int .i64) (w0 := w) w.heap.size rfl (.tmp 12) (.tmp 14) 25 3 (.int .i64 0) 8 rfl Tryd.underlying25 infoInt rfl (by decide) (by omega) _ _ ((j : Nat) : Int) [.int .i64 (j : Nat)] (fun _ => True) (fun _ => False) rfl rfl rfl (fun _ hk => hk.elim) (fun _ _ => trivial) (Kd.R_drewN HO.out _) (pw_below_drewN HB.out _) (Below.size (pw_below_drewN HB.out _)) (by omega) ?_; intro v1 w1 ho hb _ _; have HO1 := Aside0.mk ho; have HB1 := Aside0.mk hb; clear ho hb))
        go_roundw
        case rel => exact ⟨j + 1, by omega, by go_num, ⟨by rw [HU.out, hb]; exact HO1.out⟩, HB1⟩
        case measure => simp [intOf]; omega
    · obtain rfl : j = 64 := by omega
      go_wp2
      go_ret
      exact ⟨_, rfl, HO.out, HB.out⟩
theorem rmeet_calls (s t : Nat) (hs : s < 18446744073709551616) (ht : t < 18446744073709551616) (w : World) : Quiet 13 #[.int .u64 s, .int .u64 t] w (.int .u64 (s &&& t : Nat)) := by
  unfold Quiet
  have HS := Lib.hid hs
  have HT := Lib.hid ht
  clear hs ht
  go_enter Tryd.func13, Tryd.ntmps13
  go_wp2
  go_loopw [5, 6] (fun v i wr => ∃ (j d x : Nat), j ≤ 64 ∧ i = .int .i64 j ∧ v = .int .u64 x ∧ Hid (x = (s &&& t) % 2 ^ j) ∧ wr = w.drewN d) (fun _ i _ => 64 - (intOf i).toNat)
  case atStart => exact ⟨0, 0, 0, by omega, rfl, rfl, Lib.hid (by simp [Nat.mod_one]), rfl⟩
  case round =>
    obtain ⟨j, d, x, hj, rfl, rfl, HX, rfl⟩ := hrel
    by_cases hlt : j < 64
    · have HU := Lib.hid (low_and_step s t j hlt)
      have HXL : Hid (x < 18446744073709551616) := Lib.hid (by rw [HX.out]; exact Nat.lt_of_le_of_lt (Nat.mod_le _ _) (and_lt _ HS.out))
      cases hb : hasN s j <;> cases hc : hasN t j
      all_goals
        go_wp2_with (first | (go_at_call 32; refine (rhas_calls _ (by first | exact HS.out | exact HT.out) _ _).mono ?_; rintro e w' ⟨rfl, n, rfl⟩) | (go_at_call 33; refine (rwith_calls x HXL.out j _).mono ?_; rintro e w' ⟨rfl, n3, rfl⟩))
        go_roundw
        case rel => exact ⟨j + 1, _, _, by omega, by go_num, rfl, Lib.hid (by rw [← HU.out, hb, hc]; simp [HX.out]), rfl⟩
        case measure => simp [intOf]; omega
    · obtain rfl : j = 64 := by omega
      have HE : Hid (x = s &&& t) := Lib.hid (by rw [HX.out]; exact low_all (and_lt _ HS.out))
      go_wp2
      go_ret
      exact ⟨ret_int (by rw [HE.out]), _, rfl⟩
theorem rminus_calls (s t : Nat) (hs : s < 18446744073709551616) (ht : t < 18446744073709551616) (w : World) : Quiet 15 #[.int .u64 s, .int .u64 t] w (.int .u64 (minusN s t : Nat)) := by
  unfold Quiet
  have HS := Lib.hid hs
  have HT := Lib.hid ht
  clear hs ht
  go_enter Tryd.func15, Tryd.ntmps15
  go_wp2
  go_loopw [5, 6] (fun v i wr => ∃ (j d x : Nat), j ≤ 64 ∧ i = .int .i64 j ∧ v = .int .u64 x ∧ Hid (x = (minusN s t) % 2 ^ j) ∧ wr = w.drewN d) (fun _ i _ => 64 - (intOf i).toNat)
  case atStart => exact ⟨0, 0, 0, by omega, rfl, rfl, Lib.hid (by simp [Nat.mod_one]), rfl⟩
  case round =>
    obtain ⟨j, d, x, hj, rfl, rfl, HX, rfl⟩ := hrel
    by_cases hlt : j < 64
    · have HU := Lib.hid (low_minus_step s t j HS.out hlt)
      have HXL : Hid (x < 18446744073709551616) := Lib.hid (by rw [HX.out]; exact Nat.lt_of_le_of_lt (Nat.mod_le _ _) (minusN_lt _ HS.out))
      cases hb : hasN s j <;> cases hc : hasN t j
      all_goals
        go_wp2_with (first | (go_at_call 32; refine (rhas_calls _ (by first | exact HS.out | exact HT.out) _ _).mono ?_; rintro e w' ⟨rfl, n, rfl⟩) | (go_at_call 33; refine (rwith_calls x HXL.out j _).mono ?_; rintro e w' ⟨rfl, n3, rfl⟩))
        go_roundw
        case rel => exact ⟨j + 1, _, _, by omega, by go_num, rfl, Lib.hid (by rw [← HU.out, hb, hc]; simp [HX.out]), rfl⟩
        case measure => simp [intOf]; omega
    · obtain rfl : j = 64 := by omega
      have HE : Hid (x = minusN s t) := Lib.hid (by rw [HX.out]; exact low_all (minusN_lt _ HS.out))
      go_wp2
      go_ret
      exact ⟨ret_int (by rw [HE.out]), _, rfl⟩
theorem runion_calls (A : Option Addr) (c : Nat) (l : List Nat) (w : World) (hr : Kd.C KSet w A l.length l) (hl : ∀ x ∈ l, x < 18446744073709551616) :
    Calls Tryd.prog 10 #[.slice A l.length c] w fun e w' => e = .returned (.int .u64 (unionN l : Nat)) ∧ Below w.heap.size w w' := by
  have hlen := hr.2.1
  have HR := Lib.hid hr
  have HL := Lib.hid hl
  clear hr hl
  go_enter Tryd.func10, Tryd.ntmps10
  go_wp2
  go_loopw [3, 4] (fun a i wr => ∃ (j x : Nat), j ≤ l.length ∧ i = .int .i64 j ∧ a = .int .u64 x ∧ Hid (x = unionN (l.take j)) ∧ Aside0 (Below w.heap.size w wr)) (fun _ i _ => l.length - (intOf i).toNat)
  case atStart => exact ⟨0, 0, by omega, rfl, rfl, Lib.hid rfl, ⟨Below.refl _ _⟩⟩
  case round =>
    obtain ⟨j, x, hj, rfl, rfl, HX, HB⟩ := hrel
    obtain ⟨w1, rfl⟩ : ∃ w1, wr = w1 := ⟨_, rfl⟩
    by_cases hlt : j < l.length
    · obtain ⟨ad, y, rfl, hc, HY⟩ := at_scalar (Kd.C_below HR.out HB.out) j hlt 0
      have HYL : Hid (y < 18446744073709551616) := Lib.hid (by rw [← HY.out]; exact HL.out _ (getD_mem l j 0 hlt))
      have HXL : Hid (x < 18446744073709551616) := Lib.hid (by rw [HX.out]; exact unionN_lt _ (fun z hz => HL.out z (List.mem_of_mem_take hz)))
      have HS : Hid (unionN (l.take (j + 1)) = x ||| y) := Lib.hid (by rw [take_snocD l j 0 hlt, unionN_snoc, HX.out, HY.out])
      go_wp2_with (go_at_call 8; refine (rnums_calls y HYL.out _).mono ?_; rintro e w2 ⟨v, rfl, HO0, HB0⟩; have HO := Aside0.mk HO0; have HB2 := Aside0.mk (Below.trans HB.out (HB0.mono HB.out.size)); clear HO0 HB0; obtain ⟨A2, c2, rfl⟩ := Kd.R_slice HO.out; have HC2 := Aside0.mk (Kd.R_reads' HO.out).2.2)
      obtain ⟨L, HLd⟩ : ∃ L, Hid (numsI y = L) := ⟨_, Lib.hid rfl⟩
      rw [HLd.out] at HC2 HO ⊢
      have hL := HC2.out.2.1
      go_loopw [3, 6] (fun a i wr => ∃ (k d z : Nat), k ≤ L.length ∧ i = .int .i64 k ∧ a = .int .u64 z ∧ Hid (z = (L.take k).foldl withN x) ∧ wr = w2.drewN d) (fun _ i _ => L.length - (intOf i).toNat)
      case atStart => exact ⟨0, 0, x, by omega, rfl, rfl, Lib.hid rfl, rfl⟩
      case round =>
        obtain ⟨k, d, z, hk, rfl, rfl, HZ, rfl⟩ := hrel
        by_cases hk2 : k < L.length
        · obtain ⟨ad2, y2, rfl, hc2, HY2⟩ := at_nat (Kd.C_drewN HC2.out d) k hk2
          have HZL : Hid (z < 18446744073709551616) := Lib.hid (by rw [HZ.out]; exact ofN_lt_aux _ _ HXL.out)
          have HZS : Hid ((L.take (k + 1)).foldl withN x = withN z y2) := Lib.hid (by rw [take_snocD L k 0 hk2, List.foldl_append, ← HZ.out, HY2.out]; rfl)
          rw [World.cell?_drewN] at hc2
          go_wp2_with (go_at_call 33; refine (rwith_calls z HZL.out y2 _).mono ?_; rintro e w' ⟨rfl, n3, rfl⟩)
          go_roundw
          case rel => exact ⟨k + 1, _, _, by omega, by go_num, rfl, Lib.hid HZS.out.symm, rfl⟩
          case measure => simp [intOf]; omega
        · have HZE : Hid (z = x ||| y) := Lib.hid (by rw [HZ.out, List.take_of_length_le (by omega), ← HLd.out]; exact or_nums x y HYL.out)
          go_wp2
          go_roundw
          case rel => exact ⟨j + 1, z, by omega, by go_num, rfl, Lib.hid (by rw [HZE.out, HS.out]), ⟨pw_below_drewN HB2.out _⟩⟩
          case measure => simp [intOf]; omega
    · have HE : Hid (x = unionN l) := Lib.hid (by rw [HX.out, List.take_of_length_le (by omega)])
      go_wp2
      go_ret
      exact ⟨ret_int (by rw [HE.out]), HB.out⟩
end Go.Proofs.YtgbiihmacinnmaaDoor.Hand
