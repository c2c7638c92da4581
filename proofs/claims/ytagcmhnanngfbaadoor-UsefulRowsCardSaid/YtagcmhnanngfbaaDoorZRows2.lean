/- The texts that the statement's proof stands on, part 2: XBitsC XSetsB XRight XErr XKind XGram XMemC XUse XLen XUword XRowMath XFew. -/
import Derived.Test.YtagcmhnanngfbaaDoorZRows1
import Derived.Lib.TrailingZeros
import Derived.LaidEql
import Derived.Stop.Asserts
import Derived.RowKitTokens
import Derived.Deep.LoopGhost
import Derived.WalkMore
import Derived.ScopeJumps
/- Plain laws: the numbers of a set one after the other, from the least on, as the library's trailing zeros tell them; unions, meets and differences. -/
namespace Go.Proofs.YtagcmhnanngfbaaDoor.Math
open Go.RowKit

theorem ctz_spec (t : Nat) (h0 : t ≠ 0) (h : t < 18446744073709551616) : ∃ m, t = 2 ^ (Lib.ctz 64 t + 1) * m + 2 ^ Lib.ctz 64 t ∧ Lib.ctz 64 t < 64 := by
  obtain ⟨m, hm, hk⟩ := Lib.ctzFrom_spec 64 t (by omega) h
  have e : Lib.ctz 64 t = Lib.ctzFrom 64 t := by simp [Lib.ctz, h0]
  rw [e]
  refine ⟨m, ?_, hk⟩
  rw [Nat.pow_succ, Nat.mul_assoc, ← Nat.mul_succ]
  exact hm
theorem low_test (c m j : Nat) : (2 ^ (c + 1) * m + 2 ^ c).testBit j = (decide (c = j) || (2 ^ (c + 1) * m).testBit j) ∧ (j ≤ c → (2 ^ (c + 1) * m).testBit j = false) := by
  have h1 := Nat.testBit_two_pow_mul_add m (b := 2 ^ c) (i := c + 1) (Nat.pow_lt_pow_right (by decide) (by omega)) j
  have h2 := Nat.testBit_two_pow_mul_add m (b := 0) (i := c + 1) (Nat.two_pow_pos _) j
  rw [Nat.add_zero] at h2
  rw [h1, h2, Nat.testBit_two_pow]
  refine ⟨?_, fun h => by rw [if_pos (by omega)]; simp⟩
  by_cases hj : j < c + 1
  · simp [hj]
  · have : c ≠ j := by omega
    simp [hj, this]
theorem drop_low (c m : Nat) : (2 ^ (c + 1) * m + 2 ^ c) &&& (2 ^ (c + 1) * m + 2 ^ c - 1) = 2 ^ (c + 1) * m := by
  have hp := Nat.two_pow_pos c
  have e : 2 ^ (c + 1) * m + 2 ^ c - 1 = 2 ^ (c + 1) * m + (2 ^ c - 1) := by omega
  have hl : 2 ^ c - 1 < 2 ^ (c + 1) := Nat.lt_of_le_of_lt (Nat.sub_le _ _) (Nat.pow_lt_pow_right (by decide) (by omega))
  apply Nat.eq_of_testBit_eq
  intro j
  have h3 := Nat.testBit_two_pow_mul_add m (b := 2 ^ c - 1) (i := c + 1) hl j
  have h2 := Nat.testBit_two_pow_mul_add m (b := 0) (i := c + 1) (Nat.two_pow_pos _) j
  rw [Nat.add_zero] at h2
  rw [Nat.testBit_and, (low_test c m j).1, e, h3, h2, Nat.testBit_two_pow_sub_one]
  by_cases hj : j < c + 1
  · simp only [hj, if_true, Nat.zero_testBit, Bool.or_false]
    by_cases e : c = j
    · subst e; simp
    · simp [e]
  · have : c ≠ j := by omega
    simp [hj, this]
theorem numsUp_low (c m : Nat) : ∀ k, numsUp (2 ^ (c + 1) * m + 2 ^ c) k = (if c < k then [c] else []) ++ numsUp (2 ^ (c + 1) * m) k
  | 0 => by simp [numsUp]
  | k + 1 => by
    rw [numsUp_succ, numsUp_succ, numsUp_low c m k, (low_test c m k).1]
    rcases Nat.lt_trichotomy c k with h | h | h
    · have h1 : c < k + 1 := by omega
      have h2 : c ≠ k := by omega
      simp [h, h1, h2]
    · subst h
      have h0 : numsUp (2 ^ (c + 1) * m) c = [] := by
        rw [numsUp, List.filter_eq_nil_iff]
        intro j hj
        rw [List.mem_range] at hj
        rw [(low_test c m j).2 (by omega)]; simp
      rw [(low_test c m c).2 (Nat.le_refl _), h0]
      simp
    · have h1 : ¬ c < k := by omega
      have h2 : ¬ c < k + 1 := by omega
      have h3 : c ≠ k := by omega
      simp [h1, h2, h3]
def nextT (t : Nat) : Nat := t &&& (t - 1)
/-- The least number first, then those of the rest. -/
theorem nums_step (t : Nat) (h0 : t ≠ 0) (h : t < 18446744073709551616) : nums64 t = Lib.ctz 64 t :: nums64 (nextT t) ∧ nextT t < t := by
  obtain ⟨m, hm, hk⟩ := ctz_spec t h0 h
  generalize Lib.ctz 64 t = c at *
  have e : nextT t = 2 ^ (c + 1) * m := by rw [nextT, hm]; exact drop_low c m
  refine ⟨?_, by rw [e, hm]; have := Nat.two_pow_pos c; omega⟩
  rw [e]
  show numsUp t 64 = c :: numsUp (2 ^ (c + 1) * m) 64
  rw [hm, numsUp_low, if_pos hk]; rfl
theorem nums_zero : nums64 0 = [] := by
  rw [nums64, List.filter_eq_nil_iff]; intro j _; simp
theorem numsI_step (t : Nat) (h0 : t ≠ 0) (h : t < 18446744073709551616) : numsI t = (Lib.ctz 64 t : Int) :: numsI (nextT t) := by
  rw [numsI, (nums_step t h0 h).1]; rfl
theorem nums_nil {t : Nat} (h : t < 18446744073709551616) : nums64 t = [] ↔ t = 0 := by
  constructor
  · intro e
    refine Classical.byContradiction fun h0 => ?_
    rw [(nums_step t h0 h).1] at e; simp at e
  · rintro rfl; exact nums_zero
theorem numsI_len (s : Nat) : (numsI s).length = pc 64 s := by rw [numsI, List.length_map, pc_nums]
theorem numsI_mem (s : Nat) (x : Int) : x ∈ numsI s ↔ ∃ j : Nat, x = j ∧ j < 64 ∧ s.testBit j = true := by
  simp only [numsI, nums64, List.mem_map, List.mem_filter, List.mem_range]
  constructor
  · rintro ⟨j, ⟨h1, h2⟩, rfl⟩; exact ⟨j, rfl, h1, h2⟩
  · rintro ⟨j, rfl, h1, h2⟩; exact ⟨j, ⟨h1, h2⟩, rfl⟩
theorem foldl_with (l : List Nat) : ∀ u j : Nat, (∀ x ∈ l, x < 64) → ((l.map (fun j : Nat => (j : Int))).foldl withN u).testBit j = (u.testBit j || decide (j ∈ l)) := by
  induction l with
  | nil => intro u j _; simp
  | cons a l ih =>
    intro u j h
    rw [List.map_cons, List.foldl_cons, ih _ _ (fun x hx => h x (List.mem_cons_of_mem _ hx)), withN, Nat.testBit_or, bitN_test, (inR_iff _).2 (by have := h a List.mem_cons_self; omega), Int.toNat_natCast]
    by_cases e : a = j
    · subst e; simp
    · have e' : ¬ j = a := fun h => e h.symm
      simp [e, e']
/-- A set gone through, number by number, and put to another one: both together. -/
theorem or_nums (u s : Nat) (hs : s < 18446744073709551616) : (numsI s).foldl withN u = u ||| s := by
  apply Nat.eq_of_testBit_eq
  intro j
  rw [numsI, foldl_with _ _ _ (fun x hx => by simp [nums64] at hx; exact hx.1), Nat.testBit_or]
  congr 1
  by_cases hj : j < 64
  · cases h : s.testBit j <;> simp [nums64, hj, h]
  · have h := lt_test hs (j := j) (by omega)
    simp [nums64, hj, h]
def unionN (l : List Nat) : Nat := l.foldl (· ||| ·) 0
theorem unionN_snoc (l : List Nat) (k : Nat) : unionN (l ++ [k]) = unionN l ||| k := by simp [unionN]
theorem unionN_lt_aux (l : List Nat) : ∀ s, s < 18446744073709551616 → (∀ x ∈ l, x < 18446744073709551616) → l.foldl (· ||| ·) s < 18446744073709551616 := by
  induction l with
  | nil => intro s h _; exact h
  | cons a l ih => intro s h hl; exact ih _ (or_lt h (hl a List.mem_cons_self)) (fun x hx => hl x (List.mem_cons_of_mem _ hx))
theorem unionN_lt (l : List Nat) (h : ∀ x ∈ l, x < 18446744073709551616) : unionN l < 18446744073709551616 := unionN_lt_aux l 0 (by decide) h
def minusN (s t : Nat) : Nat := s &&& (t ^^^ 18446744073709551615)
theorem minusN_lt {s : Nat} (t : Nat) (h : s < 18446744073709551616) : minusN s t < 18446744073709551616 := and_lt _ h
theorem minusN_test {s : Nat} (t : Nat) (hs : s < 18446744073709551616) (j : Nat) : (minusN s t).testBit j = (s.testBit j && !t.testBit j) := by
  rw [minusN, Nat.testBit_and, Nat.testBit_xor, max_test]
  by_cases hj : j < 64
  · simp [hj]
  · simp [lt_test hs (Nat.le_of_not_lt hj)]
theorem low_and_step (s t k : Nat) (hk : k < 64) : (if hasN s k && hasN t k then withN ((s &&& t) % 2 ^ k) k else (s &&& t) % 2 ^ k) = (s &&& t) % 2 ^ (k + 1) := by
  rw [← withN_low _ _ hk, Nat.testBit_and]
  simp [hasN, (inR_iff (k : Int)).2 (by omega : (0 : Int) ≤ k ∧ (k : Int) ≤ 63)]
theorem low_minus_step (s t k : Nat) (hs : s < 18446744073709551616) (hk : k < 64) : (if hasN s k && !hasN t k then withN (minusN s t % 2 ^ k) k else minusN s t % 2 ^ k) = minusN s t % 2 ^ (k + 1) := by
  rw [← withN_low _ _ hk, minusN_test t hs]
  simp [hasN, (inR_iff (k : Int)).2 (by omega : (0 : Int) ≤ k ∧ (k : Int) ≤ 63)]
theorem numsI_up (s k : Nat) (hk : k < 64) : (numsUp s (k + 1)).map (fun j : Nat => (j : Int)) = (numsUp s k).map (fun j : Nat => (j : Int)) ++ if hasN s k then [(k : Int)] else [] := by
  rw [numsUp_succ, List.map_append]
  congr 1
  simp only [hasN, (inR_iff (k : Int)).2 (by omega : (0 : Int) ≤ k ∧ (k : Int) ≤ 63), Bool.true_and, Int.toNat_natCast]
  cases s.testBit k <;> simp
end Go.Proofs.YtagcmhnanngfbaaDoor.Math
/- Contracts: OnesCount64, TrailingZeros64, and the functions of sets and dovetailref01 on whole sets. -/
namespace Go.Proofs.YtagcmhnanngfbaaDoor.Hand
open Go.RowKit Go.Proofs.YtagcmhnanngfbaaDoorW.PrintWords Go.Proofs.YtagcmhnanngfbaaDoorW.PrintMore Go.Proofs.YtagcmhnanngfbaaDoor.Math

theorem and127 (n : Nat) (h : n < 18446744073709551616) : bits .and .i64 (wrap64 (n : Int)) 127 = ((n % 128 : Nat) : Int) := by
  have e1 : (BitVec.ofInt 64 (wrap64 (n : Int))).toNat = n := by
    rw [BitVec.toNat_ofInt]; unfold wrap64; omega
  have e2 : (BitVec.ofInt 64 127).toNat = 127 := by decide
  show IntKind.i64.wrap ((BitVec.ofInt 64 (wrap64 (n : Int)) &&& BitVec.ofInt 64 127).toNat : Int) = _
  rw [BitVec.toNat_and, e1, e2, show 127 = 2 ^ 7 - 1 from rfl, Nat.and_two_pow_sub_one_eq_mod, IntKind.wrap_i64]
  omega
theorem ones_calls (x : Nat) (hx : x < 18446744073709551616) (w : World) : Quiet 78 #[.int .u64 x] w (.int .i64 (pc 64 x : Nat)) := by
  unfold Quiet
  obtain ⟨h3, h4, h5, h6, h7⟩ := ones_all x hx
  have m1 : mk 85 8 < 18446744073709551616 := by rw [mk_85]; decide
  have m2 : mk 51 8 < 18446744073709551616 := by rw [mk_51]; decide
  have m3 : mk 15 8 < 18446744073709551616 := by rw [mk_15]; decide
  have x1 : x / 2 < 18446744073709551616 := by omega
  have a1 := bits_and (x / 2) (mk 85 8) x1 m1
  have b1 := bits_and x (mk 85 8) hx m1
  have hs1 : s1 8 x < 18446744073709551616 := by
    have ha : x / 2 &&& mk 85 8 ≤ mk 85 8 := Nat.and_le_right
    have hb : x &&& mk 85 8 ≤ mk 85 8 := Nat.and_le_right
    unfold s1; rw [mk_85] at *; omega
  have c1 : IntKind.u64.wrap (((x / 2 &&& mk 85 8 : Nat) : Int) + ((x &&& mk 85 8 : Nat) : Int)) = (s1 8 x : Nat) := by rw [← Int.natCast_add]; exact wrap_u64_nat _ hs1
  generalize s1 8 x = y at *
  have y1 : y / 4 < 18446744073709551616 := by omega
  have a2 := bits_and (y / 4) (mk 51 8) y1 m2
  have b2 := bits_and y (mk 51 8) hs1 m2
  have hs2 : s2 8 y < 18446744073709551616 := by
    have ha : y / 4 &&& mk 51 8 ≤ mk 51 8 := Nat.and_le_right
    have hb : y &&& mk 51 8 ≤ mk 51 8 := Nat.and_le_right
    unfold s2; rw [mk_51] at *; omega
  have c2 : IntKind.u64.wrap (((y / 4 &&& mk 51 8 : Nat) : Int) + ((y &&& mk 51 8 : Nat) : Int)) = (s2 8 y : Nat) := by rw [← Int.natCast_add]; exact wrap_u64_nat _ hs2
  have hs2' : s2 8 y ≤ 7378697629483820646 := by
    have ha : y / 4 &&& mk 51 8 ≤ mk 51 8 := Nat.and_le_right
    have hb : y &&& mk 51 8 ≤ mk 51 8 := Nat.and_le_right
    unfold s2; rw [mk_51] at *; omega
  generalize s2 8 y = z at *
  have c3 : IntKind.u64.wrap (((z / 16 : Nat) : Int) + (z : Int)) = (z / 16 + z : Nat) := by rw [← Int.natCast_add]; exact wrap_u64_nat _ (by omega)
  have a3 := bits_and (z / 16 + z) (mk 15 8) (by omega) m3
  rw [show (z / 16 + z) &&& mk 15 8 = s3 8 z from rfl] at a3
  generalize s3 8 z = u at *
  have c4 : IntKind.u64.wrap ((u : Int) + ((u / 256 : Nat) : Int)) = (fold1 u : Nat) := by rw [← Int.natCast_add]; exact wrap_u64_nat _ h4
  generalize fold1 u = u1 at *
  have c5 : IntKind.u64.wrap ((u1 : Int) + ((u1 / 65536 : Nat) : Int)) = (fold2 u1 : Nat) := by rw [← Int.natCast_add]; exact wrap_u64_nat _ h5
  generalize fold2 u1 = u2 at *
  have c6 : IntKind.u64.wrap ((u2 : Int) + ((u2 / 4294967296 : Nat) : Int)) = (fold3 u2 : Nat) := by rw [← Int.natCast_add]; exact wrap_u64_nat _ h6
  generalize fold3 u2 = u3 at *
  rw [mk_85] at a1 b1 c1
  rw [mk_51] at a2 b2 c2
  rw [mk_15] at a3
  rw [Int.natCast_ediv] at a1 a2 c3 c4 c5 c6
  have HR : Hid (u3 % 128 = pc 64 x) := Lib.hid h7
  have HB : Hid (u3 < 18446744073709551616) := Lib.hid h6
  simp only [Int.cast_ofNat_Int] at a1 b1 a2 b2 a3 c3 c4 c5 c6
  clear h3 h4 h5 h6 h7 m1 m2 m3 x1 hs1 y1 hs2 hs2'
  generalize (x / 2 &&& 6148914691236517205) = v1 at *
  generalize (x &&& 6148914691236517205) = v2 at *
  generalize (y / 4 &&& 3689348814741910323) = v3 at *
  generalize (y &&& 3689348814741910323) = v4 at *
  generalize (z / 16 + z) = v5 at *
  clear hx
  go_enter Tryd.func78, Tryd.ntmps78
  go_wp2
  go_ret
  exact ⟨ret_int ((and127 u3 HB.out).trans (by rw [HR.out])), 0, rfl⟩
/-- The library's table in its variable. -/
def TabIn (w : World) : Prop := ∀ j, j < Lib.deBruijn64tab.length → w.cell? ⟨15, j, none⟩ = some (.int .u8 (Lib.deBruijn64tab.getD j 0))
theorem TabIn.drewN {w : World} (h : TabIn w) (m : Nat) : TabIn (w.drewN m) := by
  intro j hj; rw [World.cell?_drewN]; exact h j hj
theorem TabIn.below {w w' : World} {B : Nat} (h : TabIn w) (hg : 15 < B) (hb : Below B w w') : TabIn w' := by
  intro j hj; rw [hb.cell (p := ⟨15, j, none⟩) hg]; exact h j hj
theorem tz64_key (x a : Nat) (hx : x < 18446744073709551616) (hx0 : x ≠ 0) (hlow : x &&& (18446744073709551616 - x) = a) :
    IntKind.u64.wrap (bits BinOp.and IntKind.u64 (x : Int) (IntKind.u64.wrap (-(x : Int))) * 285870213051353865) / 288230376151711744 = ((a * 285870213051353865 % 18446744073709551616 / 288230376151711744 : Nat) : Int) := by
  have e1 : IntKind.u64.wrap (-(x : Int)) = ((18446744073709551616 - x : Nat) : Int) := by rw [wrap_u64]; omega
  rw [e1, bits_and x _ hx (by omega), hlow, wrap_u64]
  omega
theorem tz_core (x k idx : Nat) (w : World) (hx0 : ((x : Int) == 0) = false)
    (key : IntKind.u64.wrap (bits BinOp.and IntKind.u64 (x : Int) (IntKind.u64.wrap (-(x : Int))) * 285870213051353865) / 288230376151711744 = (idx : Int))
    (hi : idx < 64) (hk : k < 64) (hcell : w.cell? ⟨15, idx, none⟩ = some (.int .u8 k)) : Quiet 80 #[.int .u64 x] w (.int .i64 k) := by
  unfold Quiet
  go_enter Tryd.func80, Tryd.ntmps80
  go_wp2_with (simp only [key])
  go_ret
  exact ⟨rfl, 0, rfl⟩
theorem tz_calls (x : Nat) (h0 : x ≠ 0) (hx : x < 18446744073709551616) (w : World) (hT : TabIn w) : Quiet 80 #[.int .u64 x] w (.int .i64 (Lib.ctz 64 x)) := by
  obtain ⟨hlow, hk⟩ := Lib.lowest_bit 64 x h0 hx
  obtain ⟨hi, htab⟩ := Lib.deBruijn64_at _ hk
  have hcell := hT _ hi
  rw [htab] at hcell
  exact tz_core x _ _ w (by simp; omega) (tz64_key x _ hx h0 hlow) hi hk hcell
theorem len_calls (s : Nat) (hs : s < 18446744073709551616) (w : World) : Quiet 57 #[.int .u64 s] w (.int .i64 (pc 64 s : Nat)) := by
  unfold Quiet
  have HS := Lib.hid hs
  clear hs
  go_enter Tryd.func57, Tryd.ntmps57
  go_wp2_with (go_at_call 78; refine (ones_calls s HS.out _).mono ?_; rintro e w' ⟨rfl, n, rfl⟩)
  go_ret
  exact ⟨rfl, _, rfl⟩
theorem within_calls (s t : Nat) (hs : s < 18446744073709551616) (ht : t < 18446744073709551616) (w : World) : Quiet 53 #[.int .u64 s, .int .u64 t] w (.bool (decide (minusN s t = 0))) := by
  unfold Quiet
  have H := Lib.hid (bits_andNot s t hs ht)
  clear hs ht
  go_enter Tryd.func53, Tryd.ntmps53
  go_wp2
  go_ret
  exact ⟨ret_bool (by rw [H.out, Bool.eq_iff_iff, beq_iff_eq, decide_eq_true_eq]; exact Int.natCast_eq_zero), 0, rfl⟩
theorem meet_calls (s t : Nat) (hs : s < 18446744073709551616) (ht : t < 18446744073709551616) (w : World) : Quiet 58 #[.int .u64 s, .int .u64 t] w (.int .u64 (s &&& t : Nat)) := by
  unfold Quiet
  have H := Lib.hid (bits_and s t hs ht)
  clear hs ht
  go_enter Tryd.func58, Tryd.ntmps58
  go_wp2
  go_ret
  exact ⟨ret_int H.out, 0, rfl⟩
theorem union_calls (A : Option Addr) (c : Nat) (l : List Nat) (w : World) (hr : Kd.C KSet w A l.length l) (hl : ∀ x ∈ l, x < 18446744073709551616) : Quiet 70 #[.slice A l.length c] w (.int .u64 (unionN l : Nat)) := by
  unfold Quiet
  have hlen := hr.2.1
  have HR := Lib.hid hr
  have HL := Lib.hid hl
  clear hr hl
  go_enter Tryd.func70, Tryd.ntmps70
  go_wp2
  go_loopw [2, 7] (fun a i wr => ∃ (j d x : Nat), j ≤ l.length ∧ i = .int .i64 j ∧ a = .int .u64 x ∧ Hid (x = unionN (l.take j)) ∧ wr = w.drewN d) (fun _ i _ => l.length - (intOf i).toNat)
  case atStart => exact ⟨0, 0, 0, by omega, rfl, rfl, Lib.hid rfl, rfl⟩
  case round =>
    obtain ⟨j, d, x, hj, rfl, rfl, HX, rfl⟩ := hrel
    by_cases hlt : j < l.length
    · obtain ⟨ad, y, rfl, hc, HY⟩ := at_scalar HR.out j hlt 0
      have HYL : Hid (y < 18446744073709551616) := Lib.hid (by rw [← HY.out]; exact HL.out _ (getD_mem l j 0 hlt))
      have HXL : Hid (x < 18446744073709551616) := Lib.hid (by rw [HX.out]; exact unionN_lt _ (fun z hz => HL.out z (List.mem_of_mem_take hz)))
      have HO := Lib.hid (bits_or x y HXL.out HYL.out)
      have HS : Hid (unionN (l.take (j + 1)) = x ||| y) := Lib.hid (by rw [take_snocD l j 0 hlt, unionN_snoc, HX.out, HY.out])
      go_wp2
      go_roundw
      case rel => exact ⟨j + 1, d, _, by omega, by go_num, by rw [HO.out], Lib.hid HS.out.symm, rfl⟩
      case measure => simp [intOf]; omega
    · have HE : Hid (x = unionN l) := Lib.hid (by rw [HX.out, List.take_of_length_le (by omega)])
      go_wp2
      go_ret
      exact ⟨ret_int (by rw [HE.out]), _, rfl⟩
end Go.Proofs.YtagcmhnanngfbaaDoor.Hand
/- Plainly: what a grammar that is right is like. -/
namespace Go.Proofs.YtagcmhnanngfbaaDoor.Hand
open Go.RowKit Go.Proofs.YtagcmhnanngfbaaDoorW.PrintWords Go.Proofs.YtagcmhnanngfbaaDoorW.PrintMore Go.Proofs.YtagcmhnanngfbaaDoor.Math

theorem firstBad_zero (t n : Nat) : ∀ (l : List (Int × List Int)) (i : Nat), (firstBad t n l i).1 = 0 → ∀ r ∈ l, ruleN t n r = 0
  | [], _, _, r, hr => by cases hr
  | x :: l, i, h, r, hr => by
    unfold firstBad at h
    by_cases h0 : ruleN t n x = 0
    · rw [if_pos h0] at h
      rcases List.mem_cons.1 hr with rfl | hr
      · exact h0
      · exact firstBad_zero t n l (i + 1) h r hr
    · rw [if_neg h0] at h
      exact absurd h h0
structure RightIs (g : Gr) : Prop where
  size : g.terms.length + g.nonterms.length ≤ 60
  rules : g.rules.length ≤ 120
  terms : NamesOk g.terms
  nonterms : NamesOk g.nonterms
  ax0 : 0 ≤ g.ax
  ax1 : g.ax < g.nonterms.length
  ruleN : ∀ r ∈ g.rules, ruleN g.terms.length g.nonterms.length r = 0
theorem checkN_zero {g : Gr} (h : (checkN g).1 = 0) : RightIs g := by
  unfold checkN at h
  split at h
  · cases h
  · split at h
    · cases h
    · split at h
      · cases h
      · rename_i h1 h2 h3
        have h2' : NamesOk g.terms ∧ NamesOk g.nonterms := ⟨Classical.byContradiction (fun x => h2 (.inl x)), Classical.byContradiction (fun x => h2 (.inr x))⟩
        exact ⟨by omega, by omega, h2'.1, h2'.2, by omega, by omega, firstBad_zero _ _ _ _ h⟩
theorem firstBad_ok (t n : Nat) : ∀ (l : List (Int × List Int)) (i : Nat), (firstBad t n l i).1 = 0 → firstBad t n l i = (0, -1)
  | [], _, _ => rfl
  | x :: l, i, h => by
    unfold firstBad at h ⊢
    by_cases h0 : Hand.ruleN t n x = 0
    · rw [if_pos h0] at h ⊢
      exact firstBad_ok t n l (i + 1) h
    · rw [if_neg h0] at h
      exact absurd h h0
theorem checkN_ok {g : Gr} (h : (checkN g).1 = 0) : checkN g = (0, -1) := by
  unfold checkN at h ⊢
  split at h
  · cases h
  · rename_i h1
    rw [if_neg h1]
    split at h
    · cases h
    · rename_i h2
      rw [if_neg h2]
      split at h
      · cases h
      · rename_i h3
        rw [if_neg h3]
        exact firstBad_ok _ _ _ _ h
theorem ruleN_len {t n : Nat} {r : Int × List Int} (h : Hand.ruleN t n r = 0) : r.2.length ≤ 32 := by
  unfold Hand.ruleN at h
  split at h
  · cases h
  · omega
/-- How many symbols all right sides have. -/
def sizeN (l : List (Int × List Int)) : Nat := (l.map (fun r => r.2.length)).sum
theorem sizeN_snoc (l : List (Int × List Int)) (r : Int × List Int) : sizeN (l ++ [r]) = sizeN l + r.2.length := by simp [sizeN]
theorem sizeN_le (l : List (Int × List Int)) (h : ∀ r ∈ l, r.2.length ≤ 32) : sizeN l ≤ 32 * l.length := by
  induction l with
  | nil => simp [sizeN]
  | cons x l ih =>
    have := ih (fun r hr => h r (List.mem_cons_of_mem _ hr))
    have h2 := h x List.mem_cons_self
    simp only [sizeN, List.map_cons, List.sum_cons, List.length_cons] at this ⊢
    omega
theorem sizeN_take (l : List (Int × List Int)) (k : Nat) : sizeN (l.take k) ≤ sizeN l := by
  have : sizeN l = sizeN (l.take k) + sizeN (l.drop k) := by
    conv => lhs; rw [← List.take_append_drop k l]
    simp [sizeN, -List.take_append_drop]
  omega
def tokBad (t : Nat) (x : Int) : Bool := decide (x < 0) || decide ((t : Int) ≤ x)
open Classical in
/-- What is wrong of a grammar and tokens: the error's number, and the rule. -/
noncomputable def mayN (g : Gr) (tk : List Int) : Nat × Int :=
  if (checkN g).1 ≠ 0 then checkN g
  else if 40 < tk.length ∨ 512 < sizeN g.rules then (12, -1)
  else if tk.any (tokBad g.terms.length) = true then (1, -1)
  else (0, -1)
end Go.Proofs.YtagcmhnanngfbaaDoor.Hand
/- errors.Is of the program's sentinels, of rules' errors over them and of nil; dovetailkit.Kind: which of the errors one is. -/
namespace Go.Proofs.YtagcmhnanngfbaaDoor.Hand
open Go.RowKit Go.Proofs.YtagcmhnanngfbaaDoorW.PrintWords Go.Proofs.YtagcmhnanngfbaaDoorW.PrintMore Go.Proofs.YtagcmhnanngfbaaDoor.Math
open Go.Extern.Stop Go.Stop Go.Extern

theorem isTypeOf (v : Value) (w : World) : (Extern.ReflectliteType.typeOf #[.iface 141 v]).run Tryd.prog w = .ok (.iface 121 (.agg #[.pointer (some ⟨16, 141, none⟩)])) w := by kernel_rfl
def cmpX : Array Value → Sem Value := Extern.ReflectliteType.method fun t => do Go.Extern.Rtype.noPackHeld "Comparable" t; pure (.bool (← typeInfo t).comparable)
theorem isComparable (w : World) : (cmpX #[.agg #[.pointer (some ⟨16, 141, none⟩)]]).run Tryd.prog w = .ok (.bool true) w := by kernel_rfl
theorem isMethodComparable (v : Value) (w : World) : (Go.method 278 121 v "Comparable").run Tryd.prog w = .ok (111, v) w := by kernel_rfl
theorem isComp : (Tryd.prog.info? 141).map (·.comparable) = some true := by kernel_rfl
theorem isSize : (Tryd.prog.info? 166).map (·.size) = some 1 := by kernel_rfl
theorem noIsE (v : Value) (xT : TypeId) (w : World) : (Instr.typeAssert (.iface 141 v) xT 123 true).run Tryd.prog w = .ok (.tuple #[.nilIface, .bool false]) w := run_typeAssert_lacksB Tryd.underlying123 (by kernel_rfl) (by kernel_rfl) v xT w
theorem noUnwrapE (v : Value) (xT : TypeId) (w : World) : (Instr.typeAssert (.iface 141 v) xT 126 true).run Tryd.prog w = .ok (.tuple #[.nilIface, .bool false]) w := run_typeAssert_lacksB Tryd.underlying126 (by kernel_rfl) (by kernel_rfl) v xT w
theorem noUnwrapsE (v : Value) (xT : TypeId) (w : World) : (Instr.typeAssert (.iface 141 v) xT 128 true).run Tryd.prog w = .ok (.tuple #[.nilIface, .bool false]) w := run_typeAssert_lacksB Tryd.underlying128 (by kernel_rfl) (by kernel_rfl) v xT w

set_option maxRecDepth 100000 in
/-- errors.Is(x, x), x a sentinel. -/
theorem is_same (b : Addr) (w : World) :
    Calls Tryd.prog 45 #[.iface 141 (.pointer (some b)), .iface 141 (.pointer (some b))] w fun e w' => e = .returned (.bool true) ∧ w = w' := by
  obtain ⟨i, hi, hcmp⟩ := Option.map_eq_some_iff.1 isComp
  obtain ⟨j, hj, hjs⟩ := Option.map_eq_some_iff.1 isSize
  have h8 := @run_callFunc_extern Tryd.prog 72 _ Extern.ReflectliteType.typeOf Tryd.func72 (by kernel_rfl) (by kernel_rfl) (by kernel_rfl) (by kernel_rfl)
  have h32 := @run_callFunc_extern Tryd.prog 111 _ cmpX Tryd.func111 (by kernel_rfl) (by kernel_rfl) (by kernel_rfl) (by kernel_rfl)
  have tT := isTypeOf
  have cT := isComparable
  have mR := isMethodComparable
  have nE := noIsE
  have uE := noUnwrapE
  have vE := noUnwrapsE
  have heq := run_eql_iface_ptr_same (P := Tryd.prog) w b Tryd.underlying30 Tryd.underlying141 hi hcmp hj
  go_enter Tryd.func45, Tryd.ntmps45
  go_wp2
  refine wp_loop_rounds 1 ?_
  rw [rounds_succ]
  go_wp2
  go_ret
  exact ⟨rfl, rfl⟩
set_option maxRecDepth 100000 in
/-- errors.Is(x, y), x and y two sentinels. -/
theorem is_other (a b : Addr) (ca cb : Array Value) (ta tb : TypeId) (w : World) (hne : a ≠ b) (ha : w.heap[a.block]? = some (.cells ca ta (0, 0))) (hb : w.heap[b.block]? = some (.cells cb tb (0, 0))) :
    Calls Tryd.prog 45 #[.iface 141 (.pointer (some a)), .iface 141 (.pointer (some b))] w fun e w' => e = .returned (.bool false) ∧ w = w' := by
  obtain ⟨i, hi, hcmp⟩ := Option.map_eq_some_iff.1 isComp
  obtain ⟨j, hj, hjs⟩ := Option.map_eq_some_iff.1 isSize
  have h8 := @run_callFunc_extern Tryd.prog 72 _ Extern.ReflectliteType.typeOf Tryd.func72 (by kernel_rfl) (by kernel_rfl) (by kernel_rfl) (by kernel_rfl)
  have h32 := @run_callFunc_extern Tryd.prog 111 _ cmpX Tryd.func111 (by kernel_rfl) (by kernel_rfl) (by kernel_rfl) (by kernel_rfl)
  have tT := isTypeOf
  have cT := isComparable
  have mR := isMethodComparable
  have nE := noIsE
  have uE := noUnwrapE
  have vE := noUnwrapsE
  have heq := run_eql_iface_ptr_other (P := Tryd.prog) w Tryd.underlying30 Tryd.underlying141 hi hcmp hj (by rw [hjs]; decide) hne ha hb
  go_enter Tryd.func45, Tryd.ntmps45
  go_wp2
  refine wp_loop_rounds 1 ?_
  rw [rounds_succ]
  go_wp2
  go_ret
  exact ⟨rfl, rfl⟩
theorem is_nil (b : Addr) (w : World) :
    Calls Tryd.prog 45 #[.nilIface, .iface 141 (.pointer (some b))] w fun e w' => e = .returned (.bool false) ∧ w = w' := by
  have hn := run_eql_iface_nil_left (P := Tryd.prog) w 141 (.pointer (some b)) Tryd.underlying30
  go_enter Tryd.func45, Tryd.ntmps45
  go_wp2
  go_ret
  exact ⟨rfl, rfl⟩
theorem noIsW_RuleError (v : Value) (xT : TypeId) (w : World) : (Instr.typeAssert (.iface 103 v) xT 123 true).run Tryd.prog w = .ok (.tuple #[.nilIface, .bool false]) w := run_typeAssert_lacksB Tryd.underlying123 (by kernel_rfl) (by kernel_rfl) v xT w
theorem hasUnwrap_RuleError (v : Value) (xT : TypeId) (w : World) : (Instr.typeAssert (.iface 103 v) xT 126 true).run Tryd.prog w = .ok (.tuple #[.iface 103 v, .bool true]) w := run_typeAssert_hasB Tryd.underlying126 (by kernel_rfl) v xT w
theorem methodUnwrap_RuleError (v : Value) (w : World) : (Go.method 278 103 v "Unwrap").run Tryd.prog w = .ok (107, v) w := by kernel_rfl
set_option maxRecDepth 100000 in
/-- errors.Is(e, x), e an error over x itself. -/
theorem is_same_RuleError (pb po : Nat) (b : Addr) (w : World) (h1 : w.cell? ⟨pb, po + 1, none⟩ = some (.iface 141 (.pointer (some b)))) :
    Calls Tryd.prog 45 #[.iface 103 (.pointer (some ⟨pb, po, none⟩)), .iface 141 (.pointer (some b))] w fun e w' => e = .returned (.bool true) ∧ w = w' := by
  obtain ⟨i, hi, hcmp⟩ := Option.map_eq_some_iff.1 isComp
  obtain ⟨j, hj, hjs⟩ := Option.map_eq_some_iff.1 isSize
  have h8 := @run_callFunc_extern Tryd.prog 72 _ Extern.ReflectliteType.typeOf Tryd.func72 (by kernel_rfl) (by kernel_rfl) (by kernel_rfl) (by kernel_rfl)
  have h32 := @run_callFunc_extern Tryd.prog 111 _ cmpX Tryd.func111 (by kernel_rfl) (by kernel_rfl) (by kernel_rfl) (by kernel_rfl)
  have tT := isTypeOf
  have cT := isComparable
  have mR := isMethodComparable
  have nE := noIsE
  have uE := noUnwrapE
  have vE := noUnwrapsE
  have nW := noIsW_RuleError
  have uW := hasUnwrap_RuleError
  have mU := methodUnwrap_RuleError
  have heq := run_eql_iface_ptr_same (P := Tryd.prog) w b Tryd.underlying30 Tryd.underlying141 hi hcmp hj
  have hty := run_eql_iface_types (P := Tryd.prog) 103 141 (.pointer (some ⟨pb, po, none⟩)) (.pointer (some b)) Tryd.underlying30 (by decide) w
  go_enter Tryd.func45, Tryd.ntmps45
  go_wp2
  refine wp_loop_rounds 2 ?_
  rw [rounds_succ]
  go_wp2
  rw [rounds_succ]
  go_wp2
  go_ret
  exact ⟨rfl, rfl⟩
set_option maxRecDepth 100000 in
/-- errors.Is(e, x), e an error over another sentinel. -/
theorem is_other_RuleError (pb po : Nat) (a b : Addr) (ca cb : Array Value) (ta tb : TypeId) (w : World) (h1 : w.cell? ⟨pb, po + 1, none⟩ = some (.iface 141 (.pointer (some a)))) (hne : a ≠ b) (ha : w.heap[a.block]? = some (.cells ca ta (0, 0))) (hb : w.heap[b.block]? = some (.cells cb tb (0, 0))) :
    Calls Tryd.prog 45 #[.iface 103 (.pointer (some ⟨pb, po, none⟩)), .iface 141 (.pointer (some b))] w fun e w' => e = .returned (.bool false) ∧ w = w' := by
  obtain ⟨i, hi, hcmp⟩ := Option.map_eq_some_iff.1 isComp
  obtain ⟨j, hj, hjs⟩ := Option.map_eq_some_iff.1 isSize
  have h8 := @run_callFunc_extern Tryd.prog 72 _ Extern.ReflectliteType.typeOf Tryd.func72 (by kernel_rfl) (by kernel_rfl) (by kernel_rfl) (by kernel_rfl)
  have h32 := @run_callFunc_extern Tryd.prog 111 _ cmpX Tryd.func111 (by kernel_rfl) (by kernel_rfl) (by kernel_rfl) (by kernel_rfl)
  have tT := isTypeOf
  have cT := isComparable
  have mR := isMethodComparable
  have nE := noIsE
  have uE := noUnwrapE
  have vE := noUnwrapsE
  have nW := noIsW_RuleError
  have uW := hasUnwrap_RuleError
  have mU := methodUnwrap_RuleError
  have heq := run_eql_iface_ptr_other (P := Tryd.prog) w Tryd.underlying30 Tryd.underlying141 hi hcmp hj (by rw [hjs]; decide) hne ha hb
  have hty := run_eql_iface_types (P := Tryd.prog) 103 141 (.pointer (some ⟨pb, po, none⟩)) (.pointer (some b)) Tryd.underlying30 (by decide) w
  go_enter Tryd.func45, Tryd.ntmps45
  go_wp2
  refine wp_loop_rounds 2 ?_
  rw [rounds_succ]
  go_wp2
  rw [rounds_succ]
  go_wp2
  go_ret
  exact ⟨rfl, rfl⟩
end Go.Proofs.YtagcmhnanngfbaaDoor.Hand
/- dovetailkit.Kind: which of the program's errors one is. -/
namespace Go.Proofs.YtagcmhnanngfbaaDoor.Hand
open Go.RowKit Go.Proofs.YtagcmhnanngfbaaDoorW.PrintWords Go.Proofs.YtagcmhnanngfbaaDoorW.PrintMore Go.Proofs.YtagcmhnanngfbaaDoor.Math

/-- The variables of the errors, in Kind's order. -/
def GE : List Nat := [0, 1, 2, 3, 4, 5, 6, 7, 8, 9, 10, 11, 12, 13, 14]
/-- The errors' variables hold pointers, each to a block of its own. -/
structure Errs (w : World) (A : Nat → Addr) : Prop where
  cells : ∀ i, i < 15 → w.cell? ⟨GE.getD i 0, 0, none⟩ = some (.iface 141 (.pointer (some (A i))))
  blks : ∀ i, i < 15 → ∃ c t, w.heap[(A i).block]? = some (.cells c t (0, 0))
  inj : ∀ i j, i < 15 → j < 15 → A i = A j → i = j
theorem Errs.below {w w' : World} {A : Nat → Addr} (h : Errs w A) (hb : Below w.heap.size w w') : Errs w' A :=
  ⟨fun i hi => (hb.cell (p := ⟨GE.getD i 0, 0, none⟩) (World.block_lt_of_cell? _ _ (h.cells i hi))).trans (h.cells i hi),
    fun i hi => by obtain ⟨c, t, e⟩ := h.blks i hi; exact ⟨c, t, (hb.block _ (Array.getElem?_eq_some_iff.1 e).1).trans e⟩, h.inj⟩
theorem Errs.drewN {w : World} {A : Nat → Addr} (h : Errs w A) (n : Nat) : Errs (w.drewN n) A := h.below (pw_below_drewN (Below.refl _ _) _)
/-- An error's value: nil, a sentinel, or a rule's error over one. -/
inductive ErrV (w : World) (A : Nat → Addr) : Value → Nat → Int → Prop
  | none : ErrV w A .nilIface 0 (-1)
  | sent (i : Nat) (hi : i < 15) : ErrV w A (.iface 141 (.pointer (some (A i)))) (i + 1) (-1)
  | rule (i : Nat) (hi : i < 15) (pb po : Nat) (r : Int) (h0 : w.cell? ⟨pb, po, none⟩ = some (.int .i64 r)) (h1 : w.cell? ⟨pb, po + 1, none⟩ = some (.iface 141 (.pointer (some (A i))))) : ErrV w A (.iface 103 (.pointer (some ⟨pb, po, none⟩))) (i + 1) r
theorem ErrV.below {w w' : World} {A : Nat → Addr} {v : Value} {k : Nat} {r : Int} (h : ErrV w A v k r) (hb : Below w.heap.size w w') : ErrV w' A v k r := by
  cases h with
  | none => exact .none
  | sent i hi => exact .sent i hi
  | rule i hi pb po r h0 h1 => exact .rule i hi pb po r ((hb.cell (p := ⟨pb, po, Option.none⟩) (World.block_lt_of_cell? _ _ h0)).trans h0) ((hb.cell (p := ⟨pb, po + 1, Option.none⟩) (World.block_lt_of_cell? _ _ h1)).trans h1)
theorem is_calls {w : World} {A : Nat → Addr} (h : Errs w A) {v : Value} {k : Nat} {r : Int} (hv : ErrV w A v k r) (j : Nat) (hj : j < 15) :
    Quiet 45 #[v, .iface 141 (.pointer (some (A j)))] w (.bool (decide (k = j + 1))) := by
  unfold Quiet
  obtain ⟨cb, tb, hb⟩ := h.blks j hj
  cases hv with
  | none => exact (is_nil (A j) w).mono (by rintro e w' ⟨rfl, rfl⟩; exact ⟨by simp, 0, rfl⟩)
  | sent i hi =>
    by_cases e : i = j
    · subst e; exact (is_same (A i) w).mono (by rintro e w' ⟨rfl, rfl⟩; exact ⟨by simp, 0, rfl⟩)
    · obtain ⟨ca, ta, ha⟩ := h.blks i hi
      exact (is_other (A i) (A j) ca cb ta tb w (fun x => e (h.inj i j hi hj x)) ha hb).mono (by rintro e w' ⟨rfl, rfl⟩; exact ⟨by simp [e], 0, rfl⟩)
  | rule i hi pb po r h0 h1 =>
    by_cases e : i = j
    · subst e; exact (is_same_RuleError pb po (A i) w h1).mono (by rintro e w' ⟨rfl, rfl⟩; exact ⟨by simp, 0, rfl⟩)
    · obtain ⟨ca, ta, ha⟩ := h.blks i hi
      exact (is_other_RuleError pb po (A i) (A j) ca cb ta tb w h1 (fun x => e (h.inj i j hi hj x)) ha hb).mono (by rintro e w' ⟨rfl, rfl⟩; exact ⟨by simp [e], 0, rfl⟩)
theorem ErrV.le {w : World} {A : Nat → Addr} {v : Value} {k : Nat} {r : Int} (h : ErrV w A v k r) : k ≤ 15 := by
  cases h <;> omega
/-- nil or not. -/
theorem ErrV.nil_iff {w : World} {A : Nat → Addr} {v : Value} {k : Nat} {r : Int} (h : ErrV w A v k r) : (k = 0 ∧ v = .nilIface) ∨ (0 < k ∧ ∃ t u, v = .iface t u) := by
  cases h
  · exact .inl ⟨rfl, rfl⟩
  all_goals exact .inr ⟨by omega, _, _, rfl⟩
/-- The value of an error's number. -/
def errOf (A : Nat → Addr) : Nat → Value
  | 0 => .nilIface
  | k + 1 => .iface 141 (.pointer (some (A k)))
theorem errOf_is {w : World} {A : Nat → Addr} (k : Nat) (hk : k ≤ 15) : ErrV w A (errOf A k) k (-1) := by
  cases k with
  | zero => exact .none
  | succ k => exact .sent k (by omega)
def hitN (k j : Nat) : Int := if 1 ≤ k ∧ k ≤ j then k else 99
set_option maxHeartbeats 1000000 in
set_option maxRecDepth 100000 in
theorem kind_calls {w : World} {A : Nat → Addr} (h : Errs w A) {v : Value} {k : Nat} {r : Int} (hv : ErrV w A v k r) :
    Calls Tryd.prog 15 #[v] w fun e w' => e = .returned (.int .i64 (k : Nat)) ∧ Below w.heap.size w w' := by
  rcases hv.nil_iff with ⟨rfl, rfl⟩ | ⟨h0, t, u, rfl⟩
  · go_enter Tryd.func15, Tryd.ntmps15
    go_wp2
    go_ret
    exact ⟨rfl, Below.refl _ _⟩
  have hk := hv.le
  have c0 : w.cell? ⟨0, 0, none⟩ = some (.iface 141 (.pointer (some (A 0)))) := h.cells 0 (by omega)
  have c1 : w.cell? ⟨1, 0, none⟩ = some (.iface 141 (.pointer (some (A 1)))) := h.cells 1 (by omega)
  have c2 : w.cell? ⟨2, 0, none⟩ = some (.iface 141 (.pointer (some (A 2)))) := h.cells 2 (by omega)
  have c3 : w.cell? ⟨3, 0, none⟩ = some (.iface 141 (.pointer (some (A 3)))) := h.cells 3 (by omega)
  have c4 : w.cell? ⟨4, 0, none⟩ = some (.iface 141 (.pointer (some (A 4)))) := h.cells 4 (by omega)
  have c5 : w.cell? ⟨5, 0, none⟩ = some (.iface 141 (.pointer (some (A 5)))) := h.cells 5 (by omega)
  have c6 : w.cell? ⟨6, 0, none⟩ = some (.iface 141 (.pointer (some (A 6)))) := h.cells 6 (by omega)
  have c7 : w.cell? ⟨7, 0, none⟩ = some (.iface 141 (.pointer (some (A 7)))) := h.cells 7 (by omega)
  have c8 : w.cell? ⟨8, 0, none⟩ = some (.iface 141 (.pointer (some (A 8)))) := h.cells 8 (by omega)
  have c9 : w.cell? ⟨9, 0, none⟩ = some (.iface 141 (.pointer (some (A 9)))) := h.cells 9 (by omega)
  have c10 : w.cell? ⟨10, 0, none⟩ = some (.iface 141 (.pointer (some (A 10)))) := h.cells 10 (by omega)
  have c11 : w.cell? ⟨11, 0, none⟩ = some (.iface 141 (.pointer (some (A 11)))) := h.cells 11 (by omega)
  have c12 : w.cell? ⟨12, 0, none⟩ = some (.iface 141 (.pointer (some (A 12)))) := h.cells 12 (by omega)
  have c13 : w.cell? ⟨13, 0, none⟩ = some (.iface 141 (.pointer (some (A 13)))) := h.cells 13 (by omega)
  have c14 : w.cell? ⟨14, 0, none⟩ = some (.iface 141 (.pointer (some (A 14)))) := h.cells 14 (by omega)
  obtain ⟨w1, hw1⟩ : ∃ w1, w.alloc (.cells #[.iface 141 (.pointer (some (A 0))), .iface 141 (.pointer (some (A 1))), .iface 141 (.pointer (some (A 2))), .iface 141 (.pointer (some (A 3))), .iface 141 (.pointer (some (A 4))), .iface 141 (.pointer (some (A 5))), .iface 141 (.pointer (some (A 6))), .iface 141 (.pointer (some (A 7))), .iface 141 (.pointer (some (A 8))), .iface 141 (.pointer (some (A 9))), .iface 141 (.pointer (some (A 10))), .iface 141 (.pointer (some (A 11))), .iface 141 (.pointer (some (A 12))), .iface 141 (.pointer (some (A 13))), .iface 141 (.pointer (some (A 14)))] 30) = w1 := ⟨_, rfl⟩
  have hb1 : Below w.heap.size w w1 := by rw [← hw1]; exact below_alloc (Below.refl _ _) _
  have HB1 := Lib.hid hb1
  have HC : Hid (∀ j, j < 15 → w1.cell? ⟨w.heap.size, j, none⟩ = some (.iface 141 (.pointer (some (A j))))) := Lib.hid (by
    rw [← hw1]; intro j hj
    match j, hj with
    | 0, _ => simp [go_sem]
    | 1, _ => simp [go_sem]
    | 2, _ => simp [go_sem]
    | 3, _ => simp [go_sem]
    | 4, _ => simp [go_sem]
    | 5, _ => simp [go_sem]
    | 6, _ => simp [go_sem]
    | 7, _ => simp [go_sem]
    | 8, _ => simp [go_sem]
    | 9, _ => simp [go_sem]
    | 10, _ => simp [go_sem]
    | 11, _ => simp [go_sem]
    | 12, _ => simp [go_sem]
    | 13, _ => simp [go_sem]
    | 14, _ => simp [go_sem]
    | j + 15, hj => omega)
  have HE := Lib.hid (h.below hb1)
  have HV := Lib.hid (hv.below hb1)
  clear h hv hb1
  go_enter Tryd.func15, Tryd.ntmps15
  go_wp2
  clear c0 c1 c2 c3 c4 c5 c6 c7 c8 c9 c10 c11 c12 c13 c14 hw1
  go_loopw [4, 5] (fun a i wr => ∃ (j d : Nat) (x : Int), j ≤ 15 ∧ i = .int .i64 j ∧ a = .int .i64 x ∧ Hid (x = hitN k j) ∧ wr = w1.drewN d) (fun _ i _ => 15 - (intOf i).toNat)
  case atStart => exact ⟨0, 0, 99, by omega, rfl, rfl, Lib.hid (by simp [hitN]; omega), rfl⟩
  case round =>
    obtain ⟨j, d, x, hj, rfl, rfl, HX, rfl⟩ := hrel
    by_cases hlt : j < 15
    · have hc := HC.out j hlt
      have hc' : w1.cell? ((⟨w.heap.size, 0, none⟩ : Addr).add j) = some (.iface 141 (.pointer (some (A j)))) := by
        rw [← hc]; congr 1; unfold Addr.add; by_cases e : j = 0 <;> simp [e]
      by_cases e : k = j + 1
      · have hx : x = 99 := by rw [HX.out]; unfold hitN; rw [if_neg (by omega)]
        subst hx
        have he : decide (k = j + 1) = true := by simp [e]
        have HS : Hid (hitN k (j + 1) = (j : Int) + 1) := Lib.hid (by unfold hitN; rw [if_pos (by omega)]; omega)
        clear HX e
        go_wp2_with (go_at_call 45; refine (is_calls (HE.out.drewN _) (HV.out.below (pw_below_drewN (Below.refl _ _) _)) j hlt).mono ?_; rintro e w' ⟨rfl, n, rfl⟩; rw [he])
        go_roundw
        case rel => exact ⟨j + 1, d + n, _, by omega, by go_num, rfl, Lib.hid HS.out.symm, rfl⟩
        case measure => simp [intOf]; omega
      · have he : decide (k = j + 1) = false := by simp [e]
        have HS : Hid (hitN k (j + 1) = x) := Lib.hid (by rw [HX.out]; unfold hitN; split <;> split <;> omega)
        clear e
        go_wp2_with (go_at_call 45; refine (is_calls (HE.out.drewN _) (HV.out.below (pw_below_drewN (Below.refl _ _) _)) j hlt).mono ?_; rintro e w' ⟨rfl, n, rfl⟩; rw [he])
        go_roundw
        case rel => exact ⟨j + 1, d + n, _, by omega, by go_num, rfl, Lib.hid HS.out.symm, rfl⟩
        case measure => simp [intOf]; omega
    · have HS : Hid (x = (k : Int)) := Lib.hid (by rw [HX.out]; unfold hitN; rw [if_pos (by omega)])
      go_wp2
      go_ret
      exact ⟨ret_int HS.out, pw_below_drewN HB1.out _⟩
end Go.Proofs.YtagcmhnanngfbaaDoor.Hand
/- Contracts of gram.Check and of dovetailref03.Check: both tell the same of every grammar. -/
namespace Go.Proofs.YtagcmhnanngfbaaDoor.Hand
open Go.RowKit Go.Proofs.YtagcmhnanngfbaaDoorW.PrintWords Go.Proofs.YtagcmhnanngfbaaDoorW.PrintMore Go.Proofs.YtagcmhnanngfbaaDoor.Math

theorem indexS_calls (A : Option Addr) (c : Nat) (l : List ByteArray) (s : ByteArray) (w : World) (hr : Kd.C Kd.string w A l.length l) :
    Calls Tryd.prog 90 #[.slice A l.length c, .string s] w fun e w' => ∃ n : Int, e = .returned (.int .i64 n) ∧ (∃ d, w' = w.drewN d) ∧ ((n = -1 ∧ s ∉ l) ∨ ∃ j : Nat, n = j ∧ j < l.length ∧ l.getD j ByteArray.empty = s ∧ s ∉ l.take j) := by
  have hlen := hr.2.1
  have HR := Lib.hid hr
  clear hr
  go_enter Tryd.func90, Tryd.ntmps90
  go_wp2
  go_loopw [8] (fun i wr => ∃ (j d : Nat), j ≤ l.length ∧ i = .int .i64 j ∧ wr = w.drewN d ∧ Hid (s ∉ l.take j)) (fun i _ => l.length - (intOf i).toNat)
  case atStart => exact ⟨0, 0, by omega, rfl, rfl, Lib.hid (by simp)⟩
  case round =>
    obtain ⟨j, d, hj, rfl, rfl, HT⟩ := hrel
    by_cases hlt : j < l.length
    · obtain ⟨ad, y, rfl, hc, HY⟩ := at_scalar HR.out j hlt ByteArray.empty
      by_cases e : s = y
      · subst e
        go_wp2
        go_ret
        exact ⟨_, rfl, ⟨_, rfl⟩, .inr ⟨j, rfl, hlt, HY.out, HT.out⟩⟩
      · have hn3 : (s.toList == y.toList) = false := beq_eq_false_iff_ne.mpr (fun h => e (str_inj h))
        have HN := Lib.hid e
        clear e
        go_wp2
        go_roundw
        case rel => exact ⟨j + 1, _, by omega, by go_num, rfl, Lib.hid (by rw [take_snocD l j ByteArray.empty hlt, List.mem_append, not_or]; exact ⟨HT.out, by rw [HY.out, List.mem_singleton]; exact HN.out⟩)⟩
        case measure => simp [intOf]; omega
    · have HE : Hid (s ∉ l) := Lib.hid (by have := HT.out; rwa [List.take_of_length_le (by omega)] at this)
      go_wp2
      go_ret
      exact ⟨_, rfl, ⟨_, rfl⟩, .inl ⟨rfl, HE.out⟩⟩
theorem containsS_calls (A : Option Addr) (c : Nat) (l : List ByteArray) (s : ByteArray) (w : World) (hr : Kd.C Kd.string w A l.length l) :
    Quiet 86 #[.slice A l.length c, .string s] w (.bool (tb (s ∈ l))) := by
  unfold Quiet
  have HR := Lib.hid hr
  clear hr
  go_enter Tryd.func86, Tryd.ntmps86
  go_wp2_with (go_at_call 90; refine (indexS_calls A c l s _ HR.out).mono ?_; rintro e w' ⟨n, rfl, ⟨d, rfl⟩, hn⟩; have HN := Lib.hid hn; clear hn)
  go_ret
  refine ⟨ret_bool (tb_bool ?_), _, rfl⟩
  rcases HN.out with ⟨rfl, h⟩ | ⟨j, rfl, hj, h, _⟩
  · simp [h]
  · have : s ∈ l := by rw [← h]; exact getD_mem l j _ hj
    simp [this]
theorem nameFault_calls (A : Option Addr) (c : Nat) (l : List ByteArray) (i : Nat) (hi : i < l.length) (hlc : l.length ≤ c) (w : World) (hr : Kd.C Kd.string w A l.length l) :
    Quiet 81 #[.slice A l.length c, .int .i64 i] w (.bool (tb (¬ NameOk l i))) := by
  unfold Quiet
  have hlen := hr.2.1
  have HR := Lib.hid hr
  have HTk := Lib.hid (Kd.C_take (k := Kd.string) (A := A) (w := w) (xs := l) (m := i) hr (by omega))
  obtain ⟨ad, y, rfl, hc, HY⟩ := at_scalar hr i hi ByteArray.empty
  have htl : Hid ((l.take i).length = i) := Lib.hid (by simp; omega)
  have hic : i ≤ c := by omega
  clear hr
  by_cases h0 : y.size = 0
  · have HN : Hid (tb (¬ NameOk l i) = true) := Lib.hid (tb_yes (fun h => h.1 (by rw [HY.out]; exact h0)))
    have h0I : ((y.size : Int) == 0) = true := by simp [h0]
    go_enter Tryd.func81, Tryd.ntmps81
    go_wp2
    go_ret
    exact ⟨ret_bool HN.out.symm, 0, rfl⟩
  · by_cases h1 : 32 < y.size
    · have HN : Hid (tb (¬ NameOk l i) = true) := Lib.hid (tb_yes (fun h => by have := h.2.1; rw [HY.out] at this; omega))
      go_enter Tryd.func81, Tryd.ntmps81
      go_wp2
      go_ret
      exact ⟨ret_bool HN.out.symm, 0, rfl⟩
    · have HN : Hid (tb (¬ NameOk l i) = tb (y ∈ l.take i)) := Lib.hid (tb_congr (by
        unfold NameOk; rw [HY.out]
        constructor
        · intro h; refine Classical.byContradiction (fun hm => h ⟨h0, by omega, hm⟩)
        · exact fun hm h => h.2.2 hm))
      have HC : Hid (∀ m, Quiet 86 #[.slice (some ad) i c, .string y] (w.drewN m) (.bool (tb (y ∈ l.take i)))) := Lib.hid (fun m => by
        have h := containsS_calls (some ad) c (l.take i) y (w.drewN m) (Kd.C_drewN HTk.out m)
        rwa [htl.out] at h)
      cases hb : tb (y ∈ l.take i)
      all_goals
        rw [hb] at HN HC
        go_enter Tryd.func81, Tryd.ntmps81
        go_wp2
        go_quiet ((go_at_call 86; exact Calls.quiet_of (HC.out _)))
        go_wp2
        go_ret
        exact ⟨ret_bool HN.out.symm, _, rfl⟩
theorem names_calls (A : Option Addr) (c : Nat) (l : List ByteArray) (hlc : l.length ≤ c) (w : World) (hr : Kd.C Kd.string w A l.length l) :
    Quiet 67 #[.slice A l.length c] w (.bool (tb (NamesOk l))) := by
  unfold Quiet
  have hlen := hr.2.1
  have HR := Lib.hid hr
  clear hr
  go_enter Tryd.func67, Tryd.ntmps67
  go_wp2
  go_loopw [6] (fun i wr => ∃ (j d : Nat), j ≤ l.length ∧ i = .int .i64 j ∧ wr = w.drewN d ∧ Hid (∀ i, i < j → NameOk l i)) (fun i _ => l.length - (intOf i).toNat)
  case atStart => exact ⟨0, 0, by omega, rfl, rfl, Lib.hid (fun i hi => by omega)⟩
  case round =>
    obtain ⟨j, d, hj, rfl, rfl, HT⟩ := hrel
    by_cases hlt : j < l.length
    · by_cases hb : NameOk l j
      · have HF := Lib.hid (tb_no (not_not_intro hb))
        have HB := Lib.hid hb
        clear hb
        go_wp2_with (go_at_call 81; refine (nameFault_calls A c l j hlt hlc _ (Kd.C_drewN HR.out _)).mono ?_; rw [HF.out]; rintro e w' ⟨rfl, n, rfl⟩)
        go_roundw
        case rel => exact ⟨j + 1, _, by omega, by go_num, rfl, Lib.hid (fun i hi => by
          rcases Nat.lt_or_ge i j with h | h
          · exact HT.out i h
          · obtain rfl : i = j := by omega
            exact HB.out)⟩
        case measure => simp [intOf]; omega
      · have HF := Lib.hid (tb_yes hb)
        have HE : Hid (tb (NamesOk l) = false) := Lib.hid (tb_no (fun h => hb (h j hlt)))
        clear hb
        go_wp2_with (go_at_call 81; refine (nameFault_calls A c l j hlt hlc _ (Kd.C_drewN HR.out _)).mono ?_; rw [HF.out]; rintro e w' ⟨rfl, n, rfl⟩)
        go_ret
        exact ⟨ret_bool HE.out.symm, _, rfl⟩
    · have HE : Hid (tb (NamesOk l) = true) := Lib.hid (tb_yes (fun i hi => HT.out i (by omega)))
      go_wp2
      go_ret
      exact ⟨ret_bool HE.out.symm, _, rfl⟩
theorem ruleF_calls (b : Nat) (AT AN : Option Addr) (t n cT cN : Nat) (s : Int) (w : World) (h0 : w.cell? ⟨b, 0, none⟩ = some (.slice AT t cT)) (h1 : w.cell? ⟨b, 1, none⟩ = some (.slice AN n cN)) (hn : n ≤ 60) :
    Quiet 83 #[.int .i64 s, .pointer (some ⟨b, 0, none⟩)] w (.bool (symBad t n s)) := by
  unfold Quiet
  by_cases h : (t : Int) ≤ s
  · have H : Hid (symBad t n s = true) := Lib.hid (by simp [symBad, h])
    go_enter Tryd.func83, Tryd.ntmps83
    go_wp2
    go_ret
    exact ⟨ret_bool H.out.symm, 0, rfl⟩
  · have H : Hid (symBad t n s = decide (s < -(n : Int))) := Lib.hid (by simp [symBad, h])
    go_enter Tryd.func83, Tryd.ntmps83
    go_wp2
    go_ret
    exact ⟨ret_bool H.out.symm, 0, rfl⟩
theorem indexF_calls (A : Option Addr) (c : Nat) (l : List Int) (b : Nat) (AT AN : Option Addr) (t n cT cN : Nat) (w : World) (h0 : w.cell? ⟨b, 0, none⟩ = some (.slice AT t cT)) (h1 : w.cell? ⟨b, 1, none⟩ = some (.slice AN n cN)) (hn : n ≤ 60) (hr : Kd.C (Kd.int .i64) w A l.length l) :
    Calls Tryd.prog 87 #[.slice A l.length c, .func (.func 83) #[] #[.pointer (some ⟨b, 0, none⟩)]] w fun e w' => ∃ k : Int, e = .returned (.int .i64 k) ∧ (∃ d, w' = w.drewN d) ∧ ((k = -1 ∧ l.any (symBad t n) = false) ∨ (0 ≤ k ∧ l.any (symBad t n) = true)) := by
  have hlen := hr.2.1
  have HR := Lib.hid hr
  clear hr
  have HF := Lib.hid (fun (m : Nat) (s : Int) => ruleF_calls b AT AN t n cT cN s (w.drewN m) (by rw [World.cell?_drewN]; exact h0) (by rw [World.cell?_drewN]; exact h1) hn)
  clear h0 h1
  go_enter Tryd.func87, Tryd.ntmps87
  go_wp2
  go_loopw [8] (fun i wr => ∃ (j d : Nat), j ≤ l.length ∧ i = .int .i64 j ∧ wr = w.drewN d ∧ Hid ((l.take j).any (symBad t n) = false)) (fun i _ => l.length - (intOf i).toNat)
  case atStart => exact ⟨0, 0, by omega, rfl, rfl, Lib.hid (by simp)⟩
  case round =>
    obtain ⟨j, d, hj, rfl, rfl, HT⟩ := hrel
    by_cases hlt : j < l.length
    · obtain ⟨ad, y, rfl, hc, HY⟩ := at_scalar HR.out j hlt 0
      cases hb : symBad t n y
      · go_wp2_with (go_at_call 83; refine (HF.out d y).mono ?_; rw [hb]; rintro e w' ⟨rfl, n1, rfl⟩)
        go_roundw
        case rel => exact ⟨j + 1, _, by omega, by go_num, rfl, Lib.hid (by rw [any_take_snoc l _ j hlt, HT.out, HY.out, hb]; rfl)⟩
        case measure => simp [intOf]; omega
      · have HE : Hid (l.any (symBad t n) = true) := Lib.hid (List.any_eq_true.2 ⟨y, by rw [← HY.out]; exact getD_mem l j 0 hlt, hb⟩)
        go_wp2_with (go_at_call 83; refine (HF.out d y).mono ?_; rw [hb]; rintro e w' ⟨rfl, n1, rfl⟩)
        go_ret
        exact ⟨_, rfl, ⟨_, rfl⟩, .inr ⟨by omega, HE.out⟩⟩
    · have HE : Hid (l.any (symBad t n) = false) := Lib.hid (by have := HT.out; rwa [List.take_of_length_le (by omega)] at this)
      go_wp2
      go_ret
      exact ⟨_, rfl, ⟨_, rfl⟩, .inl ⟨rfl, HE.out⟩⟩
theorem containsF_calls (A : Option Addr) (c : Nat) (l : List Int) (b : Nat) (AT AN : Option Addr) (t n cT cN : Nat) (w : World) (h0 : w.cell? ⟨b, 0, none⟩ = some (.slice AT t cT)) (h1 : w.cell? ⟨b, 1, none⟩ = some (.slice AN n cN)) (hn : n ≤ 60) (hr : Kd.C (Kd.int .i64) w A l.length l) :
    Quiet 82 #[.slice A l.length c, .func (.func 83) #[] #[.pointer (some ⟨b, 0, none⟩)]] w (.bool (l.any (symBad t n))) := by
  unfold Quiet
  have HC := Lib.hid (indexF_calls A c l b AT AN t n cT cN w h0 h1 hn hr)
  clear h0 h1 hr
  go_enter Tryd.func82, Tryd.ntmps82
  go_wp2_with (go_at_call 87; refine HC.out.mono ?_; rintro e w' ⟨k, rfl, ⟨d, rfl⟩, hk⟩; have HK := Lib.hid hk; clear hk)
  go_ret
  refine ⟨ret_bool ?_, _, rfl⟩
  rcases HK.out with ⟨rfl, h⟩ | ⟨hk, h⟩
  · rw [h]; rfl
  · rw [h]; simp [hk]
theorem rule_calls (AT AN AR B : Option Addr) (t n m cT cN cR c : Nat) (ax : Int) (r : Int × List Int) (w : World) (A : Nat → Addr) (hE : Errs w A) (hn : n ≤ 60) (hr : Kd.C (Kd.int .i64) w B r.2.length r.2) :
    Calls Tryd.prog 68 #[.agg #[.slice AT t cT, .slice AN n cN, .int .i64 ax, .slice AR m cR], .agg #[.int .i64 r.1, .slice B r.2.length c]] w fun e w' => e = .returned (errOf A (ruleN t n r)) ∧ Below w.heap.size w w' := by
  obtain ⟨x, l⟩ := r
  simp only at hr ⊢
  obtain ⟨w1, hw1⟩ : ∃ w1, (w.alloc (.cells #[.slice AT t cT, .slice AN n cN, .int .i64 ax, .slice AR m cR] 25)).alloc (.cells #[.int .i64 x, .slice B l.length c] 56) = w1 := ⟨_, rfl⟩
  have hb1 : Below w.heap.size w w1 := by rw [← hw1]; exact below_alloc (below_alloc (Below.refl _ _) _) _
  have g0 : w1.cell? ⟨w.heap.size, 0, none⟩ = some (.slice AT t cT) := by rw [← hw1]; simp [go_sem]
  have g1 : w1.cell? ⟨w.heap.size, 1, none⟩ = some (.slice AN n cN) := by rw [← hw1]; simp [go_sem]
  have r0 : w1.cell? ⟨w.heap.size + 1, 0, none⟩ = some (.int .i64 x) := by rw [← hw1]; simp [go_sem]
  have r1 : w1.cell? ⟨w.heap.size + 1, 1, none⟩ = some (.slice B l.length c) := by rw [← hw1]; simp [go_sem]
  have hE1 := hE.below hb1
  have e0 : w1.cell? ⟨0, 0, none⟩ = some (.iface 141 (.pointer (some (A 0)))) := hE1.cells 0 (by omega)
  have e2 : w1.cell? ⟨2, 0, none⟩ = some (.iface 141 (.pointer (some (A 2)))) := hE1.cells 2 (by omega)
  have HB1 := Lib.hid hb1
  have HC := Lib.hid (containsF_calls B c l w.heap.size AT AN t n cT cN w1 g0 g1 hn (Kd.C_below hr hb1))
  clear hb1 hE hE1 hr
  by_cases h0 : 32 < l.length
  · have H : Hid (errOf A (ruleN t n (x, l)) = .iface 141 (.pointer (some (A 2)))) := Lib.hid (by simp [ruleN, h0, errOf])
    go_enter Tryd.func68, Tryd.ntmps68
    go_wp2
    go_ret
    exact ⟨congrArg Ending.returned H.out.symm, HB1.out⟩
  · by_cases h1 : x < 0
    · have H : Hid (errOf A (ruleN t n (x, l)) = .iface 141 (.pointer (some (A 0)))) := Lib.hid (by simp [ruleN, h0, h1, errOf])
      go_enter Tryd.func68, Tryd.ntmps68
      go_wp2
      go_ret
      exact ⟨congrArg Ending.returned H.out.symm, HB1.out⟩
    · by_cases h2 : (n : Int) ≤ x
      · have H : Hid (errOf A (ruleN t n (x, l)) = .iface 141 (.pointer (some (A 0)))) := Lib.hid (by simp [ruleN, h0, h2, errOf])
        go_enter Tryd.func68, Tryd.ntmps68
        go_wp2
        go_ret
        exact ⟨congrArg Ending.returned H.out.symm, HB1.out⟩
      · cases h3 : l.any (symBad t n)
        · have H : Hid (errOf A (ruleN t n (x, l)) = .nilIface) := Lib.hid (by unfold ruleN; rw [if_neg h0, if_neg (by simp only [h3]; simp; omega)]; rfl)
          rw [h3] at HC
          go_enter Tryd.func68, Tryd.ntmps68
          go_wp2_with (go_at_call 82; refine HC.out.mono ?_; rintro e w' ⟨rfl, d, rfl⟩)
          go_ret
          exact ⟨congrArg Ending.returned H.out.symm, pw_below_drewN HB1.out _⟩
        · have H : Hid (errOf A (ruleN t n (x, l)) = .iface 141 (.pointer (some (A 0)))) := Lib.hid (by unfold ruleN; rw [if_neg h0, if_pos (by simp only [h3]; simp)]; rfl)
          rw [h3] at HC
          go_enter Tryd.func68, Tryd.ntmps68
          go_wp2_with (go_at_call 82; refine HC.out.mono ?_; rintro e w' ⟨rfl, d, rfl⟩)
          go_ret
          exact ⟨congrArg Ending.returned H.out.symm, pw_below_drewN HB1.out _⟩
theorem blk_cells2 {g : Nat} {a b c d : Value} {t : TypeId} {w : World} (h : w.heap[g]? = some (.cells #[a, b, c, d] t (0, 0))) :
    w.cell? ⟨g, 0, none⟩ = some a ∧ w.cell? ⟨g, 1, none⟩ = some b ∧ w.cell? ⟨g, 2, none⟩ = some c ∧ w.cell? ⟨g, 3, none⟩ = some d := by
  refine ⟨?_, ?_, ?_, ?_⟩ <;> simp [World.cell?, h]
theorem blk_keep {g : Nat} {o : Obj} {w w' : World} (h : w.heap[g]? = some o) (hb : Below w.heap.size w w') : w'.heap[g]? = some o := (hb.block g (Array.getElem?_eq_some_iff.1 h).1).trans h
set_option maxHeartbeats 800000 in
theorem check_calls (v : Value) (g : Gr) (w : World) (A : Nat → Addr) (hE : Errs w A) (hv : GramAt w v g) :
    Calls Tryd.prog 35 #[v] w fun e w' => ∃ u, e = .returned u ∧ ErrV w' A u (checkN g).1 (checkN g).2 ∧ Below w.heap.size w w' := by
  obtain ⟨AT, cT, AN, cN, AR, cR, rfl, q1, q2, q3, q4, q5, q6⟩ := hv
  have l1 := q4.2.1
  have l2 := q5.2.1
  have l3 := q6.2.1
  obtain ⟨w1, hw1⟩ : ∃ w1, w.alloc (.cells #[.slice AT g.terms.length cT, .slice AN g.nonterms.length cN, .int .i64 g.ax, .slice AR g.rules.length cR] 25) = w1 := ⟨_, rfl⟩
  have hb1 : Below w.heap.size w w1 := by rw [← hw1]; exact below_alloc (Below.refl _ _) _
  have hk1 : w1.heap[w.heap.size]? = some (.cells #[.slice AT g.terms.length cT, .slice AN g.nonterms.length cN, .int .i64 g.ax, .slice AR g.rules.length cR] 25 (0, 0)) := by rw [← hw1]; exact heap_alloc_new w _
  obtain ⟨c0, c1, c2, c3⟩ := blk_cells2 hk1
  have hE1 := hE.below hb1
  have e0 : w1.cell? ⟨0, 0, none⟩ = some (.iface 141 (.pointer (some (A 0)))) := hE1.cells 0 (by omega)
  have e2 : w1.cell? ⟨2, 0, none⟩ = some (.iface 141 (.pointer (some (A 2)))) := hE1.cells 2 (by omega)
  have e9 : w1.cell? ⟨9, 0, none⟩ = some (.iface 141 (.pointer (some (A 9)))) := hE1.cells 9 (by omega)
  have HB1 := Lib.hid hb1
  have HK1 := Lib.hid hk1
  have HE := Lib.hid hE1
  have HNT := Lib.hid (names_calls AT cT g.terms q1 w1 (Kd.C_below q4 hb1))
  have HNN := Lib.hid (fun m => names_calls AN cN g.nonterms q2 (w1.drewN m) (Kd.C_drewN (Kd.C_below q5 hb1) m))
  have HR := Lib.hid (Kd.C_below q6 hb1)
  clear hb1 hk1 hE hE1 q4 q5 q6
  by_cases h1 : 60 < g.terms.length + g.nonterms.length ∨ 120 < g.rules.length
  · have H : Hid (checkN g = (3, -1)) := Lib.hid (by unfold checkN; rw [if_pos h1])
    by_cases a1 : 60 < g.terms.length
    · go_enter Tryd.func35, Tryd.ntmps35
      go_wp2
      go_ret
      exact ⟨_, rfl, by rw [H.out]; exact .sent 2 (by omega), HB1.out⟩
    · by_cases a2 : 60 - (g.terms.length : Int) < g.nonterms.length
      · go_enter Tryd.func35, Tryd.ntmps35
        go_wp2
        go_ret
        exact ⟨_, rfl, by rw [H.out]; exact .sent 2 (by omega), HB1.out⟩
      · have a3 : 120 < g.rules.length := by omega
        go_enter Tryd.func35, Tryd.ntmps35
        go_wp2
        go_ret
        exact ⟨_, rfl, by rw [H.out]; exact .sent 2 (by omega), HB1.out⟩
  · have a1 : ¬ 60 < g.terms.length := by omega
    have a2 : ¬ 60 - (g.terms.length : Int) < g.nonterms.length := by omega
    have a3 : ¬ 120 < g.rules.length := by omega
    by_cases h2 : NamesOk g.terms
    · have T1 := tb_yes h2
      rw [T1] at HNT
      by_cases h3 : NamesOk g.nonterms
      · have T2 := tb_yes h3
        rw [T2] at HNN
        by_cases h4 : g.ax < 0 ∨ (g.nonterms.length : Int) ≤ g.ax
        · have H : Hid (checkN g = (1, -1)) := Lib.hid (by unfold checkN; rw [if_neg h1, if_neg (by simp [h2, h3]), if_pos h4])
          by_cases a4 : g.ax < 0
          all_goals
            go_enter Tryd.func35, Tryd.ntmps35
            go_wp2_with (first
              | (go_at_call 67; have t_ := T1; refine HNT.out.mono ?_; rintro e w' ⟨rfl, n1, rfl⟩; clear T1 t_)
              | (go_at_call 67; refine (HNN.out _).mono ?_; rintro e w' ⟨rfl, n2, rfl⟩))
            go_ret
            exact ⟨_, rfl, by rw [H.out]; exact .sent 0 (by omega), pw_below_drewN HB1.out _⟩
        · have H : Hid (checkN g = firstBad g.terms.length g.nonterms.length g.rules 0) := Lib.hid (by unfold checkN; rw [if_neg h1, if_neg (by simp [h2, h3]), if_neg h4])
          have a4 : ¬ g.ax < 0 := by omega
          have a5 : ¬ (g.nonterms.length : Int) ≤ g.ax := by omega
          have hnn : g.nonterms.length ≤ 60 := by omega
          clear h1 h2 h3 h4
          go_enter Tryd.func35, Tryd.ntmps35
          go_wp2_with (first
            | (go_at_call 67; have t_ := T1; refine HNT.out.mono ?_; rintro e w' ⟨rfl, n1, rfl⟩; clear T1 t_)
            | (go_at_call 67; refine (HNN.out _).mono ?_; rintro e w' ⟨rfl, n2, rfl⟩))
          clear e0 e2 e9 c0 c1 c2 c3
          go_loopw [53] (fun i wr => ∃ (j : Nat), j ≤ g.rules.length ∧ i = .int .i64 j ∧ Aside0 (Below w.heap.size w wr) ∧ Aside0 (wr.heap[w.heap.size]? = some (.cells #[.slice AT g.terms.length cT, .slice AN g.nonterms.length cN, .int .i64 g.ax, .slice AR g.rules.length cR] 25 (0, 0))) ∧ Aside0 (Below w1.heap.size w1 wr) ∧ Hid (∀ k, k < j → ruleN g.terms.length g.nonterms.length (g.rules.getD k (0, [])) = 0)) (fun i _ => g.rules.length - (intOf i).toNat)
          case atStart => exact ⟨0, by omega, rfl, ⟨pw_below_drewN HB1.out _⟩, ⟨HK1.out⟩, ⟨pw_below_drewN (Below.refl _ _) _⟩, Lib.hid (fun k hk => by omega)⟩
          case round =>
            obtain ⟨j, hj, rfl, HBw, HK, HB2, HT⟩ := hrel
            obtain ⟨w2, rfl⟩ : ∃ w2, wr = w2 := ⟨_, rfl⟩
            by_cases hlt : j < g.rules.length
            · obtain ⟨ad, x, B, c, r, rfl, k1, k2, hrc, hr, HD⟩ := at_rule (Kd.C_below HR.out HB2.out) j hlt
              obtain ⟨c0, c1, c2, c3⟩ := blk_cells2 HK.out
              have hsz : w.heap.size < wr.heap.size := (Array.getElem?_eq_some_iff.1 HK.out).1
              have HRr := Lib.hid (Kd.C_alloc hr (.cells #[.int .i64 x, .slice B r.length c] 56))
              have HEr := Lib.hid ((HE.out.below HB2.out).below (below_alloc (Below.refl wr.heap.size wr) (.cells #[.int .i64 x, .slice B r.length c] 56)))
              have HC := Lib.hid (rule_calls AT AN (some ad) B g.terms.length g.nonterms.length g.rules.length cT cN cR c g.ax (x, r) _ A HEr.out hnn HRr.out)
              clear hr
              rcases ruleN_cases g.terms.length g.nonterms.length (x, r) with hz | hz | hz
              all_goals
                rw [hz] at HC
                go_wp2_with (go_at_call 68; refine HC.out.mono ?_; rintro e w3 ⟨rfl, hb3⟩; simp only [errOf]; have hb4 := (below_alloc (Below.refl wr.heap.size wr) (.cells #[.int .i64 x, .slice B r.length c] 56)).trans (hb3.mono (by simp)); have HB4 := Lib.hid hb4; clear hb3 hb4)
              · go_roundw
                case rel => exact ⟨j + 1, by omega, by go_num, ⟨below_next HBw.out HB4.out⟩, ⟨blk_keep HK.out HB4.out⟩, ⟨below_next HB2.out HB4.out⟩, Lib.hid (fun k hk => by
                  rcases Nat.lt_or_ge k j with h | h
                  · exact HT.out k h
                  · obtain rfl : k = j := by omega
                    rw [HD.out]; exact hz)⟩
                case measure => simp [intOf]; omega
              · have HF : Hid (checkN g = (1, (j : Int))) := Lib.hid (by rw [H.out, firstBad_at _ _ _ j HT.out hlt (by rw [HD.out, hz]; decide), HD.out, hz])
                go_ret
                refine ⟨_, rfl, ?_, below_next (below_next HBw.out HB4.out) (below_alloc (Below.refl _ _) _)⟩
                rw [HF.out]
                refine .rule 0 (by omega) _ 0 j ?_ ?_ <;> simp [go_sem]
              · have HF : Hid (checkN g = (3, (j : Int))) := Lib.hid (by rw [H.out, firstBad_at _ _ _ j HT.out hlt (by rw [HD.out, hz]; decide), HD.out, hz])
                go_ret
                refine ⟨_, rfl, ?_, below_next (below_next HBw.out HB4.out) (below_alloc (Below.refl _ _) _)⟩
                rw [HF.out]
                refine .rule 2 (by omega) _ 0 j ?_ ?_ <;> simp [go_sem]
            · have HF : Hid (checkN g = (0, -1)) := Lib.hid (by rw [H.out]; exact firstBad_none _ _ _ (fun k hk => HT.out k (by omega)))
              go_wp2
              go_ret
              exact ⟨_, rfl, by rw [HF.out]; exact .none, HBw.out⟩
      · have T2 := tb_no h3
        rw [T2] at HNN
        have H : Hid (checkN g = (10, -1)) := Lib.hid (by unfold checkN; rw [if_neg h1, if_pos (by simp [h3])])
        go_enter Tryd.func35, Tryd.ntmps35
        go_wp2_with (first
          | (go_at_call 67; have t_ := T1; refine HNT.out.mono ?_; rintro e w' ⟨rfl, n1, rfl⟩; clear T1 t_)
          | (go_at_call 67; refine (HNN.out _).mono ?_; rintro e w' ⟨rfl, n2, rfl⟩))
        go_ret
        exact ⟨_, rfl, by rw [H.out]; exact .sent 9 (by omega), pw_below_drewN HB1.out _⟩
    · have T1 := tb_no h2
      rw [T1] at HNT
      have H : Hid (checkN g = (10, -1)) := Lib.hid (by unfold checkN; rw [if_neg h1, if_pos (by simp [h2])])
      go_enter Tryd.func35, Tryd.ntmps35
      go_wp2_with (go_at_call 67; refine HNT.out.mono ?_; rintro e w' ⟨rfl, n1, rfl⟩)
      go_ret
      exact ⟨_, rfl, by rw [H.out]; exact .sent 9 (by omega), pw_below_drewN HB1.out _⟩
end Go.Proofs.YtagcmhnanngfbaaDoor.Hand
/- Contracts of package member: may. -/
namespace Go.Proofs.YtagcmhnanngfbaaDoor.Hand
open Go.RowKit Go.Proofs.YtagcmhnanngfbaaDoorW.PrintWords Go.Proofs.YtagcmhnanngfbaaDoorW.PrintMore Go.Proofs.YtagcmhnanngfbaaDoor.Math

theorem gblk_keep' {g : Nat} {o : Obj} {w w' : World} (h : w.heap[g]? = some o) (hb : Below w.heap.size w w') : w'.heap[g]? = some o := (hb.block g (Array.getElem?_eq_some_iff.1 h).1).trans h
theorem tok_take_snoc (l : List Int) (f : Int → Bool) (j : Nat) (h : j < l.length) : (l.take (j + 1)).any f = ((l.take j).any f || f (l.getD j 0)) := by
  rw [take_snocD l j 0 h, List.any_append]; simp
theorem ErrV.nil_of {w : World} {A : Nat → Addr} {v : Value} {k : Nat} {r : Int} (h : ErrV w A v k r) (hk : k = 0) : v = .nilIface := by
  cases h with
  | none => rfl
  | sent i hi => omega
  | rule i hi pb po r h0 h1 => omega
/-- The types that an error's value may have. -/
def errTs : List Nat := [141
  , 103
  ]
theorem ErrV.iface_of {w : World} {A : Nat → Addr} {v : Value} {k : Nat} {r : Int} (h : ErrV w A v k r) (hk : ¬ k = 0) : ∃ T p, T ∈ errTs ∧ v = .iface T (.pointer p) := by
  cases h with
  | none => exact absurd rfl hk
  | sent i hi => exact ⟨_, _, by simp [errTs], rfl⟩
  | rule i hi pb po r h0 h1 => exact ⟨_, _, by simp [errTs], rfl⟩
end Go.Proofs.YtagcmhnanngfbaaDoor.Hand
/- Contracts of package useful: which nonterminals derive something, which are reached. -/
namespace Go.Proofs.YtagcmhnanngfbaaDoor.Hand
open Go.RowKit Go.Proofs.YtagcmhnanngfbaaDoorW.PrintWords Go.Proofs.YtagcmhnanngfbaaDoorW.PrintMore Go.Proofs.YtagcmhnanngfbaaDoor.Math

/-- A scope that begins with its own label, to which the run jumps back. -/
theorem wp_scope_label {P : Program} {a : Act} {w : World} {Q : Exit → Act → World → Prop} {rest : Code} (l : Nat) (J : Act → World → Prop) (μ : Act → World → Nat) (start : J a w)
    (pass : ∀ a w, J a w → rest.wp P (Exit.jump l (fun a' w' => J a' w' ∧ μ a' w' < μ a w) Q) a w) : (Code.scope ((Code.label l).seq rest)).wp P Q a w := by
  refine wp_scope_jumps l J μ (rest := Code.skip.seq rest) (by simp [findLabel]) ?_ (fun a w h => wp_seq (wp_skip (pass a w h)))
  refine wp_seq (wp_label ?_)
  refine wp_mono (pass a w start) (fun e a' w' h => ?_)
  cases e with
  | goto l' => exact ⟨h.1, h.2.1⟩
  | _ => exact h
theorem within_iff {s t : Nat} (hs : s < 18446744073709551616) : minusN s t = 0 ↔ ∀ i, s.testBit i = true → t.testBit i = true := by
  constructor
  · intro h i hi
    have := minusN_test t hs i
    rw [h, Nat.zero_testBit, hi] at this
    simpa using this
  · intro h
    apply Nat.eq_of_testBit_eq
    intro i
    rw [minusN_test t hs i, Nat.zero_testBit]
    cases hi : s.testBit i
    · rfl
    · rw [h i hi]; rfl
theorem ntN_within {l : List Int} {t : Nat} (hl : ∀ s ∈ l, -(60 : Int) ≤ s) : minusN (ntN l) t = 0 ↔ AllIn (fun k => t.testBit k = true) l := by
  rw [within_iff (ntN_lt l)]
  constructor
  · intro h s hs h0
    exact h _ ((ntN_test hl _).2 ⟨s, hs, h0, rfl⟩)
  · intro h i hi
    obtain ⟨s, hs, h0, rfl⟩ := (ntN_test hl i).1 hi
    exact h s hs h0
theorem unonterms_calls (B : Option Addr) (c : Nat) (l : List Int) (w : World) (hr : Kd.C (Kd.int .i64) w B l.length l) (hl : ∀ s ∈ l, -(60 : Int) ≤ s ∧ s < 4611686018427387904) : Quiet 54 #[.slice B l.length c] w (.int .u64 (ntN l : Nat)) := by
  unfold Quiet
  have hlen := hr.2.1
  have HR := Lib.hid hr
  have HL := Lib.hid hl
  clear hr hl
  go_enter Tryd.func54, Tryd.ntmps54
  go_wp2
  go_loopw [2, 7] (fun a i wr => ∃ (j d x : Nat), j ≤ l.length ∧ i = .int .i64 j ∧ a = .int .u64 x ∧ Hid (x = ntN (l.take j)) ∧ wr = w.drewN d) (fun _ i _ => l.length - (intOf i).toNat)
  case atStart => exact ⟨0, 0, 0, by omega, rfl, rfl, Lib.hid rfl, rfl⟩
  case round =>
    obtain ⟨j, d, x, hj, rfl, rfl, HX, rfl⟩ := hrel
    by_cases hlt : j < l.length
    · obtain ⟨ad, y, rfl, hc, HY⟩ := at_scalar HR.out j hlt 0
      have hy := HL.out y (by rw [← HY.out]; exact getD_mem l j 0 hlt)
      obtain ⟨hy1, hy2⟩ := hy
      have HXL : Hid (x < 18446744073709551616) := Lib.hid (by rw [HX.out]; exact ntN_lt _)
      have HS : Hid (ntN (l.take (j + 1)) = if y < 0 then withN x (-1 - y) else x) := Lib.hid (by rw [take_snocD l j 0 hlt, ntN_snoc, ← HX.out, HY.out])
      by_cases h0 : y < 0
      · go_wp2_with (go_at_call 55; refine (with_calls x HXL.out (-1 - y) _).mono ?_; rintro e w' ⟨rfl, n1, rfl⟩)
        go_roundw
        case rel => exact ⟨j + 1, d + n1, _, by omega, by go_num, rfl, Lib.hid (by rw [HS.out, if_pos h0]), rfl⟩
        case measure => simp [intOf]; omega
      · go_wp2
        go_roundw
        case rel => exact ⟨j + 1, d, _, by omega, by go_num, rfl, Lib.hid (by rw [HS.out, if_neg h0]), rfl⟩
        case measure => simp [intOf]; omega
    · have HE : Hid (x = ntN l) := Lib.hid (by rw [HX.out, List.take_of_length_le (by omega)])
      go_wp2
      go_ret
      exact ⟨ret_int (by rw [HE.out]), _, rfl⟩
/-- A grammar that is right: what is used of it. -/
structure GOk (g : Gr) : Prop where
  size : g.terms.length + g.nonterms.length ≤ 60
  rules : g.rules.length ≤ 120
  ax0 : 0 ≤ g.ax
  ax1 : g.ax < g.nonterms.length
  right : RulesIn g.terms.length g.nonterms.length g.rules
theorem GOk.of {g : Gr} (h : (checkN g).1 = 0) : GOk g := by
  obtain ⟨z1, z2, z3, z4, z5, z6, z7⟩ := checkN_zero h
  exact ⟨z1, z2, z5, z6, z7⟩
set_option maxHeartbeats 1000000 in
set_option maxRecDepth 20000 in
theorem uproductive_calls (v : Value) (g : Gr) (w : World) (hv : GramAt w v g) (hc : GOk g) :
    Calls Tryd.prog 36 #[v] w fun e w' => e = .returned (.int .u64 ((setOf g.nonterms.length (PD g.rules) : Nat) : Int)) ∧ Below w.heap.size w w' := by
  have HV := Lib.hid hv
  obtain ⟨AT, cT, AN, cN, AR, cR, rfl, q1, q2, q3, q4, q5, q6⟩ := hv
  have hlr := q6.2.1
  obtain ⟨w1, hw1⟩ : ∃ w1, w.alloc (.cells #[.slice AT g.terms.length cT, .slice AN g.nonterms.length cN, .int .i64 g.ax, .slice AR g.rules.length cR] 25) = w1 := ⟨_, rfl⟩
  have hb1 : Below w.heap.size w w1 := by rw [← hw1]; exact below_alloc (Below.refl _ _) _
  have hk1 : w1.heap[w.heap.size]? = some (.cells #[.slice AT g.terms.length cT, .slice AN g.nonterms.length cN, .int .i64 g.ax, .slice AR g.rules.length cR] 25 (0, 0)) := by rw [← hw1]; exact heap_alloc_new w _
  have HB1 := Lib.hid hb1
  have HK1 := Lib.hid hk1
  have HR := Lib.hid (Kd.C_below q6 hb1)
  have HC := Lib.hid hc
  clear hb1 hk1 q4 q5 q6 hc
  go_enter Tryd.func36, Tryd.ntmps36
  go_wp2
  clear hw1
  have HJ : ∃ J : Act → World → Prop, Hid (J = fun a' w' => ∃ (s : Nat) (u3 u4 u5 u6 u7 u8 u9 u10 u11 u12 u13 u14 u15 u16 u17 u18 u19 u20 u21 u22 u23 u24 u25 u26 u27 u28 u29 : Value), a' = { tmps := #[.agg #[.slice AT g.terms.length cT, .slice AN g.nonterms.length cN, .int .i64 g.ax, .slice AR g.rules.length cR], .pointer (some ⟨w.heap.size, 0, none⟩), .int .u64 s, u3, u4, u5, u6, u7, u8, u9, u10, u11, u12, u13, u14, u15, u16, u17, u18, u19, u20, u21, u22, u23, u24, u25, u26, u27, u28, u29], defers := [] } ∧ s < 2 ^ g.nonterms.length ∧ (∀ k, k < g.nonterms.length → s.testBit k = true → PD g.rules k) ∧ Below w1.heap.size w1 w') := ⟨_, Lib.hid rfl⟩
  obtain ⟨J, HJ⟩ := HJ
  refine wp_scope_label 0 J (fun a' _ => miss g.nonterms.length (fun k => (intOf (a'.tmps.getD 2 undef)).toNat.testBit k)) ?_ ?_
  · rw [HJ.out]
    exact ⟨0, _, _, _, _, _, _, _, _, _, _, _, _, _, _, _, _, _, _, _, _, _, _, _, _, _, _, _, rfl, Nat.two_pow_pos _, fun k hk h => by simp at h, Below.refl _ _⟩
  · intro a' w' hJ
    rw [HJ.out] at hJ
    obtain ⟨s, u3, u4, u5, u6, u7, u8, u9, u10, u11, u12, u13, u14, u15, u16, u17, u18, u19, u20, u21, u22, u23, u24, u25, u26, u27, u28, u29, rfl, hs, HS, HBW⟩ := hJ
    have HB := Lib.hid HBW
    obtain ⟨c0, c1, c2, c3⟩ := blk_cells2 (gblk_keep' HK1.out HBW)
    have HSS := Lib.hid HS
    have HS2 := Lib.hid hs
    clear HBW HS
    go_wp2
    go_loopw [2, 8] (fun a x wr => ∃ k : Nat, k ≤ g.rules.length ∧ a = .int .u64 s ∧ x = .int .i64 k ∧ Aside0 (Below w'.heap.size w' wr) ∧ Aside0 (∀ k', k' < k → s.testBit (g.rules.getD k' (0, [])).1.toNat = true ∨ ¬ AllIn (fun n => s.testBit n = true) (g.rules.getD k' (0, [])).2)) (fun _ x _ => g.rules.length - (intOf x).toNat)
    case atStart => exact ⟨0, by omega, rfl, rfl, ⟨Below.refl _ _⟩, ⟨fun k' h => by omega⟩⟩
    case round =>
      obtain ⟨k, hk, rfl, rfl, HB2, HX⟩ := hrel
      obtain ⟨wo, rfl⟩ : ∃ wo : World, wo = wr := ⟨_, rfl⟩
      by_cases hlt : k < g.rules.length
      · obtain ⟨ad, x, B, c, r, rfl, k1, k2, hrc, hr, HD⟩ := at_rule (Kd.C_below HR.out (below_next HB.out HB2.out)) k hlt
        have hRr : Hid ((x, r) ∈ g.rules) := Lib.hid (by rw [← HD.out]; exact getD_mem g.rules k _ hlt)
        have hx0 : 0 ≤ x := (HC.out.right.left hRr.out).1
        have hxN : x < g.nonterms.length := (HC.out.right.left hRr.out).2
        obtain ⟨w3, hw3⟩ : ∃ w3, wo.alloc (.cells #[.int .i64 x, .slice B r.length c] 56) = w3 := ⟨_, rfl⟩
        have hb3 : Below wo.heap.size wo w3 := by rw [← hw3]; exact below_alloc (Below.refl _ _) _
        have r0 : w3.cell? ⟨wo.heap.size, 0, none⟩ = some (.int .i64 x) := by rw [← hw3]; simp [go_sem]
        have r1 : w3.cell? ⟨wo.heap.size, 1, none⟩ = some (.slice B r.length c) := by rw [← hw3]; simp [go_sem]
        have HB3 := Aside0.mk (below_next HB2.out hb3)
        have HR3 := Lib.hid (Kd.C_below hr hb3)
        clear hr hb3
        have h18 : s < 18446744073709551616 := lt_u64 HS2.out (by have := HC.out.size; omega)
        have HL : Hid (∀ z ∈ r, -(60 : Int) ≤ z ∧ z < 4611686018427387904) := Lib.hid (fun z hz => by have := HC.out.right.sym hRr.out hz; have := HC.out.size; omega)
        have HHas := Lib.hid (fun W => has_calls s h18 x W)
        have HNt := Lib.hid (fun (n : Nat) => unonterms_calls B c r (w3.drewN n) (Kd.C_drewN HR3.out n) HL.out)
        have HWi := Lib.hid (fun W => within_calls (ntN r) s (ntN_lt r) h18 W)
        have HWith := Lib.hid (fun W => with_calls s h18 x W)
        clear h18
        cases hhas : hasN s x
        · rw [hhas] at HHas
          cases hin : decide (minusN (ntN r) s = 0)
          · rw [hin] at HWi
            go_wp2_with (first
              | (go_at_call 52; refine (HHas.out _).mono ?_; rintro e w' ⟨rfl, n1, rfl⟩)
              | (go_at_call 54; refine (HNt.out _).mono ?_; rintro e w' ⟨rfl, n2, rfl⟩)
              | (go_at_call 53; refine (HWi.out _).mono ?_; rintro e w' ⟨rfl, n3, rfl⟩))
            have HN := Lib.hid hin
            clear hin
            go_roundw
            case rel => exact ⟨k + 1, by omega, rfl, by go_num, ⟨pw_below_drewN HB3.out _⟩, ⟨fun k' hk' => by
              rcases Nat.lt_or_ge k' k with h' | h'
              · exact HX.out k' h'
              · obtain rfl : k' = k := by omega
                rw [HD.out]; exact .inr (fun h => of_decide_eq_false HN.out ((ntN_within (fun z hz => (HL.out z hz).1)).2 h))⟩⟩
            case measure => simp [intOf]; omega
          · rw [hin] at HWi
            go_wp2_with (first
              | (go_at_call 52; refine (HHas.out _).mono ?_; rintro e w' ⟨rfl, n1, rfl⟩)
              | (go_at_call 54; refine (HNt.out _).mono ?_; rintro e w' ⟨rfl, n2, rfl⟩)
              | (go_at_call 53; refine (HWi.out _).mono ?_; rintro e w' ⟨rfl, n3, rfl⟩)
              | (go_at_call 55; refine (HWith.out _).mono ?_; rintro e w' ⟨rfl, n4, rfl⟩))
            go_step3
            have hx63 : x ≤ 63 := by have := HC.out.size; omega
            have hN64 : g.nonterms.length ≤ 64 := by have := HC.out.size; omega
            have HN3 := Lib.hid hin
            have HH := Lib.hid hhas
            clear hin hhas
            refine (show (0 = 0) ∧ (J _ _ ∧ miss g.nonterms.length (fun k => (withN s x).testBit k) < miss g.nonterms.length (fun k => s.testBit k)) from ⟨rfl, ?_, ?_⟩)
            · rw [HJ.out]
              refine ⟨withN s x, _, _, _, _, _, _, _, _, _, _, _, _, _, _, _, _, _, _, _, _, _, _, _, _, _, _, _, rfl, withN_lt2 HS2.out hx0 hxN hN64, fun k hk h => ?_, pw_below_drewN (below_next HB.out HB3.out) _⟩
              rw [withN_test hx0 hx63, Bool.or_eq_true, decide_eq_true_eq] at h
              rcases h with h | rfl
              · exact HSS.out k hk h
              · have hA := (ntN_within (t := s) (fun z hz => (HL.out z hz).1)).1 (of_decide_eq_true HN3.out)
                exact PD.mk (x, r) hRr.out (fun z hz h0 => HSS.out _ (by have := HC.out.right.sym hRr.out hz; omega) (hA z hz h0))
            · refine miss_lt (fun k hk h => ?_) (k := x.toNat) (by omega) ?_ ?_
              · rw [withN_test hx0 hx63, h, Bool.true_or]
              · rw [← hasN_nat hx0 hx63]; exact HH.out
              · rw [withN_test hx0 hx63]; simp
        · rw [hhas] at HHas
          have HT : Hid (s.testBit x.toNat = true) := Lib.hid (by unfold hasN at hhas; rw [Bool.and_eq_true] at hhas; exact hhas.2)
          clear hhas
          go_wp2_with (go_at_call 52; refine (HHas.out _).mono ?_; rintro e w' ⟨rfl, n1, rfl⟩)
          go_roundw
          case rel => exact ⟨k + 1, by omega, rfl, by go_num, ⟨pw_below_drewN HB3.out _⟩, ⟨fun k' hk' => by
            rcases Nat.lt_or_ge k' k with h' | h'
            · exact HX.out k' h'
            · obtain rfl : k' = k := by omega
              rw [HD.out]; exact .inl HT.out⟩⟩
          case measure => simp [intOf]; omega
      · have HE : Hid (s = setOf g.nonterms.length (PD g.rules)) := Lib.hid (by
          refine SetIs.of ⟨HS2.out, fun n hn => ⟨HSS.out n hn, fun hp => ?_⟩⟩ (by have := HC.out.size; omega)
          refine PD.closed (S := fun n => s.testBit n = true) (fun r hr hin => ?_) hp
          obtain ⟨k', hk', rfl⟩ := List.getElem_of_mem hr
          have h := HX.out k' (by omega)
          rw [List.getD_eq_getElem?_getD, List.getElem?_eq_getElem hk', Option.getD_some] at h
          exact h.resolve_right (fun h => h hin))
        go_wp2
        simp only [Exit.jump]
        go_ret
        exact ⟨ret_int (by rw [HE.out]), below_next (below_next HB1.out HB.out) HB2.out⟩
theorem lit_C {α : Type} {enc : α → Value} (h1 : ∀ x, (enc x).oneCell' = true) (xs : List α) (W : World) (T : TypeId) (hx : xs.length ≤ 9223372036854775807) : (Kd.scalar enc h1).C (W.alloc (.cells (xs.map enc).toArray T)) (some ⟨W.heap.size, 0, none⟩) xs.length xs := by
  refine ⟨rfl, hx, fun _ => ⟨⟨W.heap.size, 0, none⟩, rfl, fun j p hj => ⟨[enc p], rfl, rfl, fun i u hu => ?_⟩⟩⟩
  have h0 : i = 0 := by
    have := (List.getElem?_eq_some_iff.1 hu).1
    simp at this
    exact this
  subst h0
  simp at hu
  subst hu
  have e : ((⟨W.heap.size, 0, none⟩ : Addr).add j) = ⟨W.heap.size, j, none⟩ := by unfold Addr.add; by_cases h : j = 0 <;> simp [h]
  have hc := World.cell?_alloc_new W (xs.map enc).toArray T j
  show (W.alloc _).cell? ((⟨W.heap.size, 0, none⟩ : Addr).add (j * 1 + 0)) = _
  rw [Nat.mul_one, Nat.add_zero, e, hc]
  simp [hj]
set_option maxHeartbeats 1600000 in
set_option maxRecDepth 20000 in
theorem ureached_calls (v : Value) (g : Gr) (I : Nat) (w : World) (hI : I < 18446744073709551616) (hv : GramAt w v g) (hc : GOk g) :
    Calls Tryd.prog 37 #[v, .int .u64 I] w fun e w' => e = .returned (.int .u64 ((setOf g.nonterms.length (RD g.rules g.ax.toNat (fun k => I.testBit k = true)) : Nat) : Int)) ∧ Below w.heap.size w w' := by
  have HV := Lib.hid hv
  obtain ⟨AT, cT, AN, cN, AR, cR, rfl, q1, q2, q3, q4, q5, q6⟩ := hv
  have hlr := q6.2.1
  obtain ⟨w1, hw1⟩ : ∃ w1, w.alloc (.cells #[.slice AT g.terms.length cT, .slice AN g.nonterms.length cN, .int .i64 g.ax, .slice AR g.rules.length cR] 25) = w1 := ⟨_, rfl⟩
  have hb1 : Below w.heap.size w w1 := by rw [← hw1]; exact below_alloc (Below.refl _ _) _
  have hk1 : w1.heap[w.heap.size]? = some (.cells #[.slice AT g.terms.length cT, .slice AN g.nonterms.length cN, .int .i64 g.ax, .slice AR g.rules.length cR] 25 (0, 0)) := by rw [← hw1]; exact heap_alloc_new w _
  obtain ⟨c0, c1, c2, c3⟩ := blk_cells2 hk1
  have HB1 := Lib.hid hb1
  have HK1 := Lib.hid hk1
  have HR := Lib.hid (Kd.C_below q6 hb1)
  have HC := Lib.hid hc
  have HI := Lib.hid hI
  have HOf := Lib.hid (fun (T : TypeId) => of_calls (some ⟨w1.heap.size, 0, none⟩) 1 [g.ax] (w1.alloc (.cells #[.int .i64 g.ax] T)) (lit_C (enc := Value.int .i64) (fun _ => rfl) [g.ax] w1 T (by simp)))
  have HX : Hid (∀ k, k < g.nonterms.length → ((ofN [g.ax]).testBit k = true ↔ k = g.ax.toNat)) := Lib.hid (fun k hk => by
    have := hc.ax0
    have := hc.ax1
    have := hc.size
    show (withN 0 g.ax).testBit k = true ↔ _
    rw [withN_test (by omega) (by omega), Nat.zero_testBit, Bool.false_or, decide_eq_true_eq]
    exact ⟨fun h => h.symm, fun h => h.symm⟩)
  have HXL : Hid (ofN [g.ax] < 2 ^ g.nonterms.length) := Lib.hid (withN_lt2 (s := 0) (Nat.two_pow_pos _) hc.ax0 hc.ax1 (by have := hc.size; omega))
  clear hb1 hk1 q4 q5 q6 hc hI
  go_enter Tryd.func37, Tryd.ntmps37
  go_wp2
  go_step3
  go_wp2_with (go_at_call 69; refine (HOf.out _).mono ?_; rintro e w' ⟨rfl, n1, rfl⟩)
  go_step3
  go_wp2
  obtain ⟨w2, hw2⟩ : ∃ w2, (w1.alloc (.cells #[.int .i64 g.ax] 3)).drewN n1 = w2 := ⟨_, rfl⟩
  rw [hw2]
  have HB2 := Aside0.mk (show Below w1.heap.size w1 w2 by rw [← hw2]; exact pw_below_drewN (below_alloc (Below.refl _ _) _) _)
  clear hw2 hw1 c0 c1 c2 c3
  obtain ⟨s0, hs0⟩ : ∃ s0, ofN [g.ax] = s0 := ⟨_, rfl⟩
  rw [hs0] at HX HXL ⊢
  clear hs0
  go_loopg [5] (miss g.nonterms.length (fun k => s0.testBit k)) (fun m a wr => ∃ s : Nat, a = .int .u64 s ∧ Aside0 (s < 2 ^ g.nonterms.length) ∧ Aside0 (∀ k, k < g.nonterms.length → s.testBit k = true → RD g.rules g.ax.toNat (fun k => I.testBit k = true) k) ∧ Aside0 (s.testBit g.ax.toNat = true) ∧ Aside0 (Below w1.heap.size w1 wr) ∧ Aside0 (m = miss g.nonterms.length (fun k => s.testBit k)))
  case atStart => exact ⟨s0, rfl, ⟨HXL.out⟩, ⟨fun k hk h => by rw [(HX.out k hk).1 h]; exact .base⟩, ⟨(HX.out _ (by have := HC.out.ax0; have := HC.out.ax1; omega)).2 rfl⟩, HB2, ⟨rfl⟩⟩
  case round =>
    obtain ⟨s, rfl, HS2, HSS, HAx, HBW, HM⟩ := hrel
    obtain ⟨w', rfl⟩ : ∃ wo : World, wo = wr := ⟨_, rfl⟩
    obtain ⟨c0, c1, c2, c3⟩ := blk_cells2 (gblk_keep' HK1.out HBW.out)
    go_wp2
    clear c0 c1 c2 c3
    go_loopw [5, 16] (fun a x wr => ∃ k : Nat, k ≤ g.rules.length ∧ a = .int .u64 s ∧ x = .int .i64 k ∧ Aside0 (Below w'.heap.size w' wr) ∧ Aside0 (∀ k', k' < k → ¬ s.testBit (g.rules.getD k' (0, [])).1.toNat = true ∨ ¬ AllIn (fun n => I.testBit n = true) (g.rules.getD k' (0, [])).2 ∨ AllIn (fun n => s.testBit n = true) (g.rules.getD k' (0, [])).2)) (fun _ x _ => g.rules.length - (intOf x).toNat)
    case atStart => exact ⟨0, by omega, rfl, rfl, ⟨Below.refl _ _⟩, ⟨fun k' h => by omega⟩⟩
    case round =>
      obtain ⟨k, hk, rfl, rfl, HBx, HX2⟩ := hrel
      obtain ⟨wo, rfl⟩ : ∃ wo : World, wo = wr := ⟨_, rfl⟩
      by_cases hlt : k < g.rules.length
      · obtain ⟨ad, x, B, c, r, rfl, k1, k2, hrc, hr, HD⟩ := at_rule (Kd.C_below HR.out (below_next HBW.out HBx.out)) k hlt
        have hRr : Hid ((x, r) ∈ g.rules) := Lib.hid (by rw [← HD.out]; exact getD_mem g.rules k _ hlt)
        have hx0 : 0 ≤ x := (HC.out.right.left hRr.out).1
        have hxN : x < g.nonterms.length := (HC.out.right.left hRr.out).2
        have HL : Hid (∀ z ∈ r, -(60 : Int) ≤ z ∧ z < 4611686018427387904) := Lib.hid (fun z hz => by have := HC.out.right.sym hRr.out hz; have := HC.out.size; omega)
        have HLN : Hid (∀ z ∈ r, -(g.nonterms.length : Int) ≤ z) := Lib.hid (fun z hz => (HC.out.right.sym hRr.out hz).1)
        obtain ⟨w3, hw3⟩ : ∃ w3, wo.alloc (.cells #[.int .i64 x, .slice B r.length c] 56) = w3 := ⟨_, rfl⟩
        have hb3 : Below wo.heap.size wo w3 := by rw [← hw3]; exact below_alloc (Below.refl _ _) _
        have r0 : w3.cell? ⟨wo.heap.size, 0, none⟩ = some (.int .i64 x) := by rw [← hw3]; simp [go_sem]
        have r1 : w3.cell? ⟨wo.heap.size, 1, none⟩ = some (.slice B r.length c) := by rw [← hw3]; simp [go_sem]
        have HB3 := Aside0.mk (below_next HBx.out hb3)
        have HR3 := Lib.hid (Kd.C_below hr hb3)
        have HNt := Lib.hid (fun (n : Nat) => unonterms_calls B c r (w3.drewN n) (Kd.C_drewN HR3.out n) HL.out)
        clear hr hb3
        have h18 : s < 18446744073709551616 := lt_u64 HS2.out (by have := HC.out.size; omega)
        have hN64 : g.nonterms.length ≤ 64 := by have := HC.out.size; omega
        have hx63 : x ≤ 63 := by have := HC.out.size; omega
        have HHas := Lib.hid (fun W => has_calls s h18 x W)
        have HWI := Lib.hid (fun W => within_calls (ntN r) I (ntN_lt r) HI.out W)
        have HWS := Lib.hid (fun W => within_calls (ntN r) s (ntN_lt r) h18 W)
        have HUn := Lib.hid (fun (W : World) (T : TypeId) => union_calls (some ⟨W.heap.size, 0, none⟩) 2 [s, ntN r] (W.alloc (.cells #[.int .u64 ((s : Nat) : Int), .int .u64 ((ntN r : Nat) : Int)] T)) (lit_C (enc := fun n : Nat => Value.int .u64 (n : Int)) (fun _ => rfl) [s, ntN r] W T (by simp)) (fun z hz => by
          rcases List.mem_cons.1 hz with rfl | hz
          · exact h18
          · rw [List.mem_singleton.1 hz]; exact ntN_lt r))
        rw [hasN_nat hx0 hx63] at HHas
        have HIW : Hid (minusN (ntN r) I = 0 ↔ AllIn (fun n => I.testBit n = true) r) := Lib.hid (ntN_within (fun z hz => (HL.out z hz).1))
        have HSW : Hid (minusN (ntN r) s = 0 ↔ AllIn (fun n => s.testBit n = true) r) := Lib.hid (ntN_within (fun z hz => (HL.out z hz).1))
        obtain ⟨b1, hb1⟩ : ∃ b, s.testBit x.toNat = b := ⟨_, rfl⟩
        obtain ⟨b2, hb2⟩ : ∃ b, decide (minusN (ntN r) I = 0) = b := ⟨_, rfl⟩
        obtain ⟨b3, hb3⟩ : ∃ b, decide (minusN (ntN r) s = 0) = b := ⟨_, rfl⟩
        rw [hb1] at HHas
        rw [hb2] at HWI
        rw [hb3] at HWS
        have HD1 := Lib.hid hb1
        have HD2 := Lib.hid hb2
        have HD3 := Lib.hid hb3
        clear hb1 hb2 hb3 h18
        have hcase : (b1 = true ∧ b2 = true ∧ b3 = false) ∨ (b1 = false) ∨ (b1 = true ∧ b2 = false) ∨ (b1 = true ∧ b2 = true ∧ b3 = true) := by
          cases b1 <;> cases b2 <;> cases b3 <;> simp
        rcases hcase with ⟨rfl, rfl, rfl⟩ | rfl | ⟨rfl, rfl⟩ | ⟨rfl, rfl, rfl⟩
        · go_wp2_with (first
            | (go_at_call 52; refine (HHas.out _).mono ?_; rintro e w' ⟨rfl, n2, rfl⟩)
            | (go_at_call 54; refine (HNt.out 0).mono ?_; rintro e w' ⟨rfl, n3, rfl⟩)
            | (go_at_call 53; have n4' := n4; refine (HWS.out _).mono ?_; rintro e w' ⟨rfl, n5, rfl⟩)
            | (go_at_call 53; refine (HWI.out _).mono ?_; rintro e w' ⟨rfl, n4, rfl⟩)
            | (go_at_call 70; refine (HUn.out _ _).mono ?_; rintro e w' ⟨rfl, n6, rfl⟩))
          obtain ⟨s', hs'⟩ : ∃ s', unionN [s, ntN r] = s' := ⟨_, rfl⟩
          have HT : Hid (∀ j, s'.testBit j = (s.testBit j || (ntN r).testBit j)) := Lib.hid (fun j => by rw [← hs']; simp [unionN])
          have HL2 : Hid (s' < 2 ^ g.nonterms.length) := Lib.hid (by
            have e : s' = s ||| ntN r := Nat.eq_of_testBit_eq (fun j => by rw [HT.out j, Nat.testBit_or])
            rw [e]
            exact Nat.or_lt_two_pow HS2.out (ntN_lt2 hN64 r HLN.out))
          rw [hs']
          clear hs'
          go_roundg (miss g.nonterms.length (fun k => s'.testBit k))
          case rel =>
            refine ⟨s', rfl, ⟨HL2.out⟩, ⟨fun k hk h => ?_⟩, ⟨by rw [HT.out, HAx.out]; rfl⟩, ⟨pw_below_drewN (below_alloc (pw_below_drewN (below_next HBW.out HB3.out) _) _) _⟩, ⟨rfl⟩⟩
            rw [HT.out, Bool.or_eq_true] at h
            rcases h with h | h
            · exact HSS.out k hk h
            · obtain ⟨z, hz, h0, rfl⟩ := (ntN_test (fun z hz => (HL.out z hz).1) k).1 h
              exact .step (x, r) hRr.out (HSS.out _ (by omega) HD1.out) (HIW.out.1 (of_decide_eq_true HD2.out)) z hz h0
          case measure =>
            have hm := HM.out
            rw [hm]
            obtain ⟨z, hz, h0, hn⟩ := not_allIn (fun h => of_decide_eq_false HD3.out (HSW.out.2 h))
            refine miss_lt (fun k hk h => by rw [HT.out, h, Bool.true_or]) (k := (-1 - z).toNat) (by have := HLN.out z hz; omega) (by simpa using hn) ?_
            rw [HT.out, Bool.or_eq_true]
            exact .inr ((ntN_test (fun z hz => (HL.out z hz).1) _).2 ⟨z, hz, h0, rfl⟩)
        all_goals
          go_wp2_with (first
            | (go_at_call 52; refine (HHas.out _).mono ?_; rintro e w' ⟨rfl, n2, rfl⟩)
            | (go_at_call 54; refine (HNt.out 0).mono ?_; rintro e w' ⟨rfl, n3, rfl⟩)
            | (go_at_call 53; have n4' := n4; refine (HWS.out _).mono ?_; rintro e w' ⟨rfl, n5, rfl⟩)
            | (go_at_call 53; refine (HWI.out _).mono ?_; rintro e w' ⟨rfl, n4, rfl⟩)
            | (go_at_call 70; refine (HUn.out _ _).mono ?_; rintro e w' ⟨rfl, n6, rfl⟩))
          go_roundw
          case rel => exact ⟨k + 1, by omega, rfl, by go_num, ⟨pw_below_drewN HB3.out _⟩, ⟨fun k' hk' => by
            rcases Nat.lt_or_ge k' k with h' | h'
            · exact HX2.out k' h'
            · obtain rfl : k' = k := by omega
              rw [HD.out]
              first
                | exact .inl (by rw [HD1.out]; decide)
                | exact .inr (.inl (fun h => of_decide_eq_false HD2.out (HIW.out.2 h)))
                | exact .inr (.inr (HSW.out.1 (of_decide_eq_true HD3.out)))⟩⟩
          case measure => simp [intOf]; omega
      · have HE : Hid (s = setOf g.nonterms.length (RD g.rules g.ax.toNat (fun k => I.testBit k = true))) := Lib.hid (by
          refine SetIs.of ⟨HS2.out, fun n hn => ⟨HSS.out n hn, fun hp => ?_⟩⟩ (by have := HC.out.size; omega)
          refine RD.closed (S := fun n => s.testBit n = true) HAx.out (fun r hr h1 hin => ?_) hp
          obtain ⟨k', hk', rfl⟩ := List.getElem_of_mem hr
          have h := HX2.out k' (by omega)
          rw [List.getD_eq_getElem?_getD, List.getElem?_eq_getElem hk', Option.getD_some] at h
          rcases h with h | h | h
          · exact absurd h1 h
          · exact absurd hin h
          · exact h)
        go_wp2
        rw [Exit.noGoto_ret]
        go_ret
        exact ⟨ret_int (by rw [HE.out]), below_next (below_next HB1.out HBW.out) HBx.out⟩
end Go.Proofs.YtagcmhnanngfbaaDoor.Hand
/- Contracts: useful.lengths: how many tokens shortest rows have. -/
namespace Go.Proofs.YtagcmhnanngfbaaDoor.Hand
open Go.RowKit Go.Proofs.YtagcmhnanngfbaaDoorW.PrintWords Go.Proofs.YtagcmhnanngfbaaDoorW.PrintMore Go.Proofs.YtagcmhnanngfbaaDoor.Math

theorem sumL_split {L : Nat → Int} (l : List Int) (k : Nat) (h : sumL L (l.take k) < 0) : sumL L l < 0 := by
  have e : sumL L l = sumA L (sumL L (l.take k)) (l.drop k) := by
    show l.foldl (stepL L) 0 = (l.drop k).foldl (stepL L) ((l.take k).foldl (stepL L) 0)
    rw [← List.foldl_append, List.take_append_drop]
  rw [e]
  exact sumA_neg h
set_option maxHeartbeats 1600000 in
set_option maxRecDepth 20000 in
theorem ulengths_calls (v : Value) (g : Gr) (w : World) (hv : GramAt w v g) (hc : GOk g) :
    Calls Tryd.prog 48 #[v] w fun e w' => ∃ (gm : Nat) (L : Nat → Int), e = .returned (.slice (some ⟨gm, 0, none⟩) g.nonterms.length g.nonterms.length) ∧ Row w' gm g.nonterms.length (fun q => .int .i64 (L q)) ∧ LenIs g.rules g.nonterms.length L ∧ w.heap.size ≤ gm ∧ Below w.heap.size w w' := by
  have hN : g.nonterms.length ≤ 60 := by have := hc.size; omega
  have hN1 : 1 ≤ g.nonterms.length := by have := hc.ax0; have := hc.ax1; omega
  have HV := Lib.hid hv
  obtain ⟨AT, cT, AN, cN, AR, cR, rfl, q1, q2, q3, q4, q5, q6⟩ := hv
  have hlr := q6.2.1
  have l2 := q5.2.1
  have hr120 := hc.rules
  obtain ⟨w1, hw1⟩ : ∃ w1, w.alloc (.cells #[.slice AT g.terms.length cT, .slice AN g.nonterms.length cN, .int .i64 g.ax, .slice AR g.rules.length cR] 25) = w1 := ⟨_, rfl⟩
  have hb1 : Below w.heap.size w w1 := by rw [← hw1]; exact below_alloc (Below.refl _ _) _
  have hk1 : w1.heap[w.heap.size]? = some (.cells #[.slice AT g.terms.length cT, .slice AN g.nonterms.length cN, .int .i64 g.ax, .slice AR g.rules.length cR] 25 (0, 0)) := by rw [← hw1]; exact heap_alloc_new w _
  obtain ⟨w2, hw2⟩ : ∃ w2, w1.alloc (.cells #[.int .i64 (-1)] 3) = w2 := ⟨_, rfl⟩
  have hb2 : Below w1.heap.size w1 w2 := by rw [← hw2]; exact below_alloc (Below.refl _ _) _
  obtain ⟨c0, c1, c2, c3⟩ := blk_cells2 hk1
  have d1 : w2.cell? ⟨w.heap.size, 1, none⟩ = some (.slice AN g.nonterms.length cN) := (blk_cells2 (gblk_keep' hk1 hb2)).2.1
  have hz : w2.cell? ⟨w1.heap.size, 0, none⟩ = some (.int .i64 (-1)) := by rw [← hw2]; simp [go_sem]
  have HRep := Lib.hid (repeat1_calls ⟨w1.heap.size, 0, none⟩ 1 g.nonterms.length (-1) w2 hN1 hN hz)
  have HB1 := Lib.hid hb1
  have HB2 := Lib.hid hb2
  have HK1 := Lib.hid hk1
  have HR := Lib.hid (Kd.C_below q6 hb1)
  have HC := Lib.hid hc
  clear hb1 hk1 hb2 q4 q5 q6 hc hz
  go_enter Tryd.func48, Tryd.ntmps48
  go_wp2_with (go_at_call 75; refine HRep.out.mono ?_; rintro e w3 ⟨gm, rfl, hrow, hgm, hb3⟩; have HRow := Aside0.mk hrow; have HGm := Lib.hid (Nat.le_trans HB2.out.size hgm); have HB3 := Aside0.mk (below_next HB2.out hb3); clear hrow hgm hb3)
  clear hw1 hw2 c0 c1 c2 c3 d1
  go_loopg [4] (2 * lmeas g.nonterms.length (fun _ => -1) + 1) (fun m v wr => ∃ (again : Bool) (L : Nat → Int), v = .bool again ∧ Aside0 (Row wr gm g.nonterms.length (fun q => .int .i64 (L q))) ∧ Aside0 (SoundL g.rules g.nonterms.length L) ∧ Aside0 (again = false → ∀ i, i < g.rules.length → CRl g.rules L i) ∧ Aside0 (Below w1.heap.size w1 wr) ∧ Aside0 (m = 2 * lmeas g.nonterms.length L + (if again then 1 else 0)))
  case atStart => exact ⟨true, fun _ => -1, rfl, HRow, ⟨SoundL.start⟩, ⟨fun h => by cases h⟩, HB3, ⟨rfl⟩⟩
  case round =>
    obtain ⟨again, L0, rfl, HRow0, HS0, HX0, HB0, HM0⟩ := hrel
    obtain ⟨wo, rfl⟩ : ∃ wo : World, wo = wr := ⟨_, rfl⟩
    cases again
    · go_wp2
      go_ret
      exact ⟨gm, rfl, L0, HRow0.out, LenIs.of HS0.out (HX0.out trivial), Nat.le_trans HB1.out.size HGm.out, below_next HB1.out HB0.out⟩
    · obtain ⟨c0, c1, c2, c3⟩ := blk_cells2 (gblk_keep' HK1.out HB0.out)
      go_wp2
      go_step3
      go_wp2
      go_step3
      go_wp2
      clear c0 c1 c2 c3
      go_loopw [4, 20] (fun a x wr => ∃ (ag : Bool) (i : Nat) (L : Nat → Int), i ≤ g.rules.length ∧ a = .bool ag ∧ x = .int .i64 i ∧ Aside0 (Row wr gm g.nonterms.length (fun q => .int .i64 (L q))) ∧ Aside0 (SoundL g.rules g.nonterms.length L) ∧ Aside0 (ag = false → ∀ j, j < i → CRl g.rules L j) ∧ Aside0 (Below w1.heap.size w1 wr) ∧ Aside0 (lmeas g.nonterms.length L + (if ag then 1 else 0) ≤ lmeas g.nonterms.length L0)) (fun _ x _ => g.rules.length - (intOf x).toNat)
      case atStart => exact ⟨false, 0, L0, by omega, rfl, rfl, HRow0, HS0, ⟨fun _ j h => by omega⟩, HB0, ⟨by simp⟩⟩
      case round =>
        obtain ⟨ag, i, L, hi, rfl, rfl, HRowL, HSL, HXL, HBL, HML⟩ := hrel
        obtain ⟨wi, rfl⟩ : ∃ wo : World, wo = wr := ⟨_, rfl⟩
        by_cases hlt : i < g.rules.length
        · obtain ⟨ad, x, B, c, r, rfl, k1, k2, hrc, hr, HD⟩ := at_rule (Kd.C_below HR.out HBL.out) i hlt
          have hRr : Hid ((x, r) ∈ g.rules) := Lib.hid (by rw [← HD.out]; exact getD_mem g.rules i _ hlt)
          have hx0 : 0 ≤ x := (HC.out.right.left hRr.out).1
          have hxN : x < g.nonterms.length := (HC.out.right.left hRr.out).2
          obtain ⟨w4, hw4⟩ : ∃ w4, wi.alloc (.cells #[.int .i64 x, .slice B r.length c] 56) = w4 := ⟨_, rfl⟩
          have hb4 : Below wi.heap.size wi w4 := by rw [← hw4]; exact below_alloc (Below.refl _ _) _
          have r0 : w4.cell? ⟨wi.heap.size, 0, none⟩ = some (.int .i64 x) := by rw [← hw4]; simp [go_sem]
          have r1 : w4.cell? ⟨wi.heap.size, 1, none⟩ = some (.slice B r.length c) := by rw [← hw4]; simp [go_sem]
          have HB4 := Aside0.mk (below_next HBL.out hb4)
          have HRow4 := Aside0.mk (HRowL.out.below hb4)
          have HR4 := Lib.hid (Kd.C_below hr hb4)
          have hlrr := hr.2.1
          have HSy := Lib.hid (fun s (hs : s ∈ r) => HC.out.right.sym hRr.out hs)
          have HT60 := Lib.hid HC.out.size
          have HCR : Hid (CRl g.rules L i ↔ (0 ≤ sumL L r → 0 ≤ L x.toNat ∧ L x.toNat ≤ sumL L r)) := Lib.hid (by unfold CRl; rw [HD.out])
          have hcl := HRow4.out.cell x.toNat (by omega)
          have hfl := HRow4.out.free x.toNat
          clear hr hb4
          go_wp2
          clear hw4
          go_loopw [7, 27] (fun a x' wr => ∃ (k : Nat) (s : Int), k ≤ r.length ∧ a = .int .i64 s ∧ x' = .int .i64 k ∧ Hid (s = sumL L (r.take k)) ∧ 0 ≤ s ∧ s ≤ 65537 ∧ wr = w4) (fun _ x' _ => r.length - (intOf x').toNat)
          case atStart => exact ⟨0, 0, by omega, rfl, rfl, Lib.hid (by rfl), by omega, by omega, by first | rfl | trivial⟩
          case round =>
            obtain ⟨k, s, hk, rfl, rfl, HSum, hs0, hs1, rfl⟩ := hrel
            by_cases hkt : k < r.length
            · obtain ⟨ad2, y, rfl, hcy, HY⟩ := at_scalar HR4.out k hkt 0
              have HYm : Hid (y ∈ r) := Lib.hid (by rw [← HY.out]; exact getD_mem r k 0 hkt)
              have hy1 : -(g.nonterms.length : Int) ≤ y := (HSy.out y HYm.out).1
              have hy2 : y < 4611686018427387904 := by have := (HSy.out y HYm.out).2; have := HT60.out; omega
              have HSn : Hid (sumL L (r.take (k + 1)) = stepL L s y) := Lib.hid (by rw [take_snocD r k 0 hkt, HY.out, sumL_snoc, HSum.out])
              by_cases h0 : y < 0
              · have e1 : 0 ≤ -1 - y := by omega
                have e2 : -1 - y < (g.nonterms.length : Int) := by omega
                have hcm := HRow4.out.cell (-1 - y).toNat (by omega)
                obtain ⟨n, hn⟩ : ∃ n, L (-1 - y).toNat = n := ⟨_, rfl⟩
                rw [hn] at hcm
                have hnb : n ≤ 65537 := by rw [← hn]; exact (HSL.out _ (by omega)).2.1
                have HN := Lib.hid hn
                clear hn
                by_cases hneg : n < 0
                · have HE : Hid (sumL L r < 0) := Lib.hid (sumL_split r (k + 1) (by rw [HSn.out]; unfold stepL; rw [if_neg (by omega), if_pos h0, HN.out, if_pos hneg]; omega))
                  go_wp2
                  go_roundw
                  case rel => exact ⟨ag, i + 1, L, by omega, rfl, by go_num, HRow4, HSL, ⟨fun h j hj => by
                    rcases Nat.lt_or_ge j i with h' | h'
                    · exact HXL.out h j h'
                    · obtain rfl : j = i := by omega
                      exact HCR.out.2 (fun h => absurd h (by have := HE.out; omega))⟩, HB4, HML⟩
                  case measure => simp [intOf]; omega
                · have HE : Hid (stepL L s y = if s + n < 65537 then s + n else 65537) := Lib.hid (stepL_ok hs0 (by rw [if_pos h0, HN.out]) (by omega))
                  go_wp2
                  go_roundw
                  case rel => exact ⟨k + 1, _, by omega, rfl, by go_num, Lib.hid (by rw [HSn.out, HE.out]), by split <;> omega, by split <;> omega, by first | rfl | trivial⟩
                  case measure => simp [intOf]; omega
              · have HE : Hid (stepL L s y = if s + 1 < 65537 then s + 1 else 65537) := Lib.hid (stepL_ok hs0 (by rw [if_neg h0]) (by omega))
                go_wp2
                go_roundw
                case rel => exact ⟨k + 1, _, by omega, rfl, by go_num, Lib.hid (by rw [HSn.out, HE.out]), by split <;> omega, by split <;> omega, by first | rfl | trivial⟩
                case measure => simp [intOf]; omega
            · have HE : Hid (s = sumL L r) := Lib.hid (by rw [HSum.out, List.take_of_length_le (by omega)])
              obtain ⟨n, hn⟩ : ∃ n, L x.toNat = n := ⟨_, rfl⟩
              rw [hn] at hcl
              have HN := Lib.hid hn
              clear hn
              by_cases hup : n < 0 ∨ s < n
              · have HUp := Lib.hid hup
                have hrow : Hid (∀ W : World, Row W gm g.nonterms.length (fun q => .int .i64 (L q)) → Row (W.setCell ⟨gm, x.toNat, none⟩ (.int .i64 s)) gm g.nonterms.length (fun q => .int .i64 (setL L x.toNat s q))) := Lib.hid (fun W hW => (hW.set x.toNat (by omega) (.int .i64 s)).ext (fun q hq => by unfold setL; split <;> simp_all))
                have hfin : Hid (SoundL g.rules g.nonterms.length (setL L x.toNat s) ∧ lmeas g.nonterms.length (setL L x.toNat s) < lmeas g.nonterms.length L) := Lib.hid ⟨by
                  have := HSL.out.set (r := (x, r)) hRr.out (fun z hz => (HSy.out z hz).1) hx0 (by rw [← HE.out]; exact hs0)
                  rwa [← HE.out] at this, lmeas_lt (by omega) hs0 hs1 (by rw [HN.out]; exact hup)⟩
                have hcase : n < 0 ∨ (¬ n < 0 ∧ s < n) := by omega
                clear hup
                rcases hcase with hcase | ⟨hcase, hcase2⟩
                all_goals
                  go_wp2
                  go_roundw
                  case rel => exact ⟨true, i + 1, setL L x.toNat s, by omega, rfl, by go_num, ⟨hrow.out _ HRow4.out⟩, ⟨hfin.out.1⟩, ⟨fun h => by cases h⟩, ⟨HB4.out.setCell HGm.out _⟩, ⟨by have := HML.out; have := hfin.out.2; simp only [if_true]; omega⟩⟩
                  case measure => simp [intOf]; omega
              · have h1 : ¬ n < 0 := by omega
                have h2 : ¬ s < n := by omega
                clear hup
                go_wp2
                go_roundw
                case rel => exact ⟨ag, i + 1, L, by omega, rfl, by go_num, HRow4, HSL, ⟨fun h j hj => by
                  rcases Nat.lt_or_ge j i with h' | h'
                  · exact HXL.out h j h'
                  · obtain rfl : j = i := by omega
                    exact HCR.out.2 (fun _ => by rw [HN.out, ← HE.out]; omega)⟩, HB4, HML⟩
                case measure => simp [intOf]; omega
        · obtain rfl : i = g.rules.length := by omega
          go_wp2
          rw [Exit.noGoto_normal]
          go_wp2
          go_roundg (2 * lmeas g.nonterms.length L + (if ag then 1 else 0))
          case rel => exact ⟨ag, L, rfl, HRowL, HSL, HXL, HBL, ⟨rfl⟩⟩
          case measure => have h1 := HML.out; have h2 := HM0.out; simp at h2; cases ag <;> simp at h1 ⊢ <;> omega
def ShortRes (w0 : World) (A : Nat → Addr) (g : Gr) (e : Ending) (w' : World) : Prop :=
  (∃ u, e = .returned (.tuple #[.slice none 0 0, u]) ∧ ¬ (checkN g).1 = 0 ∧ ErrV w' A u (checkN g).1 (checkN g).2 ∧ Below w0.heap.size w0 w') ∨
  (∃ gm L, e = .returned (.tuple #[.slice (some ⟨gm, 0, none⟩) g.nonterms.length g.nonterms.length, .nilIface]) ∧ (checkN g).1 = 0 ∧ Row w' gm g.nonterms.length (fun q => .int .i64 (L q)) ∧ LenIs g.rules g.nonterms.length L ∧ w0.heap.size ≤ gm ∧ Below w0.heap.size w0 w')
theorem ushortest_calls (v : Value) (g : Gr) (w : World) (A : Nat → Addr) (hE : Errs w A) (hv : GramAt w v g) :
    Calls Tryd.prog 17 #[v] w fun e w' => ShortRes w A g e w' := by
  have HV := Lib.hid hv
  obtain ⟨AT, cT, AN, cN, AR, cR, rfl, q1, q2, q3, q4, q5, q6⟩ := hv
  obtain ⟨w1, hw1⟩ : ∃ w1, w.alloc (.cells #[.slice AT g.terms.length cT, .slice AN g.nonterms.length cN, .int .i64 g.ax, .slice AR g.rules.length cR] 25) = w1 := ⟨_, rfl⟩
  have hb1 : Below w.heap.size w w1 := by rw [← hw1]; exact below_alloc (Below.refl _ _) _
  have hk1 : w1.heap[w.heap.size]? = some (.cells #[.slice AT g.terms.length cT, .slice AN g.nonterms.length cN, .int .i64 g.ax, .slice AR g.rules.length cR] 25 (0, 0)) := by rw [← hw1]; exact heap_alloc_new w _
  obtain ⟨c0, c1, c2, c3⟩ := blk_cells2 hk1
  have HB1 := Lib.hid hb1
  have HK1 := Lib.hid hk1
  have HG := Lib.hid (HV.out.below hb1)
  have HCk := Lib.hid (check_calls _ g w1 A (hE.below hb1) HG.out)
  clear hb1 hk1 hE q4 q5 q6
  by_cases hok : (checkN g).1 = 0
  · have HOK := Lib.hid hok
    have HM := Lib.hid (fun (W : World) (hW : Below w1.heap.size w1 W) => ulengths_calls _ g W (HG.out.below hW) (GOk.of hok))
    clear hok
    go_enter Tryd.func17, Tryd.ntmps17
    go_wp2_with (first
      | (go_at_call 35; refine HCk.out.mono ?_; rintro e w2 ⟨u, rfl, hu, hb2⟩; have HB2 := Lib.hid hb2; obtain rfl := hu.nil_of HOK.out; obtain ⟨d0, d1, d2, d3⟩ := blk_cells2 (gblk_keep' HK1.out hb2); clear hu hb2 c0 c1 c2 c3)
      | (go_at_call 48; refine (HM.out w2 HB2.out).mono ?_; rintro e w3 ⟨gm, L, rfl, hrow, hL, hgm, hb3⟩; have HRow := Lib.hid hrow; have HL := Lib.hid hL; have HGm := Lib.hid (Nat.le_trans HB2.out.size hgm); have HB3 := Lib.hid (below_next HB2.out hb3); clear hrow hL hgm hb3))
    go_ret2
    exact .inr ⟨gm, L, rfl, HOK.out, HRow.out, HL.out, Nat.le_trans HB1.out.size HGm.out, below_next HB1.out HB3.out⟩
  · have HOK := Lib.hid hok
    clear hok
    go_enter Tryd.func17, Tryd.ntmps17
    go_wp2_with (go_at_call 35; refine HCk.out.mono ?_; rintro e w2 ⟨u, rfl, hu, hb2⟩; have HU2 := Lib.hid hu; have HB2 := Lib.hid hb2; obtain ⟨T, p, hT, rfl⟩ := hu.iface_of HOK.out; clear hu hb2 hT)
    go_ret2
    exact .inl ⟨_, rfl, HOK.out, HU2.out, below_next HB1.out HB2.out⟩
end Go.Proofs.YtagcmhnanngfbaaDoor.Hand
/- Contract of useful.Word. -/
namespace Go.Proofs.YtagcmhnanngfbaaDoor.Hand
open Go.RowKit Go.Proofs.YtagcmhnanngfbaaDoorW.PrintWords Go.Proofs.YtagcmhnanngfbaaDoorW.PrintMore Go.Proofs.YtagcmhnanngfbaaDoor.Math

theorem Made.drewN {wb wr : World} {u : Value} {p : List Int} (h : Made wb u p wr) (n : Nat) : Made wb u p (wr.drewN n) := ⟨h.form, Kd.R_below h.own (pw_below_drewN (Below.refl _ _) _), pw_below_drewN h.bel _⟩
/-- What Word tells: the row, or the error. -/
def UWordTold (g : Gr) (x : Int) (L : Nat → Int) (A : Nat → Addr) (w' : World) (v u : Value) : Prop :=
  (L x.toNat < 0 ∧ v = .slice none 0 0 ∧ ErrV w' A u 15 (-1)) ∨ (65536 < L x.toNat ∧ v = .slice none 0 0 ∧ ErrV w' A u 12 (-1)) ∨
  (0 ≤ L x.toNat ∧ L x.toNat ≤ 65536 ∧ u = .nilIface ∧ ∃ ad c q, WordIs g.rules x.toNat q ∧ v = .slice (some ad) q.length c ∧ Kd.C (Kd.int .i64) w' (some ad) q.length q)
def UWordRes (w0 : World) (g : Gr) (x : Int) (A : Nat → Addr) (e : Ending) (w' : World) : Prop :=
  ∃ v u, e = .returned (.tuple #[v, u]) ∧ Below w0.heap.size w0 w' ∧
    ((¬ (checkN g).1 = 0 ∧ v = .slice none 0 0 ∧ ErrV w' A u (checkN g).1 (checkN g).2) ∨ ((checkN g).1 = 0 ∧ (x < 0 ∨ (g.nonterms.length : Int) ≤ x) ∧ v = .slice none 0 0 ∧ ErrV w' A u 1 (-1)) ∨
     ((checkN g).1 = 0 ∧ 0 ≤ x ∧ x < g.nonterms.length ∧ ∃ L, LenIs g.rules g.nonterms.length L ∧ UWordTold g x L A w' v u))
theorem infoIntsW : (Tryd.prog.info? 38).map (fun i => (i.zero, i.size, i.bytes)) = some (some (.slice none 0 0), 1, 24) := by kernel_rfl
set_option maxHeartbeats 4000000 in
set_option maxRecDepth 100000 in
theorem uword_calls (v : Value) (g : Gr) (x0 : Int) (w : World) (A : Nat → Addr) (hE : Errs w A) (hv : GramAt w v g) :
    Calls Tryd.prog 19 #[v, .int .i64 x0] w fun e w' => UWordRes w g x0 A e w' := by
  have HV := Lib.hid hv
  obtain ⟨AT, cT, AN, cN, AR, cR, rfl, q1, q2, q3, q4, q5, q6⟩ := hv
  have hlr := q6.2.1
  have l2 := q5.2.1
  obtain ⟨w1, hw1⟩ : ∃ w1, w.alloc (.cells #[.slice AT g.terms.length cT, .slice AN g.nonterms.length cN, .int .i64 g.ax, .slice AR g.rules.length cR] 25) = w1 := ⟨_, rfl⟩
  have hb1 : Below w.heap.size w w1 := by rw [← hw1]; exact below_alloc (Below.refl _ _) _
  have hk1 : w1.heap[w.heap.size]? = some (.cells #[.slice AT g.terms.length cT, .slice AN g.nonterms.length cN, .int .i64 g.ax, .slice AR g.rules.length cR] 25 (0, 0)) := by rw [← hw1]; exact heap_alloc_new w _
  obtain ⟨c0, c1, c2, c3⟩ := blk_cells2 hk1
  have HB1 := Lib.hid hb1
  have HK1 := Lib.hid hk1
  have HG := Lib.hid (HV.out.below hb1)
  have HE := Lib.hid (hE.below hb1)
  have HR := Lib.hid (Kd.C_below q6 hb1)
  have HCk := Lib.hid (check_calls _ g w1 A HE.out HG.out)
  clear hb1 hk1 hE q4 q5 q6
  by_cases hok : (checkN g).1 = 0
  · have HOK := Lib.hid hok
    have HC := Lib.hid (GOk.of hok)
    have HM := Lib.hid (fun (W : World) (hW : Below w1.heap.size w1 W) => ulengths_calls _ g W (HG.out.below hW) (GOk.of hok))
    clear hok
    have hN : g.nonterms.length ≤ 60 := by have := HC.out.size; omega
    by_cases hx : x0 < 0 ∨ (g.nonterms.length : Int) ≤ x0
    · have hcase : x0 < 0 ∨ (¬ x0 < 0 ∧ (g.nonterms.length : Int) ≤ x0) := by omega
      have HX := Lib.hid hx
      clear hx
      rcases hcase with hcase | ⟨hcase, hcase2⟩
      all_goals
        go_enter Tryd.func19, Tryd.ntmps19
        go_wp2_with (go_at_call 35; refine HCk.out.mono ?_; rintro e w2 ⟨u, rfl, hu, hb2⟩; have HB2 := Lib.hid hb2; obtain rfl := hu.nil_of HOK.out; obtain ⟨d0, d1, d2, d3⟩ := blk_cells2 (gblk_keep' HK1.out hb2); have e0 : w2.cell? ⟨0, 0, none⟩ = some (.iface 141 (.pointer (some (A 0)))) := (HE.out.below hb2).cells 0 (by omega); clear hu hb2 c0 c1 c2 c3)
        go_quiet (fail)
        go_wp2
        go_ret2
        exact ⟨_, _, rfl, pw_below_drewN (below_next HB1.out HB2.out) _, .inr (.inl ⟨HOK.out, HX.out, rfl, .sent 0 (by omega)⟩)⟩
    · have hx0 : 0 ≤ x0 := by omega
      have hxN : x0 < (g.nonterms.length : Int) := by omega
      clear hx
      have hr120 := HC.out.rules
      have hmk : ∀ W : World, (Instr.makeSlice 61 (.int .i64 ((g.nonterms.length : Nat) : Int)) (.int .i64 ((g.nonterms.length : Nat) : Int))).run Tryd.prog W = .ok (.slice (some ⟨W.heap.size, 0, none⟩) g.nonterms.length g.nonterms.length) (W.alloc (.cells (madeCells #[.slice none 0 0] g.nonterms.length) 38)) :=
        print_make_of (P := Tryd.prog) 61 38 (.slice none 0 0) 24 rfl infoIntsW rfl (by decide) g.nonterms.length (by omega)
      have hmkb : ∀ W : World, (Instr.makeSlice 60 (.int .i64 ((g.nonterms.length : Nat) : Int)) (.int .i64 ((g.nonterms.length : Nat) : Int))).run Tryd.prog W = .ok (.slice (some ⟨W.heap.size, 0, none⟩) g.nonterms.length g.nonterms.length) (W.alloc (.cells (madeCells #[.bool false] g.nonterms.length) 4)) :=
        print_make_of (P := Tryd.prog) 60 4 (.bool false) 1 rfl infoBool rfl (by decide) g.nonterms.length (by omega)
      have hmf : ∀ (fn : Fn) (first cap : Array Value) (w : World), (Instr.makeFunc fn first cap).run Tryd.prog w = .ok (.func fn first cap) w := fun _ _ _ _ => rfl
      go_enter Tryd.func19, Tryd.ntmps19
      go_upto_region 7 with (first
        | (go_at_call 35; refine HCk.out.mono ?_; rintro e w2 ⟨u, rfl, hu, hb2⟩; have HB2 := Lib.hid hb2; obtain rfl := hu.nil_of HOK.out; obtain ⟨d0, d1, d2, d3⟩ := blk_cells2 (gblk_keep' HK1.out hb2); clear hu hb2 c0 c1 c2 c3)
        | (go_at_call 48; refine (HM.out w2 HB2.out).mono ?_; rintro e w3 ⟨gm, L, rfl, hrow, hL, hgm, hb3⟩; have HRow := Lib.hid hrow; have HL := Lib.hid hL; have HB3 := Lib.hid (below_next HB2.out hb3); clear hrow hL hgm hb3 d0 d1 d2 d3))
      have hcell := HRow.out.cell x0.toNat (by omega)
      obtain ⟨n0, hn0⟩ : ∃ n, L x0.toNat = n := ⟨_, rfl⟩
      rw [hn0] at hcell
      have hn1 : -1 ≤ n0 := by rw [← hn0]; exact (HL.out.1 _ (by omega)).1
      have hn2 : n0 ≤ 65537 := by rw [← hn0]; exact (HL.out.1 _ (by omega)).2.1
      have HN0 := Lib.hid hn0
      clear hn0 hw1
      obtain ⟨c0, c1, c2, c3⟩ := blk_cells2 (gblk_keep' HK1.out HB3.out)
      have e14 : w3.cell? ⟨14, 0, none⟩ = some (.iface 141 (.pointer (some (A 14)))) := (HE.out.below HB3.out).cells 14 (by omega)
      have e11 : w3.cell? ⟨11, 0, none⟩ = some (.iface 141 (.pointer (some (A 11)))) := (HE.out.below HB3.out).cells 11 (by omega)
      by_cases hneg : n0 = -1
      · subst hneg
        go_wp2
        go_quiet (fail)
        go_wp2
        go_ret2
        exact ⟨_, _, rfl, pw_below_drewN (below_next HB1.out HB3.out) _, .inr (.inr ⟨HOK.out, hx0, hxN, L, HL.out, .inl ⟨by rw [HN0.out]; omega, rfl, .sent 14 (by omega)⟩⟩)⟩
      · by_cases hbig : n0 = 65537
        · subst hbig
          go_wp2
          go_quiet (fail)
          go_wp2
          go_ret2
          exact ⟨_, _, rfl, pw_below_drewN (below_next HB1.out HB3.out) _, .inr (.inr ⟨HOK.out, hx0, hxN, L, HL.out, .inr (.inl ⟨by rw [HN0.out]; omega, rfl, .sent 11 (by omega)⟩)⟩)⟩
        · have hz1 : (n0 == -1) = false := by rw [beq_eq_false_iff_ne]; exact hneg
          have hz2 : (n0 == 65537) = false := by rw [beq_eq_false_iff_ne]; exact hbig
          have hn3 : 0 ≤ n0 ∧ n0 ≤ 65536 := by omega
          have HN3 := Lib.hid hn3
          clear hneg hbig hn1 hn2 hn3 e14 e11
          have hlt3 : w.heap.size < w3.heap.size := World.block_lt_of_cell? w3 _ c0
          have d1 := (World.cell?_alloc_lt (w3.alloc (.cells (madeCells #[.slice none 0 0] g.nonterms.length) 38)) (.cells #[.slice (some ⟨w3.heap.size, 0, none⟩) g.nonterms.length g.nonterms.length] 61) ⟨w.heap.size, 1, none⟩ (by rw [World.size_alloc]; show w.heap.size < _; omega)).trans ((World.cell?_alloc_lt w3 (.cells (madeCells #[.slice none 0 0] g.nonterms.length) 38) ⟨w.heap.size, 1, none⟩ hlt3).trans c1)
          clear hlt3
          go_wp2
          obtain ⟨hS9, hB9⟩ := WSt.made w3 g.nonterms.length 38 61 4 60
          obtain ⟨w9, hw9⟩ : ∃ w9, ((((w3.alloc (.cells (madeCells #[.slice none 0 0] g.nonterms.length) 38)).alloc (.cells #[.slice (some ⟨w3.heap.size, 0, none⟩) g.nonterms.length g.nonterms.length] 61)).alloc (.cells (madeCells #[.bool false] g.nonterms.length) 4)).alloc (.cells #[.slice (some ⟨w3.heap.size + 1 + 1, 0, none⟩) g.nonterms.length g.nonterms.length] 60)) = w9 := ⟨_, rfl⟩
          rw [hw9] at hS9 hB9 ⊢
          have HB9 := Aside0.mk hB9
          have HGm : Hid (gm < w3.heap.size) := Lib.hid HRow.out.lt
          obtain ⟨b, hb⟩ : ∃ b, w3.heap.size = b := ⟨_, rfl⟩
          rw [hb] at hS9 ⊢
          obtain ⟨b1, e1⟩ : ∃ b1, b + 1 = b1 := ⟨_, rfl⟩
          rw [e1] at hS9 ⊢
          obtain ⟨b2, e2⟩ : ∃ b2, b1 + 1 = b2 := ⟨_, rfl⟩
          rw [e2] at hS9 ⊢
          obtain ⟨b3, e3⟩ : ∃ b3, b2 + 1 = b3 := ⟨_, rfl⟩
          rw [e3] at hS9 ⊢
          have HBq : Hid (w3.heap.size ≤ b ∧ w3.heap.size ≤ b2) := Lib.hid (by omega)
          have HS9 := Aside0.mk hS9
          clear hS9 hB9 hw9 hb e1 e2 e3 d1 c0 c1 c2 c3 hmk hmkb hmf hcell hz1 hz2
          have HSyA : Hid (∀ r ∈ g.rules, ∀ z ∈ r.2, -(g.nonterms.length : Int) ≤ z) := Lib.hid (fun r hr z hz => (HC.out.right.sym hr hz).1)
          go_loopg [11] (2 * wmeas g.nonterms.length 65568 (fun _ => none) + 1) (fun m v wr => ∃ (again : Bool) (V : Nat → Value) (W : Nat → Option (List Int)), v = .bool again ∧ Aside0 (WSt wr b b1 b2 b3 g.nonterms.length V W) ∧ Aside0 (SoundM g.rules g.nonterms.length L W) ∧ Aside0 (again = false → ∀ i, i < g.rules.length → CRm g.rules L W i) ∧ Aside0 (Below w3.heap.size w3 wr) ∧ Aside0 (m = 2 * wmeas g.nonterms.length 65568 W + (if again then 1 else 0)))
          case atStart => exact ⟨true, _, fun _ => none, rfl, HS9, ⟨fun k hk w h => by cases h⟩, ⟨fun h => by cases h⟩, HB9, ⟨rfl⟩⟩
          case round =>
            obtain ⟨again, V0, W0, rfl, HRw0, HS0, HX0, HB0, HM0⟩ := hrel
            obtain ⟨wo, rfl⟩ : ∃ wo : World, wo = wr := ⟨_, rfl⟩
            cases again
            · have HLeast : Hid (∃ u, W0 x0.toNat = some u ∧ WordIs g.rules x0.toNat u) := Lib.hid (CRm.least HL.out HS0.out HSyA.out (HX0.out rfl) (by omega) (by rw [HN0.out]; exact HN3.out.1) (by rw [HN0.out]; exact HN3.out.2))
              obtain ⟨u, hu, hwi⟩ := HLeast.out
              have hl := HRw0.out.rows.lst x0.toNat (by omega)
              have hcv := HRw0.out.rows.row.cell x0.toNat (by omega)
              have hpr := HRw0.out.pr
              rw [hu] at hl
              obtain ⟨ad, c, e1, e2, e3, e4⟩ := hl
              rw [e1] at hcv
              have HWi := Lib.hid hwi
              have HCv := Lib.hid e3
              clear hu hwi e1 e2 e3 e4
              go_wp2
              go_ret2
              exact ⟨_, _, rfl, below_next HB1.out (below_next HB3.out HB0.out), .inr (.inr ⟨HOK.out, hx0, hxN, L, HL.out, .inr (.inr ⟨by rw [HN0.out]; exact HN3.out.1, by rw [HN0.out]; exact HN3.out.2, rfl, ad, c, u, HWi.out, rfl, HCv.out⟩)⟩)⟩
            · obtain ⟨c0, c1, c2, c3⟩ := blk_cells2 (gblk_keep' HK1.out (below_next HB3.out HB0.out))
              go_wp2
              go_step3
              go_wp2
              go_step3
              go_wp2
              clear c0 c1 c2 c3
              go_loopw [11, 57] (fun a x wr => ∃ (ag : Bool) (i : Nat) (V : Nat → Value) (W : Nat → Option (List Int)), i ≤ g.rules.length ∧ a = .bool ag ∧ x = .int .i64 i ∧ Aside0 (WSt wr b b1 b2 b3 g.nonterms.length V W) ∧ Aside0 (SoundM g.rules g.nonterms.length L W) ∧ Aside0 (ag = false → ∀ j, j < i → CRm g.rules L W j) ∧ Aside0 (Below w3.heap.size w3 wr) ∧ Aside0 (wmeas g.nonterms.length 65568 W + (if ag then 1 else 0) ≤ wmeas g.nonterms.length 65568 W0)) (fun _ x _ => g.rules.length - (intOf x).toNat)
              case atStart => exact ⟨false, 0, V0, W0, by omega, rfl, rfl, HRw0, HS0, ⟨fun _ j h => by omega⟩, HB0, ⟨by simp⟩⟩
              case round =>
                obtain ⟨ag, i, V, W, hi, rfl, rfl, HRw, HSW, HXW, HBW, HMW⟩ := hrel
                obtain ⟨wi, rfl⟩ : ∃ wo : World, wo = wr := ⟨_, rfl⟩
                by_cases hlt : i < g.rules.length
                · obtain ⟨ad, x, B, c, r, rfl, k1, k2, hrc, hr, HD⟩ := at_rule (Kd.C_below HR.out (below_next HB3.out HBW.out)) i hlt
                  have hRr : Hid ((x, r) ∈ g.rules) := Lib.hid (by rw [← HD.out]; exact getD_mem g.rules i _ hlt)
                  have hx0' : 0 ≤ x := (HC.out.right.left hRr.out).1
                  have hxN' : x < g.nonterms.length := (HC.out.right.left hRr.out).2
                  have hr32 : r.length ≤ 32 := ruleN_len (HC.out.right (x, r) hRr.out)
                  obtain ⟨wb, hwb⟩ : ∃ w4, wi.alloc (.cells #[.int .i64 x, .slice B r.length c] 56) = w4 := ⟨_, rfl⟩
                  have hb4 : Below wi.heap.size wi wb := by rw [← hwb]; exact below_alloc (Below.refl _ _) _
                  have r0 : wb.cell? ⟨wi.heap.size, 0, none⟩ = some (.int .i64 x) := by rw [← hwb]; simp [go_sem]
                  have r1 : wb.cell? ⟨wi.heap.size, 1, none⟩ = some (.slice B r.length c) := by rw [← hwb]; simp [go_sem]
                  have HB4 := Aside0.mk (below_next HBW.out hb4)
                  have HRw4 := Aside0.mk (HRw.out.below hb4)
                  have HR4 := Lib.hid (Kd.C_below hr hb4)
                  have HGb : Hid (b < wb.heap.size ∧ b2 < wb.heap.size) := Lib.hid ⟨HRw4.out.rows.row.lt, HRw4.out.known.lt⟩
                  have HSy := Lib.hid (fun s (hs : s ∈ r) => HC.out.right.sym hRr.out hs)
                  have HT60 := Lib.hid HC.out.size
                  have HRow4 := Aside0.mk (HRow.out.belowN HB4.out HGm.out)
                  obtain ⟨nx, hnx⟩ : ∃ n, L x.toNat = n := ⟨_, rfl⟩
                  have hcl := HRow4.out.cell x.toNat (by omega)
                  rw [hnx] at hcl
                  have hnx2 : nx ≤ 65537 := by rw [← hnx]; exact (HL.out.1 _ (by omega)).2.1
                  have HCR : Hid (CRm g.rules L W i ↔ (0 ≤ nx → nx ≤ 65536 → ∀ q, bldM L W nx (some []) r = some q → (q.length : Int) = nx → ∃ u, W x.toNat = some u ∧ cmpL u q ≤ 0)) := Lib.hid (by unfold CRm; rw [HD.out, hnx])
                  have HNx := Lib.hid hnx
                  clear hnx hr
                  by_cases hneg : nx < 0 ∨ nx = 65537
                  · have HCl : Hid (CRm g.rules L W i) := Lib.hid (HCR.out.2 (fun h1 h2 => by omega))
                    have hcase : nx < 0 ∨ (¬ nx < 0 ∧ nx = 65537) := by omega
                    clear hneg hb4
                    rcases hcase with hcase | ⟨hcase, rfl⟩
                    all_goals
                      go_wp2
                      go_roundw
                      case rel => exact ⟨ag, i + 1, V, W, by omega, rfl, by go_num, HRw4, HSW, ⟨fun h j hj => by
                        rcases Nat.lt_or_ge j i with h' | h'
                        · exact HXW.out h j h'
                        · obtain rfl : j = i := by omega
                          exact HCl.out⟩, HB4, HMW⟩
                      case measure => simp [intOf]; omega
                  · have hnx0 : ¬ nx < 0 := by omega
                    have hnz : (nx == 65537) = false := by rw [beq_eq_false_iff_ne]; omega
                    have hnx3 : nx ≤ 65536 := by omega
                    clear hneg hnx2
                    obtain ⟨w5, hw5⟩ : ∃ w5, wb.alloc (.cells #[] 3) = w5 := ⟨_, rfl⟩
                    have HMade5 := Aside0.mk (show Made wb (.slice (some ⟨wb.heap.size, 0, none⟩) ([] : List Int).length 0) [] w5 from ⟨⟨_, 0, rfl⟩, by rw [← hw5]; exact Hand.R_lit (enc := Value.int .i64) (h1 := fun _ => rfl) 3 wb.heap.size wb [] (Nat.le_refl _) (by unfold maxLen; simp), by rw [← hw5]; exact below_alloc (Below.refl _ _) _⟩)
                    have r1b : w5.cell? ⟨wi.heap.size, 1, none⟩ = some (.slice B r.length c) := (HMade5.out.bel.cell (World.block_lt_of_cell? _ _ r1)).trans r1
                    clear hb4
                    go_wp2
                    clear hwb hw5 k1 k2 r1b
                    have hw5v : (Value.slice (some (⟨wb.heap.size, 0, none⟩ : Addr)) ([] : List Int).length 0) = .slice (some ⟨wb.heap.size, 0, none⟩) 0 0 := rfl
                    rw [hw5v] at HMade5
                    clear hw5v
                    go_loopw [14, 79] (fun y x' wr => ∃ (u : Value) (k : Nat) (p : List Int), u = y ∧ k ≤ r.length ∧ x' = .int .i64 k ∧ Hid (some p = bldM L W nx (some []) (r.take k)) ∧ p.length ≤ 65536 + k ∧ Aside0 (Made wb u p wr)) (fun _ x' _ => r.length - (intOf x').toNat)
                    case atStart => exact ⟨_, 0, [], rfl, by omega, rfl, Lib.hid rfl, by simp, ⟨HMade5.out⟩⟩
                    case round =>
                      obtain ⟨u, k, p, rfl, hk, rfl, HO, hpl, HMd⟩ := hrel
                      obtain ⟨wk, rfl⟩ : ∃ wo : World, wo = wr := ⟨_, rfl⟩
                      have r0' := (HMd.out.bel.cell (World.block_lt_of_cell? _ _ r0)).trans r0
                      have HBk := Lib.hid (below_next HB4.out HMd.out.bel)
                      have HRk := Lib.hid (HRw4.out.below HMd.out.bel)
                      have HRowk := Lib.hid (HRow.out.belowN HBk.out HGm.out)
                      have hclk := HRowk.out.cell x.toNat (by omega)
                      rw [HNx.out] at hclk
                      have hpr := HRk.out.pr
                      have hpk := HRk.out.pk
                      obtain ⟨ad3, c3', hu⟩ := HMd.out.form
                      subst hu
                      by_cases hkt : k < r.length
                      · obtain ⟨ad2, y, rfl, hcy, HY⟩ := at_scalar (Kd.C_below HR4.out HMd.out.bel) k hkt 0
                        have HYm : Hid (y ∈ r) := Lib.hid (by rw [← HY.out]; exact getD_mem r k 0 hkt)
                        have hy1 : -(g.nonterms.length : Int) ≤ y := (HSy.out y HYm.out).1
                        have hy2 : y < 4611686018427387904 := by have := (HSy.out y HYm.out).2; have := HT60.out; omega
                        have HSn : Hid (bldM L W nx (some []) (r.take (k + 1)) = buildM L W nx (some p) y) := Lib.hid (by rw [take_snocD r k 0 hkt, HY.out, bldM_snoc, ← HO.out])
                        have hp65 : p.length ≤ 65568 := by omega
                        by_cases h0 : 0 ≤ y
                        · have HE : Hid (some (p ++ [y]) = bldM L W nx (some []) (r.take (k + 1))) := Lib.hid (by rw [HSn.out]; simp [buildM, h0])
                          go_wp2_with (first
                            | ((with_reducible refine gate_builtin (b := .append) (xs := #[.tmp 93, .tmp 95]) rfl ?_); at_builtin; refine Kd.R_append (Kd.int .i64) (w0 := wb) wb.heap.size rfl (.tmp 93) (.tmp 95) 38 3 (.int .i64 0) 8 rfl Tryd.underlying38 infoInt rfl (by decide) (by omega) (.slice (some ad3) p.length c3') p y [.int .i64 y] (fun _ => True) (fun _ => False) rfl rfl rfl (fun _ hk => hk.elim) (fun _ _ => trivial) HMd.out.own HMd.out.bel HMd.out.bel.size (by have := hp65; omega) ?_; intro v1 w6 ho hb hg hat; have HM6 := Aside0.mk (Made.next HMd.out ho hb hat); clear ho hb hg hat))
                          go_roundw
                          case rel => exact ⟨v1, k + 1, _, rfl, by omega, by go_num, HE, by simp; omega, ⟨HM6.out⟩⟩
                          case measure => simp [intOf]; omega
                        · have e1 : 0 ≤ -1 - y := by omega
                          have e2 : -1 - y < (g.nonterms.length : Int) := by omega
                          have hcm := HRk.out.rows.row.cell (-1 - y).toNat (by omega)
                          have hkn := HRk.out.known.cell (-1 - y).toNat (by omega)
                          have hl := HRk.out.rows.lst (-1 - y).toNat (by omega)
                          have hcL := HRowk.out.cell (-1 - y).toNat (by omega)
                          cases hW : W (-1 - y).toNat with
                          | none =>
                            rw [hW] at hl hkn
                            have hkn' : wk.cell? ⟨b2, (-1 - y).toNat, none⟩ = some (.bool false) := hkn
                            have HCl : Hid (bldM L W nx (some []) r = none) := Lib.hid (bldM_split r (k + 1) (by rw [HSn.out]; simp [buildM, h0, hW]))
                            clear hl hW hkn hcm hcL
                            go_wp2
                            go_quiet (fail)
                            go_wp2
                            go_roundw
                            case rel => exact ⟨ag, i + 1, V, W, by omega, rfl, by go_num, ⟨HRk.out.drewN _⟩, HSW, ⟨fun h j hj => by
                              rcases Nat.lt_or_ge j i with h' | h'
                              · exact HXW.out h j h'
                              · obtain rfl : j = i := by omega
                                exact HCR.out.2 (fun _ _ q hq _ => by rw [HCl.out] at hq; cases hq)⟩, ⟨pw_below_drewN HBk.out _⟩, HMW⟩
                            case measure => simp [intOf]; omega
                          | some uw =>
                            rw [hW] at hl hkn
                            have hkn' : wk.cell? ⟨b2, (-1 - y).toNat, none⟩ = some (.bool true) := hkn
                            obtain ⟨ad4, c4, f1, f2, f3, f4⟩ := hl
                            rw [f1] at hcm
                            have hlw := (HSW.out _ (by omega) uw hW).2
                            rw [← hlw.1] at hcL
                            have hul : uw.length ≤ 65536 := by omega
                            by_cases hlen : nx < (p.length : Int) + (uw.length : Int)
                            · have HCl : Hid (bldM L W nx (some []) r = none) := Lib.hid (bldM_split r (k + 1) (by rw [HSn.out]; simp [buildM, h0, hW, ← hlw.1, hlen]))
                              clear f1 f2 f3 f4 hW hkn hcm hlw
                              go_wp2
                              go_quiet (fail)
                              go_wp2
                              go_roundw
                              case rel => exact ⟨ag, i + 1, V, W, by omega, rfl, by go_num, ⟨HRk.out.drewN _⟩, HSW, ⟨fun h j hj => by
                                rcases Nat.lt_or_ge j i with h' | h'
                                · exact HXW.out h j h'
                                · obtain rfl : j = i := by omega
                                  exact HCR.out.2 (fun _ _ q hq _ => by rw [HCl.out] at hq; cases hq)⟩, ⟨pw_below_drewN HBk.out _⟩, HMW⟩
                              case measure => simp [intOf]; omega
                            · have HE : Hid (some (p ++ uw) = bldM L W nx (some []) (r.take (k + 1))) := Lib.hid (by rw [HSn.out]; simp [buildM, h0, hW, ← hlw.1, hlen])
                              have HLn : Hid ((p ++ uw).length ≤ 65536 + (k + 1)) := Lib.hid (by rw [List.length_append]; omega)
                              have hsum : (p.length + uw.length) * 8 ≤ 140737488355328 := by omega
                              have HFu := Lib.hid f3
                              clear f1 f2 f3 f4 hW hkn hlw
                              go_wp2
                              go_quiet (fail)
                              have HMd2 := Aside0.mk (HMd.out.drewN nq)
                              have HCu := Lib.hid (Kd.C_below HFu.out (pw_below_drewN (Below.refl _ _) nq))
                              go_wp2_with (first
                                | ((with_reducible refine gate_builtin (b := .append) (xs := #[.tmp 83, .tmp 88]) rfl ?_); at_builtin; refine Kd.R_append_rows (Kd.int .i64) (w0 := wb) wb.heap.size rfl (.tmp 83) (.tmp 88) 38 3 (.int .i64 0) 8 rfl Tryd.underlying38 infoInt rfl (by decide) (by omega) (.slice (some ad3) p.length c3') p uw _ _ _ (fun _ => True) (fun _ => False) rfl rfl HMd2.out.own HCu.out (fun _ _ h => h) (fun _ h => h.elim) (fun _ _ => trivial) HMd2.out.bel HMd2.out.bel.size (by have := hsum; omega) ?_; intro v1 w6 ho hb hg hat; have HM6 := Aside0.mk (Made.next HMd2.out ho hb hat); clear ho hb hg hat))
                              go_roundw
                              case rel => exact ⟨v1, k + 1, _, rfl, by omega, by go_num, HE, HLn.out, ⟨HM6.out⟩⟩
                              case measure => simp [intOf]; omega
                      · have HQ : Hid (bldM L W nx (some []) r = some p) := Lib.hid (by rw [HO.out, List.take_of_length_le (by omega)])
                        have hcx := HRk.out.rows.row.cell x.toNat (by omega)
                        have hfx := HRk.out.rows.row.free x.toNat
                        have hkx := HRk.out.known.cell x.toNat (by omega)
                        have hgx := HRk.out.known.free x.toNat
                        by_cases heq : (p.length : Int) = nx
                        · have heqb : ((p.length : Int) == nx) = true := by rw [beq_iff_eq]; exact heq
                          have HEq := Lib.hid heq
                          have HBt := Lib.hid (better_calls HRk.out hN x hx0' hxN' (some ad3) c3' p (Kd.R_reads' HMd.out.own).2.2)
                          clear heq
                          cases hbt : betterB W x.toNat p
                          · rw [hbt] at HBt
                            have HCl : Hid (∃ u, W x.toNat = some u ∧ cmpL u p ≤ 0) := Lib.hid (by
                              unfold betterB at hbt
                              split at hbt
                              · cases hbt
                              · rename_i u hu
                                refine ⟨u, hu, ?_⟩
                                rw [cmpL_neg]
                                have := of_decide_eq_false hbt
                                omega)
                            clear hbt
                            go_wp2_with (go_at_call 49; refine HBt.out.mono ?_; rintro e w' ⟨rfl, n1, rfl⟩)
                            go_roundw
                            case rel => exact ⟨ag, i + 1, V, W, by omega, rfl, by go_num, ⟨HRk.out.drewN _⟩, HSW, ⟨fun h j hj => by
                              rcases Nat.lt_or_ge j i with h' | h'
                              · exact HXW.out h j h'
                              · obtain rfl : j = i := by omega
                                exact HCR.out.2 (fun _ _ q hq _ => by rw [HQ.out] at hq; obtain rfl := Option.some.inj hq; exact HCl.out)⟩, ⟨pw_below_drewN HBk.out _⟩, HMW⟩
                            case measure => simp [intOf]; omega
                          · rw [hbt] at HBt
                            have HPut : Hid (SoundM g.rules g.nonterms.length L (setW W x.toNat p)) := Lib.hid (HSW.out.set (r := (x, r)) (lim := nx) hRr.out (fun z hz => (HSy.out z hz).1) hx0' HQ.out (by rw [HEq.out, HNx.out]) (by rw [HNx.out]; exact hnx3))
                            have HLi := Lib.hid (HMd.out.list HGb.out.1)
                            have HLi2 := Lib.hid (HMd.out.list HGb.out.2)
                            have HMs : Hid (wmeas g.nonterms.length 65568 (setW W x.toNat p) < wmeas g.nonterms.length 65568 W) := Lib.hid (wmeas_lt (by omega) (by
                              have hd : ∀ q, WD g.rules x.toNat q → ∀ z ∈ q, 0 ≤ z ∧ z < 64 := fun q hq => hq.digits HC.out.right (by have := HT60.out; omega)
                              have hp := (HPut.out x.toNat (by omega) p setW_same).1
                              refine rankW_lt (hd p hp) (by omega) (fun u hu => ?_)
                              obtain ⟨g1, g2, g3⟩ := HSW.out x.toNat (by omega) u hu
                              refine ⟨hd u g1, by omega, .inr ⟨?_, ?_⟩⟩
                              · have := HEq.out; have := HNx.out; omega
                              · unfold betterB at hbt
                                rw [hu] at hbt
                                exact of_decide_eq_true hbt))
                            clear hbt
                            go_wp2_with (go_at_call 49; refine HBt.out.mono ?_; rintro e w' ⟨rfl, n1, rfl⟩)
                            have hset : ((wk.drewN (n1 + 1)).setCell ⟨b, x.toNat, none⟩ (.slice (some ad3) p.length c3')).cell? ⟨b2, x.toNat, none⟩ = some (.bool (W x.toNat).isSome) := by
                              rw [World.cell?_setCell_other _ _ _ _ (by intro e; injection e with e; exact HRk.out.ne.2.2.2.2 e)]
                              exact (HRk.out.drewN (n1 + 1)).known.cell x.toNat (by omega)
                            have hset2 : ((wk.drewN (n1 + 1)).setCell ⟨b, x.toNat, none⟩ (.slice (some ad3) p.length c3')).cell? ⟨b3, 0, none⟩ = some (.slice (some ⟨b2, 0, none⟩) g.nonterms.length g.nonterms.length) := by
                              rw [World.cell?_setCell_other _ _ _ _ (by intro e; injection e with e; exact HRk.out.ne.2.2.1 e.symm)]
                              exact (HRk.out.drewN (n1 + 1)).pk
                            have hset3 : ((wk.drewN (n1 + 1)).setCell ⟨b, x.toNat, none⟩ (.slice (some ad3) p.length c3')).cell? ⟨wi.heap.size, 0, none⟩ = some (.int .i64 x) := by
                              rw [World.cell?_setCell_other _ _ _ _ (by intro e; injection e with e; have := HRw.out.rows.row.lt; omega)]
                              exact ((pw_below_drewN (Below.refl wk.heap.size wk) (n1 + 1)).cell (World.block_lt_of_cell? _ _ r0')).trans r0'
                            go_region
                            go_wp2
                            go_roundw
                            case rel => exact ⟨true, i + 1, _, setW W x.toNat p, by omega, rfl, by go_num, ⟨(HRk.out.drewN _).put (by omega) (HLi.out.below (pw_below_drewN (Below.refl _ _) _)) (HLi2.out.below (pw_below_drewN (Below.refl _ _) _))⟩, ⟨HPut.out⟩, ⟨fun h => by cases h⟩, ⟨((pw_below_drewN HBk.out _).setCell HBq.out.1 _).setCell HBq.out.2 _⟩, ⟨by have := HMW.out; have := HMs.out; simp only [if_true]; omega⟩⟩
                            case measure => simp [intOf]; omega
                        · have heqb : ((p.length : Int) == nx) = false := by rw [beq_eq_false_iff_ne]; exact heq
                          have HEq := Lib.hid heq
                          clear heq
                          go_wp2
                          go_roundw
                          case rel => exact ⟨ag, i + 1, V, W, by omega, rfl, by go_num, ⟨HRk.out⟩, HSW, ⟨fun h j hj => by
                            rcases Nat.lt_or_ge j i with h' | h'
                            · exact HXW.out h j h'
                            · obtain rfl : j = i := by omega
                              exact HCR.out.2 (fun _ _ q hq hl => by rw [HQ.out] at hq; obtain rfl := Option.some.inj hq; exact absurd hl HEq.out)⟩, ⟨HBk.out⟩, HMW⟩
                          case measure => simp [intOf]; omega
                · obtain rfl : i = g.rules.length := by omega
                  go_wp2
                  rw [Exit.noGoto_normal]
                  go_wp2
                  go_roundg (2 * wmeas g.nonterms.length 65568 W + (if ag then 1 else 0))
                  case rel => exact ⟨ag, V, W, rfl, HRw, HSW, HXW, HBW, ⟨rfl⟩⟩
                  case measure => have h1 := HMW.out; have h2 := HM0.out; simp at h2; cases ag <;> simp at h1 ⊢ <;> omega
  · have HOK := Lib.hid hok
    clear hok
    go_enter Tryd.func19, Tryd.ntmps19
    go_wp2_with (go_at_call 35; refine HCk.out.mono ?_; rintro e w2 ⟨u, rfl, hu, hb2⟩; have HU2 := Lib.hid hu; have HB2 := Lib.hid hb2; obtain ⟨T, p, hT, rfl⟩ := hu.iface_of HOK.out; clear hu hb2 hT)
    go_ret2
    exact ⟨_, _, rfl, below_next HB1.out HB2.out, .inl ⟨HOK.out, rfl, HU2.out⟩⟩
end Go.Proofs.YtagcmhnanngfbaaDoor.Hand
/- Plain facts for UsefulRows: shortest words are derived, no rule leads to a shorter one. -/
namespace Go.Proofs.YtagcmhnanngfbaaDoor.Hand
open Go.RowKit Go.Proofs.YtagcmhnanngfbaaDoorW.PrintWords Go.Proofs.YtagcmhnanngfbaaDoorW.PrintMore Go.Proofs.YtagcmhnanngfbaaDoor.Math

theorem WS.seqD {R : List (Int × List Int)} {tk l w : List Int} (h : WS R l w) : ∀ i, (∀ p, p < w.length → i + p < tk.length ∧ tk.getD (i + p) 0 = w.getD p 0) → SeqD R tk l i (i + w.length) := by
  induction h with
  | nil => intro i _; exact .nil i
  | tok h0 hw ih =>
    rename_i k l w
    intro i hp
    have h1 := hp 0 (by simp)
    rw [Nat.add_zero] at h1
    have h2 := ih (i + 1) (fun p hq => by
      have := hp (p + 1) (by simp; omega)
      rw [show i + 1 + p = i + (p + 1) by omega]
      exact ⟨this.1, by rw [this.2]; simp⟩)
    rw [show i + (k :: w).length = i + 1 + w.length by simp; omega]
    exact .term h0 h1.1 (by rw [h1.2]; simp) h2
  | nt h0 r hr hl hu hw ih1 ih2 =>
    rename_i k l w u
    intro i hp
    have h1 := ih1 i (fun p hq => by
      have := hp p (by rw [List.length_append]; omega)
      exact ⟨this.1, by rw [this.2, List.getD_eq_getElem?_getD, List.getElem?_append_left hq, ← List.getD_eq_getElem?_getD]⟩)
    have h2 := ih2 (i + u.length) (fun p hq => by
      have := hp (u.length + p) (by rw [List.length_append]; omega)
      rw [show i + u.length + p = i + (u.length + p) by omega]
      exact ⟨this.1, by rw [this.2, List.getD_eq_getElem?_getD, List.getElem?_append_right (by omega), Nat.add_sub_cancel_left, ← List.getD_eq_getElem?_getD]⟩)
    rw [List.length_append, ← Nat.add_assoc]
    exact .non r h0 hr hl h1 h2
theorem WD.der {R : List (Int × List Int)} {k : Nat} {w : List Int} (h : WD R k w) : Der R w k 0 w.length := by
  obtain ⟨r, hr, hl, hs⟩ := h
  have := hs.seqD (tk := w) 0 (fun p hp => ⟨by omega, by rw [Nat.zero_add]⟩)
  rw [Nat.zero_add] at this
  exact ⟨r, hr, hl, this⟩
theorem WS.prod {R : List (Int × List Int)} {l w : List Int} (hR : ∀ r ∈ R, 0 ≤ r.1) (h : WS R l w) : AllIn (PD R) l := by
  induction h with
  | nil => intro s hs; cases hs
  | tok h0 _ ih =>
    intro s hs hn
    rcases List.mem_cons.1 hs with rfl | hs
    · omega
    · exact ih s hs hn
  | nt h0 r hr hl _ _ ih1 ih2 =>
    intro s hs hn
    rcases List.mem_cons.1 hs with rfl | hs
    · have := PD.mk r hr ih1
      rwa [hl] at this
    · exact ih2 s hs hn
theorem WD.prod {R : List (Int × List Int)} {k : Nat} {w : List Int} (hR : ∀ r ∈ R, 0 ≤ r.1) (h : WD R k w) : PD R k := by
  obtain ⟨r, hr, hl, hs⟩ := h
  have := PD.mk r hr (hs.prod hR)
  rwa [hl, Int.toNat_natCast] at this
theorem LenIs.rule {R : List (Int × List Int)} {t N : Nat} {L : Nat → Int} (h : LenIs R N L) (hR : RulesIn t N R) {r : Int × List Int} (hr : r ∈ R) (hs : 0 ≤ sumL L r.2) : 0 ≤ L r.1.toNat ∧ L r.1.toNat ≤ sumL L r.2 := by
  have hl := hR.left hr
  obtain ⟨w, hw, he⟩ := sumL_sound h.1 (fun z hz => (hR.sym hr hz).1) hs
  have := h.2 r.1.toNat (by omega) w ⟨r, hr, by omega, hw⟩
  rw [he]; exact this
theorem sumA_all {L : Nat → Int} : ∀ {l : List Int} {s : Int}, 0 ≤ s → AllIn (fun k => 0 ≤ L k) l → 0 ≤ sumA L s l
  | [], s, h, _ => h
  | k :: l, s, h, hl => by
    show 0 ≤ sumA L (stepL L s k) l
    refine sumA_all ?_ (fun x hx => hl x (List.mem_cons_of_mem _ hx))
    unfold stepL
    rw [if_neg (by omega)]
    have : ¬ (if k < 0 then L (-1 - k).toNat else 1) < 0 := by
      split
      · rename_i h0; have := hl k (List.mem_cons_self ..) h0; omega
      · omega
    rw [if_neg this]
    omega
theorem LenIs.prod {R : List (Int × List Int)} {t N : Nat} {L : Nat → Int} (h : LenIs R N L) (hR : RulesIn t N R) {k : Nat} (hk : k < N) : PD R k ↔ 0 ≤ L k := by
  constructor
  · intro hp
    exact PD.closed (S := fun k => 0 ≤ L k) (fun r hr ha => (h.rule hR hr (sumA_all (by omega) ha)).1) hp
  · intro h0
    obtain ⟨w, hw, _⟩ := (h.1 k hk).2.2 h0
    exact hw.prod (fun r hr => (hR.left hr).1)
theorem LenIs.word {R : List (Int × List Int)} {N : Nat} {L : Nat → Int} (h : LenIs R N L) {k : Nat} (hk : k < N) {q : List Int} (hq : WordIs R k q) (h0 : 0 ≤ L k) (h1 : L k ≤ 65536) : (q.length : Int) = L k := by
  obtain ⟨w, hw, he⟩ := (h.1 k hk).2.2 h0
  have h2 := sle_len (hq.2 w hw)
  have h3 := (h.2 k hk q hq.1).2
  unfold capL at he h3
  split at he <;> split at h3 <;> omega
/-- The law's own sum: one symbol more. -/
def stepS (L : Nat → Int) (s k : Int) : Int := if s < 0 then s else if 0 ≤ k then s + 1 else if L (-1 - k).toNat < 0 then -1 else if s + L (-1 - k).toNat < 65537 then s + L (-1 - k).toNat else 65537
def sumS (L : Nat → Int) (l : List Int) : Int := l.foldl (stepS L) 0
theorem sumS_snoc (L : Nat → Int) (l : List Int) (k : Int) : sumS L (l ++ [k]) = stepS L (sumS L l) k := by simp [sumS]
theorem sumS_ge (L : Nat → Int) (l : List Int) : -1 ≤ sumS L l ∧ sumS L l ≤ 65537 + l.length := by
  refine ntN_rec (p := fun l => -1 ≤ sumS L l ∧ sumS L l ≤ 65537 + l.length) (by simp [sumS]) (fun l k ih => ?_) l
  rw [sumS_snoc, List.length_append]
  unfold stepS
  simp only [List.length_singleton]
  split
  · omega
  · split
    · omega
    · split
      · omega
      · split <;> omega
theorem sumS_neg {L : Nat → Int} {l : List Int} {s : Int} (hs : s < 0) : l.foldl (stepS L) s = s := by
  induction l with
  | nil => rfl
  | cons k l ih => rw [List.foldl_cons, show stepS L s k = s by unfold stepS; rw [if_pos hs]]; exact ih
theorem sumS_stop {L : Nat → Int} {l : List Int} {k : Nat} (h : sumS L (l.take k) < 0) : sumS L l < 0 := by
  have e : sumS L l = (l.drop k).foldl (stepS L) (sumS L (l.take k)) := by
    unfold sumS; rw [← List.foldl_append, List.take_append_drop]
  rw [e, sumS_neg h]; exact h
theorem sumS_sum (L : Nat → Int) (l : List Int) : 0 ≤ sumS L l → 0 ≤ sumL L l ∧ sumL L l ≤ sumS L l := by
  refine ntN_rec (p := fun l => 0 ≤ sumS L l → 0 ≤ sumL L l ∧ sumL L l ≤ sumS L l) (by simp [sumS, sumL, sumA]) (fun l k ih => ?_) l
  rw [sumS_snoc, sumL_snoc]
  unfold stepS stepL
  by_cases h0 : sumS L l < 0
  · rw [if_pos h0]; intro h; omega
  · rw [if_neg h0]
    have ih := ih (by omega)
    by_cases h1 : 0 ≤ k
    · rw [if_pos h1, if_neg (by omega), if_neg (by omega : ¬ k < 0)]; intro h; omega
    · rw [if_neg h1, if_neg (by omega : ¬ sumL L l < 0)]
      by_cases h2 : L (-1 - k).toNat < 0
      · rw [if_pos h2]; intro h; omega
      · rw [if_neg h2, if_pos (by omega : k < 0), if_neg h2]
        split <;> intro h <;> omega
end Go.Proofs.YtagcmhnanngfbaaDoor.Hand
/- Small contracts for UsefulRows: few; Word by the length that is known. -/
namespace Go.Proofs.YtagcmhnanngfbaaDoor.Hand
open Go.RowKit Go.Proofs.YtagcmhnanngfbaaDoorW.PrintWords Go.Proofs.YtagcmhnanngfbaaDoorW.PrintMore Go.Proofs.YtagcmhnanngfbaaDoor.Math

def fewB (g : Gr) (n : Nat) : Bool := decide (n ≤ 8) && decide (g.rules.length ≤ 24) && g.rules.all (fun r => decide (r.2.length ≤ 5))
theorem fewB_le {g : Gr} {n : Nat} (h : fewB g n = true) : n ≤ 8 := by unfold fewB at h; simp at h; exact h.1.1
theorem fewB_no {g : Gr} {n i : Nat} (hi : i < g.rules.length) (h : 5 < (g.rules.getD i (0, [])).2.length) : fewB g n = false := by
  rw [← Bool.not_eq_true]
  intro hb
  unfold fewB at hb
  simp only [Bool.and_eq_true, List.all_eq_true, decide_eq_true_eq] at hb
  have := hb.2 _ (getD_mem g.rules i (0, []) hi)
  omega
theorem fewB_yes {g : Gr} {n : Nat} (h8 : n ≤ 8) (h24 : g.rules.length ≤ 24) (h : ∀ i, i < g.rules.length → (g.rules.getD i (0, [])).2.length ≤ 5) : fewB g n = true := by
  unfold fewB
  simp only [Bool.and_eq_true, List.all_eq_true, decide_eq_true_eq]
  refine ⟨⟨h8, h24⟩, fun r hr => ?_⟩
  obtain ⟨i, hi, rfl⟩ := List.getElem_of_mem hr
  have := h i hi
  rwa [List.getD_eq_getElem?_getD, List.getElem?_eq_getElem hi, Option.getD_some] at this
set_option maxHeartbeats 1000000 in
theorem few_calls (v : Value) (g : Gr) (At : Option Addr) (ct n : Nat) (w : World) (hn : n ≤ 9223372036854775807) (hv : GramAt w v g) :
    Calls Tryd.prog 26 #[v, .slice At n ct] w fun e w' => e = .returned (.bool (fewB g n)) ∧ Below w.heap.size w w' := by
  obtain ⟨AT, cT, AN, cN, AR, cR, rfl, q1, q2, q3, q4, q5, q6⟩ := hv
  have hlr := q6.2.1
  obtain ⟨w1, hw1⟩ : ∃ w1, w.alloc (.cells #[.slice AT g.terms.length cT, .slice AN g.nonterms.length cN, .int .i64 g.ax, .slice AR g.rules.length cR] 25) = w1 := ⟨_, rfl⟩
  have hb1 : Below w.heap.size w w1 := by rw [← hw1]; exact below_alloc (Below.refl _ _) _
  have hk1 : w1.heap[w.heap.size]? = some (.cells #[.slice AT g.terms.length cT, .slice AN g.nonterms.length cN, .int .i64 g.ax, .slice AR g.rules.length cR] 25 (0, 0)) := by rw [← hw1]; exact heap_alloc_new w _
  obtain ⟨c0, c1, c2, c3⟩ := blk_cells2 hk1
  have HB1 := Lib.hid hb1
  have HR := Lib.hid (Kd.C_below q6 hb1)
  clear hb1 hk1 q4 q5 q6
  by_cases h8 : 8 < n
  · have HE : Hid (fewB g n = false) := Lib.hid (by rw [← Bool.not_eq_true]; intro h; have := fewB_le h; omega)
    go_enter Tryd.func26, Tryd.ntmps26
    go_wp2
    go_ret
    exact ⟨ret_bool HE.out.symm, HB1.out⟩
  · have H8 := Lib.hid (show n ≤ 8 by omega)
    by_cases h24 : 24 < g.rules.length
    · have HE : Hid (fewB g n = false) := Lib.hid (by unfold fewB; rw [decide_eq_false (p := g.rules.length ≤ 24) (by omega)]; simp)
      go_enter Tryd.func26, Tryd.ntmps26
      go_wp2
      go_ret
      exact ⟨ret_bool HE.out.symm, HB1.out⟩
    · go_enter Tryd.func26, Tryd.ntmps26
      go_wp2
      go_loop [5] (fun x => ∃ i : Nat, i ≤ g.rules.length ∧ x = .int .i64 i ∧ Hid (∀ k, k < i → (g.rules.getD k (0, [])).2.length ≤ 5)) (fun x => g.rules.length - (intOf x).toNat)
      case atStart => exact ⟨0, by omega, rfl, Lib.hid (fun k h => by omega)⟩
      case round =>
        obtain ⟨i, hi, rfl, HX⟩ := hrel
        by_cases hlt : i < g.rules.length
        · obtain ⟨ad, x', B, c, r, rfl, k1, k2, hrc, hr, HDr⟩ := at_rule HR.out i hlt
          have hrl := hr.2.1
          clear hr
          by_cases h5 : 5 < r.length
          · have HE : Hid (fewB g n = false) := Lib.hid (fewB_no hlt (by rw [HDr.out]; exact h5))
            go_wp2
            go_ret
            exact ⟨ret_bool HE.out.symm, HB1.out⟩
          · go_wp2
            go_round
            case rel => exact ⟨i + 1, by omega, by go_num, Lib.hid (fun k hk => by
              rcases Nat.lt_or_ge k i with h' | h'
              · exact HX.out k h'
              · obtain rfl : k = i := by omega
                rw [HDr.out]; show r.length ≤ 5; omega)⟩
            case measure => simp [intOf]; omega
        · go_wp2
          go_ret
          exact ⟨ret_bool (fewB_yes H8.out (by omega) (fun k hk => HX.out k (by omega))).symm, HB1.out⟩
theorem ShortRes.bad {w0 w' : World} {A : Nat → Addr} {g : Gr} {e : Ending} (h : ShortRes w0 A g e w') (hok : ¬ (checkN g).1 = 0) : ∃ u, e = .returned (.tuple #[.slice none 0 0, u]) ∧ ErrV w' A u (checkN g).1 (checkN g).2 ∧ Below w0.heap.size w0 w' := by
  rcases h with ⟨u, h1, _, h2⟩ | ⟨gm, L, _, h, _⟩
  · exact ⟨u, h1, h2⟩
  · exact absurd h hok
theorem ShortRes.ok {w0 w' : World} {A : Nat → Addr} {g : Gr} {e : Ending} (h : ShortRes w0 A g e w') (hok : (checkN g).1 = 0) : ∃ gm L, e = .returned (.tuple #[.slice (some ⟨gm, 0, none⟩) g.nonterms.length g.nonterms.length, .nilIface]) ∧ Row w' gm g.nonterms.length (fun q => .int .i64 (L q)) ∧ LenIs g.rules g.nonterms.length L ∧ w0.heap.size ≤ gm ∧ Below w0.heap.size w0 w' := by
  rcases h with ⟨u, _, h, _⟩ | ⟨gm, L, h1, _, h3⟩
  · exact absurd hok h
  · exact ⟨gm, L, h1, h3⟩
theorem uword_neg (v : Value) (g : Gr) (x : Nat) (w : World) (A : Nat → Addr) (hE : Errs w A) (hv : GramAt w v g) (hok : (checkN g).1 = 0) (hx : x < g.nonterms.length) {L : Nat → Int} (hL : LenIs g.rules g.nonterms.length L) (h : L x < 0) :
    Calls Tryd.prog 19 #[v, .int .i64 x] w fun e w' => ∃ u, e = .returned (.tuple #[.slice none 0 0, u]) ∧ ErrV w' A u 15 (-1) ∧ Below w.heap.size w w' := by
  refine (uword_calls v g x w A hE hv).mono ?_
  rintro e w' ⟨v', u, rfl, hb, h1⟩
  rcases h1 with ⟨h1, h2, h3⟩ | ⟨h1, h2, h3, h4⟩ | ⟨h1, h2, h3, L', hL', h4⟩
  · exact absurd hok h1
  · omega
  · have e := hL.eq hL' (k := x) hx
    rcases h4 with ⟨i1, i2, i3⟩ | ⟨i1, i2, i3⟩ | ⟨i1, i2, i3, _⟩ <;> simp only [Int.toNat_natCast] at i1
    · exact ⟨u, by rw [i2], i3, hb⟩
    · omega
    · simp only [Int.toNat_natCast] at i2; omega
theorem uword_big (v : Value) (g : Gr) (x : Nat) (w : World) (A : Nat → Addr) (hE : Errs w A) (hv : GramAt w v g) (hok : (checkN g).1 = 0) (hx : x < g.nonterms.length) {L : Nat → Int} (hL : LenIs g.rules g.nonterms.length L) (h : 65536 < L x) :
    Calls Tryd.prog 19 #[v, .int .i64 x] w fun e w' => ∃ u, e = .returned (.tuple #[.slice none 0 0, u]) ∧ ErrV w' A u 12 (-1) ∧ Below w.heap.size w w' := by
  refine (uword_calls v g x w A hE hv).mono ?_
  rintro e w' ⟨v', u, rfl, hb, h1⟩
  rcases h1 with ⟨h1, h2, h3⟩ | ⟨h1, h2, h3, h4⟩ | ⟨h1, h2, h3, L', hL', h4⟩
  · exact absurd hok h1
  · omega
  · have e := hL.eq hL' (k := x) hx
    rcases h4 with ⟨i1, i2, i3⟩ | ⟨i1, i2, i3⟩ | ⟨i1, i2, i3, _⟩ <;> simp only [Int.toNat_natCast] at i1
    · omega
    · exact ⟨u, by rw [i2], i3, hb⟩
    · simp only [Int.toNat_natCast] at i2; omega
theorem uword_mid (v : Value) (g : Gr) (x : Nat) (w : World) (A : Nat → Addr) (hE : Errs w A) (hv : GramAt w v g) (hok : (checkN g).1 = 0) (hx : x < g.nonterms.length) {L : Nat → Int} (hL : LenIs g.rules g.nonterms.length L) (h : 0 ≤ L x) (h' : L x ≤ 65536) :
    Calls Tryd.prog 19 #[v, .int .i64 x] w fun e w' => ∃ ad c q, e = .returned (.tuple #[.slice (some ad) q.length c, .nilIface]) ∧ (q.length : Int) = L x ∧ Der g.rules q x 0 q.length ∧ Kd.C (Kd.int .i64) w' (some ad) q.length q ∧ Below w.heap.size w w' := by
  refine (uword_calls v g x w A hE hv).mono ?_
  rintro e w' ⟨v', u, rfl, hb, h1⟩
  rcases h1 with ⟨h1, h2, h3⟩ | ⟨h1, h2, h3, h4⟩ | ⟨h1, h2, h3, L', hL', h4⟩
  · exact absurd hok h1
  · omega
  · have e := hL.eq hL' (k := x) hx
    rcases h4 with ⟨i1, i2, i3⟩ | ⟨i1, i2, i3⟩ | ⟨i1, i2, i3, ad, c, q, i4, i5, i6⟩ <;> simp only [Int.toNat_natCast] at i1
    · omega
    · omega
    · rw [Int.toNat_natCast] at i4
      exact ⟨ad, c, q, by rw [i5, i3], hL.word hx i4 h h', i4.1.der, i6, hb⟩
end Go.Proofs.YtagcmhnanngfbaaDoor.Hand
