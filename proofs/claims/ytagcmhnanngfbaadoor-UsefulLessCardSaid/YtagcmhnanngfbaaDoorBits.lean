/- Plain laws of bits: how many bits of a number are set, byte by byte, as the library's OnesCount64 reckons it; the numbers of a set; low parts. -/
import Derived.Test.YtagcmhnanngfbaaDoorMath
namespace Go.Proofs.YtagcmhnanngfbaaDoor.Math
open Go.RowKit

def pc : Nat → Nat → Nat
  | 0, _ => 0
  | n + 1, x => x % 2 + pc n (x / 2)
def mk (b : Nat) : Nat → Nat
  | 0 => 0
  | n + 1 => mk b n * 256 + b
def s1 (n x : Nat) : Nat := (x / 2 &&& mk 85 n) + (x &&& mk 85 n)
def s2 (n x : Nat) : Nat := (x / 4 &&& mk 51 n) + (x &&& mk 51 n)
def s3 (n x : Nat) : Nat := (x / 16 + x) &&& mk 15 n

theorem and_split (a b c d : Nat) (hb : b < 256) (hd : d < 256) : (a * 256 + b) &&& (c * 256 + d) = (a &&& c) * 256 + (b &&& d) := by
  have hbd : b &&& d < 256 := Nat.lt_of_le_of_lt Nat.and_le_left hb
  have h : ∀ a b : Nat, b < 256 → ∀ j, (a * 256 + b).testBit j = if j < 8 then b.testBit j else a.testBit (j - 8) := by
    intro a b hb j
    have := Nat.testBit_two_pow_mul_add a (b := b) (i := 8) (by simpa using hb) j
    rw [show 2 ^ 8 * a = a * 256 by omega] at this
    exact this
  apply Nat.eq_of_testBit_eq
  intro j
  rw [Nat.testBit_and, h _ _ hb, h _ _ hd, h _ _ hbd]
  by_cases hj : j < 8
  · simp [hj]
  · simp [hj]

theorem byte1 : ∀ c, c < 2 → ∀ r, r < 256 → ((c * 128 + r / 2) &&& 85 = (r / 2 &&& 85)) ∧ (r / 2 &&& 85) + (r &&& 85) < 256 := by decide +kernel
theorem byte2 : ∀ c, c < 4 → ∀ r', r' < 256 → ((c * 64 + s1 1 r' / 4) &&& 51 = (s1 1 r' / 4 &&& 51)) ∧ (s1 1 r' / 4 &&& 51) + (s1 1 r' &&& 51) < 69 ∧ ((s1 1 r' / 4 &&& 51) + (s1 1 r' &&& 51)) % 16 ≤ 4 := by decide +kernel
theorem byte3 : ∀ c, c < 5 → ∀ r, r < 69 → r % 16 ≤ 4 → ((c * 16 + r / 16 + r) &&& 15 = ((r / 16 + r) &&& 15)) := by decide +kernel
theorem bytes : ∀ r, r < 256 → ((((s2 1 (s1 1 r)) / 16 + s2 1 (s1 1 r)) &&& 15) = pc 8 r) := by decide +kernel

theorem s1_step (n q r : Nat) (hr : r < 256) : s1 (n + 1) (q * 256 + r) = s1 n q * 256 + s1 1 r ∧ s1 1 r < 256 := by
  have h := byte1 (q % 2) (by omega) r hr
  have e : (q * 256 + r) / 2 = q / 2 * 256 + (q % 2 * 128 + r / 2) := by omega
  have e1 : s1 1 r = (r / 2 &&& 85) + (r &&& 85) := by simp [s1, mk]
  refine ⟨?_, by rw [e1]; exact h.2⟩
  rw [e1]
  show ((q * 256 + r) / 2 &&& (mk 85 n * 256 + 85)) + ((q * 256 + r) &&& (mk 85 n * 256 + 85)) = ((q / 2 &&& mk 85 n) + (q &&& mk 85 n)) * 256 + ((r / 2 &&& 85) + (r &&& 85))
  rw [e, and_split _ _ _ _ (by omega) (by omega), and_split _ _ _ _ hr (by omega), h.1]
  omega
theorem s2_step (n q r' : Nat) (hr' : r' < 256) : s2 (n + 1) (q * 256 + s1 1 r') = s2 n q * 256 + s2 1 (s1 1 r') ∧ s2 1 (s1 1 r') < 69 ∧ s2 1 (s1 1 r') % 16 ≤ 4 := by
  have h := byte2 (q % 4) (by omega) r' hr'
  have hr := (s1_step 0 0 r' hr').2
  generalize s1 1 r' = r at *
  have e : (q * 256 + r) / 4 = q / 4 * 256 + (q % 4 * 64 + r / 4) := by omega
  have e1 : s2 1 r = (r / 4 &&& 51) + (r &&& 51) := by simp [s2, mk]
  refine ⟨?_, by rw [e1]; omega, by rw [e1]; exact h.2.2⟩
  rw [e1]
  show ((q * 256 + r) / 4 &&& (mk 51 n * 256 + 51)) + ((q * 256 + r) &&& (mk 51 n * 256 + 51)) = ((q / 4 &&& mk 51 n) + (q &&& mk 51 n)) * 256 + ((r / 4 &&& 51) + (r &&& 51))
  rw [e, and_split _ _ _ _ (by omega) (by omega), and_split _ _ _ _ hr (by omega), h.1]
  omega
theorem s3_step (n q r : Nat) (hq : q % 16 ≤ 4) (hr : r < 69) (hr2 : r % 16 ≤ 4) : s3 (n + 1) (q * 256 + r) = s3 n q * 256 + ((r / 16 + r) &&& 15) := by
  have h := byte3 (q % 16) (by omega) r hr hr2
  have e : (q * 256 + r) / 16 + (q * 256 + r) = (q / 16 + q) * 256 + (q % 16 * 16 + r / 16 + r) := by omega
  show ((q * 256 + r) / 16 + (q * 256 + r)) &&& (mk 15 n * 256 + 15) = _
  rw [e, and_split _ _ _ _ (by omega) (by omega), h]
  rfl
theorem s1_zero : s1 0 0 = 0 := rfl
theorem s2_zero : s2 0 0 = 0 := rfl
theorem s2_low (n x : Nat) (hx : x < 256 ^ n) : s2 n (s1 n x) % 16 ≤ 4 := by
  cases n with
  | zero => simp at hx; subst hx; decide
  | succ n =>
    have h1 := s1_step n (x / 256) (x % 256) (by omega)
    rw [show x / 256 * 256 + x % 256 = x by omega] at h1
    have h := s2_step n (s1 n (x / 256)) (x % 256) (by omega)
    rw [h1.1]
    omega
/-- The three steps, a byte at a time: each byte becomes the number of its bits. -/
def bytesOfPc : Nat → Nat → Nat
  | 0, _ => 0
  | n + 1, x => bytesOfPc n (x / 256) * 256 + pc 8 (x % 256)
theorem steps_bytes : ∀ (n x : Nat), x < 256 ^ n → s3 n (s2 n (s1 n x)) = bytesOfPc n x
  | 0, x, h => by simp at h; subst h; decide
  | n + 1, x, h => by
    have hx : x / 256 < 256 ^ n := by rw [Nat.pow_succ] at h; omega
    have h1 := s1_step n (x / 256) (x % 256) (by omega)
    rw [show x / 256 * 256 + x % 256 = x by omega] at h1
    have h2 := s2_step n (s1 n (x / 256)) (x % 256) (by omega)
    rw [h1.1, h2.1, s3_step n _ _ (s2_low n _ hx) h2.2.1 h2.2.2, steps_bytes n _ hx, bytes _ (by omega)]
    rfl
theorem pc_le : ∀ n x, pc n x ≤ n
  | 0, _ => Nat.le_refl _
  | n + 1, x => by have := pc_le n (x / 2); show x % 2 + pc n (x / 2) ≤ n + 1; omega
theorem pc_add : ∀ m n x, pc (m + n) x = pc m (x % 2 ^ m) + pc n (x / 2 ^ m)
  | 0, n, x => by simp [pc]
  | m + 1, n, x => by
    rw [show m + 1 + n = (m + n) + 1 by omega]
    show x % 2 + pc (m + n) (x / 2) = (x % 2 ^ (m + 1)) % 2 + pc m (x % 2 ^ (m + 1) / 2) + pc n (x / 2 ^ (m + 1))
    rw [pc_add m n (x / 2), Nat.div_div_eq_div_mul, Nat.pow_succ, Nat.mul_comm 2 (2 ^ m), Nat.mod_mul_left_div_self, Nat.mod_mul_left_mod]
    omega
def fold1 (y : Nat) : Nat := y + y / 256
def fold2 (y : Nat) : Nat := y + y / 65536
def fold3 (y : Nat) : Nat := y + y / 4294967296
theorem div_of (y lo m R : Nat) (h : y = lo + m * R) (hl : lo < m) : y / m = R := by
  subst h
  rw [Nat.add_mul_div_left _ _ (by omega), Nat.div_eq_of_lt hl]; omega
theorem lin1 (c0 c1 c2 c3 c4 c5 c6 c7 : Nat) : ((((((((0 * 256 + c7) * 256 + c6) * 256 + c5) * 256 + c4) * 256 + c3) * 256 + c2) * 256 + c1) * 256 + c0) = c0 + 256 * (c1 + 256 * c2 + 65536 * c3 + 16777216 * c4 + 4294967296 * c5 + 1099511627776 * c6 + 281474976710656 * c7) := by omega
theorem lin2 (c0 c1 c2 c3 c4 c5 c6 c7 : Nat) : c0 + 256 * (c1 + 256 * c2 + 65536 * c3 + 16777216 * c4 + 4294967296 * c5 + 1099511627776 * c6 + 281474976710656 * c7) + (c1 + 256 * c2 + 65536 * c3 + 16777216 * c4 + 4294967296 * c5 + 1099511627776 * c6 + 281474976710656 * c7) = ((c0 + c1) + 256 * (c1 + c2)) + 65536 * ((c2 + c3) + 256 * (c3 + c4) + 65536 * (c4 + c5) + 16777216 * (c5 + c6) + 4294967296 * (c6 + c7) + 1099511627776 * c7) := by omega
theorem lin3 (c0 c1 c2 c3 c4 c5 c6 c7 : Nat) : ((c0 + c1) + 256 * (c1 + c2)) + 65536 * ((c2 + c3) + 256 * (c3 + c4) + 65536 * (c4 + c5) + 16777216 * (c5 + c6) + 4294967296 * (c6 + c7) + 1099511627776 * c7) + ((c2 + c3) + 256 * (c3 + c4) + 65536 * (c4 + c5) + 16777216 * (c5 + c6) + 4294967296 * (c6 + c7) + 1099511627776 * c7) = ((c0 + c1 + c2 + c3) + 256 * (c1 + c2 + c3 + c4) + 65536 * (c2 + c3 + c4 + c5) + 16777216 * (c3 + c4 + c5 + c6)) + 4294967296 * ((c4 + c5 + c6 + c7) + 256 * (c5 + c6 + c7) + 65536 * (c6 + c7) + 16777216 * c7) := by omega
theorem lin4 (c0 c1 c2 c3 c4 c5 c6 c7 : Nat) : ((c0 + c1 + c2 + c3) + 256 * (c1 + c2 + c3 + c4) + 65536 * (c2 + c3 + c4 + c5) + 16777216 * (c3 + c4 + c5 + c6)) + 4294967296 * ((c4 + c5 + c6 + c7) + 256 * (c5 + c6 + c7) + 65536 * (c6 + c7) + 16777216 * c7) + ((c4 + c5 + c6 + c7) + 256 * (c5 + c6 + c7) + 65536 * (c6 + c7) + 16777216 * c7) = (c0 + c1 + c2 + c3 + c4 + c5 + c6 + c7) + 128 * (2 * (c1 + c2 + c3 + c4 + c5 + c6 + c7) + 512 * (c2 + c3 + c4 + c5 + c6 + c7) + 131072 * (c3 + c4 + c5 + c6 + c7) + 33554432 * (c4 + c5 + c6 + c7) + 8589934592 * (c5 + c6 + c7) + 2199023255552 * (c6 + c7) + 562949953421312 * c7) := by omega
theorem folds (c0 c1 c2 c3 c4 c5 c6 c7 : Nat) (h0 : c0 ≤ 8) (h1 : c1 ≤ 8) (h2 : c2 ≤ 8) (h3 : c3 ≤ 8) (h4 : c4 ≤ 8) (h5 : c5 ≤ 8) (h6 : c6 ≤ 8) (h7 : c7 ≤ 8) (y : Nat)
    (hy : y = ((((((((0 * 256 + c7) * 256 + c6) * 256 + c5) * 256 + c4) * 256 + c3) * 256 + c2) * 256 + c1) * 256 + c0)) :
    fold1 y < 18446744073709551616 ∧ fold2 (fold1 y) < 18446744073709551616 ∧ fold3 (fold2 (fold1 y)) < 18446744073709551616 ∧ fold3 (fold2 (fold1 y)) % 128 = c0 + c1 + c2 + c3 + c4 + c5 + c6 + c7 := by
  rw [lin1] at hy
  have d1 := div_of y _ 256 _ hy (by clear hy; omega)
  have e1 : fold1 y = _ := (congrArg (y + ·) d1).trans ((congrArg (· + _) hy).trans (lin2 c0 c1 c2 c3 c4 c5 c6 c7))
  clear d1 hy
  generalize fold1 y = z at *
  have d2 := div_of z _ 65536 _ e1 (by clear e1; omega)
  have e2 : fold2 z = _ := (congrArg (z + ·) d2).trans ((congrArg (· + _) e1).trans (lin3 c0 c1 c2 c3 c4 c5 c6 c7))
  have b1 : z < 18446744073709551616 := by rw [e1]; clear e1 e2 d2; omega
  clear e1 d2
  generalize fold2 z = u at *
  have d3 := div_of u _ 4294967296 _ e2 (by clear e2; omega)
  have e3 : fold3 u = _ := (congrArg (u + ·) d3).trans ((congrArg (· + _) e2).trans (lin4 c0 c1 c2 c3 c4 c5 c6 c7))
  have b2 : u < 18446744073709551616 := by rw [e2]; clear e2 e3 d3; omega
  clear e2 d3
  refine ⟨b1, b2, by rw [e3]; clear e3 b1 b2; omega, ?_⟩
  rw [e3, Nat.add_mul_mod_self_left]
  exact Nat.mod_eq_of_lt (by clear e3 b1 b2; omega)
theorem pc_bytes (x : Nat) (hx : x < 18446744073709551616) : ∃ c0 c1 c2 c3 c4 c5 c6 c7 : Nat, c0 ≤ 8 ∧ c1 ≤ 8 ∧ c2 ≤ 8 ∧ c3 ≤ 8 ∧ c4 ≤ 8 ∧ c5 ≤ 8 ∧ c6 ≤ 8 ∧ c7 ≤ 8 ∧
    bytesOfPc 8 x = ((((((((0 * 256 + c7) * 256 + c6) * 256 + c5) * 256 + c4) * 256 + c3) * 256 + c2) * 256 + c1) * 256 + c0) ∧ pc 64 x = c0 + c1 + c2 + c3 + c4 + c5 + c6 + c7 := by
  refine ⟨_, _, _, _, _, _, _, _, pc_le 8 _, pc_le 8 _, pc_le 8 _, pc_le 8 _, pc_le 8 _, pc_le 8 _, pc_le 8 _, pc_le 8 _, rfl, ?_⟩
  rw [show 64 = 8 + 56 from rfl, pc_add 8 56, show 56 = 8 + 48 from rfl, pc_add 8 48, show 48 = 8 + 40 from rfl, pc_add 8 40, show 40 = 8 + 32 from rfl, pc_add 8 32, show 32 = 8 + 24 from rfl, pc_add 8 24, show 24 = 8 + 16 from rfl, pc_add 8 16, show 16 = 8 + 8 from rfl, pc_add 8 8]
  have e : (2:Nat) ^ 8 = 256 := by decide
  simp only [e]
  have hl : ∀ z, pc 8 z = pc 8 (z % 256) := by
    intro z
    have := pc_add 8 0 z
    simpa [pc, e] using this
  rw [hl (x / 256 / 256 / 256 / 256 / 256 / 256 / 256)]
  omega
/-- The whole of OnesCount64. -/
theorem ones_all (x : Nat) (hx : x < 18446744073709551616) :
    s3 8 (s2 8 (s1 8 x)) < 18446744073709551616 ∧ fold1 (s3 8 (s2 8 (s1 8 x))) < 18446744073709551616 ∧ fold2 (fold1 (s3 8 (s2 8 (s1 8 x)))) < 18446744073709551616 ∧ fold3 (fold2 (fold1 (s3 8 (s2 8 (s1 8 x))))) < 18446744073709551616 ∧
      fold3 (fold2 (fold1 (s3 8 (s2 8 (s1 8 x))))) % 128 = pc 64 x := by
  rw [steps_bytes 8 x (by simpa using hx)]
  obtain ⟨c0, c1, c2, c3, c4, c5, c6, c7, h0, h1, h2, h3, h4, h5, h6, h7, e, ep⟩ := pc_bytes x hx
  have hf := folds c0 c1 c2 c3 c4 c5 c6 c7 h0 h1 h2 h3 h4 h5 h6 h7 _ e
  rw [ep]
  exact ⟨by rw [e]; omega, hf.1, hf.2.1, hf.2.2.1, hf.2.2.2⟩
theorem mk_85 : mk 85 8 = 6148914691236517205 := by decide
theorem mk_51 : mk 51 8 = 3689348814741910323 := by decide
theorem mk_15 : mk 15 8 = 1085102592571150095 := by decide

/-- The numbers of a set. -/
def nums64 (s : Nat) : List Nat := (List.range 64).filter (fun j => s.testBit j)
def numsI (s : Nat) : List Int := (nums64 s).map (fun j : Nat => (j : Int))
def numsUp (s k : Nat) : List Nat := (List.range k).filter (fun j => s.testBit j)
theorem numsUp_succ (s k : Nat) : numsUp s (k + 1) = numsUp s k ++ if s.testBit k then [k] else [] := by
  rw [numsUp, List.range_succ, List.filter_append]
  congr 1
  cases h : s.testBit k <;> simp [h]
theorem pc_numsUp : ∀ (n s : Nat), pc n s = (numsUp s n).length := by
  intro n
  induction n with
  | zero => intro s; rfl
  | succ n ih =>
    intro s
    show s % 2 + pc n (s / 2) = ((List.range (n + 1)).filter (fun j => s.testBit j)).length
    have h0 : s.testBit 0 = decide (s % 2 = 1) := Nat.testBit_zero s
    have h1 : ((fun j => s.testBit j) ∘ Nat.succ) = fun j => (s / 2).testBit j := by
      funext j; simp [Nat.testBit_succ]
    rw [ih, List.range_succ_eq_map, List.filter_cons, List.filter_map, h1]
    rcases Nat.mod_two_eq_zero_or_one s with h | h
    · simp [h0, h, numsUp]
    · simp [h0, h, numsUp]; omega
theorem pc_nums (s : Nat) : pc 64 s = (nums64 s).length := pc_numsUp 64 s
theorem numsUp_lt (s k j : Nat) (h : j ∈ numsUp s k) : j < k ∧ s.testBit j = true := by
  simp [numsUp] at h; exact h

theorem low_succ (x k : Nat) : x % 2 ^ (k + 1) = if x.testBit k then x % 2 ^ k + 2 ^ k else x % 2 ^ k := by
  rw [Nat.mod_pow_succ, Nat.testBit_eq_decide_div_mod_eq]
  rcases Nat.mod_two_eq_zero_or_one (x / 2 ^ k) with h | h <;> simp [h]
theorem withN_low (x k : Nat) (hk : k < 64) : (if x.testBit k then withN (x % 2 ^ k) k else x % 2 ^ k) = x % 2 ^ (k + 1) := by
  rw [low_succ]
  cases h : x.testBit k
  · simp
  · simp only [if_true]
    rw [withN_add ((inR_iff _).2 (by omega)) (by
      simp only [hasN, Int.toNat_natCast]
      have : (x % 2 ^ k).testBit k = false := by rw [Nat.testBit_mod_two_pow]; simp
      rw [this]; simp)]
    simp
theorem low_all {x : Nat} (h : x < 18446744073709551616) : x % 2 ^ 64 = x := Nat.mod_eq_of_lt (by simpa using h)
end Go.Proofs.YtagcmhnanngfbaaDoor.Math
