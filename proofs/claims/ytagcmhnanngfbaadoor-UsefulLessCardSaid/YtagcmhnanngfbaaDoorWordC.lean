/- Contracts: cmp.Compare, slices.Compare, dovetailref07.ahead. -/
import Derived.Test.YtagcmhnanngfbaaDoorWordMath
namespace Go.Proofs.YtagcmhnanngfbaaDoor.Hand
open Go.RowKit Go.Proofs.YtagcmhnanngfbaaDoorW.PrintWords Go.Proofs.YtagcmhnanngfbaaDoorW.PrintMore Go.Proofs.YtagcmhnanngfbaaDoor.Math

def cmpI (x y : Int) : Int := if x < y then -1 else if y < x then 1 else 0
theorem drop_cons (l : List Int) (j : Nat) (h : j < l.length) : l.drop j = l.getD j 0 :: l.drop (j + 1) := by
  rw [List.drop_eq_getElem_cons h]; simp [List.getD, h]
theorem cmpL_cons (x y : Int) (a b : List Int) : cmpL (x :: a) (y :: b) = if cmpI x y = 0 then cmpL a b else cmpI x y := by
  unfold cmpI
  rw [cmpL]
  split
  · rfl
  · split
    · rfl
    · rfl
theorem cmpI_lt {x y z : Int} (h : ¬ x = y) : ((if cmpI x y = 0 then z else cmpI x y) < 0) ↔ x < y := by
  unfold cmpI
  by_cases h1 : x < y
  · simp [h1]
  · have h2 : y < x := by omega
    simp [h1, h2]
theorem cmpInt_calls (x y : Int) (w : World) : Quiet 76 #[.int .i64 x, .int .i64 y] w (.int .i64 (cmpI x y)) := by
  unfold Quiet
  have h1 : ((x : Int) != x) = false := by simp
  have h2 : ((y : Int) != y) = false := by simp
  by_cases a : x < y
  · have HE : Hid (cmpI x y = -1) := Lib.hid (by unfold cmpI; rw [if_pos a])
    go_enter Tryd.func76, Tryd.ntmps76
    go_wp2
    go_ret
    exact ⟨ret_int HE.out.symm, 0, rfl⟩
  · by_cases b : y < x
    · have HE : Hid (cmpI x y = 1) := Lib.hid (by unfold cmpI; rw [if_neg a, if_pos b])
      go_enter Tryd.func76, Tryd.ntmps76
      go_wp2
      go_ret
      exact ⟨ret_int HE.out.symm, 0, rfl⟩
    · have HE : Hid (cmpI x y = 0) := Lib.hid (by unfold cmpI; rw [if_neg a, if_neg b])
      go_enter Tryd.func76, Tryd.ntmps76
      go_wp2
      go_ret
      exact ⟨ret_int HE.out.symm, 0, rfl⟩
theorem scompare_calls (A B : Option Addr) (c d : Nat) (a b : List Int) (w : World) (ha : Kd.C (Kd.int .i64) w A a.length a) (hb : Kd.C (Kd.int .i64) w B b.length b) :
    Quiet 50 #[.slice A a.length c, .slice B b.length d] w (.int .i64 (cmpL a b)) := by
  unfold Quiet
  have hl1 := ha.2.1
  have hl2 := hb.2.1
  have HA := Lib.hid ha
  have HB := Lib.hid hb
  clear ha hb
  go_enter Tryd.func50, Tryd.ntmps50
  go_wp2
  go_loopw [11] (fun i wr => ∃ (j e : Nat), j ≤ a.length ∧ j ≤ b.length ∧ i = .int .i64 j ∧ wr = w.drewN e ∧ Hid (cmpL a b = cmpL (a.drop j) (b.drop j))) (fun i _ => a.length - (intOf i).toNat)
  case atStart => exact ⟨0, 0, by omega, by omega, rfl, rfl, Lib.hid (by simp)⟩
  case round =>
    obtain ⟨j, e, hj, hjb, rfl, rfl, HT⟩ := hrel
    by_cases hlt : j < a.length
    · obtain ⟨ad, x, rfl, hc, HX⟩ := at_scalar HA.out j hlt 0
      by_cases hlb : j < b.length
      · obtain ⟨ad2, y, rfl, hc2, HY⟩ := at_scalar HB.out j hlb 0
        have HS : Hid (cmpL a b = if cmpI x y = 0 then cmpL (a.drop (j + 1)) (b.drop (j + 1)) else cmpI x y) := Lib.hid (by
          rw [HT.out, drop_cons a j hlt, drop_cons b j hlb, HX.out, HY.out, cmpL_cons])
        have HCm := Lib.hid (fun W => cmpInt_calls x y W)
        obtain ⟨z, hz⟩ : ∃ z, cmpI x y = z := ⟨_, rfl⟩
        rw [hz] at HS HCm
        clear hz
        by_cases h0 : z = 0
        · subst h0
          have HS2 : Hid (cmpL a b = cmpL (a.drop (j + 1)) (b.drop (j + 1))) := Lib.hid (by rw [HS.out, if_pos rfl])
          clear HS
          go_wp2_with (go_at_call 76; refine (HCm.out _).mono ?_; rintro e w' ⟨rfl, n1, rfl⟩)
          go_roundw
          case rel => exact ⟨j + 1, _, by omega, by omega, by go_num, rfl, HS2⟩
          case measure => simp [intOf]; omega
        · have HE : Hid (cmpL a b = z) := Lib.hid (by rw [HS.out, if_neg h0])
          have hz0 : (z != 0) = true := by simpa using h0
          have hz1 : (z == 0) = false := by simpa using h0
          go_wp2_with (go_at_call 76; refine (HCm.out _).mono ?_; rintro e w' ⟨rfl, n1, rfl⟩)
          go_ret
          exact ⟨ret_int HE.out.symm, _, rfl⟩
      · have HE : Hid (cmpL a b = 1) := Lib.hid (by
          rw [HT.out, drop_cons a j hlt, List.drop_of_length_le (show b.length ≤ j by omega)]; rfl)
        go_wp2
        go_ret
        exact ⟨ret_int HE.out.symm, _, rfl⟩
    · by_cases hlb : a.length < b.length
      · have HE : Hid (cmpL a b = -1) := Lib.hid (by
          rw [HT.out, List.drop_of_length_le (show a.length ≤ j by omega), drop_cons b j (by omega)]; rfl)
        go_wp2
        go_ret
        exact ⟨ret_int HE.out.symm, _, rfl⟩
      · have HE : Hid (cmpL a b = 0) := Lib.hid (by
          rw [HT.out, List.drop_of_length_le (show a.length ≤ j by omega), List.drop_of_length_le (show b.length ≤ j by omega)]; rfl)
        go_wp2
        go_ret
        exact ⟨ret_int HE.out.symm, _, rfl⟩
open Classical in
theorem ahead_calls (A B : Option Addr) (c d : Nat) (a b : List Int) (w : World) (ha : Kd.C (Kd.int .i64) w A a.length a) (hb : Kd.C (Kd.int .i64) w B b.length b) :
    Quiet 51 #[.slice A a.length c, .slice B b.length d] w (.bool (tb (a.length < b.length ∨ a.length = b.length ∧ cmpL a b < 0))) := by
  unfold Quiet
  have hl1 := ha.2.1
  have hl2 := hb.2.1
  have HA := Lib.hid ha
  have HB := Lib.hid hb
  clear ha hb
  by_cases hl : a.length = b.length
  · have hlI : ((a.length : Int) == (b.length : Int)) = true := by simp [hl]
    have HL := Lib.hid hl
    have HG : Hid (tb (a.length < b.length ∨ a.length = b.length ∧ cmpL a b < 0) = decide (cmpL a b < 0)) := Lib.hid (by
      rw [Bool.eq_iff_iff, tb_iff, decide_eq_true_eq]
      constructor
      · rintro (h | h)
        · omega
        · exact h.2
      · exact fun h => .inr ⟨hl, h⟩)
    have hbl : b.length = a.length := hl.symm
    clear hl
    go_enter Tryd.func51, Tryd.ntmps51
    go_wp2
    go_loopw [5] (fun i wr => ∃ (j e : Nat), j ≤ a.length ∧ i = .int .i64 j ∧ wr = w.drewN e ∧ Hid (cmpL a b = cmpL (a.drop j) (b.drop j))) (fun i _ => a.length - (intOf i).toNat)
    case atStart => exact ⟨0, 0, by omega, rfl, rfl, Lib.hid (by simp)⟩
    case round =>
      obtain ⟨j, e, hj, rfl, rfl, HT⟩ := hrel
      by_cases hlt : j < a.length
      · have hlb : j < b.length := by have := HL.out; omega
        obtain ⟨ad, x, rfl, hc, HX⟩ := at_scalar HA.out j hlt 0
        obtain ⟨ad2, y, rfl, hc2, HY⟩ := at_scalar HB.out j hlb 0
        have HS : Hid (cmpL a b = if cmpI x y = 0 then cmpL (a.drop (j + 1)) (b.drop (j + 1)) else cmpI x y) := Lib.hid (by
          rw [HT.out, drop_cons a j hlt, drop_cons b j hlb, HX.out, HY.out, cmpL_cons])
        by_cases e1 : x = y
        · subst e1
          have HE : Hid (cmpL a b = cmpL (a.drop (j + 1)) (b.drop (j + 1))) := Lib.hid (by rw [HS.out, if_pos (by simp [cmpI])])
          have hxx : ((x : Int) != x) = false := by simp
          go_wp2
          go_quiet (fail)
          go_wp2
          go_roundw
          case rel => exact ⟨j + 1, _, by omega, by go_num, rfl, HE⟩
          case measure => simp [intOf]; omega
        · have hxy : ((x : Int) != y) = true := by simpa using e1
          have hxy2 : ((x : Int) == y) = false := by simpa using e1
          have HE : Hid (decide (cmpL a b < 0) = decide (x < y)) := Lib.hid (by
            rw [HS.out]
            exact decide_eq_decide.2 (cmpI_lt e1))
          clear e1
          go_wp2
          go_quiet (fail)
          go_wp2
          go_quiet (fail)
          go_wp2
          go_ret
          exact ⟨ret_bool (by rw [HG.out, HE.out]), _, by rw [World.drewN_drewN, World.drewN_drewN]⟩
      · have HE : Hid (decide (cmpL a b < 0) = false) := Lib.hid (by
          rw [HT.out, List.drop_of_length_le (show a.length ≤ j by omega), List.drop_of_length_le (show b.length ≤ j by have := HL.out; omega)]; rfl)
        go_wp2
        go_ret
        exact ⟨ret_bool (by rw [HG.out, HE.out]), _, rfl⟩
  · have hlI : ((a.length : Int) == (b.length : Int)) = false := by simp; omega
    have hlN : decide (a.length = b.length) = false := by simp [hl]
    have HG : Hid (tb (a.length < b.length ∨ a.length = b.length ∧ cmpL a b < 0) = decide (a.length < b.length)) := Lib.hid (by
      rw [Bool.eq_iff_iff, tb_iff, decide_eq_true_eq]
      exact ⟨fun h => h.resolve_right (fun h => hl h.1), .inl⟩)
    clear hl
    by_cases hlt : a.length < b.length
    all_goals
      have HD := Lib.hid hlt
      go_enter Tryd.func51, Tryd.ntmps51
      go_wp2
      go_ret
      exact ⟨ret_bool (by rw [HG.out]; simp [HD.out]), 0, rfl⟩
end Go.Proofs.YtagcmhnanngfbaaDoor.Hand
