/- Contracts of dovetailkit: are two lists the same? -/
import Derived.Test.YtagcmhnanngfbaaDoorBase
namespace Go.Proofs.YtagcmhnanngfbaaDoor.Hand
open Go.RowKit Go.Proofs.YtagcmhnanngfbaaDoorW.PrintWords Go.Proofs.YtagcmhnanngfbaaDoorW.PrintMore Go.Proofs.YtagcmhnanngfbaaDoor.Math

/-- Are two lists the same? -/
theorem ints_calls (A B : Option Addr) (c d : Nat) (l m : List Int) (w : World) (hr : Kd.C (Kd.int .i64) w A l.length l) (hq : Kd.C (Kd.int .i64) w B m.length m) : Quiet 21 #[.slice A l.length c, .slice B m.length d] w (.bool (decide (l = m))) := by
  unfold Quiet
  have hlen := hr.2.1
  have hlen2 := hq.2.1
  have HR := Lib.hid hr
  have HQ := Lib.hid hq
  clear hr hq
  by_cases hl : l.length = m.length
  · have hlI : ((l.length : Int) == (m.length : Int)) = true := by simp [hl]
    have HL := Lib.hid hl
    go_enter Tryd.func21, Tryd.ntmps21
    go_wp2
    go_loopw [5] (fun i wr => ∃ (j d : Nat), j ≤ l.length ∧ i = .int .i64 j ∧ wr = w.drewN d ∧ Hid (l.take j = m.take j)) (fun i _ => l.length - (intOf i).toNat)
    case atStart => exact ⟨0, 0, by omega, rfl, rfl, Lib.hid (by simp)⟩
    case round =>
      obtain ⟨j, d, hj, rfl, rfl, HT⟩ := hrel
      by_cases hlt : j < l.length
      · obtain ⟨ad, y, rfl, hc, HY⟩ := at_scalar HR.out j hlt 0
        obtain ⟨ad2, y2, rfl, hc2, HY2⟩ := at_scalar HQ.out j (by omega) 0
        have hlt2 : j < m.length := by omega
        by_cases e : y = y2
        · subst e
          go_wp2
          go_quiet (fail)
          go_wp2
          go_roundw
          case rel => exact ⟨j + 1, _, by omega, by go_num, rfl, Lib.hid (by rw [take_snocD l j 0 hlt, take_snocD m j 0 hlt2, HT.out, HY.out, HY2.out])⟩
          case measure => simp [intOf]; omega
        · have HE : Hid (decide (l = m) = false) := Lib.hid (decide_eq_false (fun h => e (by rw [← HY.out, ← HY2.out, h])))
          have HN := Lib.hid e
          have hn : ((y : Int) == y2) = false := by simpa using e
          clear e
          go_wp2
          go_quiet (fail)
          go_wp2
          go_ret
          exact ⟨ret_bool HE.out.symm, _, World.drewN_drewN _ _ _⟩
      · have HE : Hid (decide (l = m) = true) := Lib.hid (decide_eq_true (by
          have := HT.out
          rwa [List.take_of_length_le (by omega), List.take_of_length_le (by have := HL.out; omega)] at this))
        go_wp2
        go_ret
        exact ⟨ret_bool HE.out.symm, _, rfl⟩
  · have HE : Hid (decide (l = m) = false) := Lib.hid (decide_eq_false (fun h => hl (by rw [h])))
    have hlI : ((l.length : Int) == (m.length : Int)) = false := by simp; omega
    have hlN : decide (l.length = m.length) = false := by simp [hl]
    have HL := Lib.hid hl
    clear hl
    go_enter Tryd.func21, Tryd.ntmps21
    go_wp2
    go_ret
    exact ⟨ret_bool HE.out.symm, 0, rfl⟩
/-- Are two lists the same? -/
theorem kstrings_calls (A B : Option Addr) (c d : Nat) (l m : List ByteArray) (w : World) (hr : Kd.C Kd.string w A l.length l) (hq : Kd.C Kd.string w B m.length m) : Quiet 62 #[.slice A l.length c, .slice B m.length d] w (.bool (decide (l = m))) := by
  unfold Quiet
  have hlen := hr.2.1
  have hlen2 := hq.2.1
  have HR := Lib.hid hr
  have HQ := Lib.hid hq
  clear hr hq
  by_cases hl : l.length = m.length
  · have hlI : ((l.length : Int) == (m.length : Int)) = true := by simp [hl]
    have HL := Lib.hid hl
    go_enter Tryd.func62, Tryd.ntmps62
    go_wp2
    go_loopw [5] (fun i wr => ∃ (j d : Nat), j ≤ l.length ∧ i = .int .i64 j ∧ wr = w.drewN d ∧ Hid (l.take j = m.take j)) (fun i _ => l.length - (intOf i).toNat)
    case atStart => exact ⟨0, 0, by omega, rfl, rfl, Lib.hid (by simp)⟩
    case round =>
      obtain ⟨j, d, hj, rfl, rfl, HT⟩ := hrel
      by_cases hlt : j < l.length
      · obtain ⟨ad, y, rfl, hc, HY⟩ := at_scalar HR.out j hlt ByteArray.empty
        obtain ⟨ad2, y2, rfl, hc2, HY2⟩ := at_scalar HQ.out j (by omega) ByteArray.empty
        have hlt2 : j < m.length := by omega
        by_cases e : y = y2
        · subst e
          go_wp2
          go_quiet (fail)
          go_wp2
          go_roundw
          case rel => exact ⟨j + 1, _, by omega, by go_num, rfl, Lib.hid (by rw [take_snocD l j ByteArray.empty hlt, take_snocD m j ByteArray.empty hlt2, HT.out, HY.out, HY2.out])⟩
          case measure => simp [intOf]; omega
        · have HE : Hid (decide (l = m) = false) := Lib.hid (decide_eq_false (fun h => e (by rw [← HY.out, ← HY2.out, h])))
          have HN := Lib.hid e
          (have hn3 : (y.toList == y2.toList) = false := beq_eq_false_iff_ne.mpr (fun h => e (str_inj h)); have hn4 : (y.toList != y2.toList) = true := bne_iff_ne.mpr (fun h => e (str_inj h)))
          clear e
          go_wp2
          go_quiet (fail)
          go_wp2
          go_ret
          exact ⟨ret_bool HE.out.symm, _, World.drewN_drewN _ _ _⟩
      · have HE : Hid (decide (l = m) = true) := Lib.hid (decide_eq_true (by
          have := HT.out
          rwa [List.take_of_length_le (by omega), List.take_of_length_le (by have := HL.out; omega)] at this))
        go_wp2
        go_ret
        exact ⟨ret_bool HE.out.symm, _, rfl⟩
  · have HE : Hid (decide (l = m) = false) := Lib.hid (decide_eq_false (fun h => hl (by rw [h])))
    have hlI : ((l.length : Int) == (m.length : Int)) = false := by simp; omega
    have hlN : decide (l.length = m.length) = false := by simp [hl]
    have HL := Lib.hid hl
    clear hl
    go_enter Tryd.func62, Tryd.ntmps62
    go_wp2
    go_ret
    exact ⟨ret_bool HE.out.symm, 0, rfl⟩
end Go.Proofs.YtagcmhnanngfbaaDoor.Hand
