/- dovetailkit.Kind: which of the program's errors one is. -/
import Derived.Test.YtagcmhnanngfbaaDoorErr
namespace Go.Proofs.YtagcmhnanngfbaaDoor.Hand
open Go.RowKit Go.Proofs.YtagcmhnanngfbaaDoorW.PrintWords Go.Proofs.YtagcmhnanngfbaaDoorW.PrintMore Go.Proofs.YtagcmhnanngfbaaDoor.Math

/-- The variables of the errors, in Kind's order. -/
def GE : List Nat := [0, 1, 2, 3, 4, 5, 6, 7, 8, 9, 10, 11, 12, 13, 14]
/-- The errors' variables hold pointers, each to a block of its own. -/
structure Errs (w : World) (A : Nat → Addr) : Prop where
  cells : ∀ i, i < 15 → w.cell? ⟨GE.getD i 0, 0, none⟩ = some (.iface 141 (.pointer (some (A i))))
  blks : ∀ i, i < 15 → ∃ c t, w.heap[(A i).block]? = some (.cells c t (0, 0))
  inj : ∀ i j, i < 15 → j < 15 → A i = A j → i = j
theorem Errs.below {w w' : World} {A : Nat → Addr} (h : Errs w A) (hb : Below w.heap.size w w') : Errs w' A :=
  ⟨fun i hi => (hb.cell (p := ⟨GE.getD i 0, 0, none⟩) (World.block_lt_of_cell? _ _ (h.cells i hi))).trans (h.cells i hi),
    fun i hi => by obtain ⟨c, t, e⟩ := h.blks i hi; exact ⟨c, t, (hb.block _ (Array.getElem?_eq_some_iff.1 e).1).trans e⟩, h.inj⟩
theorem Errs.drewN {w : World} {A : Nat → Addr} (h : Errs w A) (n : Nat) : Errs (w.drewN n) A := h.below (pw_below_drewN (Below.refl _ _) _)
/-- An error's value: nil, a sentinel, or a rule's error over one. -/
inductive ErrV (w : World) (A : Nat → Addr) : Value → Nat → Int → Prop
  | none : ErrV w A .nilIface 0 (-1)
  | sent (i : Nat) (hi : i < 15) : ErrV w A (.iface 141 (.pointer (some (A i)))) (i + 1) (-1)
  | rule (i : Nat) (hi : i < 15) (pb po : Nat) (r : Int) (h0 : w.cell? ⟨pb, po, none⟩ = some (.int .i64 r)) (h1 : w.cell? ⟨pb, po + 1, none⟩ = some (.iface 141 (.pointer (some (A i))))) : ErrV w A (.iface 103 (.pointer (some ⟨pb, po, none⟩))) (i + 1) r
theorem ErrV.below {w w' : World} {A : Nat → Addr} {v : Value} {k : Nat} {r : Int} (h : ErrV w A v k r) (hb : Below w.heap.size w w') : ErrV w' A v k r := by
  cases h with
  | none => exact .none
  | sent i hi => exact .sent i hi
  | rule i hi pb po r h0 h1 => exact .rule i hi pb po r ((hb.cell (p := ⟨pb, po, Option.none⟩) (World.block_lt_of_cell? _ _ h0)).trans h0) ((hb.cell (p := ⟨pb, po + 1, Option.none⟩) (World.block_lt_of_cell? _ _ h1)).trans h1)
theorem is_calls {w : World} {A : Nat → Addr} (h : Errs w A) {v : Value} {k : Nat} {r : Int} (hv : ErrV w A v k r) (j : Nat) (hj : j < 15) :
    Quiet 45 #[v, .iface 141 (.pointer (some (A j)))] w (.bool (decide (k = j + 1))) := by
  unfold Quiet
  obtain ⟨cb, tb, hb⟩ := h.blks j hj
  cases hv with
  | none => exact (is_nil (A j) w).mono (by rintro e w' ⟨rfl, rfl⟩; exact ⟨by simp, 0, rfl⟩)
  | sent i hi =>
    by_cases e : i = j
    · subst e; exact (is_same (A i) w).mono (by rintro e w' ⟨rfl, rfl⟩; exact ⟨by simp, 0, rfl⟩)
    · obtain ⟨ca, ta, ha⟩ := h.blks i hi
      exact (is_other (A i) (A j) ca cb ta tb w (fun x => e (h.inj i j hi hj x)) ha hb).mono (by rintro e w' ⟨rfl, rfl⟩; exact ⟨by simp [e], 0, rfl⟩)
  | rule i hi pb po r h0 h1 =>
    by_cases e : i = j
    · subst e; exact (is_same_RuleError pb po (A i) w h1).mono (by rintro e w' ⟨rfl, rfl⟩; exact ⟨by simp, 0, rfl⟩)
    · obtain ⟨ca, ta, ha⟩ := h.blks i hi
      exact (is_other_RuleError pb po (A i) (A j) ca cb ta tb w h1 (fun x => e (h.inj i j hi hj x)) ha hb).mono (by rintro e w' ⟨rfl, rfl⟩; exact ⟨by simp [e], 0, rfl⟩)
theorem ErrV.le {w : World} {A : Nat → Addr} {v : Value} {k : Nat} {r : Int} (h : ErrV w A v k r) : k ≤ 15 := by
  cases h <;> omega
/-- nil or not. -/
theorem ErrV.nil_iff {w : World} {A : Nat → Addr} {v : Value} {k : Nat} {r : Int} (h : ErrV w A v k r) : (k = 0 ∧ v = .nilIface) ∨ (0 < k ∧ ∃ t u, v = .iface t u) := by
  cases h
  · exact .inl ⟨rfl, rfl⟩
  all_goals exact .inr ⟨by omega, _, _, rfl⟩
/-- The value of an error's number. -/
def errOf (A : Nat → Addr) : Nat → Value
  | 0 => .nilIface
  | k + 1 => .iface 141 (.pointer (some (A k)))
theorem errOf_is {w : World} {A : Nat → Addr} (k : Nat) (hk : k ≤ 15) : ErrV w A (errOf A k) k (-1) := by
  cases k with
  | zero => exact .none
  | succ k => exact .sent k (by omega)
def hitN (k j : Nat) : Int := if 1 ≤ k ∧ k ≤ j then k else 99
set_option maxHeartbeats 1000000 in
set_option maxRecDepth 100000 in
theorem kind_calls {w : World} {A : Nat → Addr} (h : Errs w A) {v : Value} {k : Nat} {r : Int} (hv : ErrV w A v k r) :
    Calls Tryd.prog 15 #[v] w fun e w' => e = .returned (.int .i64 (k : Nat)) ∧ Below w.heap.size w w' := by
  rcases hv.nil_iff with ⟨rfl, rfl⟩ | ⟨h0, t, u, rfl⟩
  · go_enter Tryd.func15, Tryd.ntmps15
    go_wp2
    go_ret
    exact ⟨rfl, Below.refl _ _⟩
  have hk := hv.le
  have c0 : w.cell? ⟨0, 0, none⟩ = some (.iface 141 (.pointer (some (A 0)))) := h.cells 0 (by omega)
  have c1 : w.cell? ⟨1, 0, none⟩ = some (.iface 141 (.pointer (some (A 1)))) := h.cells 1 (by omega)
  have c2 : w.cell? ⟨2, 0, none⟩ = some (.iface 141 (.pointer (some (A 2)))) := h.cells 2 (by omega)
  have c3 : w.cell? ⟨3, 0, none⟩ = some (.iface 141 (.pointer (some (A 3)))) := h.cells 3 (by omega)
  have c4 : w.cell? ⟨4, 0, none⟩ = some (.iface 141 (.pointer (some (A 4)))) := h.cells 4 (by omega)
  have c5 : w.cell? ⟨5, 0, none⟩ = some (.iface 141 (.pointer (some (A 5)))) := h.cells 5 (by omega)
  have c6 : w.cell? ⟨6, 0, none⟩ = some (.iface 141 (.pointer (some (A 6)))) := h.cells 6 (by omega)
  have c7 : w.cell? ⟨7, 0, none⟩ = some (.iface 141 (.pointer (some (A 7)))) := h.cells 7 (by omega)
  have c8 : w.cell? ⟨8, 0, none⟩ = some (.iface 141 (.pointer (some (A 8)))) := h.cells 8 (by omega)
  have c9 : w.cell? ⟨9, 0, none⟩ = some (.iface 141 (.pointer (some (A 9)))) := h.cells 9 (by omega)
  have c10 : w.cell? ⟨10, 0, none⟩ = some (.iface 141 (.pointer (some (A 10)))) := h.cells 10 (by omega)
  have c11 : w.cell? ⟨11, 0, none⟩ = some (.iface 141 (.pointer (some (A 11)))) := h.cells 11 (by omega)
  have c12 : w.cell? ⟨12, 0, none⟩ = some (.iface 141 (.pointer (some (A 12)))) := h.cells 12 (by omega)
  have c13 : w.cell? ⟨13, 0, none⟩ = some (.iface 141 (.pointer (some (A 13)))) := h.cells 13 (by omega)
  have c14 : w.cell? ⟨14, 0, none⟩ = some (.iface 141 (.pointer (some (A 14)))) := h.cells 14 (by omega)
  obtain ⟨w1, hw1⟩ : ∃ w1, w.alloc (.cells #[.iface 141 (.pointer (some (A 0))), .iface 141 (.pointer (some (A 1))), .iface 141 (.pointer (some (A 2))), .iface 141 (.pointer (some (A 3))), .iface 141 (.pointer (some (A 4))), .iface 141 (.pointer (some (A 5))), .iface 141 (.pointer (some (A 6))), .iface 141 (.pointer (some (A 7))), .iface 141 (.pointer (some (A 8))), .iface 141 (.pointer (some (A 9))), .iface 141 (.pointer (some (A 10))), .iface 141 (.pointer (some (A 11))), .iface 141 (.pointer (some (A 12))), .iface 141 (.pointer (some (A 13))), .iface 141 (.pointer (some (A 14)))] 30) = w1 := ⟨_, rfl⟩
  have hb1 : Below w.heap.size w w1 := by rw [← hw1]; exact below_alloc (Below.refl _ _) _
  have HB1 := Lib.hid hb1
  have HC : Hid (∀ j, j < 15 → w1.cell? ⟨w.heap.size, j, none⟩ = some (.iface 141 (.pointer (some (A j))))) := Lib.hid (by
    rw [← hw1]; intro j hj
    match j, hj with
    | 0, _ => simp [go_sem]
    | 1, _ => simp [go_sem]
    | 2, _ => simp [go_sem]
    | 3, _ => simp [go_sem]
    | 4, _ => simp [go_sem]
    | 5, _ => simp [go_sem]
    | 6, _ => simp [go_sem]
    | 7, _ => simp [go_sem]
    | 8, _ => simp [go_sem]
    | 9, _ => simp [go_sem]
    | 10, _ => simp [go_sem]
    | 11, _ => simp [go_sem]
    | 12, _ => simp [go_sem]
    | 13, _ => simp [go_sem]
    | 14, _ => simp [go_sem]
    | j + 15, hj => omega)
  have HE := Lib.hid (h.below hb1)
  have HV := Lib.hid (hv.below hb1)
  clear h hv hb1
  go_enter Tryd.func15, Tryd.ntmps15
  go_wp2
  clear c0 c1 c2 c3 c4 c5 c6 c7 c8 c9 c10 c11 c12 c13 c14 hw1
  go_loopw [4, 5] (fun a i wr => ∃ (j d : Nat) (x : Int), j ≤ 15 ∧ i = .int .i64 j ∧ a = .int .i64 x ∧ Hid (x = hitN k j) ∧ wr = w1.drewN d) (fun _ i _ => 15 - (intOf i).toNat)
  case atStart => exact ⟨0, 0, 99, by omega, rfl, rfl, Lib.hid (by simp [hitN]; omega), rfl⟩
  case round =>
    obtain ⟨j, d, x, hj, rfl, rfl, HX, rfl⟩ := hrel
    by_cases hlt : j < 15
    · have hc := HC.out j hlt
      have hc' : w1.cell? ((⟨w.heap.size, 0, none⟩ : Addr).add j) = some (.iface 141 (.pointer (some (A j)))) := by
        rw [← hc]; congr 1; unfold Addr.add; by_cases e : j = 0 <;> simp [e]
      by_cases e : k = j + 1
      · have hx : x = 99 := by rw [HX.out]; unfold hitN; rw [if_neg (by omega)]
        subst hx
        have he : decide (k = j + 1) = true := by simp [e]
        have HS : Hid (hitN k (j + 1) = (j : Int) + 1) := Lib.hid (by unfold hitN; rw [if_pos (by omega)]; omega)
        clear HX e
        go_wp2_with (go_at_call 45; refine (is_calls (HE.out.drewN _) (HV.out.below (pw_below_drewN (Below.refl _ _) _)) j hlt).mono ?_; rintro e w' ⟨rfl, n, rfl⟩; rw [he])
        go_roundw
        case rel => exact ⟨j + 1, d + n, _, by omega, by go_num, rfl, Lib.hid HS.out.symm, rfl⟩
        case measure => simp [intOf]; omega
      · have he : decide (k = j + 1) = false := by simp [e]
        have HS : Hid (hitN k (j + 1) = x) := Lib.hid (by rw [HX.out]; unfold hitN; split <;> split <;> omega)
        clear e
        go_wp2_with (go_at_call 45; refine (is_calls (HE.out.drewN _) (HV.out.below (pw_below_drewN (Below.refl _ _) _)) j hlt).mono ?_; rintro e w' ⟨rfl, n, rfl⟩; rw [he])
        go_roundw
        case rel => exact ⟨j + 1, d + n, _, by omega, by go_num, rfl, Lib.hid HS.out.symm, rfl⟩
        case measure => simp [intOf]; omega
    · have HS : Hid (x = (k : Int)) := Lib.hid (by rw [HX.out]; unfold hitN; rw [if_pos (by omega)])
      go_wp2
      go_ret
      exact ⟨ret_int HS.out, pw_below_drewN HB1.out _⟩
end Go.Proofs.YtagcmhnanngfbaaDoor.Hand
