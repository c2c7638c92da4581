/- Contracts of dovetailref07: all, productive, reached, set, useful, Sets. -/
import Derived.Test.YtagcmhnanngfbaaDoorUseB
import Derived.Test.YtagcmhnanngfbaaDoorRow
import Derived.Test.YtagcmhnanngfbaaDoorRef03
namespace Go.Proofs.YtagcmhnanngfbaaDoor.Hand
open Go.RowKit Go.Proofs.YtagcmhnanngfbaaDoorW.PrintWords Go.Proofs.YtagcmhnanngfbaaDoorW.PrintMore Go.Proofs.YtagcmhnanngfbaaDoor.Math

theorem AllIn_snoc {S : Nat → Prop} {l : List Int} {y : Int} : AllIn S (l ++ [y]) ↔ AllIn S l ∧ (y < 0 → S (-1 - y).toNat) := by
  constructor
  · intro h
    exact ⟨fun s hs h0 => h s (List.mem_append_left _ hs) h0, fun h0 => h y (by simp) h0⟩
  · rintro ⟨h1, h2⟩ s hs h0
    rcases List.mem_append.1 hs with hs | hs
    · exact h1 s hs h0
    · rw [List.mem_singleton.1 hs] at h0 ⊢; exact h2 h0
theorem miss_congr {N : Nat} {f g : Nat → Bool} (h : ∀ k, k < N → f k = g k) : miss N f = miss N g := Nat.le_antisymm (miss_mono (fun k hk h1 => by rw [h k hk]; exact h1)) (miss_mono (fun k hk h1 => by rw [← h k hk]; exact h1))
/-- After a whole turn all is closed, or one more is marked. -/
theorem turn_end {N len t : Nat} {CR : (Nat → Bool) → Nat → Prop} (hc : ∀ {M M' : Nat → Bool}, (∀ k, k < N → M k = M' k) → ∀ i, i < len → CR M i → CR M' i) {M0 M : Nat → Bool} (HX : (∀ i, i < len → CR M0 i) ∨ t + miss N M0 ≤ N) (hs : (∀ i, i < len → CR M0 i) → ∀ k, k < N → M k = M0 k)
    (h : ((∀ k, k < N → M k = M0 k) ∧ ∀ i, i < len → CR M0 i) ∨ miss N M < miss N M0) : (∀ i, i < len → CR M i) ∨ t + 1 + miss N M ≤ N := by
  rcases h with ⟨h1, h2⟩ | h
  · exact .inl (fun i hi => hc (fun k hk => (h1 k hk).symm) i hi (h2 i hi))
  · rcases HX with HX | HX
    · have := miss_congr (hs HX); omega
    · exact .inr (by omega)
def updM (M : Nat → Bool) (x : Nat) : Nat → Bool := fun q => if q = x then true else M q
theorem updM_same {M : Nat → Bool} {x : Nat} : updM M x x = true := by simp [updM]
theorem updM_mono {M : Nat → Bool} {x k : Nat} (h : M k = true) : updM M x k = true := by unfold updM; split <;> simp [h]
theorem updM_old {M : Nat → Bool} {x : Nat} (h : M x = true) (k : Nat) : updM M x k = M k := by
  unfold updM
  split
  · rename_i e; rw [e, h]
  · rfl
theorem updM_or {M : Nat → Bool} {x k : Nat} (h : updM M x k = true) : M k = true ∨ k = x := by
  unfold updM at h
  split at h
  · rename_i e; exact .inr e
  · exact .inl h
theorem Row.updM {w : World} {g N : Nat} {M : Nat → Bool} (h : Row w g N (fun q => .bool (M q))) {x : Nat} (hx : x < N) : Row (w.setCell ⟨g, x, none⟩ (.bool true)) g N (fun q => .bool (updM M x q)) :=
  (h.set x hx (.bool true)).ext (fun q hq => by unfold Hand.updM; split <;> simp_all)
/-- One mark more. -/
theorem mark_step {N len i : Nat} {CR : (Nat → Bool) → Nat → Prop} {M0 M : Nat → Bool} {x : Nat} (hx : x < N) (hs : (∀ i, i < len → CR M0 i) → ∀ k, k < N → M k = M0 k) (hs2 : (∀ i, i < len → CR M0 i) → M0 x = true)
    (h : ((∀ k, k < N → M k = M0 k) ∧ ∀ j, j < i → CR M0 j) ∨ miss N M < miss N M0) :
    ((∀ i, i < len → CR M0 i) → ∀ k, k < N → updM M x k = M0 k) ∧ (((∀ k, k < N → updM M x k = M0 k) ∧ (∀ j, j < i → CR M0 j) ∧ M0 x = true) ∨ miss N (updM M x) < miss N M0) := by
  refine ⟨fun hc k hk => ?_, ?_⟩
  · have h1 := hs hc k hk
    have h2 := hs2 hc
    unfold updM
    split
    · rename_i e; rw [e, h2]
    · exact h1
  · rcases h with ⟨h1, h2⟩ | h
    · cases hM : M x
      · refine .inr ?_
        rw [← miss_congr h1]
        exact miss_lt (fun k _ h => updM_mono h) hx hM updM_same
      · exact .inl ⟨fun k hk => by rw [updM_old hM, h1 k hk], h2, by rw [← h1 x hx, hM]⟩
    · exact .inr (Nat.lt_of_le_of_lt (miss_mono (fun k _ h => updM_mono h)) h)
theorem rall_calls {w : World} {M : Nat → Bool} {N gm : Nat} (B : Option Addr) (c : Nat) (r : List Int) (hr : Kd.C (Kd.int .i64) w B r.length r) (hm : Row w gm N (fun q => .bool (M q))) (hl : ∀ s ∈ r, -(N : Int) ≤ s ∧ s < 4611686018427387904) (hN : N ≤ 60) :
    Quiet 60 #[.slice B r.length c, .slice (some ⟨gm, 0, none⟩) N N] w (.bool (tb (AllIn (fun k => M k = true) r))) := by
  unfold Quiet
  have hlen := hr.2.1
  have HR := Lib.hid hr
  have HM := Lib.hid hm
  have HL := Lib.hid hl
  clear hr hm hl
  go_enter Tryd.func60, Tryd.ntmps60
  go_wp2
  go_loopw [5] (fun i wr => ∃ (j d : Nat), j ≤ r.length ∧ i = .int .i64 j ∧ wr = w.drewN d ∧ Hid (AllIn (fun k => M k = true) (r.take j))) (fun i _ => r.length - (intOf i).toNat)
  case atStart => exact ⟨0, 0, by omega, rfl, rfl, Lib.hid (fun s hs => by simp at hs)⟩
  case round =>
    obtain ⟨j, d, hj, rfl, rfl, HA⟩ := hrel
    by_cases hlt : j < r.length
    · obtain ⟨ad, y, rfl, hc, HY⟩ := at_scalar HR.out j hlt 0
      have hy := HL.out y (by rw [← HY.out]; exact getD_mem r j 0 hlt)
      obtain ⟨hy1, hy2⟩ := hy
      have HS : Hid (AllIn (fun k => M k = true) (r.take (j + 1)) ↔ AllIn (fun k => M k = true) (r.take j) ∧ (y < 0 → M (-1 - y).toNat = true)) := Lib.hid (by rw [take_snocD r j 0 hlt, HY.out]; exact AllIn_snoc)
      by_cases h0 : y < 0
      · have h1 : 0 ≤ -1 - y := by omega
        have h2 : -1 - y < (N : Int) := by omega
        have hcell := HM.out.cell (-1 - y).toNat (by omega)
        cases hM : M (-1 - y).toNat
        · rw [hM] at hcell
          have HE : Hid (tb (AllIn (fun k => M k = true) r) = false) := Lib.hid (tb_no (fun h => by
            have h3 : M (-1 - y).toNat = true := h y (by rw [← HY.out]; exact getD_mem r j 0 hlt) h0
            rw [hM] at h3; cases h3))
          clear hM
          go_wp2
          go_ret
          exact ⟨ret_bool HE.out.symm, _, rfl⟩
        · rw [hM] at hcell
          have HT := Lib.hid hM
          clear hM
          go_wp2
          go_roundw
          case rel => exact ⟨j + 1, d, by omega, by go_num, rfl, Lib.hid (HS.out.2 ⟨HA.out, fun _ => HT.out⟩)⟩
          case measure => simp [intOf]; omega
      · go_wp2
        go_roundw
        case rel => exact ⟨j + 1, d, by omega, by go_num, rfl, Lib.hid (HS.out.2 ⟨HA.out, fun h => absurd h h0⟩)⟩
        case measure => simp [intOf]; omega
    · have HE : Hid (tb (AllIn (fun k => M k = true) r) = true) := Lib.hid (tb_yes (by
        have := HA.out
        rwa [List.take_of_length_le (by omega)] at this))
      go_wp2
      go_ret
      exact ⟨ret_bool HE.out.symm, _, rfl⟩
theorem rset_calls {w : World} {M : Nat → Bool} {N gm : Nat} (hm : Row w gm N (fun q => .bool (M q))) (hN : N ≤ 60) :
    Quiet 41 #[.slice (some ⟨gm, 0, none⟩) N N] w (.int .u64 ((sB M N : Nat) : Int)) := by
  unfold Quiet
  have HM := Lib.hid hm
  clear hm
  go_enter Tryd.func41, Tryd.ntmps41
  go_wp2
  go_loopw [3, 4] (fun a i wr => ∃ (k : Nat), k ≤ N ∧ a = .int .u64 ((sB M k : Nat) : Int) ∧ i = .int .i64 k ∧ wr = w) (fun _ i _ => N - (intOf i).toNat)
  case atStart => exact ⟨0, by omega, rfl, rfl, by first | rfl | trivial⟩
  case round =>
    obtain ⟨k, hk, rfl, rfl, rfl⟩ := hrel
    by_cases hlt : k < N
    · have hcell := HM.out.cell k hlt
      cases hM : M k
      · rw [hM] at hcell
        have HS : Hid (sB M (k + 1) = sB M k) := Lib.hid (by rw [sB, hM]; rfl)
        clear hM
        go_wp2
        go_roundw
        case rel => exact ⟨k + 1, by omega, by rw [HS.out], by go_num, by first | rfl | trivial⟩
        case measure => simp [intOf]; omega
      · rw [hM] at hcell
        have HO : Hid (bits .or .u64 ((sB M k : Nat) : Int) (IntKind.u64.wrap (2 ^ k)) = ((sB M (k + 1) : Nat) : Int)) := Lib.hid (by
          have e1 : IntKind.u64.wrap ((2 : Int) ^ k) = ((bitN (k : Int) : Nat) : Int) := by
            have h := shl_bit (k : Int) (by omega) (by omega)
            rwa [show min (k : Int).toNat 64 = k by rw [Int.toNat_natCast]; omega] at h
          rw [e1, bits_or _ _ (lt_u64 (sB_lt (show k ≤ 64 by omega)) (by omega)) (bitN_lt _), sB, hM]
          rfl)
        clear hM
        go_wp2
        go_roundw
        case rel => exact ⟨k + 1, by omega, by rw [HO.out], by go_num, by first | rfl | trivial⟩
        case measure => simp [intOf]; omega
    · obtain rfl : k = N := by omega
      go_wp2
      go_ret
      exact ⟨rfl, 0, rfl⟩
end Go.Proofs.YtagcmhnanngfbaaDoor.Hand
