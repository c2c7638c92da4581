/- The walk of SetsAlgebra: it answers true and leaves the memory that it was given as it was, where the library's table stands in its variable. -/
import Derived.Test.YtgbiihmacinnmaaDoorSetsB
import Derived.Test.YtgbiihmacinnmaaDoorInts
import Derived.Test.YtgbiihmacinnmaaDoorOpen
namespace Go.Proofs.YtgbiihmacinnmaaDoor.Hand
open Go.RowKit Go.Proofs.YtgbiihmacinnmaaDoorW.PrintWords Go.Proofs.YtgbiihmacinnmaaDoorW.PrintMore Go.Proofs.YtgbiihmacinnmaaDoor.Math

theorem algebra_calls (A : Option Addr) (c : Nat) (l : List Nat) (s t : Nat) (hs : s < 18446744073709551616) (ht : t < 18446744073709551616) (w : World) (hT : TabIn w) (hg : 0 < w.heap.size) (hr : Kd.C KSet w A l.length l) (hl : ∀ x ∈ l, x < 18446744073709551616) (hn : l.length < 17592186044415) :
    Calls Tryd.prog 3 #[.slice A l.length c, .int .u64 s, .int .u64 t] w fun e w' => e = .returned (.bool true) ∧ Below w.heap.size w w' := by
  have HR := Lib.hid hr
  have HL := Lib.hid hl
  have HN := Lib.hid hn
  have HS := Lib.hid hs
  have HT := Lib.hid ht
  have HTab := Lib.hid hT
  have HG := Lib.hid hg
  clear hr hl hn hs ht hT hg
  obtain ⟨L, HLd⟩ : ∃ L, Hid (numsI s = L) := ⟨_, Lib.hid rfl⟩
  have HM : Hid ((((minusN s t : Nat) : Int) == 0) = decide (minusN s t = 0)) := Lib.hid (by rw [Bool.eq_iff_iff, beq_iff_eq, decide_eq_true_eq]; exact Int.natCast_eq_zero)
  have HB0 := Aside0.mk ((Below.refl w.heap.size w).alloc (Nat.le_refl _) (.cells #[] 24))
  have HR0 := Aside0.mk (Kd.C_alloc HR.out (.cells #[] 24))
  have HE0 := Aside0.mk (R_lit (enc := fun n : Nat => Value.int .u64 (n : Int)) (h1 := fun _ => rfl) 24 w.heap.size w ([] : List Nat) (Nat.le_refl _) (by unfold maxLen; simp))
  go_enter Tryd.func3, Tryd.ntmps3
  go_upto_region 7 with (first
      | ((with_reducible refine gate_builtin (b := .append) (xs := #[.tmp 12, .tmp 13]) rfl ?_); at_builtin; refine Kd.R_append_rows KSet (w0 := w) w.heap.size rfl (.tmp 12) (.tmp 13) 22 24 (.int .u64 0) 8 rfl Tryd.underlying22 infoSet rfl (by decide) (by omega) _ ([] : List Nat) l _ _ _ (fun _ => True) (fun _ => False) rfl rfl HE0.out HR0.out (fun _ _ h => h) (fun _ h => h.elim) (fun _ _ => trivial) HB0.out (by simp) (by have := HN.out; simp; omega) ?_; intro v1 w1 ho hb _ _; have HO1 := Aside0.mk ho; have HB1 := Aside0.mk hb; clear ho hb)
      | ((with_reducible refine gate_builtin (b := .append) (xs := #[.tmp 14, .tmp 15]) rfl ?_); at_builtin; refine Kd.R_append KSet (w0 := w) w.heap.size rfl (.tmp 14) (.tmp 15) 22 24 (.int .u64 0) 8 rfl Tryd.underlying22 infoSet rfl (by decide) (by omega) v1 ([] ++ l : List Nat) 77 [.int .u64 77] (fun _ => True) (fun _ => False) rfl rfl rfl (fun _ hk => hk.elim) (fun _ _ => trivial) HO1.out HB1.out (Below.size HB1.out) (by have := HN.out; simp; omega) ?_; intro v2 w2 ho hb _ _; have HO2 := Aside0.mk ho; have HB2 := Aside0.mk hb; clear ho hb)
      | (go_at_call 8; refine (rnums_calls s HS.out _).mono ?_; rintro e w3 ⟨v3, rfl, HO0, HB0'⟩; rw [HLd.out] at HO0; have HB3 := Aside0.mk (below_next HB2.out HB0'); obtain ⟨A3, c3, rfl⟩ := Kd.R_slice HO0; have HC3 := Aside0.mk (Kd.R_reads' HO0).2.2; obtain ⟨A2, c2, e2⟩ := Kd.R_slice HO2.out; subst e2; have hc2 : l.length + 1 ≤ c2 := (by have := (Kd.R_reads' HO2.out).2.1; simpa using this); have HF3 := Aside0.mk (Kd.C_below (Kd.R_reads' HO2.out).2.2 HB0'); clear HO0 HB0'; obtain ⟨ad2, y2, e3, hcell3, HY⟩ := at_scalar HF3.out l.length (by simp) 0; subst e3; obtain rfl : y2 = 77 := HY.out.symm.trans (by simp); clear HY)
      | (go_at_call 9; refine (union_calls _ _ l _ (Kd.C_takeN HF3.out) HL.out).mono ?_; rintro e w' ⟨rfl, n1, rfl⟩)
      | (go_at_call 10; refine (runion_calls A c l _ (Kd.C_drewN (Kd.C_below HR.out HB3.out) _) HL.out).mono ?_; rintro e w4 ⟨rfl, HB4'⟩; have hb34 := below_step HB4'; have HB4 := Aside0.mk (below_next HB3.out hb34); have HF4 := Aside0.mk (Kd.C_below HF3.out hb34); have HC4 := Aside0.mk (Kd.C_below HC3.out hb34); clear HB4' hb34; obtain ⟨ad4, y4, e4, hcell4, HY⟩ := at_scalar HF4.out l.length (by simp) 0; simp only [Option.some.injEq] at e4; subst e4; obtain rfl : y4 = 77 := HY.out.symm.trans (by simp); clear HY)
      | (go_at_call 11; refine (ksets_calls _ A _ c l l _ (Kd.C_takeN HF4.out) (Kd.C_below HR.out HB4.out)).mono ?_; rintro e w' ⟨rfl, n2, rfl⟩; rw [decide_eq_true (show l = l from rfl)])
      | (go_at_call 12; refine (meet_calls s t HS.out HT.out _).mono ?_; rintro e w' ⟨rfl, n3, rfl⟩)
      | (go_at_call 13; refine (rmeet_calls s t HS.out HT.out _).mono ?_; rintro e w' ⟨rfl, n4, rfl⟩)
      | (go_at_call 14; refine (minus_calls s t HS.out HT.out _).mono ?_; rintro e w' ⟨rfl, n5, rfl⟩)
      | (go_at_call 15; refine (rminus_calls s t HS.out HT.out _).mono ?_; rintro e w' ⟨rfl, n6, rfl⟩)
      | (go_at_call 16; refine (len_calls s HS.out _).mono ?_; rw [← numsI_len, HLd.out]; rintro e w' ⟨rfl, n7, rfl⟩))
  have HT4 := Lib.hid (HTab.out.below HG.out HB4.out)
  have HW := Lib.hid (within_calls s t HS.out HT.out)
  have hcmp : (s < t ∧ ¬ t < s ∧ Hid (cmpN s t = -1)) ∨ (¬ s < t ∧ ¬ t < s ∧ Hid (cmpN s t = 0)) ∨ (¬ s < t ∧ t < s ∧ Hid (cmpN s t = 1)) := by
    rcases Nat.lt_trichotomy s t with h | h | h
    · exact .inl ⟨h, by omega, Lib.hid (by simp [cmpN, h])⟩
    · exact .inr (.inl ⟨by omega, by omega, Lib.hid (by simp [cmpN, h])⟩)
    · exact .inr (.inr ⟨by omega, h, Lib.hid (by rw [cmpN, if_neg (by omega), if_pos h])⟩)
  by_cases h0 : s = 0
  · subst h0
    have hL : L = [] := by rw [← HLd.out, numsI, nums_zero, List.map_nil]
    subst hL
    rcases hcmp with ⟨h1, h2, H3⟩ | ⟨h1, h2, H3⟩ | ⟨h1, h2, H3⟩
    all_goals try (exfalso; omega)
    all_goals
      go_wp2_with (first
        | (go_at_call 17; refine (least_none _).mono ?_; rintro e w' ⟨rfl, n8, rfl⟩)
        | (go_at_call 18; refine (HW.out _).mono ?_; rintro e w' ⟨rfl, n9, rfl⟩)
        | (go_at_call 15; refine (rminus_calls _ t HS.out HT.out _).mono ?_; rintro e w' ⟨rfl, n10, rfl⟩; rw [← HM.out])
        | (go_at_call 19; refine (compare_calls _ t _).mono ?_; rintro e w' ⟨rfl, n11, rfl⟩; rw [H3.out]))
      go_ret
      exact ⟨rfl, pw_below_drewN HB4.out _⟩
  · have hL : L = (Lib.ctz 64 s : Int) :: numsI (nextT s) := by rw [← HLd.out]; exact numsI_step s h0 HS.out
    have H0 := Lib.hid h0
    have hlen : 0 < L.length := by rw [hL]; simp
    have hs0 : ((s : Int) == 0) = false := by simp; exact h0
    obtain ⟨ad5, y5, rfl, hc5, HY5⟩ := at_nat HC4.out 0 hlen
    obtain rfl : (Lib.ctz 64 s : Int) = y5 := by rw [← HY5.out, hL]; rfl
    rw [addr_zero] at hc5
    clear hL h0
    rcases hcmp with ⟨h1, h2, H3⟩ | ⟨h1, h2, H3⟩ | ⟨h1, h2, H3⟩
    all_goals
      go_wp2_with (first
        | (go_at_call 17; refine (least_some s H0.out HS.out _ (HT4.out.drewN _)).mono ?_; rintro e w' ⟨rfl, n8, rfl⟩)
        | (go_at_call 18; refine (HW.out _).mono ?_; rintro e w' ⟨rfl, n9, rfl⟩)
        | (go_at_call 15; refine (rminus_calls _ t HS.out HT.out _).mono ?_; rintro e w' ⟨rfl, n10, rfl⟩; rw [← HM.out])
        | (go_at_call 19; refine (compare_calls _ t _).mono ?_; rintro e w' ⟨rfl, n11, rfl⟩; rw [H3.out]))
      go_ret
      exact ⟨rfl, pw_below_drewN HB4.out _⟩
theorem algebra_walk (A : Option Addr) (c : Nat) (l : List Nat) {w : World} (y : Kd.C KSet w A l.length l ∧ l.length ≤ 17592186044032 ∧ l.length ≤ c ∧ ∀ x ∈ l, x < 18446744073709551616) (s : Nat) (hs : s < 18446744073709551616) (t : Nat) (ht : t < 18446744073709551616) (hT : TabIn w ∧ 0 < w.heap.size) :
    Calls Tryd.prog 3 #[.slice A l.length c, .int .u64 s, .int .u64 t] w fun e w' => e = .returned (.bool true) ∧ Below w.heap.size w w' :=
  algebra_calls A c l s t hs ht w hT.1 hT.2 y.1 y.2.2.2 (by omega)
end Go.Proofs.YtgbiihmacinnmaaDoor.Hand
