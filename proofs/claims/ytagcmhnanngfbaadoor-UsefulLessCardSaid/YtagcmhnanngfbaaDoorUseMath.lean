/- Which nonterminals derive something, which are reached: the least sets that are closed under the rules. -/
import Derived.Test.YtagcmhnanngfbaaDoorMemMath
import Derived.Test.YtagcmhnanngfbaaDoorSB
namespace Go.Proofs.YtagcmhnanngfbaaDoor.Hand
open Go.RowKit Go.Proofs.YtagcmhnanngfbaaDoorW.PrintWords Go.Proofs.YtagcmhnanngfbaaDoorW.PrintMore Go.Proofs.YtagcmhnanngfbaaDoor.Math

/-- All nonterminals of a right side are in S. -/
def AllIn (S : Nat → Prop) (l : List Int) : Prop := ∀ s, s ∈ l → s < 0 → S (-1 - s).toNat
theorem AllIn.imp {S T : Nat → Prop} {l : List Int} (h : AllIn S l) (hst : ∀ k, S k → T k) : AllIn T l := fun s hs h0 => hst _ (h s hs h0)
/-- Those that derive something. -/
inductive PD (R : List (Int × List Int)) : Nat → Prop
  | mk (r : Int × List Int) (hr : r ∈ R) (h : ∀ s, s ∈ r.2 → s < 0 → PD R (-1 - s).toNat) : PD R r.1.toNat
/-- Those that are reached from ax by rules whose nonterminals are all in I. -/
inductive RD (R : List (Int × List Int)) (ax : Nat) (I : Nat → Prop) : Nat → Prop
  | base : RD R ax I ax
  | step (r : Int × List Int) (hr : r ∈ R) (h1 : RD R ax I r.1.toNat) (h2 : AllIn I r.2) (s : Int) (hs : s ∈ r.2) (h0 : s < 0) : RD R ax I (-1 - s).toNat
theorem PD.closed {R : List (Int × List Int)} {S : Nat → Prop} (h : ∀ r ∈ R, AllIn S r.2 → S r.1.toNat) {k : Nat} (hk : PD R k) : S k := by
  induction hk with
  | mk r hr _ ih => exact h r hr (fun s hs h0 => ih s hs h0)
theorem RD.closed {R : List (Int × List Int)} {ax : Nat} {I S : Nat → Prop} (hb : S ax) (h : ∀ r ∈ R, S r.1.toNat → AllIn I r.2 → AllIn S r.2) {k : Nat} (hk : RD R ax I k) : S k := by
  induction hk with
  | base => exact hb
  | step r hr _ h2 s hs h0 ih => exact h r hr ih h2 s hs h0
theorem RD.imp {R : List (Int × List Int)} {ax : Nat} {I J : Nat → Prop} (hij : ∀ r ∈ R, AllIn I r.2 → AllIn J r.2) {k : Nat} (hk : RD R ax I k) : RD R ax J k := by
  induction hk with
  | base => exact .base
  | step r hr _ h2 s hs h0 ih => exact .step r hr ih (hij r hr h2) s hs h0
/-- The set of the nonterminals of a right side. -/
def ntN (l : List Int) : Nat := l.foldl (fun s k => if k < 0 then withN s (-1 - k) else s) 0
theorem ntN_snoc (l : List Int) (k : Int) : ntN (l ++ [k]) = if k < 0 then withN (ntN l) (-1 - k) else ntN l := by simp [ntN]
theorem ntN_rec {p : List Int → Prop} (h0 : p []) (hs : ∀ l k, p l → p (l ++ [k])) (l : List Int) : p l := by
  have : ∀ n, n ≤ l.length → p (l.take n) := by
    intro n
    induction n with
    | zero => intro _; simpa using h0
    | succ n ih =>
      intro hn
      have := hs _ (l.getD n 0) (ih (by omega))
      rwa [← take_snocD l n 0 (by omega)] at this
  have h := this l.length (Nat.le_refl _)
  rwa [List.take_length] at h
theorem ntN_lt (l : List Int) : ntN l < 18446744073709551616 := by
  refine ntN_rec (p := fun l => ntN l < 18446744073709551616) (by decide) (fun l k h => ?_) l
  rw [ntN_snoc]
  split
  · exact withN_lt h _
  · exact h
theorem ntN_test {l : List Int} (hl : ∀ s ∈ l, -(60 : Int) ≤ s) (i : Nat) : (ntN l).testBit i = true ↔ ∃ s, s ∈ l ∧ s < 0 ∧ (-1 - s).toNat = i := by
  revert hl
  refine ntN_rec (p := fun l => (∀ s ∈ l, -(60 : Int) ≤ s) → ((ntN l).testBit i = true ↔ ∃ s, s ∈ l ∧ s < 0 ∧ (-1 - s).toNat = i)) (fun _ => by simp [ntN]) (fun l k h hl => ?_) l
  have h1 := h (fun s hs => hl s (List.mem_append_left _ hs))
  have hk := hl k (by simp)
  rw [ntN_snoc]
  split
  · rename_i h0
    rw [withN, Nat.testBit_or, Bool.or_eq_true, h1, bitN_test, (inR_iff _).2 (by omega), Bool.true_and, decide_eq_true_eq]
    constructor
    · rintro (⟨s, hs, h2, h3⟩ | h2)
      · exact ⟨s, List.mem_append_left _ hs, h2, h3⟩
      · exact ⟨k, by simp, h0, h2⟩
    · rintro ⟨s, hs, h2, h3⟩
      rcases List.mem_append.1 hs with hs | hs
      · exact .inl ⟨s, hs, h2, h3⟩
      · rw [List.mem_singleton.1 hs] at h3; exact .inr h3
  · rename_i h0
    rw [h1]
    constructor
    · rintro ⟨s, hs, h2, h3⟩
      exact ⟨s, List.mem_append_left _ hs, h2, h3⟩
    · rintro ⟨s, hs, h2, h3⟩
      rcases List.mem_append.1 hs with hs | hs
      · exact ⟨s, hs, h2, h3⟩
      · rw [List.mem_singleton.1 hs] at h2; exact absurd h2 h0
theorem miss_lt {N : Nat} {f g : Nat → Bool} (hfg : ∀ k, k < N → f k = true → g k = true) {k : Nat} (hk : k < N) (h : f k = false) (h2 : g k = true) : miss N g < miss N f := by
  unfold miss
  have key : ∀ (l : List Nat), (∀ x ∈ l, x < N) → l.countP (fun x => !g x) + l.countP (fun x => x == k) ≤ l.countP (fun x => !f x) := by
    intro l
    induction l with
    | nil => simp
    | cons x l ih =>
      intro hl
      have ih := ih (fun y hy => hl y (List.mem_cons_of_mem _ hy))
      have hx := hfg x (hl x (List.mem_cons_self ..))
      simp only [List.countP_cons]
      by_cases e : x = k
      · subst e
        simp [h, h2]; omega
      · cases hf : f x
        · cases hg : g x <;> simp [e] <;> omega
        · simp [hx hf, e]; omega
  have h2 : 0 < (List.range N).countP (fun x => x == k) := List.countP_pos_iff.2 ⟨k, List.mem_range.2 hk, by simp⟩
  have := key (List.range N) (fun x hx => List.mem_range.1 hx)
  omega
theorem miss_mono {N : Nat} {f g : Nat → Bool} (hfg : ∀ k, k < N → f k = true → g k = true) : miss N g ≤ miss N f := by
  unfold miss
  refine List.countP_mono_left (fun x hx h => ?_)
  cases hf : f x
  · rfl
  · rw [hfg x (List.mem_range.1 hx) hf] at h; exact absurd h (by decide)
theorem hasN_nat {s : Nat} {x : Int} (h0 : 0 ≤ x) (h1 : x ≤ 63) : hasN s x = s.testBit x.toNat := by unfold hasN; rw [(inR_iff x).2 ⟨h0, h1⟩, Bool.true_and]
theorem withN_test {s : Nat} {x : Int} (h0 : 0 ≤ x) (h1 : x ≤ 63) (k : Nat) : (withN s x).testBit k = (s.testBit k || decide (x.toNat = k)) := by unfold withN; rw [Nat.testBit_or, bitN_test, (inR_iff x).2 ⟨h0, h1⟩, Bool.true_and]
theorem withN_lt2 {s N : Nat} {x : Int} (hs : s < 2 ^ N) (h0 : 0 ≤ x) (h1 : x < N) (hN : N ≤ 64) : withN s x < 2 ^ N := by
  unfold withN
  refine Nat.or_lt_two_pow hs ?_
  rw [bitN, (inR_iff x).2 (by omega)]
  exact Nat.pow_lt_pow_right (by decide) (by omega)
theorem ntN_lt2 {N : Nat} (hN : N ≤ 64) (l : List Int) : (∀ z ∈ l, -(N : Int) ≤ z) → ntN l < 2 ^ N := by
  refine ntN_rec (p := fun l => (∀ z ∈ l, -(N : Int) ≤ z) → ntN l < 2 ^ N) (fun _ => Nat.two_pow_pos _) (fun l k h hl => ?_) l
  have h1 := h (fun z hz => hl z (List.mem_append_left _ hz))
  have hk := hl k (by simp)
  rw [ntN_snoc]
  split
  · exact withN_lt2 h1 (by omega) (by omega) hN
  · exact h1
theorem not_allIn {S : Nat → Prop} {l : List Int} (h : ¬ AllIn S l) : ∃ s, s ∈ l ∧ s < 0 ∧ ¬ S (-1 - s).toNat := by
  refine Classical.byContradiction (fun hn => h (fun s hs h0 => ?_))
  exact Classical.byContradiction (fun h2 => hn ⟨s, hs, h0, h2⟩)
end Go.Proofs.YtagcmhnanngfbaaDoor.Hand
