/- Plainly: which nonterminals derive which tokens; tables of it, filled by fixpoints. -/
import Derived.Test.YtagcmhnanngfbaaDoorGramMath
namespace Go.Proofs.YtagcmhnanngfbaaDoor.Hand
open Go.RowKit Go.Proofs.YtagcmhnanngfbaaDoorW.PrintWords Go.Proofs.YtagcmhnanngfbaaDoorW.PrintMore Go.Proofs.YtagcmhnanngfbaaDoor.Math

/-- A row of symbols comes to the tokens from i to j. -/
inductive SeqD (R : List (Int × List Int)) (tk : List Int) : List Int → Nat → Nat → Prop
  | nil (i : Nat) : SeqD R tk [] i i
  | term {s : Int} {l : List Int} {i j : Nat} : 0 ≤ s → i < tk.length → tk.getD i 0 = s → SeqD R tk l (i + 1) j → SeqD R tk (s :: l) i j
  | non {s : Int} {l : List Int} {i q j : Nat} (r : Int × List Int) : s < 0 → r ∈ R → r.1 = -1 - s → SeqD R tk r.2 i q → SeqD R tk l q j → SeqD R tk (s :: l) i j
/-- Nonterminal k derives the tokens from i to j. -/
def Der (R : List (Int × List Int)) (tk : List Int) (k : Nat) (i j : Nat) : Prop := ∃ r ∈ R, r.1 = (k : Int) ∧ SeqD R tk r.2 i j
theorem SeqD.le {R : List (Int × List Int)} {tk : List Int} {l : List Int} {i j : Nat} (h : SeqD R tk l i j) : i ≤ j := by
  induction h with
  | nil i => exact Nat.le_refl _
  | term _ _ _ _ ih => omega
  | non _ _ _ _ _ _ ih1 ih2 => omega
/-- By a table: does a symbol come to the tokens from i to j? -/
def Hb (T : Nat → Nat → Nat → Bool) (tk : List Int) (s : Int) (i j : Nat) : Bool :=
  if 0 ≤ s then decide (j = i + 1) && (tk.getD i 0 == s) else T i j (-1 - s).toNat
/-- By a table: can the tokens from i to j be cut for these symbols? -/
def Cut (T : Nat → Nat → Nat → Bool) (tk : List Int) : List Int → Nat → Nat → Prop
  | [], i, j => i = j
  | s :: l, i, j => ∃ q, i ≤ q ∧ q ≤ j ∧ Hb T tk s i q = true ∧ Cut T tk l q j
theorem Cut.le {T : Nat → Nat → Nat → Bool} {tk : List Int} : ∀ {l : List Int} {i j : Nat}, Cut T tk l i j → i ≤ j
  | [], _, _, h => by have := (show _ = _ from h); omega
  | _ :: _, _, _, ⟨_, h1, _, _, h3⟩ => Nat.le_trans h1 h3.le
theorem Cut_snoc {T : Nat → Nat → Nat → Bool} {tk : List Int} : ∀ {l : List Int} {s : Int} {i j : Nat}, Cut T tk (l ++ [s]) i j ↔ ∃ p, i ≤ p ∧ p ≤ j ∧ Cut T tk l i p ∧ Hb T tk s p j = true
  | [], s, i, j => by
    constructor
    · rintro ⟨q, h1, h2, h3, h4⟩
      have : q = j := h4
      subst this
      exact ⟨i, Nat.le_refl _, h1, rfl, h3⟩
    · rintro ⟨p, h1, h2, h3, h4⟩
      have : i = p := h3
      subst this
      exact ⟨j, h2, Nat.le_refl _, h4, rfl⟩
  | x :: l, s, i, j => by
    constructor
    · rintro ⟨q, h1, h2, h3, h4⟩
      obtain ⟨p, k1, k2, k3, k4⟩ := Cut_snoc.1 h4
      exact ⟨p, by omega, k2, ⟨q, h1, k1, h3, k3⟩, k4⟩
    · rintro ⟨p, h1, h2, ⟨q, k1, k2, k3, k4⟩, h4⟩
      exact ⟨q, k1, by omega, k3, Cut_snoc.2 ⟨p, k2, h2, k4, h4⟩⟩
/-- A table says nothing false. -/
def Sound (R : List (Int × List Int)) (tk : List Int) (n N : Nat) (T : Nat → Nat → Nat → Bool) : Prop := ∀ i j k, i ≤ j → j ≤ n → k < N → T i j k = true → Der R tk k i j
/-- A table says all of the part from i to j. -/
def Full1 (R : List (Int × List Int)) (tk : List Int) (N : Nat) (T : Nat → Nat → Nat → Bool) (i j : Nat) : Prop := ∀ k, k < N → Der R tk k i j → T i j k = true
/-- The symbols of a rule are those of a grammar. -/
def RulesIn (t N : Nat) (R : List (Int × List Int)) : Prop := ∀ r ∈ R, ruleN t N r = 0
theorem RulesIn.left {t N : Nat} {R : List (Int × List Int)} (h : RulesIn t N R) {r : Int × List Int} (hr : r ∈ R) : 0 ≤ r.1 ∧ r.1 < N := by
  have := h r hr
  unfold ruleN at this
  split at this
  · omega
  · split at this
    · omega
    · omega
theorem RulesIn.sym {t N : Nat} {R : List (Int × List Int)} (h : RulesIn t N R) {r : Int × List Int} (hr : r ∈ R) {s : Int} (hs : s ∈ r.2) : -(N : Int) ≤ s ∧ s < t := by
  have := h r hr
  unfold ruleN at this
  split at this
  · omega
  · split at this
    · omega
    · rename_i h2
      have h3 : ¬ r.2.any (symBad t N) = true := fun h => h2 (.inr (.inr h))
      rw [List.any_eq_true] at h3
      have h4 : ¬ symBad t N s = true := fun h => h3 ⟨s, hs, h⟩
      simp [symBad] at h4
      omega
theorem Cut_sound {R : List (Int × List Int)} {tk : List Int} {N : Nat} {T : Nat → Nat → Nat → Bool} (hS : Sound R tk tk.length N T) : ∀ {l : List Int} {i j : Nat}, (∀ s ∈ l, -(N : Int) ≤ s) → j ≤ tk.length → Cut T tk l i j → SeqD R tk l i j
  | [], _, _, _, _, h => by have h' := (show _ = _ from h); subst h'; exact .nil _
  | s :: l, i, j, hl, hj, ⟨q, h1, h2, h3, h4⟩ => by
    have ih := Cut_sound hS (fun x hx => hl x (List.mem_cons_of_mem _ hx)) hj h4
    unfold Hb at h3
    by_cases hs : 0 ≤ s
    · rw [if_pos hs] at h3
      simp only [Bool.and_eq_true, decide_eq_true_eq, beq_iff_eq] at h3
      obtain ⟨rfl, h5⟩ := h3
      exact .term hs (by omega) h5 ih
    · rw [if_neg hs] at h3
      have hk := hl s List.mem_cons_self
      obtain ⟨r, k1, k2, k3⟩ := hS i q (-1 - s).toNat h1 (by omega) (by omega) h3
      exact .non r (by omega) k1 (by omega) k3 ih
/-- At the fixpoint of one part, all smaller parts being told, all is told. -/
theorem SeqD_cut {R : List (Int × List Int)} {tk : List Int} {N : Nat} {T : Nat → Nat → Nat → Bool} {i j : Nat} (hj : j ≤ tk.length) (hR : ∀ r ∈ R, 0 ≤ r.1 ∧ r.1 < N)
    (hF : ∀ i' j', i ≤ i' → i' ≤ j' → j' ≤ j → ¬ (i' = i ∧ j' = j) → Full1 R tk N T i' j') (hX : ∀ r ∈ R, T i j r.1.toNat = true ∨ ¬ Cut T tk r.2 i j)
    {l : List Int} {a b : Nat} (h : SeqD R tk l a b) : i ≤ a → b ≤ j → Cut T tk l a b := by
  induction h with
  | nil i => intro _ _; rfl
  | term h0 h1 h2 h3 ih =>
    rename_i s l a b
    intro ha hb
    have := h3.le
    exact ⟨a + 1, by omega, by omega, by unfold Hb; rw [if_pos h0, h2]; simp, ih (by omega) hb⟩
  | non r h0 h1 h2 h3 h4 ih1 ih2 =>
    rename_i s l a q b
    intro ha hb
    have l1 := h3.le
    have l2 := h4.le
    refine ⟨q, l1, l2, ?_, ih2 (by omega) hb⟩
    unfold Hb
    rw [if_neg (by omega), ← h2]
    by_cases he : a = i ∧ q = j
    · obtain ⟨rfl, rfl⟩ := he
      rcases hX r h1 with h | h
      · exact h
      · exact absurd (ih1 (Nat.le_refl _) (Nat.le_refl _)) h
    · have hr := hR r h1
      exact hF a q ha l1 (by omega) he r.1.toNat (by omega) ⟨r, h1, by omega, h3⟩
theorem fixed_full {R : List (Int × List Int)} {tk : List Int} {N : Nat} {T : Nat → Nat → Nat → Bool} {i j : Nat} (hj : j ≤ tk.length) (hR : ∀ r ∈ R, 0 ≤ r.1 ∧ r.1 < N)
    (hF : ∀ i' j', i ≤ i' → i' ≤ j' → j' ≤ j → ¬ (i' = i ∧ j' = j) → Full1 R tk N T i' j') (hX : ∀ r ∈ R, T i j r.1.toNat = true ∨ ¬ Cut T tk r.2 i j) : Full1 R tk N T i j := by
  rintro k hk ⟨r, h1, h2, h3⟩
  have e : r.1.toNat = k := by omega
  rcases hX r h1 with h | h
  · rwa [e] at h
  · exact absurd (SeqD_cut hj hR hF hX h3 (Nat.le_refl _) (Nat.le_refl _)) h
/-- One entry more. -/
def upd (T : Nat → Nat → Nat → Bool) (i j k : Nat) : Nat → Nat → Nat → Bool := fun a b c => if a = i ∧ b = j ∧ c = k then true else T a b c
theorem upd_mono {T : Nat → Nat → Nat → Bool} {i j k a b c : Nat} (h : T a b c = true) : upd T i j k a b c = true := by unfold upd; split <;> simp [h]
theorem upd_other {T : Nat → Nat → Nat → Bool} {i j k a b c : Nat} (h : ¬ (a = i ∧ b = j)) : upd T i j k a b c = T a b c := by unfold upd; rw [if_neg (fun x => h ⟨x.1, x.2.1⟩)]
theorem upd_same {T : Nat → Nat → Nat → Bool} {i j k : Nat} : upd T i j k i j k = true := by unfold upd; simp
theorem Sound.upd {R : List (Int × List Int)} {tk : List Int} {n N : Nat} {T : Nat → Nat → Nat → Bool} (h : Sound R tk n N T) {i j k : Nat} (hd : Der R tk k i j) : Sound R tk n N (upd T i j k) := by
  intro a b c h1 h2 h3 h4
  by_cases e : a = i ∧ b = j ∧ c = k
  · obtain ⟨rfl, rfl, rfl⟩ := e; exact hd
  · unfold Hand.upd at h4; rw [if_neg e] at h4; exact h a b c h1 h2 h3 h4
theorem Full1.upd {R : List (Int × List Int)} {tk : List Int} {N : Nat} {T : Nat → Nat → Nat → Bool} {a b i j k : Nat} (h : Full1 R tk N T a b) : Full1 R tk N (upd T i j k) a b := fun c h1 h2 => upd_mono (h c h1 h2)
/-- How many entries of a part are still missing. -/
def miss (N : Nat) (f : Nat → Bool) : Nat := (List.range N).countP (fun k => !f k)
theorem miss_le (N : Nat) (f : Nat → Bool) : miss N f ≤ N := by unfold miss; have := List.countP_le_length (p := fun k => !f k) (l := List.range N); simpa using this
theorem miss_upd {N : Nat} {T : Nat → Nat → Nat → Bool} {i j k : Nat} (hk : k < N) (h : T i j k = false) : miss N (upd T i j k i j) < miss N (T i j) := by
  unfold miss
  have key : ∀ (l : List Nat), l.countP (fun x => !upd T i j k i j x) + l.countP (fun x => x == k) ≤ l.countP (fun x => !T i j x) := by
    intro l
    induction l with
    | nil => simp
    | cons x l ih =>
      simp only [List.countP_cons]
      by_cases e : x = k
      · subst e
        have : upd T i j x i j x = true := upd_same
        simp [this, h]; omega
      · have : upd T i j k i j x = T i j x := by unfold upd; rw [if_neg (fun q => e q.2.2)]
        simp [this, e]; omega
  have h2 : 0 < (List.range N).countP (fun x => x == k) := List.countP_pos_iff.2 ⟨k, List.mem_range.2 hk, by simp⟩
  have := key (List.range N)
  omega
/-- A table that is right. -/
def Exact (R : List (Int × List Int)) (tk : List Int) (n N : Nat) (T : Nat → Nat → Nat → Bool) : Prop := ∀ i j k, i ≤ j → j ≤ n → k < N → (T i j k = true ↔ Der R tk k i j)
end Go.Proofs.YtagcmhnanngfbaaDoor.Hand
