/- The texts that the statement's proof stands on, part 3: XCntMath XCntKey XRepeat XCntA XCntS XCntM XCntD XCntR XCntW XCount XKnMath XLit. -/
import Derived.Test.YtndimnomkcjeiaaDoorZMemberOwn2
import Derived.DeepKeys4
import Derived.Shelf.Bits.Mul64
import Derived.Laws.CopyOwn
import Derived.StillTailTactics
import Derived.Laws.Externs
import Derived.Deep.RegionHeld3
import Derived.WalkLawsBesides
import Derived.Tactics2
import Derived.Defers
import Derived.Recover
/- How many derivation trees there are: reckoned with fuel; a node that no fuel serves has endlessly many. -/
namespace Go.Proofs.YtndimnomkcjeiaaDoor.Hand
open Go.RowKit Go.Proofs.YtndimnomkcjeiaaDoorW.PrintWords Go.Proofs.YtndimnomkcjeiaaDoorW.PrintMore Go.Proofs.YtndimnomkcjeiaaDoor.Math
open Classical

def mulO : Option Nat → Option Nat → Option Nat
  | some a, some b => some (a * b)
  | _, _ => none
def addO : Option Nat → Option Nat → Option Nat
  | some a, some b => some (a + b)
  | _, _ => none
theorem mulO_some {x y : Option Nat} {c : Nat} (h : mulO x y = some c) : ∃ a b, x = some a ∧ y = some b ∧ c = a * b := by
  cases x <;> cases y <;> simp [mulO] at h
  exact ⟨_, _, rfl, rfl, h.symm⟩
theorem addO_some {x y : Option Nat} {c : Nat} (h : addO x y = some c) : ∃ a b, x = some a ∧ y = some b ∧ c = a + b := by
  cases x <;> cases y <;> simp [addO] at h
  exact ⟨_, _, rfl, rfl, h.symm⟩
/-- A sum of some first ones. -/
def sumO (f : Nat → Option Nat) : Nat → Option Nat
  | 0 => some 0
  | m + 1 => addO (sumO f m) (f m)
theorem sumO_mono {f g : Nat → Option Nat} : ∀ {m c : Nat}, (∀ q, q < m → ∀ c, f q = some c → g q = some c) → sumO f m = some c → sumO g m = some c
  | 0, _, _, h => h
  | m + 1, c, hfg, h => by
    obtain ⟨a, b, h1, h2, rfl⟩ := addO_some h
    show addO (sumO g m) (g m) = _
    rw [sumO_mono (fun q hq => hfg q (by omega)) h1, hfg m (by omega) b h2]; rfl
theorem sumO_part {f : Nat → Option Nat} : ∀ {m c : Nat}, sumO f m = some c → ∀ q, q < m → ∃ a, f q = some a
  | 0, _, _, q, hq => by omega
  | m + 1, c, h, q, hq => by
    obtain ⟨a, b, h1, h2, _⟩ := addO_some h
    by_cases e : q = m
    · subst e; exact ⟨b, h2⟩
    · exact sumO_part h1 q (by omega)
theorem sumO_pre {f : Nat → Option Nat} : ∀ {m c k : Nat}, sumO f m = some c → k ≤ m → ∃ a, sumO f k = some a
  | 0, c, k, h, hk => by obtain rfl := Nat.le_zero.1 hk; exact ⟨c, h⟩
  | m + 1, c, k, h, hk => by
    obtain ⟨a, b, h1, h2, _⟩ := addO_some h
    by_cases e : k = m + 1
    · subst e; exact ⟨c, h⟩
    · exact sumO_pre h1 (by omega)
theorem sumO_all {f : Nat → Option Nat} : ∀ {m : Nat}, (∀ q, q < m → ∃ a, f q = some a) → ∃ c, sumO f m = some c
  | 0, _ => ⟨0, rfl⟩
  | m + 1, h => by
    obtain ⟨a, ha⟩ := sumO_all (m := m) (fun q hq => h q (by omega))
    obtain ⟨b, hb⟩ := h m (by omega)
    exact ⟨a + b, by show addO (sumO f m) (f m) = _; rw [ha, hb]; rfl⟩
theorem sumO_congr {f g : Nat → Option Nat} : ∀ {m : Nat}, (∀ q, q < m → f q = g q) → sumO f m = sumO g m
  | 0, _ => rfl
  | m + 1, h => by
    show addO (sumO f m) (f m) = addO (sumO g m) (g m)
    rw [sumO_congr (fun q hq => h q (by omega)), h m (by omega)]

section
variable (T : Nat → Nat → Nat → Bool) (tk : List Int)
/-- Does the first symbol fit to the tokens from i to q, the others to those from q to j? -/
def Fits (s : Int) (l : List Int) (i q j : Nat) : Prop := Hb T tk s i q = true ∧ Cut T tk l q j
/-- How symbols come to be the tokens from i to j; W: the trees of the nonterminals. -/
noncomputable def seqC (W : Nat → Nat → Nat → Option Nat) : List Int → Nat → Nat → Option Nat
  | [], i, j => some (if i = j then 1 else 0)
  | s :: l, i, j => sumO (fun q => if i ≤ q ∧ Fits T tk s l i q j then mulO (seqC W l q j) (if s < 0 then W (-1 - s).toNat i q else some 1) else some 0) (j + 1)
/-- The trees of a nonterminal: rule by rule. -/
noncomputable def ruleC (W : Nat → Nat → Nat → Option Nat) (R : List (Int × List Int)) (k i j : Nat) (n : Nat) : Option Nat :=
  if (R.getD n (0, [])).1 = (k : Int) ∧ Cut T tk (R.getD n (0, [])).2 i j then seqC T tk W (R.getD n (0, [])).2 i j else some 0
noncomputable def nodeC (R : List (Int × List Int)) : Nat → Nat → Nat → Nat → Option Nat
  | 0, _, _, _ => none
  | f + 1, k, i, j => sumO (ruleC T tk (nodeC R f) R k i j) R.length
variable {T tk}
theorem seqC_mono {W W' : Nat → Nat → Nat → Option Nat} : ∀ {l : List Int} {i j c : Nat}, (∀ k i' j' c, i ≤ i' → i' ≤ j' → j' ≤ j → W k i' j' = some c → W' k i' j' = some c) → seqC T tk W l i j = some c → seqC T tk W' l i j = some c
  | [], _, _, _, _, h => h
  | s :: l, i, j, c, hW, h => by
    refine sumO_mono (fun q hq c h => ?_) h
    by_cases hf : i ≤ q ∧ Fits T tk s l i q j
    · simp only [if_pos hf] at h ⊢
      obtain ⟨a, b, h1, h2, rfl⟩ := mulO_some h
      rw [seqC_mono (fun k i' j' c h1 h2 h3 => hW k i' j' c (by omega) h2 h3) h1]
      by_cases hs : s < 0
      · simp only [if_pos hs] at h2 ⊢; rw [hW _ _ _ _ (Nat.le_refl _) hf.1 (by omega) h2]; rfl
      · simp only [if_neg hs] at h2 ⊢; rw [h2]; rfl
    · simp only [if_neg hf] at h ⊢; exact h
theorem nodeC_mono {R : List (Int × List Int)} : ∀ {f k i j c : Nat}, nodeC T tk R f k i j = some c → nodeC T tk R (f + 1) k i j = some c
  | 0, _, _, _, _, h => by cases h
  | f + 1, k, i, j, c, h => by
    refine sumO_mono (fun n _ c h => ?_) h
    unfold ruleC at h ⊢
    split
    · rename_i hc; rw [if_pos hc] at h; exact seqC_mono (fun k i j c _ _ _ h => nodeC_mono h) h
    · rename_i hc; rw [if_neg hc] at h; exact h
theorem nodeC_le {R : List (Int × List Int)} {f g k i j c : Nat} (hfg : f ≤ g) (h : nodeC T tk R f k i j = some c) : nodeC T tk R g k i j = some c := by
  induction g with
  | zero => obtain rfl : f = 0 := by omega
            exact h
  | succ g ih =>
    by_cases e : f = g + 1
    · subst e; exact h
    · exact nodeC_mono (ih (by omega))
theorem nodeC_eq {R : List (Int × List Int)} {f g k i j c d : Nat} (h : nodeC T tk R f k i j = some c) (h' : nodeC T tk R g k i j = some d) : c = d := by
  have h1 := nodeC_le (Nat.le_max_left f g) h
  have h2 := nodeC_le (Nat.le_max_right f g) h'
  rw [h1] at h2
  exact Option.some.inj h2
end
section
variable (T : Nat → Nat → Nat → Bool) (tk : List Int) (R : List (Int × List Int))
/-- How many trees a node has; none: endlessly many. -/
noncomputable def treeN (k i j : Nat) : Option Nat := if h : ∃ f c, nodeC T tk R f k i j = some c then some (Classical.choose (Classical.choose_spec h)) else none
variable {T tk R}
theorem treeN_of {f k i j c : Nat} (h : nodeC T tk R f k i j = some c) : treeN T tk R k i j = some c := by
  have he : ∃ f c, nodeC T tk R f k i j = some c := ⟨f, c, h⟩
  unfold treeN
  rw [dif_pos he]
  exact congrArg some (nodeC_eq (Classical.choose_spec (Classical.choose_spec he)) h)
theorem treeN_iff {k i j c : Nat} : treeN T tk R k i j = some c ↔ ∃ f, nodeC T tk R f k i j = some c := by
  constructor
  · intro h
    unfold treeN at h
    split at h
    · rename_i he
      have := Option.some.inj h
      exact ⟨_, by rw [← this]; exact Classical.choose_spec (Classical.choose_spec he)⟩
    · cases h
  · rintro ⟨f, h⟩; exact treeN_of h
theorem sumO_fuel {F : Nat → Option Nat} {G : Nat → Nat → Option Nat} (hm : ∀ f q c, G f q = some c → G (f + 1) q = some c) : ∀ {m c : Nat}, (∀ q, q < m → ∀ c, F q = some c → ∃ f, G f q = some c) → sumO F m = some c → ∃ f, sumO (G f) m = some c
  | 0, c, _, h => ⟨0, h⟩
  | m + 1, c, hF, h => by
    have hl : ∀ d f q c, G f q = some c → G (f + d) q = some c := by
      intro d
      induction d with
      | zero => intro f q c h; exact h
      | succ d ih => intro f q c h; exact hm _ _ _ (ih f q c h)
    have hl' : ∀ f g q c, f ≤ g → G f q = some c → G g q = some c := fun f g q c hfg h => by
      have := hl (g - f) f q c h
      rwa [show f + (g - f) = g by omega] at this
    obtain ⟨a, b, h1, h2, rfl⟩ := addO_some h
    obtain ⟨f, hf⟩ := sumO_fuel hm (fun q hq => hF q (by omega)) h1
    obtain ⟨g, hg⟩ := hF m (by omega) b h2
    refine ⟨max f g, ?_⟩
    show addO (sumO (G (max f g)) m) (G (max f g) m) = _
    rw [sumO_mono (fun q _ c h => hl' f _ q c (Nat.le_max_left f g) h) hf, hl' g _ m b (Nat.le_max_right f g) hg]; rfl
/-- How symbols come to be a part, by all the trees. -/
noncomputable def seqN (l : List Int) (i j : Nat) : Option Nat := seqC T tk (treeN T tk R) l i j
theorem seqC_fuel : ∀ {l : List Int} {i j c : Nat}, seqC T tk (treeN T tk R) l i j = some c → ∃ f, seqC T tk (nodeC T tk R f) l i j = some c
  | [], _, _, _, h => ⟨0, h⟩
  | s :: l, i, j, c, h => by
    refine sumO_fuel (G := fun f q => if i ≤ q ∧ Fits T tk s l i q j then mulO (seqC T tk (nodeC T tk R f) l q j) (if s < 0 then nodeC T tk R f (-1 - s).toNat i q else some 1) else some 0) (fun f q c h => ?_) (fun q _ c h => ?_) h
    · by_cases hf : i ≤ q ∧ Fits T tk s l i q j
      · simp only [if_pos hf] at h ⊢
        obtain ⟨a, b, h1, h2, rfl⟩ := mulO_some h
        rw [seqC_mono (fun k i' j' c _ _ _ h => nodeC_mono h) h1]
        by_cases hs : s < 0
        · simp only [if_pos hs] at h2 ⊢; rw [nodeC_mono h2]; rfl
        · simp only [if_neg hs] at h2 ⊢; rw [h2]; rfl
      · simp only [if_neg hf] at h ⊢; exact h
    · by_cases hf : i ≤ q ∧ Fits T tk s l i q j
      · simp only [if_pos hf] at h ⊢
        obtain ⟨a, b, h1, h2, rfl⟩ := mulO_some h
        obtain ⟨f, h1⟩ := seqC_fuel h1
        by_cases hs : s < 0
        · simp only [if_pos hs] at h2 ⊢
          obtain ⟨g, h2⟩ := treeN_iff.1 h2
          refine ⟨max f g, ?_⟩
          rw [seqC_mono (fun k i' j' c _ _ _ h => nodeC_le (Nat.le_max_left f g) h) h1, nodeC_le (Nat.le_max_right f g) h2]; rfl
        · simp only [if_neg hs] at h2 ⊢
          exact ⟨f, by rw [h1, h2]; rfl⟩
      · simp only [if_neg hf] at h ⊢; exact ⟨0, h⟩
theorem treeN_some {k i j c : Nat} (h : sumO (ruleC T tk (treeN T tk R) R k i j) R.length = some c) : treeN T tk R k i j = some c := by
  obtain ⟨f, hf⟩ := sumO_fuel (G := fun f n => ruleC T tk (nodeC T tk R f) R k i j n) (fun f n c h => by
    unfold ruleC at h ⊢
    split
    · rename_i hc; rw [if_pos hc] at h; exact seqC_mono (fun k i j c _ _ _ h => nodeC_mono h) h
    · rename_i hc; rw [if_neg hc] at h; exact h) (fun n _ c h => by
    unfold ruleC at h
    by_cases hc : (R.getD n (0, [])).1 = (k : Int) ∧ Cut T tk (R.getD n (0, [])).2 i j
    · rw [if_pos hc] at h
      obtain ⟨f, hf⟩ := seqC_fuel h
      exact ⟨f, by unfold ruleC; rw [if_pos hc]; exact hf⟩
    · rw [if_neg hc] at h
      exact ⟨0, by unfold ruleC; rw [if_neg hc]; exact h⟩) h
  exact treeN_of (f := f + 1) hf
theorem treeN_eq (k i j : Nat) : treeN T tk R k i j = sumO (ruleC T tk (treeN T tk R) R k i j) R.length := by
  cases h : sumO (ruleC T tk (treeN T tk R) R k i j) R.length with
  | some c => exact treeN_some h
  | none =>
    cases h2 : treeN T tk R k i j with
    | none => rfl
    | some c =>
      obtain ⟨f, hf⟩ := treeN_iff.1 h2
      cases f with
      | zero => cases hf
      | succ f =>
        have : sumO (ruleC T tk (treeN T tk R) R k i j) R.length = some c := by
          refine sumO_mono (fun n _ c h => ?_) (show sumO (ruleC T tk (nodeC T tk R f) R k i j) R.length = some c from hf)
          unfold ruleC at h ⊢
          split
          · rename_i hc; rw [if_pos hc] at h; exact seqC_mono (fun k i j c _ _ _ h => treeN_of h) h
          · rename_i hc; rw [if_neg hc] at h; exact h
        rw [h] at this; cases this
/-- A node wants another one: whatever fuel serves the first, less serves the second. -/
def Dep (x y : Nat × Nat × Nat) : Prop := ∀ f c, nodeC T tk R f x.1 x.2.1 x.2.2 = some c → ∃ g d, g < f ∧ nodeC T tk R g y.1 y.2.1 y.2.2 = some d
def DepS (x : Nat × Nat × Nat) (l : List Int) (i j : Nat) : Prop := ∀ f c, nodeC T tk R f x.1 x.2.1 x.2.2 = some c → ∃ g d, g < f ∧ seqC T tk (nodeC T tk R g) l i j = some d
theorem Dep.loop {x : Nat × Nat × Nat} (h : Dep (T := T) (tk := tk) (R := R) x x) : treeN T tk R x.1 x.2.1 x.2.2 = none := by
  cases h2 : treeN T tk R x.1 x.2.1 x.2.2 with
  | none => rfl
  | some c =>
    obtain ⟨f, hf⟩ := treeN_iff.1 h2
    exact absurd hf (by
      have key : ∀ f c, ¬ nodeC T tk R f x.1 x.2.1 x.2.2 = some c := by
        intro f
        induction f using Nat.strongRecOn with
        | _ f ih =>
          intro c hc
          obtain ⟨g, d, hg, hd⟩ := h f c hc
          exact ih g hg d hd
      exact key f c)
theorem Dep.rule {x y : Nat × Nat × Nat} (h : Dep (T := T) (tk := tk) (R := R) x y) {n : Nat} (hn : n < R.length) (h1 : (R.getD n (0, [])).1 = (y.1 : Int)) (h2 : Cut T tk (R.getD n (0, [])).2 y.2.1 y.2.2) : DepS (T := T) (tk := tk) (R := R) x (R.getD n (0, [])).2 y.2.1 y.2.2 := by
  intro f c hf
  obtain ⟨g, d, hg, hd⟩ := h f c hf
  cases g with
  | zero => cases hd
  | succ g =>
    obtain ⟨a, ha⟩ := sumO_part (show sumO (ruleC T tk (nodeC T tk R g) R y.1 y.2.1 y.2.2) R.length = some d from hd) n hn
    unfold ruleC at ha
    rw [if_pos ⟨h1, h2⟩] at ha
    exact ⟨g, a, by omega, ha⟩
theorem DepS.self {x : Nat × Nat × Nat} {n : Nat} (hn : n < R.length) (h1 : (R.getD n (0, [])).1 = (x.1 : Int)) (h2 : Cut T tk (R.getD n (0, [])).2 x.2.1 x.2.2) : DepS (T := T) (tk := tk) (R := R) x (R.getD n (0, [])).2 x.2.1 x.2.2 := by
  intro f c hf
  cases f with
  | zero => cases hf
  | succ g =>
    obtain ⟨a, ha⟩ := sumO_part (show sumO (ruleC T tk (nodeC T tk R g) R x.1 x.2.1 x.2.2) R.length = some c from hf) n hn
    unfold ruleC at ha
    rw [if_pos ⟨h1, h2⟩] at ha
    exact ⟨g, a, by omega, ha⟩
theorem DepS.tail {x : Nat × Nat × Nat} {s : Int} {l : List Int} {i q j : Nat} (h : DepS (T := T) (tk := tk) (R := R) x (s :: l) i j) (hi : i ≤ q) (hq : q ≤ j) (hf : Fits T tk s l i q j) : DepS (T := T) (tk := tk) (R := R) x l q j := by
  intro f c hc
  obtain ⟨g, d, hg, hd⟩ := h f c hc
  obtain ⟨a, ha⟩ := sumO_part hd q (by omega)
  rw [if_pos ⟨hi, hf⟩] at ha
  obtain ⟨a1, b1, h1, _, _⟩ := mulO_some ha
  exact ⟨g, a1, hg, h1⟩
theorem DepS.head {x : Nat × Nat × Nat} {s : Int} {l : List Int} {i q j : Nat} (h : DepS (T := T) (tk := tk) (R := R) x (s :: l) i j) (hi : i ≤ q) (hq : q ≤ j) (hf : Fits T tk s l i q j) (hs : s < 0) : Dep (T := T) (tk := tk) (R := R) x ((-1 - s).toNat, i, q) := by
  intro f c hc
  obtain ⟨g, d, hg, hd⟩ := h f c hc
  obtain ⟨a, ha⟩ := sumO_part hd q (by omega)
  rw [if_pos ⟨hi, hf⟩] at ha
  obtain ⟨a1, b1, _, h1, _⟩ := mulO_some ha
  rw [if_pos hs] at h1
  exact ⟨g, b1, hg, h1⟩
end
/-- A number that is too great stays the greatest. -/
def sat (x : Nat) : Nat := if x ≤ 18446744073709551615 then x else 18446744073709551615
theorem sat_le (x : Nat) : sat x ≤ 18446744073709551615 := by unfold sat; split <;> omega
theorem sat_add (a b : Nat) : sat (sat a + sat b) = sat (a + b) := by
  have h1 : sat a = a ∧ a ≤ 18446744073709551615 ∨ sat a = 18446744073709551615 ∧ 18446744073709551615 < a := by unfold sat; split <;> omega
  have h2 : sat b = b ∧ b ≤ 18446744073709551615 ∨ sat b = 18446744073709551615 ∧ 18446744073709551615 < b := by unfold sat; split <;> omega
  have big : ∀ x, 18446744073709551615 ≤ x → sat x = 18446744073709551615 := fun x hx => by unfold sat; split <;> omega
  rcases h1 with ⟨h1, _⟩ | ⟨h1, _⟩ <;> rcases h2 with ⟨h2, _⟩ | ⟨h2, _⟩ <;> rw [h1, h2]
  · rw [big _ (by omega), big _ (by omega)]
  · rw [big _ (by omega), big _ (by omega)]
  · rw [big _ (by omega), big _ (by omega)]
theorem sat_mul (a b : Nat) : sat (sat a * sat b) = sat (a * b) := by
  have h1 : sat a = a ∨ (sat a = 18446744073709551615 ∧ 18446744073709551615 < a) := by unfold sat; split <;> omega
  have h2 : sat b = b ∨ (sat b = 18446744073709551615 ∧ 18446744073709551615 < b) := by unfold sat; split <;> omega
  have big : ∀ x, 18446744073709551615 ≤ x → sat x = 18446744073709551615 := fun x hx => by unfold sat; split <;> omega
  rcases h1 with h1 | ⟨h1, h1'⟩ <;> rcases h2 with h2 | ⟨h2, h2'⟩ <;> rw [h1, h2]
  · by_cases e : a = 0
    · subst e; simp
    · rw [big _ (Nat.le_mul_of_pos_left _ (by omega)), big _ (Nat.le_trans (Nat.le_of_lt h2') (Nat.le_mul_of_pos_left _ (by omega)))]
  · by_cases e : b = 0
    · subst e; simp
    · rw [big _ (Nat.le_mul_of_pos_right _ (by omega)), big _ (Nat.le_trans (Nat.le_of_lt h1') (Nat.le_mul_of_pos_right _ (by omega)))]
  · rw [big _ (Nat.le_mul_of_pos_right _ (by decide)), big _ (Nat.le_trans (Nat.le_of_lt h1') (Nat.le_mul_of_pos_right _ (by omega)))]
theorem sat_id {x : Nat} (h : x ≤ 18446744073709551615) : sat x = x := by unfold sat; rw [if_pos h]
end Go.Proofs.YtndimnomkcjeiaaDoor.Hand
/- The keys of the counter's maps. -/
namespace Go.Proofs.YtndimnomkcjeiaaDoor.Hand
open Go.RowKit Go.Proofs.YtndimnomkcjeiaaDoorW.PrintWords Go.Proofs.YtndimnomkcjeiaaDoorW.PrintMore Go.Proofs.YtndimnomkcjeiaaDoor.Math
open Go.Maps (Keyed)

def nodeK (a b i j : Int) : Value := .agg #[.int .i64 a, .int .i64 b, .int .i64 i, .int .i64 j]
theorem nodeK_inj {a b i j a' b' i' j' : Int} (h : nodeK a b i j = nodeK a' b' i' j') : a = a' ∧ b = b' ∧ i = i' ∧ j = j' := by
  unfold nodeK at h
  simpa using h
theorem node_keyed : Keyed Tryd.prog 111 := Keyed.of_law (deep_law_laid (m := 9) (by kernel_rfl) (by decide) (by decide +kernel) (by kernel_rfl) (by kernel_rfl))
theorem wf_i64 {n : Int} (h0 : -9223372036854775808 ≤ n) (h1 : n ≤ 9223372036854775807) : (Lit.int .i64 n).wf = true := by
  have e1 : IntKind.i64.min = -9223372036854775808 := rfl
  have e2 : IntKind.i64.max = 9223372036854775807 := rfl
  simp only [Lit.wf, Bool.and_eq_true, decide_eq_true_eq, e1, e2]
  omega
theorem wf_u64 {n : Int} (h0 : 0 ≤ n) (h1 : n ≤ 18446744073709551615) : (Lit.int .u64 n).wf = true := by
  have e1 : IntKind.u64.min = 0 := rfl
  have e2 : IntKind.u64.max = 18446744073709551615 := rfl
  simp only [Lit.wf, Bool.and_eq_true, decide_eq_true_eq, e1, e2]
  omega
theorem node_key {a b i j : Int} (ha : (Lit.int .i64 a).wf = true) (hb : (Lit.int .i64 b).wf = true) (hi : (Lit.int .i64 i).wf = true) (hj : (Lit.int .i64 j).wf = true) : ∃ kl, keyOf Tryd.prog 111 (nodeK a b i j) = some kl := by
  have hu := Tryd.underlying111
  have h3 := Tryd.underlying3
  have hk : Tryd.prog.keyType 111 = true := by kernel_rfl
  have hc : Tryd.prog.cellsOf 111 = 4 := by kernel_rfl
  have hc1 : Tryd.prog.cellsOf 3 = 1 := by kernel_rfl
  have hs0 : decide (0 < Tryd.prog.types.size) = true := by kernel_rfl
  obtain ⟨n, hs⟩ : ∃ n, Tryd.prog.types.size = n + 1 := ⟨Tryd.prog.types.size - 1, by have := of_decide_eq_true hs0; omega⟩
  have hl : ∀ x, (Lit.int .i64 x).wf = true → Tryd.prog.keyLits (n + 1) 3 [.int .i64 x] = some [.int .i64 x] := fun x hx => by
    unfold Program.keyLits
    rw [h3]
    simp [hx]
  have hf : Value.formed Tryd.prog 111 (nodeK a b i j) = true := by
    simp [Value.formed, hu, nodeK, hc]
  unfold keyOf
  rw [hu]
  simp only []
  rw [hs, hk, hf]
  unfold Program.keyLits
  rw [hu]
  simp [nodeK, Value.cells, hc, hc1, hl, ha, hb, hi, hj]
end Go.Proofs.YtndimnomkcjeiaaDoor.Hand
/- slices.Repeat of one number; math/bits.Mul. -/
namespace Go.Proofs.YtndimnomkcjeiaaDoor.Hand
open Go.RowKit Go.Proofs.YtndimnomkcjeiaaDoorW.PrintWords Go.Proofs.YtndimnomkcjeiaaDoorW.PrintMore Go.Proofs.YtndimnomkcjeiaaDoor.Math

set_option maxHeartbeats 1000000 in
theorem mul64_calls (x y : Nat) (hx : x < 18446744073709551616) (hy : y < 18446744073709551616) (w : World) :
    Calls Tryd.prog 67 #[.int .u64 x, .int .u64 y] w fun e w' => e = .returned (.tuple #[.int .u64 ((x * y / 18446744073709551616 : Nat) : Int), .int .u64 ((x * y % 18446744073709551616 : Nat) : Int)]) ∧ w' = w := by
  obtain ⟨bd, bt, bw, hhi⟩ := Lib.mul64_hi x y hx hy
  have ba := Lib.half_mul_le (a := x / 4294967296) (b := y / 4294967296) (by omega) (by omega)
  have bb := Lib.half_mul_le (a := x / 4294967296) (b := y % 4294967296) (by omega) (by omega)
  have bc := Lib.half_mul_le (a := x % 4294967296) (b := y / 4294967296) (by omega) (by omega)
  have ba' : x / 4294967296 * (y / 4294967296) < 18446744073709551616 := by omega
  have bb' : x / 4294967296 * (y % 4294967296) < 18446744073709551616 := by omega
  have bc' : x % 4294967296 * (y / 4294967296) < 18446744073709551616 := by omega
  have bh1 : x / 4294967296 * (y / 4294967296) + (x / 4294967296 * (y % 4294967296) + x % 4294967296 * (y % 4294967296) / 4294967296) / 4294967296 < 18446744073709551616 := by omega
  have bh : x / 4294967296 * (y / 4294967296) + (x / 4294967296 * (y % 4294967296) + x % 4294967296 * (y % 4294967296) / 4294967296) / 4294967296 + ((x / 4294967296 * (y % 4294967296) + x % 4294967296 * (y % 4294967296) / 4294967296) % 4294967296 + x % 4294967296 * (y / 4294967296)) / 4294967296 < 18446744073709551616 := by omega
  go_enter Tryd.func67, Tryd.ntmps67
  go_wp2
  simp only [Mul64.maskN x hx, Mul64.maskN y hy, Mul64.divN, Mul64.mulN, Mul64.addN, Mul64.wrapN _ bd, Mul64.wrapN _ bb', Mul64.wrapN _ bt, Mul64.maskN _ bt, Mul64.wrapN _ bc', Mul64.wrapN _ bw, Mul64.wrapN _ ba', Mul64.wrapN _ bh1, Mul64.wrapN _ bh, Mul64.wrapM (x * y)]
  rw [hhi]
  go_ret2
  exact ⟨rfl, rfl⟩
theorem splice_rep {α : Type} (a b : α) (n m k : Nat) : splice (List.replicate n a ++ List.replicate (m + k) b) n (List.replicate m a) = List.replicate (n + m) a ++ List.replicate k b := by
  unfold splice
  rw [List.take_left' (by simp), List.length_replicate, List.drop_append]
  simp only [List.length_replicate, List.drop_replicate]
  have e1 : n - (n + m) = 0 := by omega
  have e2 : m + k - (n + m - n) = k := by omega
  rw [e1, e2, List.replicate_zero, List.nil_append, ← List.append_assoc, List.replicate_append_replicate]
end Go.Proofs.YtndimnomkcjeiaaDoor.Hand
/- Contracts of member.plus, member.times. -/
namespace Go.Proofs.YtndimnomkcjeiaaDoor.Hand
open Go.RowKit Go.Proofs.YtndimnomkcjeiaaDoorW.PrintWords Go.Proofs.YtndimnomkcjeiaaDoorW.PrintMore Go.Proofs.YtndimnomkcjeiaaDoor.Math

theorem add64_run (x y : Nat) (hx : x < 18446744073709551616) (hy : y < 18446744073709551616) (w : World) :
    (callFunc 62 #[.int .u64 x, .int .u64 y, .int .u64 0]).run Tryd.prog w =
      .ok (.value (.tuple #[.int .u64 (((x + y) % 18446744073709551616 : Nat) : Int), .int .u64 (((x + y) / 18446744073709551616 : Nat) : Int)])) w := by
  rw [run_callFunc_extern Tryd.func62 (by kernel_rfl) (by kernel_rfl) (by kernel_rfl) (e := add64Entry) (by kernel_rfl)]
  rw [run_add64 (x : Int) (y : Int) 0 (by omega) (by omega) (by omega) (by omega)]
  simp only [Result.andThen]
  congr 5 <;> omega
theorem plus_calls (x y : Nat) (hx : x ≤ 18446744073709551615) (hy : y ≤ 18446744073709551615) (w : World) :
    Calls Tryd.prog 52 #[.int .u64 x, .int .u64 y] w fun e w' => e = .returned (.int .u64 ((sat (x + y) : Nat) : Int)) ∧ w = w' := by
  have hrun := add64_run x y (by omega) (by omega)
  by_cases h : x + y < 18446744073709551616
  · have HE : Hid (sat (x + y) = x + y) := Lib.hid (sat_id (by omega))
    have hz : (x + y) / 18446744073709551616 = 0 := by omega
    have hm : (x + y) % 18446744073709551616 = x + y := by omega
    rw [hz, hm] at hrun
    clear hz hm
    go_enter Tryd.func52, Tryd.ntmps52
    go_wp2
    go_ret
    exact ⟨ret_int (by rw [HE.out]; first | rfl | omega), rfl⟩
  · have HE : Hid (sat (x + y) = 18446744073709551615) := Lib.hid (by unfold sat; rw [if_neg (by omega)])
    have hz : (x + y) / 18446744073709551616 = 1 := by omega
    rw [hz] at hrun
    clear hz
    go_enter Tryd.func52, Tryd.ntmps52
    go_wp2
    go_ret
    exact ⟨ret_int (by rw [HE.out]; first | rfl | omega), rfl⟩
theorem times_calls (x y : Nat) (hx : x ≤ 18446744073709551615) (hy : y ≤ 18446744073709551615) (w : World) :
    Calls Tryd.prog 63 #[.int .u64 x, .int .u64 y] w fun e w' => e = .returned (.int .u64 ((sat (x * y) : Nat) : Int)) ∧ w = w' := by
  have HM := Lib.hid (mul64_calls x y (by omega) (by omega) w)
  obtain ⟨p, hp⟩ : ∃ p, x * y = p := ⟨_, rfl⟩
  rw [hp] at HM ⊢
  clear hp
  by_cases h : p < 18446744073709551616
  · have HE : Hid (sat p = p) := Lib.hid (sat_id (by omega))
    rw [show p / 18446744073709551616 = 0 by omega, show p % 18446744073709551616 = p by omega] at HM
    go_enter Tryd.func63, Tryd.ntmps63
    go_wp2_with (go_at_call 67; refine HM.out.mono ?_; rintro e w' ⟨rfl, rfl⟩)
    go_ret
    exact ⟨ret_int (by rw [HE.out]), rfl⟩
  · have HE : Hid (sat p = 18446744073709551615) := Lib.hid (by unfold sat; rw [if_neg (by omega)])
    obtain ⟨d, hd⟩ : ∃ d, p / 18446744073709551616 = d := ⟨_, rfl⟩
    obtain ⟨m, hm⟩ : ∃ d, p % 18446744073709551616 = d := ⟨_, rfl⟩
    have hz : ((d : Int) == 0) = false := by rw [beq_eq_false_iff_ne]; omega
    rw [hd, hm] at HM
    clear hd hm
    go_enter Tryd.func63, Tryd.ntmps63
    go_wp2_with (go_at_call 67; refine HM.out.mono ?_; rintro e w' ⟨rfl, rfl⟩)
    go_ret
    exact ⟨ret_int (by rw [HE.out]; first | rfl | omega), rfl⟩
end Go.Proofs.YtndimnomkcjeiaaDoor.Hand
/- The counter in memory, and what it knows; the contract of may. -/
namespace Go.Proofs.YtndimnomkcjeiaaDoor.Hand
open Go.RowKit Go.Proofs.YtndimnomkcjeiaaDoorW.PrintWords Go.Proofs.YtndimnomkcjeiaaDoorW.PrintMore Go.Proofs.YtndimnomkcjeiaaDoor.Math
open Go.Maps (Keyed)

noncomputable def tabD (R : List (Int × List Int)) (tk : List Int) : Nat → Nat → Nat → Bool := fun i j k => tb (Der R tk k i j)
theorem Exact.tab {R : List (Int × List Int)} {tk : List Int} {N : Nat} {T : Nat → Nat → Nat → Bool} (h : Exact R tk tk.length N T) {i j k : Nat} (hij : i ≤ j) (hj : j ≤ tk.length) (hk : k < N) : T i j k = tabD R tk i j k := tb_bool (h i j k hij hj hk)
theorem Exact.hb {R : List (Int × List Int)} {tk : List Int} {N : Nat} {T : Nat → Nat → Nat → Bool} (h : Exact R tk tk.length N T) {s : Int} (hs : -(N : Int) ≤ s) {i j : Nat} (hij : i ≤ j) (hj : j ≤ tk.length) : Hb T tk s i j = Hb (tabD R tk) tk s i j := by
  unfold Hb
  split
  · rfl
  · exact h.tab hij hj (by omega)
/-- What counting stands on: the chart, the rules. -/
structure CtxC (w1 : World) (R : List (Int × List Int)) (tk : List Int) (t N b : Nat) (AR : Option Addr) (cR : Nat) : Prop where
  has : ∀ w, Below w1.heap.size w1 w → ∀ (s : Int) (i j : Nat), -(N : Int) ≤ s → s < 4611686018427387904 → i ≤ j → j ≤ tk.length → Quiet 61 #[.pointer (some ⟨b, 0, none⟩), .int .i64 s, .int .i64 i, .int .i64 j] w (.bool (Hb (tabD R tk) tk s i j))
  rule : KRule.C w1 AR R.length R
  cap : R.length ≤ cR
  cell : w1.cell? ⟨b, 3, none⟩ = some (.slice AR R.length cR)
  hN : N ≤ 60
  hR : R.length ≤ 120
  hn : tk.length ≤ 40
  ht : t ≤ 60
  right : RulesIn t N R
theorem ChartIs.ctx {w0 w1 : World} {R : List (Int × List Int)} {tk : List Int} {t N b O : Nat} {Bs : Nat → Nat} (h : ChartIs w0 R tk N b O Bs (fun a c => a ≤ c ∧ c ≤ tk.length) w1) (hN : N ≤ 60) (hR : R.length ≤ 120) (hn : tk.length ≤ 40) (ht : t ≤ 60) (hr : RulesIn t N R) : ∃ AR cR, CtxC w1 R tk t N b AR cR := by
  obtain ⟨Tn, hC, hS, hF⟩ := h
  obtain ⟨AR, cR, q1, q2, q3⟩ := hC.rules
  have hE : Exact R tk tk.length N (tabOf Tn) := fun i j k h1 h2 h3 => ⟨hS i j k h1 h2 h3, hF i j ⟨h1, h2⟩ k h3⟩
  refine ⟨AR, cR, fun w hb s i j hs hs2 hij hj => ?_, Kd.C_below q2 hC.bel, q1, q3, hN, hR, hn, ht, hr⟩
  rw [← hE.hb hs hij hj]
  exact chas_calls (hC.below hb) hN hn s hs hs2 i j hij hj
/-- The keys that are used. -/
def KeyIn (v : Value) : Prop := ∃ (a : Nat) (c : Nat) (i j : Nat), a < 130 ∧ c < 34 ∧ i ≤ 40 ∧ j ≤ 40 ∧ v = nodeK a ((c : Int) - 1) i j
def boxL : List Value := (List.range 130).flatMap fun (a : Nat) => (List.range 34).flatMap fun (c : Nat) => (List.range 41).flatMap fun (i : Nat) => (List.range 41).map fun (j : Nat) => nodeK a ((c : Int) - 1) i j
theorem keyIn_box (v : Value) (h : KeyIn v) : v ∈ boxL := by
  obtain ⟨a, c, i, j, h1, h2, h3, h4, rfl⟩ := h
  unfold boxL
  exact List.mem_flatMap.2 ⟨a, List.mem_range.2 h1, List.mem_flatMap.2 ⟨c, List.mem_range.2 h2, List.mem_flatMap.2 ⟨i, List.mem_range.2 (by omega), List.mem_map.2 ⟨j, List.mem_range.2 (by omega), rfl⟩⟩⟩⟩
theorem flatMap_len {α β : Type} {f : α → List β} {c : Nat} : ∀ {l : List α}, (∀ x, (f x).length = c) → (l.flatMap f).length = l.length * c
  | [], _ => by simp
  | x :: l, h => by rw [List.flatMap_cons, List.length_append, h x, flatMap_len h, List.length_cons, Nat.add_mul]; omega
theorem boxL_len : boxL.length = 7430020 := by
  unfold boxL
  rw [flatMap_len (c := 34 * (41 * 41)) (fun a => by rw [flatMap_len (c := 41 * 41) (fun c => by rw [flatMap_len (c := 41) (fun i => by rw [List.length_map, List.length_range]), List.length_range]), List.length_range]), List.length_range]
theorem nodeK_in {a b i j : Int} (h : KeyIn (nodeK a b i j)) : ∃ kl, keyOf Tryd.prog 111 (nodeK a b i j) = some kl := by
  obtain ⟨a', c', i', j', h1, h2, h3, h4, e⟩ := h
  obtain ⟨e1, e2, e3, e4⟩ := nodeK_inj e
  exact node_key (wf_i64 (by omega) (by omega)) (wf_i64 (by omega) (by omega)) (wf_i64 (by omega) (by omega)) (wf_i64 (by omega) (by omega))
theorem keyIn_n {a i j : Nat} (ha : a < 130) (hi : i ≤ 40) (hj : j ≤ 40) : KeyIn (nodeK a (-1) i j) := ⟨a, 0, i, j, ha, by omega, hi, hj, by simp⟩
theorem keyIn_r {a c i j : Nat} (ha : a < 130) (hc : c ≤ 32) (hi : i ≤ 40) (hj : j ≤ 40) : KeyIn (nodeK a c i j) := ⟨a, c + 1, i, j, ha, by omega, hi, hj, by simp⟩
/-- The counter in memory. -/
structure CSt (w1 : World) (b kb bd bo bk : Nat) (FD FO FK : Value → Option Int) (w : World) : Prop where
  bel : Below w1.heap.size w1 w
  c0 : w.cell? ⟨kb, 0, none⟩ = some (.pointer (some ⟨b, 0, none⟩))
  c1 : w.cell? ⟨kb, 1, none⟩ = some (.map (some bd))
  c2 : w.cell? ⟨kb, 2, none⟩ = some (.map (some bo))
  c3 : w.cell? ⟨kb, 3, none⟩ = some (.map (some bk))
  pd : MapN w 111 52 .u64 bd boxL.length KeyIn FD
  po : MapN w 111 3 .i64 bo boxL.length KeyIn FO
  pk : MapN w 111 3 .i64 bk boxL.length KeyIn FK
  ne : bd ≠ bo ∧ bd ≠ bk ∧ bo ≠ bk ∧ kb ≠ bd ∧ kb ≠ bo ∧ kb ≠ bk
  ge : w1.heap.size ≤ bd ∧ w1.heap.size ≤ bo ∧ w1.heap.size ≤ bk
section
variable {w1 w w' : World} {b kb bd bo bk : Nat} {FD FO FK : Value → Option Int}
theorem CSt.below (h : CSt w1 b kb bd bo bk FD FO FK w) (hb : Below w.heap.size w w') : CSt w1 b kb bd bo bk FD FO FK w' := by
  have hk : ∀ a v, w.cell? a = some v → w'.cell? a = some v := fun a v hv => (hb.cell (World.block_lt_of_cell? w _ hv)).trans hv
  exact ⟨below_next h.bel hb, hk _ _ h.c0, hk _ _ h.c1, hk _ _ h.c2, hk _ _ h.c3, h.pd.below hb, h.po.below hb, h.pk.below hb, h.ne, h.ge⟩
theorem below_grown {B g : Nat} {w0 w w' : World} (h : Below B w0 w) (hg : w.grownBy w' (some g)) (hB : B ≤ g) (hw : B ≤ w.heap.size) : Below B w0 w' :=
  ⟨hg.os.trans h.os, hg.tape.trans h.tape, hg.output.trans h.output, Nat.le_trans h.size hg.size, fun k hk => (hg.block k (by omega) (fun e => by injection e with e; omega)).trans (h.block k hk)⟩
theorem z64 (w : World) : (zeroValue 52).run Tryd.prog w = .ok (.int .u64 0) w := by kernel_rfl
theorem zint (w : World) : (zeroValue 3).run Tryd.prog w = .ok (.int .i64 0) w := by kernel_rfl
theorem CSt.lookK (h : CSt w1 b kb bd bo bk FD FO FK w) {a c i j : Int} (hk : KeyIn (nodeK a c i j)) : (Instr.lookup 88 (.map (some bk)) (.agg #[.int .i64 a, .int .i64 c, .int .i64 i, .int .i64 j]) false).run Tryd.prog w = .ok (.int .i64 ((FK (nodeK a c i j)).getD 0)) w := by
  obtain ⟨kl, hkl⟩ := nodeK_in hk
  exact h.pk.look node_keyed Tryd.underlying88 Tryd.underlying3 (zint w) hkl
theorem CSt.lookO (h : CSt w1 b kb bd bo bk FD FO FK w) {a c i j : Int} (hk : KeyIn (nodeK a c i j)) : (Instr.lookup 88 (.map (some bo)) (.agg #[.int .i64 a, .int .i64 c, .int .i64 i, .int .i64 j]) false).run Tryd.prog w = .ok (.int .i64 ((FO (nodeK a c i j)).getD 0)) w := by
  obtain ⟨kl, hkl⟩ := nodeK_in hk
  exact h.po.look node_keyed Tryd.underlying88 Tryd.underlying3 (zint w) hkl
theorem CSt.lookD (h : CSt w1 b kb bd bo bk FD FO FK w) {a c i j : Int} (hk : KeyIn (nodeK a c i j)) : (Instr.lookup 87 (.map (some bd)) (.agg #[.int .i64 a, .int .i64 c, .int .i64 i, .int .i64 j]) true).run Tryd.prog w = .ok (.tuple #[.int .u64 ((FD (nodeK a c i j)).getD 0), .bool (FD (nodeK a c i j)).isSome]) w := by
  obtain ⟨kl, hkl⟩ := nodeK_in hk
  exact h.pd.lookOk node_keyed Tryd.underlying87 Tryd.underlying52 (z64 w) hkl
theorem boxL_lt : boxL.length < maxLen := by rw [boxL_len]; decide
theorem CSt.kept (h : CSt w1 b kb bd bo bk FD FO FK w) {g : Nat} (hg : w.grownBy w' (some g)) (hB : w1.heap.size ≤ g) (hne : kb ≠ g) : Below w1.heap.size w1 w' ∧ w'.cell? ⟨kb, 0, none⟩ = some (.pointer (some ⟨b, 0, none⟩)) ∧ w'.cell? ⟨kb, 1, none⟩ = some (.map (some bd)) ∧ w'.cell? ⟨kb, 2, none⟩ = some (.map (some bo)) ∧ w'.cell? ⟨kb, 3, none⟩ = some (.map (some bk)) := by
  have hlt : kb < w.heap.size := World.block_lt_of_cell? w _ h.c0
  have hk : ∀ f, w'.cell? ⟨kb, f, none⟩ = w.cell? ⟨kb, f, none⟩ := fun f => World.cell?_of_block (w := w) (a := ⟨kb, f, none⟩) (hg.block kb hlt (fun e => hne (by injection e)))
  exact ⟨below_grown h.bel hg hB h.bel.size, (hk 0).trans h.c0, (hk 1).trans h.c1, (hk 2).trans h.c2, (hk 3).trans h.c3⟩
theorem MapN.grown {e : TypeId} {q : IntKind} {b g n : Nat} {k : TypeId} {K : Value → Prop} {F : Value → Option Int} (h : MapN w k e q b n K F) (hg : w.grownBy w' (some g)) (hne : b ≠ g) : MapN w' k e q b n K F :=
  h.block (hg.block b h.lt (fun e => hne (by injection e)))
theorem CSt.putK (h : CSt w1 b kb bd bo bk FD FO FK w) {a c i j : Int} (hk : KeyIn (nodeK a c i j)) {x : Int} (hx : (Lit.int .i64 x).wf = true) : ∃ w', (Instr.mapUpdate 88 (.map (some bk)) (.agg #[.int .i64 a, .int .i64 c, .int .i64 i, .int .i64 j]) (.int .i64 x)).run Tryd.prog w = .ok () w' ∧ CSt w1 b kb bd bo bk FD FO (updF FK (nodeK a c i j) x) w' ∧ w.grownBy w' (some bk) := by
  obtain ⟨kl, hkl⟩ := nodeK_in hk
  obtain ⟨w', hrun, hm, hg⟩ := h.pk.store node_keyed Tryd.underlying88 Tryd.underlying3 boxL_lt hkl hk hx
  obtain ⟨n1, n2, n3, n4, n5, n6⟩ := h.ne
  obtain ⟨g1, g2, g3⟩ := h.ge
  obtain ⟨k1, k2, k3, k4, k5⟩ := h.kept hg g3 n6
  exact ⟨w', hrun, ⟨k1, k2, k3, k4, k5, h.pd.grown hg n2, h.po.grown hg n3, hm.trim node_keyed boxL keyIn_box, h.ne, h.ge⟩, hg⟩
theorem CSt.putO (h : CSt w1 b kb bd bo bk FD FO FK w) {a c i j : Int} (hk : KeyIn (nodeK a c i j)) {x : Int} (hx : (Lit.int .i64 x).wf = true) : ∃ w', (Instr.mapUpdate 88 (.map (some bo)) (.agg #[.int .i64 a, .int .i64 c, .int .i64 i, .int .i64 j]) (.int .i64 x)).run Tryd.prog w = .ok () w' ∧ CSt w1 b kb bd bo bk FD (updF FO (nodeK a c i j) x) FK w' ∧ w.grownBy w' (some bo) := by
  obtain ⟨kl, hkl⟩ := nodeK_in hk
  obtain ⟨w', hrun, hm, hg⟩ := h.po.store node_keyed Tryd.underlying88 Tryd.underlying3 boxL_lt hkl hk hx
  obtain ⟨n1, n2, n3, n4, n5, n6⟩ := h.ne
  obtain ⟨g1, g2, g3⟩ := h.ge
  obtain ⟨k1, k2, k3, k4, k5⟩ := h.kept hg g2 n5
  exact ⟨w', hrun, ⟨k1, k2, k3, k4, k5, h.pd.grown hg n1, hm.trim node_keyed boxL keyIn_box, h.pk.grown hg (Ne.symm n3), h.ne, h.ge⟩, hg⟩
theorem CSt.putD (h : CSt w1 b kb bd bo bk FD FO FK w) {a c i j : Int} (hk : KeyIn (nodeK a c i j)) {x : Int} (hx : (Lit.int .u64 x).wf = true) : ∃ w', (Instr.mapUpdate 87 (.map (some bd)) (.agg #[.int .i64 a, .int .i64 c, .int .i64 i, .int .i64 j]) (.int .u64 x)).run Tryd.prog w = .ok () w' ∧ CSt w1 b kb bd bo bk (updF FD (nodeK a c i j) x) FO FK w' ∧ w.grownBy w' (some bd) := by
  obtain ⟨kl, hkl⟩ := nodeK_in hk
  obtain ⟨w', hrun, hm, hg⟩ := h.pd.store node_keyed Tryd.underlying87 Tryd.underlying52 boxL_lt hkl hk hx
  obtain ⟨n1, n2, n3, n4, n5, n6⟩ := h.ne
  obtain ⟨g1, g2, g3⟩ := h.ge
  obtain ⟨k1, k2, k3, k4, k5⟩ := h.kept hg g1 n4
  exact ⟨w', hrun, ⟨k1, k2, k3, k4, k5, hm.trim node_keyed boxL keyIn_box, h.po.grown hg (Ne.symm n1), h.pk.grown hg (Ne.symm n2), h.ne, h.ge⟩, hg⟩
end
/-- All old blocks but the maps' stay. -/
structure Frm (bd bo bk : Nat) (w w' : World) : Prop where
  size : w.heap.size ≤ w'.heap.size
  block : ∀ g, g < w.heap.size → g ≠ bd → g ≠ bo → g ≠ bk → w'.heap[g]? = w.heap[g]?
theorem Frm.refl {bd bo bk : Nat} (w : World) : Frm bd bo bk w w := ⟨Nat.le_refl _, fun _ _ _ _ _ => rfl⟩
theorem Frm.trans {bd bo bk : Nat} {w w' w'' : World} (h : Frm bd bo bk w w') (h' : Frm bd bo bk w' w'') : Frm bd bo bk w w'' := ⟨Nat.le_trans h.size h'.size, fun g hg a b c => (h'.block g (Nat.lt_of_lt_of_le hg h.size) a b c).trans (h.block g hg a b c)⟩
theorem Frm.below {bd bo bk : Nat} {w w' w'' : World} (h : Frm bd bo bk w w') (hb : Below w'.heap.size w' w'') : Frm bd bo bk w w'' := h.trans ⟨hb.size, fun g hg _ _ _ => hb.block g hg⟩
theorem Frm.grown {bd bo bk g : Nat} {w w' w'' : World} (h : Frm bd bo bk w w') (hb : w'.grownBy w'' (some g)) (hg : g = bd ∨ g = bo ∨ g = bk) : Frm bd bo bk w w'' := h.trans ⟨hb.size, fun k hk a b c => hb.block k hk (fun e => by injection e with e; omega)⟩
theorem Frm.cell {bd bo bk : Nat} {w w' : World} (h : Frm bd bo bk w w') {p : Addr} {v : Value} (hc : w.cell? p = some v) (a : p.block ≠ bd) (b : p.block ≠ bo) (c : p.block ≠ bk) : w'.cell? p = some v :=
  (World.cell?_of_block (h.block p.block (World.block_lt_of_cell? _ _ hc) a b c)).trans hc
/-- What is known of a rule's rests, from a place on, is so. -/
def KnownFrom (R : List (Int × List Int)) (tk : List Int) (n at_ : Nat) (F : Value → Option Int) : Prop :=
  ∀ (a i j : Nat) c, at_ ≤ a → F (nodeK n a i j) = some c → (c = 1 ∧ Cut (tabD R tk) tk ((R.getD n (0, [])).2.drop a) i j) ∨ (c = 2 ∧ ¬ Cut (tabD R tk) tk ((R.getD n (0, [])).2.drop a) i j)
end Go.Proofs.YtndimnomkcjeiaaDoor.Hand
/- The contract of the counter's may. -/
namespace Go.Proofs.YtndimnomkcjeiaaDoor.Hand
open Go.RowKit Go.Proofs.YtndimnomkcjeiaaDoorW.PrintWords Go.Proofs.YtndimnomkcjeiaaDoorW.PrintMore Go.Proofs.YtndimnomkcjeiaaDoor.Math
open Go.Maps (Keyed)

/-- The state within may's loop. -/
def MSt (w1 w2 : World) (R : List (Int × List Int)) (tk : List Int) (b kb bd bo bk : Nat) (FD FO FK : Value → Option Int) (n at_ i j : Nat) (w : World) : Prop :=
  ∃ F, CSt w1 b kb bd bo bk FD FO F w ∧ KnownFrom R tk n (at_ + 1) F ∧ F (nodeK n at_ i j) = some 2 ∧ (∀ u, u ≠ nodeK n at_ i j → (∀ a i j : Nat, at_ + 1 ≤ a → u ≠ nodeK n a i j) → F u = FK u) ∧ Frm bd bo bk w2 w
theorem MSt.below {w1 w2 w w' : World} {R : List (Int × List Int)} {tk : List Int} {b kb bd bo bk : Nat} {FD FO FK : Value → Option Int} {n at_ i j : Nat} (h : MSt w1 w2 R tk b kb bd bo bk FD FO FK n at_ i j w) (hb : Below w.heap.size w w') : MSt w1 w2 R tk b kb bd bo bk FD FO FK n at_ i j w' := by
  obtain ⟨F, h1, h2, h3, h4, h5⟩ := h
  exact ⟨F, h1.below hb, h2, h3, h4, h5.below hb⟩
theorem MSt.bel {w1 w2 w : World} {R : List (Int × List Int)} {tk : List Int} {b kb bd bo bk : Nat} {FD FO FK : Value → Option Int} {n at_ i j : Nat} (h : MSt w1 w2 R tk b kb bd bo bk FD FO FK n at_ i j w) : Below w1.heap.size w1 w := by
  obtain ⟨F, h1, _⟩ := h
  exact h1.bel
theorem MSt.held {w1 w2 w w' : World} {R : List (Int × List Int)} {tk : List Int} {b kb bd bo bk : Nat} {FD FO FK : Value → Option Int} {n at_ i j : Nat} {a : Addr} {v : Value} (h : MSt w1 w2 R tk b kb bd bo bk FD FO FK n at_ i j w) (ha : ∀ W, Below w1.heap.size w1 W → W.cell? a = some v) (hb : Below w.heap.size w w') :
    w'.cell? ⟨kb, 0, none⟩ = some (.pointer (some ⟨b, 0, none⟩)) ∧ w'.cell? a = some v ∧ Aside0 (MSt w1 w2 R tk b kb bd bo bk FD FO FK n at_ i j w') := by
  have h2 := h.below hb
  refine ⟨?_, ha _ h2.bel, ⟨h2⟩⟩
  obtain ⟨F, h1, _⟩ := h2
  exact h1.c0
theorem MSt.next {w1 w2 w w' : World} {R : List (Int × List Int)} {tk : List Int} {b kb bd bo bk : Nat} {FD FO FK F F' : Value → Option Int} {n at_ i j : Nat} (h3 : F (nodeK n at_ i j) = some 2) (h4 : ∀ u, u ≠ nodeK n at_ i j → (∀ a i j : Nat, at_ + 1 ≤ a → u ≠ nodeK n a i j) → F u = FK u) (h5 : Frm bd bo bk w2 w)
    (g1 : CSt w1 b kb bd bo bk FD FO F' w') (g2 : KnownFrom R tk n (at_ + 1) F') (g3 : ∀ u, (∀ a i j : Nat, at_ + 1 ≤ a → u ≠ nodeK n a i j) → F' u = F u) (g4 : Frm bd bo bk w w') : MSt w1 w2 R tk b kb bd bo bk FD FO FK n at_ i j w' :=
  ⟨F', g1, g2, (g3 _ (fun a i' j' ha e => by have := nodeK_inj e; omega)).trans h3, fun u hu0 hu => (g3 u hu).trans (h4 u hu0 hu), h5.trans g4⟩
theorem MSt.node {w1 w2 w : World} {R : List (Int × List Int)} {tk : List Int} {b kb bd bo bk : Nat} {FD FO FK : Value → Option Int} {n at_ i j g : Nat} {o : Obj} (h : MSt w1 w2 R tk b kb bd bo bk FD FO FK n at_ i j w) (hg : w2.heap[g]? = some o) (hne : g ≠ bd ∧ g ≠ bo ∧ g ≠ bk) : w.heap[g]? = some o := by
  obtain ⟨F, _, _, _, _, h5⟩ := h
  exact (h5.block g (Array.getElem?_eq_some_iff.1 hg).1 hne.1 hne.2.1 hne.2.2).trans hg
/-- What is known behind may's loop. -/
theorem known_end {R : List (Int × List Int)} {tk : List Int} {n at_ i j : Nat} {FK F : Value → Option Int} {c : Int} (hK : KnownFrom R tk n at_ FK) (h2 : KnownFrom R tk n (at_ + 1) F) (h3 : F (nodeK n at_ i j) = some c) (h4 : ∀ u, u ≠ nodeK n at_ i j → (∀ a i j : Nat, at_ + 1 ≤ a → u ≠ nodeK n a i j) → F u = FK u)
    (hc : (c = 1 ∧ Cut (tabD R tk) tk ((R.getD n (0, [])).2.drop at_) i j) ∨ (c = 2 ∧ ¬ Cut (tabD R tk) tk ((R.getD n (0, [])).2.drop at_) i j)) : KnownFrom R tk n at_ F := by
  intro a i' j' c' ha hF
  by_cases e : a = at_
  · subst e
    by_cases e2 : i' = i ∧ j' = j
    · obtain ⟨rfl, rfl⟩ := e2
      rw [h3] at hF
      obtain rfl := Option.some.inj hF
      exact hc
    · rw [h4 _ (fun e => e2 (by have := nodeK_inj e; omega)) (fun a' i'' j'' ha' e => by have := nodeK_inj e; omega)] at hF
      exact hK a i' j' c' (Nat.le_refl _) hF
  · exact h2 a i' j' c' (by omega) hF
/-- What may tells, and what it leaves. -/
def MayRes (w1 w0 : World) (R : List (Int × List Int)) (tk : List Int) (b kb bd bo bk : Nat) (FD FO FK : Value → Option Int) (n at_ i j : Nat) (e : Ending) (w' : World) : Prop :=
  e = .returned (.bool (tb (Cut (tabD R tk) tk ((R.getD n (0, [])).2.drop at_) i j))) ∧ ∃ FK', CSt w1 b kb bd bo bk FD FO FK' w' ∧ KnownFrom R tk n at_ FK' ∧ (∀ u, (∀ a i j : Nat, at_ ≤ a → u ≠ nodeK n a i j) → FK' u = FK u) ∧ Frm bd bo bk w0 w'
theorem at_ruleN {w : World} {A : Option Addr} {l : List (Int × List Int)} (h : KRule.C w A l.length l) (i : Nat) (hi : i < l.length) :
    ∃ (ad : Addr) (B : Option Addr) (c : Nat), A = some ad ∧ w.cell? (ad.add (i * 2)) = some (.int .i64 (l.getD i (0, [])).1) ∧ w.cell? ⟨(ad.add (i * 2)).block, (ad.add (i * 2)).off + 1, none⟩ = some (.slice B (l.getD i (0, [])).2.length c) ∧ (l.getD i (0, [])).2.length ≤ c ∧ Kd.C (Kd.int .i64) w B (l.getD i (0, [])).2.length (l.getD i (0, [])).2 := by
  obtain ⟨ad, x, B, c, r, h1, h2, h3, h4, h5, HD⟩ := at_rule h i hi
  have e := HD.out
  rw [e]
  exact ⟨ad, B, c, h1, h2, h3, h4, h5⟩
set_option maxHeartbeats 800000 in
set_option maxRecDepth 100000 in
theorem cmay_calls {w1 : World} {R : List (Int × List Int)} {tk : List Int} {t N b : Nat} {AR : Option Addr} {cR : Nat} (hx : CtxC w1 R tk t N b AR cR) (kb bd bo bk : Nat) (FD FO : Value → Option Int) (n : Nat) (hn : n < R.length) :
    ∀ (d at_ : Nat), at_ + d = (R.getD n (0, [])).2.length → ∀ (i j : Nat) (FK : Value → Option Int) (w : World), i ≤ j → j ≤ tk.length → CSt w1 b kb bd bo bk FD FO FK w → KnownFrom R tk n at_ FK →
    Calls Tryd.prog 51 #[.pointer (some ⟨kb, 0, none⟩), .int .i64 n, .int .i64 at_, .int .i64 i, .int .i64 j] w (MayRes w1 w R tk b kb bd bo bk FD FO FK n at_ i j) := by
  have hr32 : (R.getD n (0, [])).2.length ≤ 32 := ruleN_len (hx.right _ (getD_mem R n (0, []) hn))
  have hsym : ∀ s ∈ (R.getD n (0, [])).2, -(N : Int) ≤ s ∧ s < 4611686018427387904 := fun s hs => by have := hx.right.sym (getD_mem R n (0, []) hn) hs; have := hx.ht; omega
  obtain ⟨r, hr⟩ : ∃ r, (R.getD n (0, [])).2 = r := ⟨_, rfl⟩
  rw [hr] at hr32 hsym
  have HX := Lib.hid hx
  have hR := hx.hR
  have htk := hx.hn
  have hrl := hx.rule.2.1
  have hcap := hx.cap
  intro d
  induction d with
  | zero =>
    intro at_ hat i j FK w hij hj hS hK
    rw [hr] at hat
    have HS := Aside0.mk hS
    have HK := Lib.hid hK
    obtain ⟨ad, B, c, hA, k1, k2, hrc, hrr⟩ := at_ruleN (Kd.C_below hx.rule hS.bel) n hn
    rw [hr] at k2 hrc hrr
    have c0 := hS.c0
    have c3 := (hS.bel.cell (p := ⟨b, 3, none⟩) (World.block_lt_of_cell? _ _ hx.cell)).trans hx.cell
    subst hA
    have hat' : at_ = r.length := by omega
    have hatb : ((at_ : Int) == (r.length : Int)) = true := by rw [beq_iff_eq]; omega
    have HE : Hid (tb (Cut (tabD R tk) tk ((R.getD n (0, [])).2.drop at_) i j) = ((i : Int) == (j : Int))) := Lib.hid (by
      rw [hr, hat', List.drop_length, Bool.eq_iff_iff, tb_iff, beq_iff_eq]
      show i = j ↔ _
      omega)
    have HR := Lib.hid hr
    clear hr hS hK hrr hx hat hat'
    go_enter Tryd.func51, Tryd.ntmps51
    go_wp2
    go_ret
    exact ⟨ret_bool HE.out.symm, FK, HS.out, HK.out, (fun _ _ => rfl), Frm.refl _⟩
  | succ d ih =>
    intro at_ hat i j FK w hij hj hS hK
    rw [hr] at hat
    obtain ⟨ad, B, c, hA, k1, k2, hrc, hrr⟩ := at_ruleN hx.rule n hn
    rw [hr] at k2 hrc hrr
    replace k1 := (hS.bel.cell (World.block_lt_of_cell? _ _ k1)).trans k1
    replace k2 := (hS.bel.cell (World.block_lt_of_cell? _ _ k2)).trans k2
    have c0 := hS.c0
    have c3 := (hS.bel.cell (p := ⟨b, 3, none⟩) (World.block_lt_of_cell? _ _ hx.cell)).trans hx.cell
    subst hA
    have hatb : ((at_ : Int) == (r.length : Int)) = false := by rw [beq_eq_false_iff_ne]; omega
    obtain ⟨w2, hw2⟩ : ∃ w2, w.alloc (.cells #[.int .i64 n, .int .i64 at_, .int .i64 i, .int .i64 j] 111) = w2 := ⟨_, rfl⟩
    have hb2 : Below w.heap.size w w2 := by rw [← hw2]; exact below_alloc (Below.refl _ _) _
    have n0 : w2.heap[w.heap.size]? = some (.cells #[.int .i64 n, .int .i64 at_, .int .i64 i, .int .i64 j] 111 (0, 0)) := by rw [← hw2]; exact heap_alloc_new w _
    have hKI : KeyIn (nodeK n at_ i j) := keyIn_r (by omega) (by omega) (by omega) (by omega)
    have HS2 := Aside0.mk (hS.below hb2)
    have HF2 := Aside0.mk ((Frm.refl (bd := bd) (bo := bo) (bk := bk) w).below hb2)
    have HNe : Hid (w.heap.size ≠ bd ∧ w.heap.size ≠ bo ∧ w.heap.size ≠ bk) := Lib.hid ⟨by have := hS.pd.lt; omega, by have := hS.po.lt; omega, by have := hS.pk.lt; omega⟩
    have HRr := Lib.hid hrr
    have HKI := Lib.hid hKI
    have HK := Lib.hid hK
    have HR := Lib.hid hr
    have HA := Lib.hid hat
    have HSy := Lib.hid hsym
    clear hr hS hK hrr hx hat hb2 hsym hKI
    have h3 := HS2.out.c3
    obtain ⟨m0, m1, m2, m3⟩ := blk_cells2 n0
    have HSd := Aside0.mk (HS2.out.below (below_drew1 (Below.refl _ _)))
    have HL := HSd.out.lookK HKI.out
    have HN0 := Lib.hid n0
    clear n0
    cases hF : FK (nodeK n at_ i j) with
    | some x =>
      have hcase := HK.out at_ i j x (Nat.le_refl _) hF
      have HSe := Aside0.mk (HSd.out.below (below_drew1 (Below.refl _ _)))
      have HL2 := HSe.out.lookK HKI.out
      rw [hF, Option.getD_some] at HL HL2
      clear hF
      obtain ⟨rfl, hcut⟩ | ⟨rfl, hcut⟩ := hcase
      · have HE : Hid (tb (Cut (tabD R tk) tk ((R.getD n (0, [])).2.drop at_) i j) = true) := Lib.hid (tb_yes hcut)
        clear hcut
        go_enter Tryd.func51, Tryd.ntmps51
        go_wp2
        go_region
        go_wp2
        go_region
        go_wp2
        go_ret
        exact ⟨ret_bool HE.out.symm, FK, HSe.out, HK.out, (fun _ _ => rfl), (HF2.out.below (below_drew1 (Below.refl _ _))).below (below_drew1 (Below.refl _ _))⟩
      · have HE : Hid (tb (Cut (tabD R tk) tk ((R.getD n (0, [])).2.drop at_) i j) = false) := Lib.hid (tb_no hcut)
        clear hcut
        go_enter Tryd.func51, Tryd.ntmps51
        go_wp2
        go_region
        go_wp2
        go_region
        go_wp2
        go_ret
        exact ⟨ret_bool HE.out.symm, FK, HSe.out, HK.out, (fun _ _ => rfl), (HF2.out.below (below_drew1 (Below.refl _ _))).below (below_drew1 (Below.refl _ _))⟩
    | none =>
      rw [hF, Option.getD_none] at HL
      clear hF
      obtain ⟨w3, hrun3, hS3, hg3⟩ := (HSd.out.below (below_drew1 (Below.refl _ _))).putK HKI.out (x := 2) (wf_i64 (by omega) (by omega))
      have HM3 : Aside0 (MSt w1 w2 R tk b kb bd bo bk FD FO FK n at_ i j w3) := ⟨_, hS3, (fun a i' j' c ha hc => by
        rw [updF_other (fun e => by have := nodeK_inj e; omega)] at hc
        exact HK.out a i' j' c (by omega) hc), updF_same, (fun u hu0 hu => updF_other hu0), (((Frm.refl w2).below (below_drew1 (Below.refl _ _))).below (below_drew1 (Below.refl _ _))).grown hg3 (.inr (.inr rfl))⟩
      clear hS3 hg3
      go_enter Tryd.func51, Tryd.ntmps51
      go_wp2
      go_region
      go_wp2
      go_region
      go_wp2
      clear hrun3 HL h3 m0 m1 m2 m3 c0 c3 k1 k2
      go_loopw [13] (fun x wr => ∃ q : Nat, i ≤ q ∧ q ≤ j + 1 ∧ x = .int .i64 q ∧ Aside0 (MSt w1 w2 R tk b kb bd bo bk FD FO FK n at_ i j wr) ∧ Aside0 (∀ q', i ≤ q' → q' < q → ¬ (Hb (tabD R tk) tk (r.getD at_ 0) i q' = true ∧ Cut (tabD R tk) tk (r.drop (at_ + 1)) q' j))) (fun x _ => j + 1 - (intOf x).toNat)
      case atStart => exact ⟨i, by omega, by omega, rfl, HM3, ⟨fun q' h1 h2 => by omega⟩⟩
      case round =>
        obtain ⟨q, hq1, hq2, rfl, HM, HXq⟩ := hrel
        obtain ⟨wo, rfl⟩ : ∃ wo : World, wo = wr := ⟨_, rfl⟩
        by_cases hqj : q ≤ j
        · have hbelo : Below w1.heap.size w1 wo := by obtain ⟨F, h, _⟩ := HM.out; exact h.bel
          have hc0 : wo.cell? ⟨kb, 0, none⟩ = some (.pointer (some ⟨b, 0, none⟩)) := by obtain ⟨F, h, _⟩ := HM.out; exact h.c0
          obtain ⟨ad3, y, hA3, hy, HY⟩ := at_scalar (Kd.C_below HRr.out hbelo) at_ (by have := HA.out; omega) 0
          subst hA3
          have hym : Hid (y ∈ r) := Lib.hid (by rw [← HY.out]; exact getD_mem r at_ 0 (by have := HA.out; omega))
          have hys := HSy.out y hym.out
          have HHas := Lib.hid (fun (W : World) (hW : Below w1.heap.size w1 W) => HX.out.has W hW y i q hys.1 hys.2 hq1 (by omega))
          have hi1 : (0 : Int) ≤ (at_ : Int) := by omega
          have hi2 : (at_ : Int) < (r.length : Int) := by have := HA.out; omega
          have HBo := Lib.hid hbelo
          have HY2 := Lib.hid (show ∀ W, Below w1.heap.size w1 W → W.cell? (ad3.add at_) = some (.int .i64 y) from fun W hW => by
            obtain ⟨ad4, y4, e4, h4, HY4⟩ := at_scalar (Kd.C_below HRr.out hW) at_ (by have := HA.out; omega) 0
            injection e4 with e4
            subst e4
            rw [h4, ← HY4.out, HY.out])
          clear hbelo
          cases hb : Hb (tabD R tk) tk y i q
          · rw [hb] at HHas
            have HN := Lib.hid (show ¬ (Hb (tabD R tk) tk (r.getD at_ 0) i q = true ∧ Cut (tabD R tk) tk (r.drop (at_ + 1)) q j) from fun h => by rw [HY.out, hb] at h; cases h.1)
            clear hb
            go_wp2_with fail
            go_quiet ((go_at_call 61; exact Calls.quiet_of (HHas.out _ (pw_below_drewN HBo.out _))))
            go_wp2
            go_roundw
            case rel => exact ⟨q + 1, by omega, by omega, by go_num, ⟨HM.out.below (by first | exact pw_below_drewN (Below.refl _ _) _ | exact below_drew1 (Below.refl _ _) | exact Below.refl _ _)⟩, ⟨fun q' h1 h2 => by
              rcases Nat.lt_or_ge q' q with h3 | h3
              · exact HXq.out q' h1 h3
              · obtain rfl : q' = q := by omega
                exact HN.out⟩⟩
            case measure => simp [intOf]; omega
          · rw [hb] at HHas
            have HIH := Lib.hid (fun (W : World) (F : Value → Option Int) (hW : CSt w1 b kb bd bo bk FD FO F W) (hK : KnownFrom R tk n (at_ + 1) F) => ih (at_ + 1) (by rw [HR.out]; have := HA.out; omega) q j F W hqj hj hW hK)
            unfold MayRes at HIH
            rw [HR.out] at HIH
            have hat1 : ((at_ + 1 : Nat) : Int) = (at_ : Int) + 1 := by omega
            rw [hat1] at HIH
            clear hat1
            have hbH := Lib.hid hb
            have hyo := HY2.out wo HBo.out
            clear hb
            cases hcut : tb (Cut (tabD R tk) tk (r.drop (at_ + 1)) q j)
            · rw [hcut] at HIH
              have HCt := Lib.hid hcut
              clear hcut
              have hwr1 : IntKind.i64.wrap ((at_ : Int) + 1) = (at_ : Int) + 1 := by rw [Go.IntWalk.i64_in _ (by omega)]
              go_wp2_with fail
              go_region_held3 (fun w' => w'.cell? ⟨kb, 0, none⟩ = some (.pointer (some ⟨b, 0, none⟩)) ∧ w'.cell? (ad3.add at_) = some (.int .i64 y) ∧ Aside0 (MSt w1 w2 R tk b kb bd bo bk FD FO FK n at_ i j w'))
                (first
                  | with_reducible exact HM.out.held HY2.out (below_drew1 (Below.refl _ _))
                  | with_reducible exact H4.out.held HY2.out (Below.refl _ _)
                  | with_reducible exact hS.out.2.2.out.held HY2.out (pw_below_drewN (Below.refl _ _) _)
                  | with_reducible exact HM.out.held HY2.out (pw_below_drewN (Below.refl _ _) _))
                (first
                  | (go_at_call 61; have hS := Aside0.mk (by assumption : _ ∧ _ ∧ Aside0 (MSt w1 w2 R tk b kb bd bo bk FD FO FK n at_ i j _)); refine (HHas.out _ hS.out.2.2.out.bel).mono ?_; rintro e w' ⟨rfl, n1, rfl⟩)
                  | (go_at_call 51; have hS := Aside0.mk (by assumption : _ ∧ _ ∧ Aside0 (MSt w1 w2 R tk b kb bd bo bk FD FO FK n at_ i j _)); obtain ⟨F5, f1, f2, f3, f4, f5⟩ := hS.out.2.2.out; (with_reducible refine (HIH.out _ F5 f1 f2).mono ?_); rintro e w4 ⟨rfl, F6, g1, g2, g3, g4⟩; have H4 := Aside0.mk (MSt.next f3 f4 f5 g1 g2 g3 g4); clear f1 f2 f3 f4 f5 g1 g2 g3 g4))
              go_wp2
              go_roundw
              case rel => exact ⟨q + 1, by omega, by omega, by go_num, ⟨H4.out.below (by first | exact Below.refl _ _ | exact pw_below_drewN (Below.refl _ _) _ | exact below_drew1 (Below.refl _ _))⟩, ⟨fun q' h1 h2 => by
                rcases Nat.lt_or_ge q' q with h3 | h3
                · exact HXq.out q' h1 h3
                · obtain rfl : q' = q := by omega
                  exact fun h => by rw [tb_yes h.2] at HCt; exact Bool.noConfusion HCt.out⟩⟩
              case measure => simp [intOf]; omega
            · rw [hcut] at HIH
              have HCt : Hid (Cut (tabD R tk) tk ((R.getD n (0, [])).2.drop at_) i j) := Lib.hid (by
                rw [HR.out, List.drop_eq_getElem_cons (by have := HA.out; omega : at_ < r.length)]
                refine ⟨q, hq1, hqj, ?_, tb_iff.1 hcut⟩
                have e : r[at_]'(by have := HA.out; omega) = y := by
                  have := HY.out
                  rwa [List.getD_eq_getElem?_getD, List.getElem?_eq_getElem (by have := HA.out; omega : at_ < r.length), Option.getD_some] at this
                rw [e]; exact hbH.out)
              clear hcut
              have hwr1 : IntKind.i64.wrap ((at_ : Int) + 1) = (at_ : Int) + 1 := by rw [Go.IntWalk.i64_in _ (by omega)]
              go_wp2_with fail
              go_region_held3 (fun w' => w'.cell? ⟨kb, 0, none⟩ = some (.pointer (some ⟨b, 0, none⟩)) ∧ w'.cell? (ad3.add at_) = some (.int .i64 y) ∧ Aside0 (MSt w1 w2 R tk b kb bd bo bk FD FO FK n at_ i j w'))
                (first
                  | with_reducible exact HM.out.held HY2.out (below_drew1 (Below.refl _ _))
                  | with_reducible exact H4.out.held HY2.out (Below.refl _ _)
                  | with_reducible exact hS.out.2.2.out.held HY2.out (pw_below_drewN (Below.refl _ _) _)
                  | with_reducible exact HM.out.held HY2.out (pw_below_drewN (Below.refl _ _) _))
                (first
                  | (go_at_call 61; have hS := Aside0.mk (by assumption : _ ∧ _ ∧ Aside0 (MSt w1 w2 R tk b kb bd bo bk FD FO FK n at_ i j _)); refine (HHas.out _ hS.out.2.2.out.bel).mono ?_; rintro e w' ⟨rfl, n1, rfl⟩)
                  | (go_at_call 51; have hS := Aside0.mk (by assumption : _ ∧ _ ∧ Aside0 (MSt w1 w2 R tk b kb bd bo bk FD FO FK n at_ i j _)); obtain ⟨F5, f1, f2, f3, f4, f5⟩ := hS.out.2.2.out; (with_reducible refine (HIH.out _ F5 f1 f2).mono ?_); rintro e w4 ⟨rfl, F6, g1, g2, g3, g4⟩; have H4 := Aside0.mk (MSt.next f3 f4 f5 g1 g2 g3 g4); clear f1 f2 f3 f4 f5 g1 g2 g3 g4))
              have HN4 := Lib.hid (H4.out.node HN0.out HNe.out)
              obtain ⟨m0, m1, m2, m3⟩ := blk_cells2 HN4.out
              obtain ⟨F6, g1, g2, g3, g4, g5⟩ := H4.out
              have h3 := g1.c3
              obtain ⟨w5, hrun5, hS5, hg5⟩ := (g1.below (below_drew1 (Below.refl _ _))).putK HKI.out (x := 1) (wf_i64 (by omega) (by omega))
              have HE5 : Hid (KnownFrom R tk n at_ (updF F6 (nodeK n at_ i j) 1)) := Lib.hid (known_end HK.out (fun a i' j' c ha hc => by
                rw [updF_other (fun e => by have := nodeK_inj e; omega)] at hc
                exact g2 a i' j' c ha hc) updF_same (fun u hu0 hu => (updF_other hu0).trans (g4 u hu0 hu)) (.inl ⟨rfl, HCt.out⟩))
              have HF5 : Hid (∀ u, (∀ a i j : Nat, at_ ≤ a → u ≠ nodeK n a i j) → updF F6 (nodeK n at_ i j) 1 u = FK u) := Lib.hid (fun u hu => (updF_other (hu at_ i j (Nat.le_refl _))).trans (g4 u (hu at_ i j (Nat.le_refl _)) (fun a i' j' ha => hu a i' j' (by omega))))
              have HFr5 := Aside0.mk ((HF2.out.trans (g5.below (below_drew1 (Below.refl _ _)))).grown hg5 (.inr (.inr rfl)))
              have HS5 := Aside0.mk hS5
              have HS5d := Aside0.mk (hS5.below (below_drew1 (Below.refl _ _)))
              have HL5 := HS5d.out.lookK HKI.out
              rw [updF_same, Option.getD_some] at HL5
              have p3 := hS5.c3
              have n5 : w5.heap[w.heap.size]? = some (.cells #[.int .i64 n, .int .i64 at_, .int .i64 i, .int .i64 j] 111 (0, 0)) := (hg5.block w.heap.size (Array.getElem?_eq_some_iff.1 HN4.out).1 (fun e => HNe.out.2.2 (by injection e))).trans HN4.out
              obtain ⟨p0, p1, p2, p4⟩ := blk_cells2 n5
              have HEt : Hid (tb (Cut (tabD R tk) tk ((R.getD n (0, [])).2.drop at_) i j) = true) := Lib.hid (tb_yes HCt.out)
              clear g1 g2 g3 g4 g5 hS5 n5 hg5
              go_wp2
              go_region
              go_wp2
              go_region
              go_wp2
              go_ret
              exact ⟨ret_bool HEt.out.symm, _, HS5d.out, HE5.out, HF5.out, HFr5.out.below (below_drew1 (Below.refl _ _))⟩
        · obtain rfl : q = j + 1 := by omega
          have HCt : Hid (¬ Cut (tabD R tk) tk ((R.getD n (0, [])).2.drop at_) i j) := Lib.hid (by
            rw [HR.out, List.drop_eq_getElem_cons (by have := HA.out; omega : at_ < r.length)]
            rintro ⟨q', h1, h2, h3, h4⟩
            refine HXq.out q' h1 (by omega) ⟨?_, h4⟩
            rw [List.getD_eq_getElem?_getD, List.getElem?_eq_getElem (by have := HA.out; omega : at_ < r.length), Option.getD_some]
            exact h3)
          have HN4 := Lib.hid (HM.out.node HN0.out HNe.out)
          obtain ⟨p0, p1, p2, p4⟩ := blk_cells2 HN4.out
          obtain ⟨F6, g1, g2, g3, g4, g5⟩ := HM.out
          have p3 := g1.c3
          have HS5d := Aside0.mk (g1.below (below_drew1 (Below.refl _ _)))
          have HL5 := HS5d.out.lookK HKI.out
          rw [g3, Option.getD_some] at HL5
          have HE5 : Hid (KnownFrom R tk n at_ F6) := Lib.hid (known_end HK.out g2 g3 g4 (.inr ⟨rfl, HCt.out⟩))
          have HF5 : Hid (∀ u, (∀ a i j : Nat, at_ ≤ a → u ≠ nodeK n a i j) → F6 u = FK u) := Lib.hid (fun u hu => g4 u (hu at_ i j (Nat.le_refl _)) (fun a i' j' ha => hu a i' j' (by omega)))
          have HFr5 := Aside0.mk (HF2.out.trans g5)
          have HEt : Hid (tb (Cut (tabD R tk) tk ((R.getD n (0, [])).2.drop at_) i j) = false) := Lib.hid (tb_no HCt.out)
          clear g1 g2 g3 g4 g5
          go_wp2
          go_region
          go_wp2
          go_ret
          exact ⟨ret_bool HEt.out.symm, _, HS5d.out, HE5.out, HF5.out, HFr5.out.below (below_drew1 (Below.refl _ _))⟩
end Go.Proofs.YtndimnomkcjeiaaDoor.Hand
/- What the counter's contracts speak of: what is counted, what is open. -/
namespace Go.Proofs.YtndimnomkcjeiaaDoor.Hand
open Go.RowKit Go.Proofs.YtndimnomkcjeiaaDoorW.PrintWords Go.Proofs.YtndimnomkcjeiaaDoorW.PrintMore Go.Proofs.YtndimnomkcjeiaaDoor.Math
open Go.Maps (Keyed)

noncomputable def treeD (R : List (Int × List Int)) (tk : List Int) (k i j : Nat) : Option Nat := treeN (tabD R tk) tk R k i j
noncomputable def seqD_ (R : List (Int × List Int)) (tk : List Int) (l : List Int) (i j : Nat) : Option Nat := seqN (T := tabD R tk) (tk := tk) (R := R) l i j
/-- What is marked as done is so. -/
def DoneOk (R : List (Int × List Int)) (tk : List Int) (F : Value → Option Int) : Prop :=
  (∀ (k i j : Nat) c, F (nodeK k (-1) i j) = some c → ∃ m, treeD R tk k i j = some m ∧ c = ((sat m : Nat) : Int)) ∧
  ∀ (n a i j : Nat) c, F (nodeK n a i j) = some c → ∃ m, seqD_ R tk ((R.getD n (0, [])).2.drop a) i j = some m ∧ c = ((sat m : Nat) : Int)
def KnownAll (R : List (Int × List Int)) (tk : List Int) (F : Value → Option Int) : Prop := ∀ n : Nat, KnownFrom R tk n 0 F
theorem KnownAll.next {R : List (Int × List Int)} {tk : List Int} {F F' : Value → Option Int} {n a : Nat} (h : KnownAll R tk F) (h1 : KnownFrom R tk n a F') (h2 : ∀ u, (∀ a' i j : Nat, a ≤ a' → u ≠ nodeK n a' i j) → F' u = F u) : KnownAll R tk F' := by
  intro n' a' i j c h0 hc
  by_cases e : n' = n ∧ a ≤ a'
  · obtain ⟨rfl, e⟩ := e
    exact h1 a' i j c e hc
  · rw [h2 _ (fun a'' i' j' ha e2 => by have := nodeK_inj e2; omega)] at hc
    exact h n' a' i j c (Nat.zero_le _) hc
theorem KnownAll.from_ {R : List (Int × List Int)} {tk : List Int} {F : Value → Option Int} (h : KnownAll R tk F) (n a : Nat) : KnownFrom R tk n a F := fun a' i j c _ hc => h n a' i j c (Nat.zero_le _) hc
def PreW (R : List (Int × List Int)) (tk : List Int) (F : Value → Option Int) (x : Nat × Nat × Nat) : Prop := ∀ k i j : Nat, F (nodeK k (-1) i j) = some 1 → Dep (T := tabD R tk) (tk := tk) (R := R) (k, i, j) x
def PreS (R : List (Int × List Int)) (tk : List Int) (F : Value → Option Int) (l : List Int) (i j : Nat) : Prop := ∀ k i' j' : Nat, F (nodeK k (-1) i' j') = some 1 → DepS (T := tabD R tk) (tk := tk) (R := R) (k, i', j') l i j
/-- The nodes, and how many of them are not open. -/
def nodesL (N n : Nat) : List (Nat × Nat × Nat) := (List.range N).flatMap fun (k : Nat) => (List.range (n + 1)).flatMap fun (i : Nat) => (List.range (n + 1)).map fun (j : Nat) => (k, i, j)
theorem mem_nodesL {N n k i j : Nat} (hk : k < N) (hi : i ≤ n) (hj : j ≤ n) : (k, i, j) ∈ nodesL N n := by
  unfold nodesL
  exact List.mem_flatMap.2 ⟨k, List.mem_range.2 hk, List.mem_flatMap.2 ⟨i, List.mem_range.2 (by omega), List.mem_map.2 ⟨j, List.mem_range.2 (by omega), rfl⟩⟩⟩
def freeC (N n : Nat) (F : Value → Option Int) : Nat := (nodesL N n).countP (fun x => decide (F (nodeK x.1 (-1) x.2.1 x.2.2) ≠ some 1))
theorem freeC_congr {N n : Nat} {F F' : Value → Option Int} (h : ∀ u, F' u = some 1 ↔ F u = some 1) : freeC N n F' = freeC N n F := by
  unfold freeC
  congr 1
  funext x
  rw [decide_eq_decide, Ne, Ne, h]
theorem freeC_pos {N n : Nat} {F : Value → Option Int} {k i j : Nat} (hk : k < N) (hi : i ≤ n) (hj : j ≤ n) (h : F (nodeK k (-1) i j) ≠ some 1) : 0 < freeC N n F :=
  List.countP_pos_iff.2 ⟨(k, i, j), mem_nodesL hk hi hj, by simpa using h⟩
theorem countP_lt {α : Type} {p q : α → Bool} : ∀ {l : List α} {x : α}, x ∈ l → p x = false → q x = true → (∀ y, p y = true → q y = true) → l.countP p < l.countP q
  | y :: l, x, hx, h1, h2, h3 => by
    rw [List.countP_cons, List.countP_cons]
    rcases List.mem_cons.1 hx with rfl | hx
    · have := List.countP_mono_left (l := l) (p := p) (q := q) (fun y _ h => h3 y h)
      rw [h1, h2]; simp; omega
    · have := countP_lt hx h1 h2 h3
      cases hp : p y
      · simp; omega
      · rw [h3 y hp]; simp; omega
theorem freeC_set {N n : Nat} {F : Value → Option Int} {k i j : Nat} (hk : k < N) (hi : i ≤ n) (hj : j ≤ n) (h : F (nodeK k (-1) i j) ≠ some 1) : freeC N n (updF F (nodeK k (-1) i j) 1) < freeC N n F := by
  refine countP_lt (mem_nodesL hk hi hj) (by simp [updF_same]) (by simpa using h) (fun y hy => ?_)
  simp only [decide_eq_true_eq] at hy ⊢
  intro e
  refine hy ?_
  by_cases e2 : nodeK y.1 (-1) y.2.1 y.2.2 = nodeK k (-1) i j
  · rw [e2, updF_same]
  · rw [updF_other e2]; exact e
/-- The state that goes on. -/
def WSt (w1 w0 : World) (R : List (Int × List Int)) (tk : List Int) (b kb bd bo bk : Nat) (FO : Value → Option Int) (w : World) : Prop :=
  ∃ FD' FO' FK', CSt w1 b kb bd bo bk FD' FO' FK' w ∧ DoneOk R tk FD' ∧ KnownAll R tk FK' ∧ (∀ u, FO' u = some 1 ↔ FO u = some 1) ∧ Frm bd bo bk w0 w
/-- What counting comes to: a number, or it is given up. -/
def WhRes (w1 w0 : World) (R : List (Int × List Int)) (tk : List Int) (b kb bd bo bk : Nat) (FO : Value → Option Int) (o : Option Nat) (e : Ending) (w' : World) : Prop :=
  (∃ m, o = some m ∧ e = .returned (.int .u64 ((sat m : Nat) : Int)) ∧ WSt w1 w0 R tk b kb bd bo bk FO w') ∨
  (o = none ∧ e = .panicked [{ v := .iface 84 (.agg #[]), recovered := false }] ∧ Below w1.heap.size w1 w')
section
variable {w1 w0 w w' : World} {R : List (Int × List Int)} {tk : List Int} {b kb bd bo bk : Nat} {FO : Value → Option Int}
theorem WSt.below (h : WSt w1 w0 R tk b kb bd bo bk FO w) (hb : Below w.heap.size w w') : WSt w1 w0 R tk b kb bd bo bk FO w' := by
  obtain ⟨FD', FO', FK', h1, h2, h3, h4, h5⟩ := h
  exact ⟨FD', FO', FK', h1.below hb, h2, h3, h4, h5.below hb⟩
theorem WSt.bel (h : WSt w1 w0 R tk b kb bd bo bk FO w) : Below w1.heap.size w1 w := by
  obtain ⟨FD', FO', FK', h1, _⟩ := h
  exact h1.bel
theorem WSt.trans {w2 : World} {FO2 : Value → Option Int} (h : WSt w1 w2 R tk b kb bd bo bk FO2 w') (h1 : ∀ u, FO2 u = some 1 ↔ FO u = some 1) (h2 : Frm bd bo bk w0 w2) : WSt w1 w0 R tk b kb bd bo bk FO w' := by
  obtain ⟨FD', FO', FK', g1, g2, g3, g4, g5⟩ := h
  exact ⟨FD', FO', FK', g1, g2, g3, (fun u => (g4 u).trans (h1 u)), h2.trans g5⟩
theorem WSt.node {g : Nat} {o : Obj} (h : WSt w1 w0 R tk b kb bd bo bk FO w) (hg : w0.heap[g]? = some o) (hne : g ≠ bd ∧ g ≠ bo ∧ g ≠ bk) : w.heap[g]? = some o := by
  obtain ⟨_, _, _, _, _, _, _, h5⟩ := h
  exact (h5.block g (Array.getElem?_eq_some_iff.1 hg).1 hne.1 hne.2.1 hne.2.2).trans hg
theorem WSt.c0 (h : WSt w1 w0 R tk b kb bd bo bk FO w) : w.cell? ⟨kb, 0, none⟩ = some (.pointer (some ⟨b, 0, none⟩)) := by
  obtain ⟨_, _, _, h1, _⟩ := h
  exact h1.c0
theorem WSt.held {a : Addr} {v : Value} (h : WSt w1 w0 R tk b kb bd bo bk FO w) (ha : ∀ W, Below w1.heap.size w1 W → W.cell? a = some v) (hb : Below w.heap.size w w') : w'.cell? ⟨kb, 0, none⟩ = some (.pointer (some ⟨b, 0, none⟩)) ∧ w'.cell? a = some v ∧ Aside0 (WSt w1 w0 R tk b kb bd bo bk FO w') :=
  ⟨(h.below hb).c0, ha _ (h.below hb).bel, ⟨h.below hb⟩⟩
theorem WSt.mayNext {FD FO' FK F' : Value → Option Int} {n a : Nat} (h1 : CSt w1 b kb bd bo bk FD FO' F' w') (h2 : DoneOk R tk FD) (h3 : KnownAll R tk FK) (h4 : ∀ u, FO' u = some 1 ↔ FO u = some 1) (h5 : Frm bd bo bk w0 w) (g2 : KnownFrom R tk n a F') (g3 : ∀ u, (∀ a' i j : Nat, a ≤ a' → u ≠ nodeK n a' i j) → F' u = FK u) (g4 : Frm bd bo bk w w') : WSt w1 w0 R tk b kb bd bo bk FO w' :=
  ⟨FD, FO', F', h1, h2, h3.next g2 g3, h4, h5.trans g4⟩
end
/-- Counting the rests of rules, and the nonterminals, so long as no more than so many nodes are not open. -/
def PWh (w1 : World) (R : List (Int × List Int)) (tk : List Int) (N b kb bd bo bk d : Nat) : Prop :=
  ∀ (k i j : Nat) (FD FO FK : Value → Option Int) (w : World), k < N → i ≤ j → j ≤ tk.length → CSt w1 b kb bd bo bk FD FO FK w → DoneOk R tk FD → KnownAll R tk FK → PreW R tk FO (k, i, j) → freeC N tk.length FO ≤ d →
    Calls Tryd.prog 40 #[.pointer (some ⟨kb, 0, none⟩), .int .i64 k, .int .i64 i, .int .i64 j] w (WhRes w1 w R tk b kb bd bo bk FO (treeD R tk k i j))
def PRe (w1 : World) (R : List (Int × List Int)) (tk : List Int) (N b kb bd bo bk d : Nat) : Prop :=
  ∀ (n a i j : Nat) (FD FO FK : Value → Option Int) (w : World), n < R.length → a ≤ (R.getD n (0, [])).2.length → i ≤ j → j ≤ tk.length → CSt w1 b kb bd bo bk FD FO FK w → DoneOk R tk FD → KnownAll R tk FK → PreS R tk FO ((R.getD n (0, [])).2.drop a) i j → freeC N tk.length FO ≤ d →
    Calls Tryd.prog 53 #[.pointer (some ⟨kb, 0, none⟩), .int .i64 n, .int .i64 a, .int .i64 i, .int .i64 j] w (WhRes w1 w R tk b kb bd bo bk FO (seqD_ R tk ((R.getD n (0, [])).2.drop a) i j))
end Go.Proofs.YtndimnomkcjeiaaDoor.Hand
/- The contract of the counter's rest, over that of whole. -/
namespace Go.Proofs.YtndimnomkcjeiaaDoor.Hand
open Go.RowKit Go.Proofs.YtndimnomkcjeiaaDoorW.PrintWords Go.Proofs.YtndimnomkcjeiaaDoorW.PrintMore Go.Proofs.YtndimnomkcjeiaaDoor.Math
open Go.Maps (Keyed)

section
variable {w1 w0 w' : World} {R : List (Int × List Int)} {tk : List Int} {b kb bd bo bk : Nat} {FO : Value → Option Int} {e : Ending}
theorem WhRes.yes {m : Nat} (h : WhRes w1 w0 R tk b kb bd bo bk FO (some m) e w') : e = .returned (.int .u64 ((sat m : Nat) : Int)) ∧ WSt w1 w0 R tk b kb bd bo bk FO w' := by
  rcases h with ⟨m', h1, h2, h3⟩ | ⟨h1, _⟩
  · injection h1 with h1
    subst h1
    exact ⟨h2, h3⟩
  · cases h1
theorem WhRes.no (h : WhRes w1 w0 R tk b kb bd bo bk FO none e w') : e = .panicked [{ v := .iface 84 (.agg #[]), recovered := false }] ∧ Below w1.heap.size w1 w' := by
  rcases h with ⟨m', h1, _⟩ | ⟨_, h2, h3⟩
  · cases h1
  · exact ⟨h2, h3⟩
end
open Classical in
noncomputable def sumF (R : List (Int × List Int)) (tk : List Int) (s : Int) (l : List Int) (i j : Nat) : Nat → Option Nat := fun q => if i ≤ q ∧ Fits (tabD R tk) tk s l i q j then mulO (seqD_ R tk l q j) (if s < 0 then treeD R tk (-1 - s).toNat i q else some 1) else some 0
theorem seqD_cons (R : List (Int × List Int)) (tk : List Int) (s : Int) (l : List Int) (i j : Nat) : seqD_ R tk (s :: l) i j = sumO (sumF R tk s l i j) (j + 1) := rfl
theorem sumF_low {R : List (Int × List Int)} {tk : List Int} {s : Int} {l : List Int} {i j : Nat} : ∀ m, m ≤ i → sumO (sumF R tk s l i j) m = some 0
  | 0, _ => rfl
  | m + 1, h => by
    show addO (sumO (sumF R tk s l i j) m) (sumF R tk s l i j m) = _
    rw [sumF_low m (by omega), show sumF R tk s l i j m = some 0 by unfold sumF; rw [if_neg (by omega)]]
    rfl
theorem sumO_stop {f : Nat → Option Nat} {m q : Nat} (hq : q < m) (h : f q = none) : sumO f m = none := by
  cases h2 : sumO f m with
  | none => rfl
  | some c =>
    obtain ⟨a, ha⟩ := sumO_part h2 q hq
    rw [h] at ha; cases ha
theorem sumO_next {f : Nat → Option Nat} {q c d : Nat} (h : sumO f q = some c) (hf : f q = some d) : sumO f (q + 1) = some (c + d) := by
  show addO (sumO f q) (f q) = _
  rw [h, hf]; rfl
theorem DoneOk.put_rest {R : List (Int × List Int)} {tk : List Int} {F : Value → Option Int} {n a i j m : Nat} (h : DoneOk R tk F) (hm : seqD_ R tk ((R.getD n (0, [])).2.drop a) i j = some m) : DoneOk R tk (updF F (nodeK n a i j) ((sat m : Nat) : Int)) := by
  refine ⟨fun k i' j' c hc => ?_, fun n' a' i' j' c hc => ?_⟩
  · rw [updF_other (fun e => by have := nodeK_inj e; omega)] at hc
    exact h.1 k i' j' c hc
  · by_cases e : nodeK n' a' i' j' = nodeK n a i j
    · rw [e, updF_same] at hc
      obtain ⟨e1, e2, e3, e4⟩ := nodeK_inj e
      obtain rfl : n' = n := by omega
      obtain rfl : a' = a := by omega
      obtain rfl : i' = i := by omega
      obtain rfl : j' = j := by omega
      exact ⟨m, hm, (Option.some.inj hc).symm⟩
    · rw [updF_other e] at hc
      exact h.2 n' a' i' j' c hc
theorem DoneOk.put_whole {R : List (Int × List Int)} {tk : List Int} {F : Value → Option Int} {k i j m : Nat} (h : DoneOk R tk F) (hm : treeD R tk k i j = some m) : DoneOk R tk (updF F (nodeK k (-1) i j) ((sat m : Nat) : Int)) := by
  refine ⟨fun k' i' j' c hc => ?_, fun n' a' i' j' c hc => ?_⟩
  · by_cases e : nodeK k' (-1) i' j' = nodeK k (-1) i j
    · rw [e, updF_same] at hc
      obtain ⟨e1, e2, e3, e4⟩ := nodeK_inj e
      obtain rfl : k' = k := by omega
      obtain rfl : i' = i := by omega
      obtain rfl : j' = j := by omega
      exact ⟨m, hm, (Option.some.inj hc).symm⟩
    · rw [updF_other e] at hc
      exact h.1 k' i' j' c hc
  · rw [updF_other (fun e => by have := nodeK_inj e; omega)] at hc
    exact h.2 n' a' i' j' c hc
set_option maxHeartbeats 2000000 in
set_option maxRecDepth 100000 in
theorem crest_of {w1 : World} {R : List (Int × List Int)} {tk : List Int} {t N b : Nat} {AR : Option Addr} {cR : Nat} (hx : CtxC w1 R tk t N b AR cR) (kb bd bo bk d : Nat) (hW : PWh w1 R tk N b kb bd bo bk d) : PRe w1 R tk N b kb bd bo bk d := by
  intro n a i j FD FO FK w hn ha
  have hr32 : (R.getD n (0, [])).2.length ≤ 32 := ruleN_len (hx.right _ (getD_mem R n (0, []) hn))
  have hsym : ∀ s ∈ (R.getD n (0, [])).2, -(N : Int) ≤ s ∧ s < 4611686018427387904 := fun s hs => by have := hx.right.sym (getD_mem R n (0, []) hn) hs; have := hx.ht; omega
  obtain ⟨r, hr⟩ : ∃ r, (R.getD n (0, [])).2 = r := ⟨_, rfl⟩
  rw [hr] at hr32 hsym ha ⊢
  have HX := Lib.hid hx
  have HW := Lib.hid hW
  have hR := hx.hR
  have htk := hx.hn
  have hrl := hx.rule.2.1
  have hcap := hx.cap
  clear hW
  obtain ⟨e, he⟩ : ∃ e, a + e = r.length := ⟨r.length - a, by omega⟩
  clear ha
  revert a i j FD FO FK w
  induction e with
  | zero =>
    intro a i j FD FO FK w hat hij hj hS hD hK hP hF
    have HS := Aside0.mk hS
    have HD := Lib.hid hD
    have HK := Lib.hid hK
    obtain ⟨ad, B, c, hA, k1, k2, hrc, hrr⟩ := at_ruleN (Kd.C_below hx.rule hS.bel) n hn
    rw [hr] at k2 hrc hrr
    have c0 := hS.c0
    have c3 := (hS.bel.cell (p := ⟨b, 3, none⟩) (World.block_lt_of_cell? _ _ hx.cell)).trans hx.cell
    subst hA
    have hat' : a = r.length := by omega
    have hatb : ((a : Int) == (r.length : Int)) = true := by rw [beq_iff_eq]; omega
    have HE : Hid (seqD_ R tk (r.drop a) i j = some (if i = j then 1 else 0)) := Lib.hid (by rw [hat', List.drop_length]; rfl)
    have HR := Lib.hid hr
    clear hr hS hK hD hrr hx hat hat' hP hF
    by_cases hij2 : i = j
    · subst hij2
      go_enter Tryd.func53, Tryd.ntmps53
      go_wp2
      go_step3
      go_wp2
      rw [Exit.noGoto_ret]
      go_ret
      exact .inl ⟨1, by rw [HE.out]; simp, rfl, _, _, _, HS.out, HD.out, HK.out, (fun _ => Iff.rfl), Frm.refl _⟩
    · have hlt : i < j := by omega
      have hm1 : (1 : Int) ≤ (j : Int) - i := by omega
      go_enter Tryd.func53, Tryd.ntmps53
      go_wp2
      go_step3
      go_wp2
      rw [Exit.noGoto_ret]
      go_ret
      exact .inl ⟨0, by rw [HE.out]; simp [hij2], rfl, _, _, _, HS.out, HD.out, HK.out, (fun _ => Iff.rfl), Frm.refl _⟩
  | succ e ih =>
    intro a i j FD FO FK w hat hij hj hS hD hK hP hF
    obtain ⟨ad, B, c, hA, k1, k2, hrc, hrr⟩ := at_ruleN hx.rule n hn
    rw [hr] at k2 hrc hrr
    replace k1 := (hS.bel.cell (World.block_lt_of_cell? _ _ k1)).trans k1
    replace k2 := (hS.bel.cell (World.block_lt_of_cell? _ _ k2)).trans k2
    have c0 := hS.c0
    have c3 := (hS.bel.cell (p := ⟨b, 3, none⟩) (World.block_lt_of_cell? _ _ hx.cell)).trans hx.cell
    subst hA
    have hatb : ((a : Int) == (r.length : Int)) = false := by rw [beq_eq_false_iff_ne]; omega
    obtain ⟨w2, hw2⟩ : ∃ w2, w.alloc (.cells #[.int .i64 n, .int .i64 a, .int .i64 i, .int .i64 j] 111) = w2 := ⟨_, rfl⟩
    have hb2 : Below w.heap.size w w2 := by rw [← hw2]; exact below_alloc (Below.refl _ _) _
    have n0 : w2.heap[w.heap.size]? = some (.cells #[.int .i64 n, .int .i64 a, .int .i64 i, .int .i64 j] 111 (0, 0)) := by rw [← hw2]; exact heap_alloc_new w _
    have hKI : KeyIn (nodeK n a i j) := keyIn_r (by omega) (by omega) (by omega) (by omega)
    have HS2 := Aside0.mk (hS.below hb2)
    have HF2 := Aside0.mk ((Frm.refl (bd := bd) (bo := bo) (bk := bk) w).below hb2)
    have HNe : Hid (w.heap.size ≠ bd ∧ w.heap.size ≠ bo ∧ w.heap.size ≠ bk) := Lib.hid ⟨by have := hS.pd.lt; omega, by have := hS.po.lt; omega, by have := hS.pk.lt; omega⟩
    obtain ⟨y, hy⟩ : ∃ y, r.getD a 0 = y := ⟨_, rfl⟩
    obtain ⟨l, hl⟩ : ∃ l, r.drop (a + 1) = l := ⟨_, rfl⟩
    have hcons : r.drop a = y :: l := by
      rw [List.drop_eq_getElem_cons (by omega : a < r.length), hl]
      rw [List.getD_eq_getElem?_getD, List.getElem?_eq_getElem (by omega : a < r.length), Option.getD_some] at hy
      rw [hy]
    have hym : y ∈ r := by rw [← hy]; exact getD_mem r a 0 (by omega)
    have hys := hsym y hym
    have HRr := Lib.hid hrr
    have HKI := Lib.hid hKI
    have HK := Lib.hid hK
    have HD := Lib.hid hD
    have HR := Lib.hid hr
    have HA := Lib.hid hat
    have HY := Lib.hid hy
    have HLl := Lib.hid hl
    have HP := Lib.hid hP
    have HFc := Lib.hid hF
    rw [hcons] at HP ⊢
    have HCo := Lib.hid hcons
    have HY2 := Lib.hid (show ∀ ad3, B = some ad3 → ∀ W, Below w1.heap.size w1 W → W.cell? (ad3.add a) = some (.int .i64 y) from fun ad3 hB W hW => by
      obtain ⟨ad4, y4, e4, h4, HY4⟩ := at_scalar (Kd.C_below hrr hW) a (by omega) 0
      rw [hB] at e4
      injection e4 with e4
      subst e4
      rw [h4, ← HY4.out, hy])
    obtain ⟨ad3, -, rfl, -, -⟩ := at_scalar hrr a (by omega) 0
    replace HY2 := Lib.hid (HY2.out ad3 rfl)
    have h1 := HS2.out.c1
    obtain ⟨m0, m1, m2, m3⟩ := blk_cells2 n0
    have HSd := Aside0.mk (HS2.out.below (below_drew1 (Below.refl _ _)))
    have HL := HSd.out.lookD HKI.out
    have HN0 := Lib.hid n0
    have hi1 : (0 : Int) ≤ (a : Int) := by omega
    have hi2 : (a : Int) < (r.length : Int) := by omega
    clear hS hD hK hrr hat hb2 hKI hy hl hcons hym n0 hP hF hx hr
    cases hF : FD (nodeK n a i j) with
    | some x =>
      obtain ⟨m, hm, hxm⟩ := HD.out.2 n a i j x hF
      rw [HR.out, HCo.out] at hm
      rw [hF, Option.getD_some, Option.isSome_some] at HL
      subst hxm
      have HMm := Lib.hid hm
      clear hF hm
      go_enter Tryd.func53, Tryd.ntmps53
      go_wp2
      go_step3
      go_wp2
      go_region
      go_wp2
      rw [Exit.noGoto_ret]
      go_ret
      exact .inl ⟨m, HMm.out, rfl, _, _, _, HSd.out, HD.out, HK.out, (fun _ => Iff.rfl), HF2.out.below (below_drew1 (Below.refl _ _))⟩
    | none =>
      rw [hF, Option.getD_none, Option.isSome_none] at HL
      clear hF
      have HW0 : Aside0 (WSt w1 w2 R tk b kb bd bo bk FO w2.drew) := ⟨_, _, _, HSd.out, HD.out, HK.out, (fun _ => Iff.rfl), (Frm.refl w2).below (below_drew1 (Below.refl _ _))⟩
      go_enter Tryd.func53, Tryd.ntmps53
      go_wp2
      go_step3
      go_wp2
      go_region
      go_wp2
      go_step3
      go_wp2
      clear HL h1 m0 m1 m2 m3 c0 c3 k1 k2
      go_loopw [15, 16, 17] (fun s x _ wr => ∃ (q cn : Nat), i ≤ q ∧ q ≤ j + 1 ∧ x = .int .i64 q ∧ s = .int .u64 ((sat cn : Nat) : Int) ∧ Aside0 (WSt w1 w2 R tk b kb bd bo bk FO wr) ∧ Aside0 (sumO (sumF R tk y l i j) q = some cn)) (fun _ x _ _ => j + 1 - (intOf x).toNat)
      case atStart => exact ⟨i, 0, by omega, by omega, rfl, rfl, HW0, ⟨sumF_low i (Nat.le_refl _)⟩⟩
      case round =>
        obtain ⟨q, cn, hq1, hq2, rfl, rfl, HM, HSm⟩ := hrel
        obtain ⟨wo, rfl⟩ : ∃ wo : World, wo = wr := ⟨_, rfl⟩
        by_cases hqj : q ≤ j
        · have HBo := Lib.hid HM.out.bel
          have hc0 := HM.out.c0
          have hyo := HY2.out wo HBo.out
          have HHas := Lib.hid (fun (W : World) (hW : Below w1.heap.size w1 W) => HX.out.has W hW y i q hys.1 hys.2 hq1 (by omega))
          cases hb : Hb (tabD R tk) tk y i q
          · rw [hb] at HHas
            have HZ : Hid (sumF R tk y l i j q = some 0) := Lib.hid (by unfold sumF; rw [if_neg (fun h => by have := h.2.1; rw [hb] at this; cases this)])
            clear hb
            go_wp2_with fail
            go_quiet ((go_at_call 61; exact Calls.quiet_of (HHas.out _ (pw_below_drewN HBo.out _))))
            go_wp2
            go_roundw
            case rel => exact ⟨q + 1, cn, by omega, by omega, by go_num, rfl, ⟨HM.out.below (by first | exact pw_below_drewN (Below.refl _ _) _ | exact below_drew1 (Below.refl _ _) | exact Below.refl _ _)⟩, ⟨by have := sumO_next HSm.out HZ.out; rwa [Nat.add_zero] at this⟩⟩
            case measure => simp [intOf]; omega
          · rw [hb] at HHas
            have hbH := Lib.hid hb
            clear hb
            have hat1 : ((a + 1 : Nat) : Int) = (a : Int) + 1 := by omega
            have HMy := Lib.hid (fun (W : World) (FD FO F : Value → Option Int) (hW : CSt w1 b kb bd bo bk FD FO F W) (hK : KnownAll R tk F) => cmay_calls HX.out kb bd bo bk FD FO n hn e (a + 1) (by rw [HR.out]; have := HA.out; omega) q j F W hqj hj hW (hK.from_ n (a + 1)))
            unfold MayRes at HMy
            rw [HR.out, HLl.out, hat1] at HMy
            have hwr1 : IntKind.i64.wrap ((a : Int) + 1) = (a : Int) + 1 := by rw [Go.IntWalk.i64_in _ (by omega)]
            cases hcut : tb (Cut (tabD R tk) tk l q j)
            · rw [hcut] at HMy
              have HZ : Hid (sumF R tk y l i j q = some 0) := Lib.hid (by unfold sumF; rw [if_neg (fun h => by have := tb_yes h.2.2; rw [hcut] at this; cases this)])
              clear hcut
              go_wp2_with fail
              go_region_held3 (fun w' => w'.cell? ⟨kb, 0, none⟩ = some (.pointer (some ⟨b, 0, none⟩)) ∧ w'.cell? (ad3.add a) = some (.int .i64 y) ∧ Aside0 (WSt w1 w2 R tk b kb bd bo bk FO w'))
                (first
                  | with_reducible exact HM.out.held HY2.out (below_drew1 (Below.refl _ _))
                  | with_reducible exact H4.out.held HY2.out (Below.refl _ _)
                  | with_reducible exact hS.out.2.2.out.held HY2.out (pw_below_drewN (Below.refl _ _) _)
                  | with_reducible exact HM.out.held HY2.out (pw_below_drewN (Below.refl _ _) _))
                (first
                  | (go_at_call 61; have hS := Aside0.mk (by assumption : _ ∧ _ ∧ Aside0 (WSt w1 w2 R tk b kb bd bo bk FO _)); refine (HHas.out _ hS.out.2.2.out.bel).mono ?_; rintro e w' ⟨rfl, n1, rfl⟩)
                  | (go_at_call 51; have hS := Aside0.mk (by assumption : _ ∧ _ ∧ Aside0 (WSt w1 w2 R tk b kb bd bo bk FO _)); obtain ⟨FD5, FO5, FK5, f1, f2, f3, f4, f5⟩ := hS.out.2.2.out; (with_reducible refine (HMy.out _ FD5 FO5 FK5 f1 f3).mono ?_); rintro e w4 ⟨rfl, F6, g1, g2, g3, g4⟩; have H4 := Aside0.mk (WSt.mayNext g1 f2 f3 f4 f5 g2 g3 g4); clear f1 f2 f3 f4 f5 g1 g2 g3 g4))
              go_wp2
              go_roundw
              case rel => exact ⟨q + 1, cn, by omega, by omega, by go_num, rfl, ⟨H4.out.below (by first | exact Below.refl _ _ | exact pw_below_drewN (Below.refl _ _) _ | exact below_drew1 (Below.refl _ _))⟩, ⟨by have := sumO_next HSm.out HZ.out; rwa [Nat.add_zero] at this⟩⟩
              case measure => simp [intOf]; omega
            · rw [hcut] at HMy
              have HFit : Hid (Fits (tabD R tk) tk y l i q j) := Lib.hid ⟨hbH.out, tb_iff.1 hcut⟩
              clear hcut
              go_wp2_with fail
              go_region_held3 (fun w' => w'.cell? ⟨kb, 0, none⟩ = some (.pointer (some ⟨b, 0, none⟩)) ∧ w'.cell? (ad3.add a) = some (.int .i64 y) ∧ Aside0 (WSt w1 w2 R tk b kb bd bo bk FO w'))
                (first
                  | with_reducible exact HM.out.held HY2.out (below_drew1 (Below.refl _ _))
                  | with_reducible exact H4.out.held HY2.out (Below.refl _ _)
                  | with_reducible exact hS.out.2.2.out.held HY2.out (pw_below_drewN (Below.refl _ _) _)
                  | with_reducible exact HM.out.held HY2.out (pw_below_drewN (Below.refl _ _) _))
                (first
                  | (go_at_call 61; have hS := Aside0.mk (by assumption : _ ∧ _ ∧ Aside0 (WSt w1 w2 R tk b kb bd bo bk FO _)); refine (HHas.out _ hS.out.2.2.out.bel).mono ?_; rintro e w' ⟨rfl, n1, rfl⟩)
                  | (go_at_call 51; have hS := Aside0.mk (by assumption : _ ∧ _ ∧ Aside0 (WSt w1 w2 R tk b kb bd bo bk FO _)); obtain ⟨FD5, FO5, FK5, f1, f2, f3, f4, f5⟩ := hS.out.2.2.out; (with_reducible refine (HMy.out _ FD5 FO5 FK5 f1 f3).mono ?_); rintro e w4 ⟨rfl, F6, g1, g2, g3, g4⟩; have H4 := Aside0.mk (WSt.mayNext g1 f2 f3 f4 f5 g2 g3 g4); clear f1 f2 f3 f4 f5 g1 g2 g3 g4))
              have HRe := Lib.hid (fun (W : World) (FD FO' FK : Value → Option Int) (h1 : CSt w1 b kb bd bo bk FD FO' FK W) (h2 : DoneOk R tk FD) (h3 : KnownAll R tk FK) (h4 : ∀ u, FO' u = some 1 ↔ FO u = some 1) => ih (a + 1) q j FD FO' FK W (by have := HA.out; omega) hqj hj h1 h2 h3 (by
                rw [HLl.out]
                exact fun k i' j' hk => (HP.out k i' j' ((h4 _).1 hk)).tail hq1 hqj HFit.out) (by rw [freeC_congr h4]; exact HFc.out))
              rw [HLl.out, hat1] at HRe
              cases hs1 : seqD_ R tk l q j with
              | none =>
                have HZ : Hid (seqD_ R tk (y :: l) i j = none) := Lib.hid (by
                  rw [seqD_cons]
                  refine sumO_stop (q := q) (by omega) ?_
                  unfold sumF
                  rw [if_pos ⟨hq1, HFit.out⟩, hs1]; rfl)
                rw [hs1] at HRe
                clear hs1
                go_wp2_with (go_at_call 53; obtain ⟨FD5, FO5, FK5, f1, f2, f3, f4, f5⟩ := H4.out; (with_reducible refine (HRe.out _ FD5 FO5 FK5 f1 f2 f3 f4).mono ?_); rintro e w5 h5; obtain ⟨rfl, hb5⟩ := h5.no; have HB5 := Lib.hid hb5; clear hb5 h5 f1 f2 f3 f4 f5)
                rw [Exit.noGoto_panic]
                exact ⟨rfl, .inr ⟨HZ.out, rfl, HB5.out⟩⟩
              | some m1 =>
                rw [hs1] at HRe
                have HS1 := Lib.hid hs1
                have HPl := Lib.hid (fun (x z : Nat) (W : World) => plus_calls (sat x) (sat z) (sat_le x) (sat_le z) W)
                clear hs1
                have hyl : -(60 : Int) ≤ y := by have := HX.out.hN; have := hys.1; omega
                by_cases hy0 : y < 0
                · have hyk : ((-1 - y).toNat : Int) = -1 - y := by omega
                  have HWh := Lib.hid (fun (W : World) (FD FO' FK : Value → Option Int) (h1 : CSt w1 b kb bd bo bk FD FO' FK W) (h2 : DoneOk R tk FD) (h3 : KnownAll R tk FK) (h4 : ∀ u, FO' u = some 1 ↔ FO u = some 1) => HW.out (-1 - y).toNat i q FD FO' FK W (by omega) hq1 (by omega) h1 h2 h3 (fun k i' j' hk => (HP.out k i' j' ((h4 _).1 hk)).head hq1 hqj HFit.out hy0) (by rw [freeC_congr h4]; exact HFc.out))
                  rw [hyk] at HWh
                  cases hs2 : treeD R tk (-1 - y).toNat i q with
                  | none =>
                    have HZ : Hid (seqD_ R tk (y :: l) i j = none) := Lib.hid (by
                      rw [seqD_cons]
                      refine sumO_stop (q := q) (by omega) ?_
                      unfold sumF
                      rw [if_pos ⟨hq1, HFit.out⟩, HS1.out, if_pos hy0, hs2]; rfl)
                    rw [hs2] at HWh
                    clear hs2 hyk
                    go_wp2_with (first
                      | (go_at_call 40; obtain ⟨FD6, FO6, FK6, f1, f2, f3, f4, f5⟩ := H5.out; (with_reducible refine (HWh.out _ FD6 FO6 FK6 f1 f2 f3 f4).mono ?_); rintro e w6 h6; obtain ⟨rfl, hb6⟩ := h6.no; have HB6 := Lib.hid hb6; clear hb6 h6 f1 f2 f3 f4 f5)
                      | (go_at_call 53; obtain ⟨FD5, FO5, FK5, f1, f2, f3, f4, f5⟩ := H4.out; (with_reducible refine (HRe.out _ FD5 FO5 FK5 f1 f2 f3 f4).mono ?_); rintro e w5 h5; obtain ⟨rfl, hm5⟩ := h5.yes; have H5 := Aside0.mk (hm5.trans f4 f5); have hy5 := HY2.out w5 hm5.bel; clear h5 hm5 f1 f2 f3 f4 f5))
                    rw [Exit.noGoto_panic]
                    exact ⟨rfl, .inr ⟨HZ.out, rfl, HB6.out⟩⟩
                  | some m2 =>
                    rw [hs2] at HWh
                    have HZ : Hid (sumF R tk y l i j q = some (m1 * m2)) := Lib.hid (by
                      unfold sumF
                      rw [if_pos ⟨hq1, HFit.out⟩, HS1.out, if_pos hy0, hs2]; rfl)
                    have HTi := Lib.hid (fun (W : World) => times_calls (sat m1) (sat m2) (sat_le m1) (sat_le m2) W)
                    rw [sat_mul] at HTi
                    clear hs2 hyk
                    go_wp2_with (first
                      | (go_at_call 40; obtain ⟨FD6, FO6, FK6, f1, f2, f3, f4, f5⟩ := H5.out; (with_reducible refine (HWh.out _ FD6 FO6 FK6 f1 f2 f3 f4).mono ?_); rintro e w6 h6; obtain ⟨rfl, hm6⟩ := h6.yes; have H6 := Aside0.mk (hm6.trans f4 f5); have hy6 := HY2.out w6 hm6.bel; clear h6 hm6 f1 f2 f3 f4 f5)
                      | (go_at_call 53; obtain ⟨FD5, FO5, FK5, f1, f2, f3, f4, f5⟩ := H4.out; (with_reducible refine (HRe.out _ FD5 FO5 FK5 f1 f2 f3 f4).mono ?_); rintro e w5 h5; obtain ⟨rfl, hm5⟩ := h5.yes; have H5 := Aside0.mk (hm5.trans f4 f5); have hy5 := HY2.out w5 hm5.bel; clear h5 hm5 f1 f2 f3 f4 f5)
                      | (go_at_call 63; refine (HTi.out _).mono ?_; rintro e w' ⟨rfl, rfl⟩)
                      | (go_at_call 52; refine (HPl.out _ _ _).mono ?_; rintro e w' ⟨rfl, rfl⟩))
                    go_roundw
                    case rel => exact ⟨q + 1, cn + m1 * m2, by omega, by omega, by go_num, by rw [sat_add], ⟨H6.out.below (by first | exact Below.refl _ _ | exact pw_below_drewN (Below.refl _ _) _ | exact below_drew1 (Below.refl _ _))⟩, ⟨sumO_next HSm.out HZ.out⟩⟩
                    case measure => simp [intOf]; omega
                · have HZ : Hid (sumF R tk y l i j q = some m1) := Lib.hid (by
                    unfold sumF
                    rw [if_pos ⟨hq1, HFit.out⟩, HS1.out, if_neg hy0]
                    show some (m1 * 1) = _
                    rw [Nat.mul_one])
                  go_wp2_with (first
                    | (go_at_call 53; obtain ⟨FD5, FO5, FK5, f1, f2, f3, f4, f5⟩ := H4.out; (with_reducible refine (HRe.out _ FD5 FO5 FK5 f1 f2 f3 f4).mono ?_); rintro e w5 h5; obtain ⟨rfl, hm5⟩ := h5.yes; have H5 := Aside0.mk (hm5.trans f4 f5); have hy5 := HY2.out w5 hm5.bel; clear h5 hm5 f1 f2 f3 f4 f5)
                    | (go_at_call 52; refine (HPl.out _ _ _).mono ?_; rintro e w' ⟨rfl, rfl⟩))
                  go_roundw
                  case rel => exact ⟨q + 1, cn + m1, by omega, by omega, by go_num, by rw [sat_add], ⟨H5.out.below (by first | exact Below.refl _ _ | exact pw_below_drewN (Below.refl _ _) _ | exact below_drew1 (Below.refl _ _))⟩, ⟨sumO_next HSm.out HZ.out⟩⟩
                  case measure => simp [intOf]; omega
        · obtain rfl : q = j + 1 := by omega
          have HTo : Hid (seqD_ R tk (y :: l) i j = some cn) := Lib.hid (by rw [seqD_cons]; exact HSm.out)
          obtain ⟨p0, p1, p2, p4⟩ := blk_cells2 (HM.out.node HN0.out HNe.out)
          obtain ⟨FD6, FO6, FK6, g1, g2, g3, g4, g5⟩ := HM.out
          have p3 := g1.c1
          obtain ⟨w5, hrun5, hS5, hg5⟩ := (g1.below (below_drew1 (Below.refl _ _))).putD HKI.out (x := ((sat cn : Nat) : Int)) (wf_u64 (by omega) (by have := sat_le cn; omega))
          have HD5 : Hid (DoneOk R tk (updF FD6 (nodeK n a i j) ((sat cn : Nat) : Int))) := Lib.hid (g2.put_rest (by rw [HR.out, HCo.out]; exact HTo.out))
          have H5 : Aside0 (WSt w1 w R tk b kb bd bo bk FO w5) := ⟨_, _, _, hS5, HD5.out, g3, g4, ((HF2.out.trans g5).below (below_drew1 (Below.refl _ _))).grown hg5 (.inl rfl)⟩
          clear g1 g2 g3 g4 g5 hS5 hg5
          go_wp2
          go_region
          go_wp2
          rw [Exit.noGoto_ret]
          go_ret
          exact .inl ⟨cn, HTo.out, rfl, H5.out⟩
end Go.Proofs.YtndimnomkcjeiaaDoor.Hand
/- The contract of the counter's whole. -/
namespace Go.Proofs.YtndimnomkcjeiaaDoor.Hand
open Go.RowKit Go.Proofs.YtndimnomkcjeiaaDoorW.PrintWords Go.Proofs.YtndimnomkcjeiaaDoorW.PrintMore Go.Proofs.YtndimnomkcjeiaaDoor.Math
open Go.Maps (Keyed)

noncomputable def ruleD (R : List (Int × List Int)) (tk : List Int) (k i j n : Nat) : Option Nat := ruleC (tabD R tk) tk (treeN (tabD R tk) tk R) R k i j n
theorem treeD_eq (R : List (Int × List Int)) (tk : List Int) (k i j : Nat) : treeD R tk k i j = sumO (ruleD R tk k i j) R.length := treeN_eq k i j
theorem ruleD_no {R : List (Int × List Int)} {tk : List Int} {k i j n : Nat} (h : ¬ ((R.getD n (0, [])).1 = (k : Int) ∧ Cut (tabD R tk) tk (R.getD n (0, [])).2 i j)) : ruleD R tk k i j n = some 0 := by unfold ruleD ruleC; rw [if_neg h]
theorem ruleD_yes {R : List (Int × List Int)} {tk : List Int} {k i j n : Nat} (h1 : (R.getD n (0, [])).1 = (k : Int)) (h2 : Cut (tabD R tk) tk (R.getD n (0, [])).2 i j) : ruleD R tk k i j n = seqD_ R tk (R.getD n (0, [])).2 i j := by unfold ruleD ruleC; rw [if_pos ⟨h1, h2⟩]; rfl
theorem getD_one {o : Option Int} : o.getD 0 = 1 ↔ o = some 1 := by cases o <;> simp
set_option maxHeartbeats 2000000 in
set_option maxRecDepth 100000 in
theorem cwhole_of {w1 : World} {R : List (Int × List Int)} {tk : List Int} {t N b : Nat} {AR : Option Addr} {cR : Nat} (hx : CtxC w1 R tk t N b AR cR) (kb bd bo bk d : Nat) (hRe : ∀ d', d = d' + 1 → PRe w1 R tk N b kb bd bo bk d') : PWh w1 R tk N b kb bd bo bk d := by
  intro k i j FD FO FK w hk hij hj hS hD hK hP hF
  have HX := Lib.hid hx
  have hR := hx.hR
  have hN := hx.hN
  have htk := hx.hn
  have hrl := hx.rule.2.1
  have hcap := hx.cap
  have c0 := hS.c0
  have c3 := (hS.bel.cell (p := ⟨b, 3, none⟩) (World.block_lt_of_cell? _ _ hx.cell)).trans hx.cell
  obtain ⟨w2, hw2⟩ : ∃ w2, w.alloc (.cells #[.int .i64 k, .int .i64 (-1), .int .i64 i, .int .i64 j] 111) = w2 := ⟨_, rfl⟩
  have hb2 : Below w.heap.size w w2 := by rw [← hw2]; exact below_alloc (Below.refl _ _) _
  have n0 : w2.heap[w.heap.size]? = some (.cells #[.int .i64 k, .int .i64 (-1), .int .i64 i, .int .i64 j] 111 (0, 0)) := by rw [← hw2]; exact heap_alloc_new w _
  have hKI : KeyIn (nodeK k (-1) i j) := keyIn_n (by omega) (by omega) (by omega)
  have HS2 := Aside0.mk (hS.below hb2)
  have HF2 := Aside0.mk ((Frm.refl (bd := bd) (bo := bo) (bk := bk) w).below hb2)
  have HNe : Hid (w.heap.size ≠ bd ∧ w.heap.size ≠ bo ∧ w.heap.size ≠ bk) := Lib.hid ⟨by have := hS.pd.lt; omega, by have := hS.po.lt; omega, by have := hS.pk.lt; omega⟩
  have HKI := Lib.hid hKI
  have HK := Lib.hid hK
  have HD := Lib.hid hD
  have HP := Lib.hid hP
  have HFc := Lib.hid hF
  have HRe := Lib.hid hRe
  have h1 := HS2.out.c1
  have h2 := HS2.out.c2
  obtain ⟨m0, m1, m2, m3⟩ := blk_cells2 n0
  have HSd := Aside0.mk (HS2.out.below (below_drew1 (Below.refl _ _)))
  have HSe := Aside0.mk (HSd.out.below (below_drew1 (Below.refl _ _)))
  have HL := HSd.out.lookD HKI.out
  have HN0 := Lib.hid n0
  clear hS hD hK hb2 hKI n0 hP hF hRe hx
  cases hF : FD (nodeK k (-1) i j) with
  | some x =>
    obtain ⟨m, hm, hxm⟩ := HD.out.1 k i j x hF
    rw [hF, Option.getD_some, Option.isSome_some] at HL
    subst hxm
    have HMm := Lib.hid hm
    clear hF hm
    go_enter Tryd.func40, Tryd.ntmps40
    go_wp2
    go_region
    go_wp2
    go_ret
    exact .inl ⟨m, HMm.out, rfl, _, _, _, HSd.out, HD.out, HK.out, (fun _ => Iff.rfl), HF2.out.below (below_drew1 (Below.refl _ _))⟩
  | none =>
    rw [hF, Option.getD_none, Option.isSome_none] at HL
    clear hF
    have HLO := HSe.out.lookO HKI.out
    by_cases hop : FO (nodeK k (-1) i j) = some 1
    · rw [hop, Option.getD_some] at HLO
      have HZ : Hid (treeD R tk k i j = none) := Lib.hid (HP.out k i j hop).loop
      clear hop
      go_enter Tryd.func40, Tryd.ntmps40
      go_wp2
      go_region
      go_wp2
      go_region
      go_wp2
      exact ⟨rfl, .inr ⟨HZ.out, rfl, HSe.out.bel⟩⟩
    · obtain ⟨z, hz⟩ : ∃ z, (FO (nodeK k (-1) i j)).getD 0 = z := ⟨_, rfl⟩
      have hz1 : (z == 1) = false := by rw [beq_eq_false_iff_ne, ← hz]; exact fun h => hop (getD_one.1 h)
      rw [hz] at HLO
      have HOp := Lib.hid hop
      have hpos := freeC_pos (N := N) (n := tk.length) hk (by omega) hj hop
      have hset := freeC_set (N := N) (n := tk.length) hk (by omega) hj hop
      obtain ⟨d', hd'⟩ : ∃ d', d = d' + 1 := ⟨d - 1, by have := HFc.out; omega⟩
      have HRd := Lib.hid (HRe.out d' hd')
      have HFd : Hid (freeC N tk.length (updF FO (nodeK k (-1) i j) 1) ≤ d') := Lib.hid (by have := HFc.out; omega)
      clear hz hop hpos hset hd'
      obtain ⟨w3, hrun3, hS3, hg3⟩ := (HSe.out.below (below_drew1 (Below.refl _ _))).putO HKI.out (x := 1) (wf_i64 (by omega) (by omega))
      have HF3 := Aside0.mk ((((HF2.out.below (below_drew1 (Below.refl _ _))).below (below_drew1 (Below.refl _ _))).below (below_drew1 (Below.refl _ _))).grown hg3 (.inr (.inl rfl)))
      have HW3 : Aside0 (WSt w1 w3 R tk b kb bd bo bk (updF FO (nodeK k (-1) i j) 1) w3) := ⟨_, _, _, hS3, HD.out, HK.out, (fun _ => Iff.rfl), Frm.refl _⟩
      have HN3 : Hid (w3.heap[w.heap.size]? = some (.cells #[.int .i64 k, .int .i64 (-1), .int .i64 i, .int .i64 j] 111 (0, 0))) := Lib.hid ((hg3.block w.heap.size (Array.getElem?_eq_some_iff.1 HN0.out).1 (fun e => HNe.out.2.1 (by injection e))).trans HN0.out)
      have q0 := hS3.c0
      have q3 := (hS3.bel.cell (p := ⟨b, 3, none⟩) (World.block_lt_of_cell? _ _ HX.out.cell)).trans HX.out.cell
      clear hS3 hg3
      go_enter Tryd.func40, Tryd.ntmps40
      go_wp2
      go_region
      go_wp2
      go_region
      go_wp2
      go_region
      go_wp2
      clear HL HLO hrun3 h1 h2 m0 m1 m2 m3 c0 c3 q0 q3
      go_loopw [12, 13, 14, 53] (fun s _ _ x wr => ∃ (q cn : Nat), q ≤ R.length ∧ x = .int .i64 q ∧ s = .int .u64 ((sat cn : Nat) : Int) ∧ Aside0 (WSt w1 w3 R tk b kb bd bo bk (updF FO (nodeK k (-1) i j) 1) wr) ∧ Aside0 (sumO (ruleD R tk k i j) q = some cn)) (fun _ _ _ x _ => R.length - (intOf x).toNat)
      case atStart => exact ⟨0, 0, by omega, rfl, rfl, HW3, ⟨rfl⟩⟩
      case round =>
        obtain ⟨q, cn, hq, rfl, rfl, HM, HSm⟩ := hrel
        obtain ⟨wo, rfl⟩ : ∃ wo : World, wo = wr := ⟨_, rfl⟩
        by_cases hlt : q < R.length
        · obtain ⟨ad, B, c, rfl, k1, k2, hrc, hrr⟩ := at_ruleN HX.out.rule q hlt
          obtain ⟨x', hx'⟩ : ∃ x', (R.getD q (0, [])).1 = x' := ⟨_, rfl⟩
          obtain ⟨r, hr⟩ : ∃ r, (R.getD q (0, [])).2 = r := ⟨_, rfl⟩
          have hr32 : r.length ≤ 32 := by rw [← hr]; exact ruleN_len (HX.out.right _ (getD_mem R q (0, []) hlt))
          have HBo := Lib.hid HM.out.bel
          replace k1 := (HBo.out.cell (World.block_lt_of_cell? _ _ k1)).trans k1
          replace k2 := (HBo.out.cell (World.block_lt_of_cell? _ _ k2)).trans k2
          rw [hx'] at k1
          rw [hr] at k2 hrc
          obtain ⟨wA, hwA⟩ : ∃ wA, wo.alloc (.cells #[.int .i64 x', .slice B r.length c] 51) = wA := ⟨_, rfl⟩
          have hbA : Below wo.heap.size wo wA := by rw [← hwA]; exact below_alloc (Below.refl _ _) _
          have r0 : wA.cell? ⟨wo.heap.size, 0, none⟩ = some (.int .i64 x') := by rw [← hwA]; simp [go_sem]
          have HMA := Aside0.mk (HM.out.below hbA)
          have HXn := Lib.hid hx'
          have HRn := Lib.hid hr
          have HPl := Lib.hid (fun (x z : Nat) (W : World) => plus_calls (sat x) (sat z) (sat_le x) (sat_le z) W)
          clear hx' hr hrr hbA
          by_cases hxk : x' = (k : Int)
          · have hxb : (x' == (k : Int)) = true := by rw [beq_iff_eq]; exact hxk
            have HXk := Lib.hid hxk
            clear hxk
            have HMy := Lib.hid (fun (W : World) (FD FO F : Value → Option Int) (hW : CSt w1 b kb bd bo bk FD FO F W) (hK : KnownAll R tk F) => cmay_calls HX.out kb bd bo bk FD FO q hlt r.length 0 (by rw [HRn.out]; omega) i j F W hij hj hW (hK.from_ q 0))
            unfold MayRes at HMy
            rw [HRn.out, List.drop_zero, show ((0 : Nat) : Int) = 0 from rfl] at HMy
            cases hcut : tb (Cut (tabD R tk) tk r i j)
            · rw [hcut] at HMy
              have HZ : Hid (ruleD R tk k i j q = some 0) := Lib.hid (ruleD_no (fun h => by
                have := h.2
                rw [HRn.out] at this
                have := tb_yes this
                rw [hcut] at this; cases this))
              clear hcut
              go_wp2_with (go_at_call 51; obtain ⟨FD5, FO5, FK5, f1, f2, f3, f4, f5⟩ := HMA.out; (with_reducible refine (HMy.out _ FD5 FO5 FK5 f1 f3).mono ?_); rintro e w4 ⟨rfl, F6, g1, g2, g3, g4⟩; have H4 := Aside0.mk (WSt.mayNext g1 f2 f3 f4 f5 g2 g3 g4); clear f1 f2 f3 f4 f5 g1 g2 g3 g4)
              go_roundw
              case rel => exact ⟨q + 1, cn, by omega, by go_num, rfl, H4, ⟨by have := sumO_next HSm.out HZ.out; rwa [Nat.add_zero] at this⟩⟩
              case measure => simp [intOf]; omega
            · rw [hcut] at HMy
              have HCut := Lib.hid (tb_iff.1 hcut)
              clear hcut
              have HRe := Lib.hid (fun (W : World) (FD FO' FK : Value → Option Int) (h1 : CSt w1 b kb bd bo bk FD FO' FK W) (h2 : DoneOk R tk FD) (h3 : KnownAll R tk FK) (h4 : ∀ u, FO' u = some 1 ↔ updF FO (nodeK k (-1) i j) 1 u = some 1) => HRd.out q 0 i j FD FO' FK W hlt (by omega) hij hj h1 h2 h3 (by
                rw [List.drop_zero]
                intro k' i' j' hk'
                have hk2 := (h4 _).1 hk'
                have hl : (R.getD q (0, [])).1 = (k : Int) := by rw [HXn.out, HXk.out]
                by_cases e : nodeK k' (-1) i' j' = nodeK k (-1) i j
                · obtain ⟨e1, e2, e3, e4⟩ := nodeK_inj e
                  obtain rfl : k' = k := by omega
                  obtain rfl : i' = i := by omega
                  obtain rfl : j' = j := by omega
                  exact DepS.self hlt hl (by rw [HRn.out]; exact HCut.out)
                · rw [updF_other e] at hk2
                  exact (HP.out k' i' j' hk2).rule hlt hl (by rw [HRn.out]; exact HCut.out)) (by rw [freeC_congr h4]; exact HFd.out))
              rw [HRn.out, List.drop_zero, show ((0 : Nat) : Int) = 0 from rfl] at HRe
              have HRy : Hid (ruleD R tk k i j q = seqD_ R tk r i j) := Lib.hid (by rw [ruleD_yes (by rw [HXn.out, HXk.out]) (by rw [HRn.out]; exact HCut.out), HRn.out])
              cases hs1 : seqD_ R tk r i j with
              | none =>
                rw [hs1] at HRe
                have HZ : Hid (treeD R tk k i j = none) := Lib.hid (by rw [treeD_eq]; exact sumO_stop hlt (by rw [HRy.out, hs1]))
                clear hs1
                go_wp2_with (first
                  | (go_at_call 51; obtain ⟨FD5, FO5, FK5, f1, f2, f3, f4, f5⟩ := HMA.out; (with_reducible refine (HMy.out _ FD5 FO5 FK5 f1 f3).mono ?_); rintro e w4 ⟨rfl, F6, g1, g2, g3, g4⟩; have H4 := Aside0.mk (WSt.mayNext g1 f2 f3 f4 f5 g2 g3 g4); clear f1 f2 f3 f4 f5 g1 g2 g3 g4)
                  | (go_at_call 53; obtain ⟨FD5, FO5, FK5, f1, f2, f3, f4, f5⟩ := H4.out; (with_reducible refine (HRe.out _ FD5 FO5 FK5 f1 f2 f3 f4).mono ?_); rintro e w5 h5; obtain ⟨rfl, hb5⟩ := h5.no; have HB5 := Lib.hid hb5; clear hb5 h5 f1 f2 f3 f4 f5))
                exact ⟨rfl, .inr ⟨HZ.out, rfl, HB5.out⟩⟩
              | some m =>
                rw [hs1] at HRe
                have HZ : Hid (ruleD R tk k i j q = some m) := Lib.hid (by rw [HRy.out, hs1])
                clear hs1
                go_wp2_with (first
                  | (go_at_call 51; obtain ⟨FD5, FO5, FK5, f1, f2, f3, f4, f5⟩ := HMA.out; (with_reducible refine (HMy.out _ FD5 FO5 FK5 f1 f3).mono ?_); rintro e w4 ⟨rfl, F6, g1, g2, g3, g4⟩; have H4 := Aside0.mk (WSt.mayNext g1 f2 f3 f4 f5 g2 g3 g4); clear f1 f2 f3 f4 f5 g1 g2 g3 g4)
                  | (go_at_call 53; obtain ⟨FD5, FO5, FK5, f1, f2, f3, f4, f5⟩ := H4.out; (with_reducible refine (HRe.out _ FD5 FO5 FK5 f1 f2 f3 f4).mono ?_); rintro e w5 h5; obtain ⟨rfl, hm5⟩ := h5.yes; have H5 := Aside0.mk (hm5.trans f4 f5); clear h5 hm5 f1 f2 f3 f4 f5)
                  | (go_at_call 52; refine (HPl.out _ _ _).mono ?_; rintro e w' ⟨rfl, rfl⟩))
                go_roundw
                case rel => exact ⟨q + 1, cn + m, by omega, by go_num, by rw [sat_add], H5, ⟨sumO_next HSm.out HZ.out⟩⟩
                case measure => simp [intOf]; omega
          · have hxb : (x' == (k : Int)) = false := by rw [beq_eq_false_iff_ne]; exact hxk
            have HZ : Hid (ruleD R tk k i j q = some 0) := Lib.hid (ruleD_no (fun h => hxk (by rw [← HXn.out]; exact h.1)))
            clear hxk
            go_wp2
            go_roundw
            case rel => exact ⟨q + 1, cn, by omega, by go_num, rfl, HMA, ⟨by have := sumO_next HSm.out HZ.out; rwa [Nat.add_zero] at this⟩⟩
            case measure => simp [intOf]; omega
        · obtain rfl : q = R.length := by omega
          have HTo : Hid (treeD R tk k i j = some cn) := Lib.hid (by rw [treeD_eq]; exact HSm.out)
          have HN4 := Lib.hid (HM.out.node HN3.out HNe.out)
          obtain ⟨p0, p1, p2, p4⟩ := blk_cells2 HN4.out
          obtain ⟨FD6, FO6, FK6, g1, g2, g3, g4, g5⟩ := HM.out
          have p3 := g1.c2
          obtain ⟨w5, hrun5, hS5, hg5⟩ := (g1.below (below_drew1 (Below.refl _ _))).putO HKI.out (x := 0) (wf_i64 (by omega) (by omega))
          have n5 : w5.heap[w.heap.size]? = some (.cells #[.int .i64 k, .int .i64 (-1), .int .i64 i, .int .i64 j] 111 (0, 0)) := (hg5.block w.heap.size (Array.getElem?_eq_some_iff.1 HN4.out).1 (fun e => HNe.out.2.1 (by injection e))).trans HN4.out
          obtain ⟨s0, s1, s2, s4⟩ := blk_cells2 n5
          have s3 := hS5.c1
          obtain ⟨w6, hrun6, hS6, hg6⟩ := (hS5.below (below_drew1 (Below.refl _ _))).putD HKI.out (x := ((sat cn : Nat) : Int)) (wf_u64 (by omega) (by have := sat_le cn; omega))
          have HD6 : Hid (DoneOk R tk (updF FD6 (nodeK k (-1) i j) ((sat cn : Nat) : Int))) := Lib.hid (g2.put_whole HTo.out)
          have HO6 : Hid (∀ u, updF FO6 (nodeK k (-1) i j) 0 u = some 1 ↔ FO u = some 1) := Lib.hid (fun u => by
            by_cases e : u = nodeK k (-1) i j
            · subst e
              rw [updF_same]
              exact ⟨(fun h => by cases h), (fun h => absurd h HOp.out)⟩
            · rw [updF_other e, g4 u, updF_other e])
          have H6 : Aside0 (WSt w1 w R tk b kb bd bo bk FO w6) := ⟨_, _, _, hS6, HD6.out, g3, HO6.out, ((((HF3.out.trans g5).below (below_drew1 (Below.refl _ _))).grown hg5 (.inr (.inl rfl))).below (below_drew1 (Below.refl _ _))).grown hg6 (.inl rfl)⟩
          clear g1 g2 g3 g4 g5 hS5 hg5 hS6 hg6 n5
          go_wp2
          go_region
          go_wp2
          go_region
          go_wp2
          go_ret
          exact .inl ⟨cn, HTo.out, rfl, H6.out⟩
theorem counted {w1 : World} {R : List (Int × List Int)} {tk : List Int} {t N b : Nat} {AR : Option Addr} {cR : Nat} (hx : CtxC w1 R tk t N b AR cR) (kb bd bo bk : Nat) : ∀ d, PWh w1 R tk N b kb bd bo bk d
  | 0 => cwhole_of hx kb bd bo bk 0 (fun d' h => by omega)
  | d + 1 => cwhole_of hx kb bd bo bk (d + 1) (fun d' h => by
      obtain rfl : d' = d := by omega
      exact crest_of hx kb bd bo bk d' (counted hx kb bd bo bk d'))
end Go.Proofs.YtndimnomkcjeiaaDoor.Hand
/- Contracts of member.Count and of its deferred closure. -/
namespace Go.Proofs.YtndimnomkcjeiaaDoor.Hand
open Go.RowKit Go.Proofs.YtndimnomkcjeiaaDoorW.PrintWords Go.Proofs.YtndimnomkcjeiaaDoorW.PrintMore Go.Proofs.YtndimnomkcjeiaaDoor.Math
open Go.Maps (Keyed)

theorem catch_idle (p q : Addr) (w : World) :
    CallsD Tryd.prog 39 #[.pointer (some p), .pointer (some q)] .returning w fun e u' w' => e = .returned (.tuple #[]) ∧ u' = .returning ∧ w' = w := by
  refine callsD_of_wpS Tryd.func39 rfl fun c₀ cs hu => ?_
  apply wpS_seq
  apply wpS_region
  simp [wpOpsS, go_sem, recoverD, hu, Tryd.ntmps39, Exit.thenS]
  refine wpS_of_wp ?_
  change Code.wp _ _ _ ⟨#[.pointer (some p), .pointer (some q), .nilIface, undef, undef, .nilIface, undef, undef, undef, undef, undef, undef, undef, undef, undef, undef], []⟩ _
  go_wp2
  cases c₀
  simp_all [bodyPostS, results, Tryd.results39]
set_option maxRecDepth 20000 in
theorem catch_panicking (p q : Addr) (x y : Value) (older : List PanicEntry) (w : World) (hp : w.cell? p = some x) (hpz : w.frozen? p = false) (hq : w.cell? q = some y) (hqz : w.frozen? q = false) (hne : p.block ≠ q.block) :
    CallsD Tryd.prog 39 #[.pointer (some p), .pointer (some q)] (.panicking ({ v := .iface 84 (.agg #[]), recovered := false } :: older)) w fun e u' w' =>
      e = .returned (.tuple #[]) ∧ u' = .panicking ({ v := .iface 84 (.agg #[]), recovered := true } :: older) ∧ w' = ((w.alloc (.cells #[] 84)).setCell p (.int .u64 0)).setCell q (.bool true) := by
  obtain ⟨wA, hwA⟩ : ∃ wA, w.alloc (.cells #[] 84) = wA := ⟨_, rfl⟩
  rw [hwA]
  have hbA : Below w.heap.size w wA := by rw [← hwA]; exact below_alloc (Below.refl _ _) _
  have a1 := (hbA.cell (World.block_lt_of_cell? w _ hp)).trans hp
  have a2 := (hbA.cell (World.block_lt_of_cell? w _ hq)).trans hq
  have a3 := (hbA.frozen (p := p) (World.block_lt_of_cell? w _ hp)).trans hpz
  have a4 := (hbA.frozen (p := q) (World.block_lt_of_cell? w _ hq)).trans hqz
  have a5 : (wA.setCell p (.int .u64 0)).cell? q = some y := (World.cell?_setCell_other wA p q _ (fun e => hne (by rw [e]))).trans a2
  have a6 : (wA.setCell p (.int .u64 0)).frozen? q = false := by rw [World.frozen?_setCell]; exact a4
  clear hbA hp hpz hq hqz
  have hTA : ∀ w, (Instr.typeAssert (.iface 84 (.agg #[])) 20 84 true).run Tryd.prog w = .ok (.tuple #[.agg #[], .bool true]) w := fun w => by kernel_rfl
  refine callsD_of_wpS Tryd.func39 rfl fun c₀ cs hu => ?_
  apply wpS_seq
  apply wpS_region
  simp [wpOpsS, go_sem, recoverD, hu, Tryd.ntmps39, Exit.thenS]
  refine wpS_of_wp ?_
  change Code.wp _ _ _ ⟨#[.pointer (some p), .pointer (some q), .iface 84 (.agg #[]), undef, undef, .iface 84 (.agg #[]), undef, undef, undef, undef, undef, undef, undef, undef, undef, undef], []⟩ _
  go_wp2
  cases c₀
  simp_all [bodyPostS, results, Tryd.results39]
/-- What Count answers. -/
noncomputable def cntT (g : Gr) (tk : List Int) : Option Nat := treeD g.rules tk g.ax.toNat 0 tk.length
noncomputable def cntV (g : Gr) (tk : List Int) : Nat := if (mayN g tk).1 = 0 then (match cntT g tk with | some m => sat m | none => 0) else 0
noncomputable def cntX (g : Gr) (tk : List Int) : Bool := if (mayN g tk).1 = 0 then (cntT g tk).isNone else false
def CntRes (w0 : World) (A : Nat → Addr) (g : Gr) (tk : List Int) (e : Ending) (w' : World) : Prop := ∃ u r, e = .returned (.tuple #[.int .u64 ((cntV g tk : Nat) : Int), .bool (cntX g tk), u]) ∧ ErrV w' A u (mayN g tk).1 r ∧ Below w0.heap.size w0 w'
theorem cst_made (w4 : World) (b : Nat) (_hb : b < w4.heap.size) : CSt w4 b (w4.heap.size + 1 + 1 + 1) w4.heap.size (w4.heap.size + 1) (w4.heap.size + 1 + 1) (fun _ => none) (fun _ => none) (fun _ => none)
    ((((w4.alloc (.map #[] 0)).alloc (.map #[] 0)).alloc (.map #[] 0)).alloc (.cells #[.pointer (some ⟨b, 0, none⟩), .map (some w4.heap.size), .map (some (w4.heap.size + 1)), .map (some (w4.heap.size + 1 + 1))] 90)) := by
  have m1 := MapN.made w4 111 52 .u64 KeyIn
  have m2 := MapN.made (w4.alloc (.map #[] 0)) 111 3 .i64 KeyIn
  have m3 := MapN.made ((w4.alloc (.map #[] 0)).alloc (.map #[] 0)) 111 3 .i64 KeyIn
  have s1 : (w4.alloc (.map #[] 0)).heap.size = w4.heap.size + 1 := World.size_alloc _ _
  have b1 := below_alloc (Below.refl w4.heap.size w4) (.map #[] 0)
  generalize w4.alloc (.map #[] 0) = W1 at *
  have s2 : (W1.alloc (.map #[] 0)).heap.size = W1.heap.size + 1 := World.size_alloc _ _
  have b2 := below_alloc (Below.refl W1.heap.size W1) (.map #[] 0)
  generalize W1.alloc (.map #[] 0) = W2 at *
  have s3 : (W2.alloc (.map #[] 0)).heap.size = W2.heap.size + 1 := World.size_alloc _ _
  have b3 := below_alloc (Below.refl W2.heap.size W2) (.map #[] 0)
  generalize W2.alloc (.map #[] 0) = W3 at *
  have e3 : W3.heap.size = w4.heap.size + 1 + 1 + 1 := by omega
  have e2 : W2.heap.size = w4.heap.size + 1 + 1 := by omega
  have hc : ∀ i, (W3.alloc (.cells #[.pointer (some ⟨b, 0, none⟩), .map (some w4.heap.size), .map (some (w4.heap.size + 1)), .map (some (w4.heap.size + 1 + 1))] 90)).cell? ⟨w4.heap.size + 1 + 1 + 1, i, none⟩ = (#[.pointer (some ⟨b, 0, none⟩), .map (some w4.heap.size), .map (some (w4.heap.size + 1)), .map (some (w4.heap.size + 1 + 1))] : Array Value)[i]? := fun i => by rw [← e3]; exact World.cell?_alloc_new _ _ _ _
  have b4 := below_alloc (Below.refl W3.heap.size W3) (.cells #[.pointer (some ⟨b, 0, none⟩), .map (some w4.heap.size), .map (some (w4.heap.size + 1)), .map (some (w4.heap.size + 1 + 1))] 90)
  generalize W3.alloc (.cells #[.pointer (some ⟨b, 0, none⟩), .map (some w4.heap.size), .map (some (w4.heap.size + 1)), .map (some (w4.heap.size + 1 + 1))] 90) = W4 at *
  rw [s1] at m2
  rw [e2] at m3
  exact ⟨below_next (below_next (below_next b1 b2) b3) b4, hc 0, hc 1, hc 2, hc 3, (((m1.below b2).below b3).below b4).le (Nat.zero_le _), ((m2.below b3).below b4).le (Nat.zero_le _), (m3.below b4).le (Nat.zero_le _), by omega, by omega⟩
theorem ChartIs.chart_bel {w0 w : World} {R : List (Int × List Int)} {tk : List Int} {N b O : Nat} {Bs : Nat → Nat} {P : Nat → Nat → Prop} (h : ChartIs w0 R tk N b O Bs P w) : Below w0.heap.size w0 w := by
  obtain ⟨Tn, h1, _⟩ := h
  exact h1.bel
theorem nv_facts {a b : Nat} {w3 w4 : World} {x y : Value} (h : w3.cell? ⟨b, 0, none⟩ = some y ∧ w3.frozen? ⟨b, 0, none⟩ = false ∧ w3.cell? ⟨a, 0, none⟩ = some x ∧ w3.frozen? ⟨a, 0, none⟩ = false) (hb : Below w3.heap.size w3 w4) (hne : a ≠ b) (v : Value) :
    w4.cell? ⟨b, 0, none⟩ = some y ∧ w4.frozen? ⟨b, 0, none⟩ = false ∧ w4.cell? ⟨a, 0, none⟩ = some x ∧ w4.frozen? ⟨a, 0, none⟩ = false ∧ (w4.setCell ⟨a, 0, none⟩ v).cell? ⟨b, 0, none⟩ = some y ∧ (w4.setCell ⟨a, 0, none⟩ v).frozen? ⟨b, 0, none⟩ = false := by
  obtain ⟨h1, h2, h3, h4⟩ := h
  have l1 := World.block_lt_of_cell? _ _ h1
  have l3 := World.block_lt_of_cell? _ _ h3
  have k1 := (hb.cell l1).trans h1
  have k2 := (hb.frozen (p := ⟨b, 0, none⟩) l1).trans h2
  refine ⟨k1, k2, (hb.cell l3).trans h3, (hb.frozen (p := ⟨a, 0, none⟩) l3).trans h4, (World.cell?_setCell_other w4 _ _ _ (fun e => hne (by injection e))).trans k1, by rw [World.frozen?_setCell]; exact k2⟩
theorem one_cell {w : World} {g : Nat} {x : Value} {T : TypeId} {c : Nat × Nat} (h : w.heap[g]? = some (.cells #[x] T c)) (o : Nat) : w.cell? ⟨g, o + 1, none⟩ = none := by
  simp [World.cell?, h]
theorem ErrV.put {w : World} {A : Nat → Addr} {v : Value} {k : Nat} {r : Int} (h : ErrV w A v k r) {g : Nat} (hg : ∀ o, w.cell? ⟨g, o + 1, Option.none⟩ = Option.none) (u : Value) : ErrV (w.setCell ⟨g, 0, Option.none⟩ u) A v k r := by
  have hc : ∀ p o x, w.cell? ⟨p, o + 1, Option.none⟩ = some x → p ≠ g := fun p o x h e => by rw [e, hg] at h; cases h
  cases h with
  | none => exact .none
  | sent i hi => exact .sent i hi
  | rule i hi pb po r h0 h1 => exact .rule i hi pb po r ((World.cell?_setCell_other w _ _ _ (fun e => hc _ _ _ h1 (by injection e with e; exact e.symm))).trans h0) ((World.cell?_setCell_other w _ _ _ (fun e => hc _ _ _ h1 (by injection e with e; exact e.symm))).trans h1)
set_option maxHeartbeats 2000000 in
set_option maxRecDepth 20000 in
theorem count_calls (v : Value) (g : Gr) (At : Option Addr) (ct : Nat) (tk : List Int) (w : World) (A : Nat → Addr) (hE : ErrsW w A) (hv : GramAt w v g) (hlc : tk.length ≤ ct) (hr : Kd.C (Kd.int .i64) w At tk.length tk) :
    Calls Tryd.prog 23 #[v, .slice At tk.length ct] w (CntRes w A g tk) := by
  have HV := Lib.hid hv
  obtain ⟨AT, cT, AN, cN, AR, cR, rfl, q1, q2, q3, q4, q5, q6⟩ := hv
  have hlen := hr.2.1
  obtain ⟨w1, hw1⟩ : ∃ w1, w.alloc (.cells #[.slice AT g.terms.length cT, .slice AN g.nonterms.length cN, .int .i64 g.ax, .slice AR g.rules.length cR] 25) = w1 := ⟨_, rfl⟩
  have hb1 : Below w.heap.size w w1 := by rw [← hw1]; exact below_alloc (Below.refl _ _) _
  have hk1 : w1.heap[w.heap.size]? = some (.cells #[.slice AT g.terms.length cT, .slice AN g.nonterms.length cN, .int .i64 g.ax, .slice AR g.rules.length cR] 25 (0, 0)) := by rw [← hw1]; exact heap_alloc_new w _
  have s1 : w1.heap.size = w.heap.size + 1 := by rw [← hw1]; exact World.size_alloc _ _
  obtain ⟨w2, hw2⟩ : ∃ w2, w1.alloc (.cells #[.int .u64 0] 52) = w2 := ⟨_, rfl⟩
  have hb2 : Below w1.heap.size w1 w2 := by rw [← hw2]; exact below_alloc (Below.refl _ _) _
  have s2 : w2.heap.size = w1.heap.size + 1 := by rw [← hw2]; exact World.size_alloc _ _
  have p1 : w2.cell? ⟨w1.heap.size, 0, none⟩ = some (.int .u64 0) := by rw [← hw2]; simp [go_sem]
  have p2 : w2.frozen? ⟨w1.heap.size, 0, none⟩ = false := by rw [← hw2]; simp [go_sem]
  obtain ⟨w3, hw3⟩ : ∃ w3, w2.alloc (.cells #[.bool false] 4) = w3 := ⟨_, rfl⟩
  have hb3 : Below w2.heap.size w2 w3 := by rw [← hw3]; exact below_alloc (Below.refl _ _) _
  have s3 : w3.heap.size = w2.heap.size + 1 := by rw [← hw3]; exact World.size_alloc _ _
  have r1 : w3.cell? ⟨w2.heap.size, 0, none⟩ = some (.bool false) := by rw [← hw3]; simp [go_sem]
  have r2 : w3.frozen? ⟨w2.heap.size, 0, none⟩ = false := by rw [← hw3]; simp [go_sem]
  have r3 := (hb3.cell (p := ⟨w1.heap.size, 0, none⟩) (by show w1.heap.size < _; omega)).trans p1
  have r4 := (hb3.frozen (p := ⟨w1.heap.size, 0, none⟩) (by show w1.heap.size < _; omega)).trans p2
  have HB1 := Lib.hid (below_next hb1 (below_next hb2 hb3))
  have HK1 := Lib.hid (gblk_keep' hk1 (below_next hb2 hb3))
  have HE := Lib.hid (hE.below HB1.out)
  have HG := Lib.hid (HV.out.below HB1.out)
  have HT := Lib.hid (Kd.C_below hr HB1.out)
  have hz3 : w1.heap.size = w.heap.size + 1 ∧ w2.heap.size = w.heap.size + 2 ∧ w3.heap.size = w.heap.size + 3 := by omega
  have HZ3 := Lib.hid hz3
  have HO1 := Lib.hid (gblk_keep' (show w2.heap[w1.heap.size]? = some (.cells #[.int .u64 0] 52 (0, 0)) by rw [← hw2]; exact heap_alloc_new w1 _) hb3)
  have HO2 : Hid (w3.heap[w2.heap.size]? = some (.cells #[.bool false] 4 (0, 0))) := Lib.hid (by rw [← hw3]; exact heap_alloc_new w2 _)
  have HR4 := Lib.hid (And.intro r1 (And.intro r2 (And.intro r3 r4)))
  obtain ⟨c0, c1, c2, c3⟩ := blk_cells2 HK1.out
  clear hb1 hk1 hE q4 q5 q6 hr hb2 hb3 p1 p2 s1 s2 s3 hz3 r1 r2 r3 r4
  have hmf : ∀ (fn : Fn) (first cap : Array Value) (w : World), (Instr.makeFunc fn first cap).run Tryd.prog w = .ok (.func fn first cap) w := fun _ _ _ _ => rfl
  by_cases hok : (mayN g tk).1 = 0
  · have HM := Lib.hid (charted_calls _ g At ct tk w3 A HE.out HG.out hlc HT.out hok)
    have HOK := Lib.hid hok
    have hok2 : (checkN g).1 = 0 ∧ tk.length ≤ 40 := by
      unfold mayN at hok
      split at hok
      · rename_i h; exact absurd hok h
      · rename_i h
        split at hok
        · cases hok
        · exact ⟨by omega, by omega⟩
    obtain ⟨hc0, hn⟩ := hok2
    obtain ⟨z1, z2, z3, z4, z5, z6, z7⟩ := checkN_zero hc0
    have hax : ((g.ax.toNat : Nat) : Int) = g.ax := Int.toNat_of_nonneg z5
    have HAx := Lib.hid hax
    have HCx := Lib.hid (fun (b O : Nat) (Bs : Nat → Nat) (w4 : World) (h : ChartIs w3 g.rules tk g.nonterms.length b O Bs (fun a c => a ≤ c ∧ c ≤ tk.length) w4) => h.ctx (t := g.terms.length) (by omega) z2 hn (by omega) z7)
    have hxn : g.ax.toNat < g.nonterms.length := by omega
    clear z3 z4 z7 hc0 hok hax
    go_enter_defers Tryd.func23, Tryd.ntmps23
    go_upto_region 5 with (go_at_call 32; refine HM.out.mono ?_; rintro e w4 ⟨b, O, Bs, rfl, hch⟩; obtain ⟨ARx, cRx, hctx⟩ := HCx.out b O Bs w4 hch; have HCtx := Lib.hid hctx; have HB4 := Lib.hid hch.chart_bel; obtain ⟨e1, e2, e3, e4, e5, e6⟩ := nv_facts HR4.out HB4.out (fun e => by have := HZ3.out; omega) (.int .u64 0); clear hch hctx)
    have hmk1 := fun W : World => run_makeMap (P := Tryd.prog) 87 W
    have hmk2 := fun W : World => run_makeMap (P := Tryd.prog) 88 W
    go_upto_region 6 with fail
    have hblt : b < w4.heap.size := World.block_lt_of_cell? _ _ HCtx.out.cell
    have hS5 := cst_made w4 b hblt
    obtain ⟨w5, hw5⟩ : ∃ w5, ((((w4.alloc (.map #[] 0)).alloc (.map #[] 0)).alloc (.map #[] 0)).alloc (.cells #[.pointer (some ⟨b, 0, none⟩), .map (some w4.heap.size), .map (some (w4.heap.size + 1)), .map (some (w4.heap.size + 1 + 1))] 90)) = w5 := ⟨_, rfl⟩
    rw [hw5] at hS5 ⊢
    obtain ⟨c0, c1, c2, c3⟩ := blk_cells2 (gblk_keep' HK1.out (below_next HB4.out hS5.bel))
    obtain ⟨kb, hkb⟩ : ∃ kb, w4.heap.size + 1 + 1 + 1 = kb := ⟨_, rfl⟩
    obtain ⟨bo, hbo⟩ : ∃ kb, w4.heap.size + 1 = kb := ⟨_, rfl⟩
    obtain ⟨bk, hbk⟩ : ∃ kb, w4.heap.size + 1 + 1 = kb := ⟨_, rfl⟩
    rw [hkb, hbk, hbo] at hS5
    rw [hkb]
    have HB5 := Aside0.mk (below_next HB4.out hS5.bel)
    have HWh := Lib.hid (counted HCtx.out kb w4.heap.size bo bk _ g.ax.toNat 0 tk.length _ _ _ w5 hxn (by omega) (Nat.le_refl _) hS5 ⟨(fun k i j c h => by cases h), (fun n a i j c h => by cases h)⟩ (fun n a i j c _ h => by cases h) (fun k i j h => by cases h) (Nat.le_refl _))
    rw [HAx.out, show ((0 : Nat) : Int) = 0 from rfl] at HWh
    clear hw5 hS5 hkb hbo hbk hblt hmk1 hmk2 e1 e2 e3 e4 e5 e6 hmf
    cases hT : cntT g tk with
    | none =>
      have HVx : Hid (cntV g tk = 0 ∧ cntX g tk = true) := Lib.hid ⟨by unfold cntV; rw [if_pos HOK.out, hT], by unfold cntX; rw [if_pos HOK.out, hT]; rfl⟩
      rw [show treeD g.rules tk g.ax.toNat 0 tk.length = none from hT] at HWh
      clear hT
      go_wp2_with (go_at_call 40; refine HWh.out.mono ?_; rintro e w6 h6; obtain ⟨rfl, hb6⟩ := h6.no; have HB6 := Lib.hid (below_next HB4.out hb6); obtain ⟨e1, e2, e3, e4, e5, e6⟩ := nv_facts HR4.out HB6.out (fun e => by have := HZ3.out; omega) (.int .u64 0); clear h6 hb6)
      refine leaves_cons (f := 39) (args := #[.pointer (some ⟨w1.heap.size, 0, none⟩), .pointer (some ⟨w2.heap.size, 0, none⟩)]) (by simp) (by simp [go_sem]) ?_
      refine (catch_panicking _ _ _ _ [] w6 e3 e4 e1 e2 (fun e => by have := HZ3.out; simp at e; omega)).mono ?_
      rintro e u' w'' ⟨rfl, rfl, rfl⟩
      have hbA : Below w6.heap.size w6 (w6.alloc (.cells #[] 84)) := below_alloc (Below.refl _ _) _
      have k3 := (hbA.cell (World.block_lt_of_cell? _ _ e3)).trans e3
      have k1 := (hbA.cell (World.block_lt_of_cell? _ _ e1)).trans e1
      have HB7 := Lib.hid (below_next HB6.out hbA)
      generalize w6.alloc (.cells #[] 84) = w7 at *
      obtain ⟨w8, hw8⟩ : ∃ w8, (w7.setCell ⟨w1.heap.size, 0, none⟩ (.int .u64 0)).setCell ⟨w2.heap.size, 0, none⟩ (.bool true) = w8 := ⟨_, rfl⟩
      have k5 : (w7.setCell ⟨w1.heap.size, 0, none⟩ (.int .u64 0)).cell? ⟨w2.heap.size, 0, none⟩ = some (.bool false) := (World.cell?_setCell_other _ _ _ _ (fun e => by injection e with e; have := HZ3.out; omega)).trans k1
      have f1 : w8.cell? ⟨w1.heap.size, 0, none⟩ = some (.int .u64 0) := by rw [← hw8]; exact (World.cell?_setCell_other _ _ _ _ (fun e => by injection e with e; have := HZ3.out; omega)).trans (World.cell?_setCell_same _ _ _ k3)
      have f2 : w8.cell? ⟨w2.heap.size, 0, none⟩ = some (.bool true) := by rw [← hw8]; exact World.cell?_setCell_same _ _ _ k5
      have HB8 := Lib.hid (show Below w.heap.size w w8 by rw [← hw8]; have := HZ3.out; exact ((below_next HB1.out HB7.out).setCell (by show w.heap.size ≤ w1.heap.size; omega) _).setCell (by show w.heap.size ≤ w2.heap.size; omega) _)
      rw [hw8]
      clear hw8 e1 e2 e3 e4 e5 e6 k1 k3 k5
      simp [Leaves, settle, results, Tryd.results23, go_sem, f1, f2]
      exact ⟨_, _, by rw [HVx.out.1, HVx.out.2] <;> rfl, by rw [HOK.out]; exact .none, HB8.out⟩
    | some m =>
      have HVx : Hid (cntV g tk = sat m ∧ cntX g tk = false) := Lib.hid ⟨by unfold cntV; rw [if_pos HOK.out, hT], by unfold cntX; rw [if_pos HOK.out, hT]; rfl⟩
      rw [show treeD g.rules tk g.ax.toNat 0 tk.length = some m from hT] at HWh
      clear hT
      go_wp2_with (go_at_call 40; refine HWh.out.mono ?_; rintro e w6 h6; obtain ⟨rfl, hm6⟩ := h6.yes; have HB6 := Lib.hid (below_next HB4.out hm6.bel); obtain ⟨e1, e2, e3, e4, e5, e6⟩ := nv_facts HR4.out HB6.out (fun e => by have := HZ3.out; omega) (.int .u64 ((sat m : Nat) : Int)); clear h6 hm6)
      obtain ⟨w8, hw8⟩ : ∃ w8, (w6.setCell ⟨w1.heap.size, 0, none⟩ (.int .u64 ((sat m : Nat) : Int))).setCell ⟨w2.heap.size, 0, none⟩ (.bool false) = w8 := ⟨_, rfl⟩
      have f1 : w8.cell? ⟨w1.heap.size, 0, none⟩ = some (.int .u64 ((sat m : Nat) : Int)) := by rw [← hw8]; exact (World.cell?_setCell_other _ _ _ _ (fun e => by injection e with e; have := HZ3.out; omega)).trans (World.cell?_setCell_same _ _ _ e3)
      have f2 : w8.cell? ⟨w2.heap.size, 0, none⟩ = some (.bool false) := by rw [← hw8]; exact World.cell?_setCell_same _ _ _ e5
      have HB8 := Lib.hid (show Below w.heap.size w w8 by rw [← hw8]; have := HZ3.out; exact ((below_next HB1.out HB6.out).setCell (by show w.heap.size ≤ w1.heap.size; omega) _).setCell (by show w.heap.size ≤ w2.heap.size; omega) _)
      rw [hw8]
      clear hw8 e1 e2 e3 e4 e5 e6
      refine leaves_cons (f := 39) (args := #[.pointer (some ⟨w1.heap.size, 0, none⟩), .pointer (some ⟨w2.heap.size, 0, none⟩)]) (by simp) (by simp [go_sem]) ?_
      refine (catch_idle _ _ w8).mono ?_
      rintro e u' w'' ⟨rfl, rfl, rfl⟩
      simp [Leaves, settle, results, Tryd.results23, go_sem, f1, f2]
      exact ⟨_, _, by rw [HVx.out.1, HVx.out.2] <;> rfl, by rw [HOK.out]; exact .none, HB8.out⟩
  · have HM := Lib.hid (charted_err _ g At ct tk w3 A HE.out HG.out hlc HT.out hok)
    have HOK := Lib.hid hok
    have HVx : Hid (cntV g tk = 0 ∧ cntX g tk = false) := Lib.hid ⟨by unfold cntV; rw [if_neg hok], by unfold cntX; rw [if_neg hok]⟩
    clear hok
    go_enter_defers Tryd.func23, Tryd.ntmps23
    go_wp2_with (go_at_call 32; refine HM.out.mono ?_; rintro e w4 ⟨u, rfl, hu, hb4⟩; have HU := Lib.hid hu; have HB4 := Lib.hid hb4; obtain ⟨e1, e2, e3, e4, e5, e6⟩ := nv_facts HR4.out hb4 (fun e => by have := HZ3.out; omega) (.int .u64 0); obtain ⟨T, p, hT, rfl⟩ := hu.iface_of HOK.out; clear hu hb4 hT)
    obtain ⟨w6, hw6⟩ : ∃ w6, (w4.setCell ⟨w1.heap.size, 0, none⟩ (.int .u64 0)).setCell ⟨w2.heap.size, 0, none⟩ (.bool false) = w6 := ⟨_, rfl⟩
    have f1 : w6.cell? ⟨w1.heap.size, 0, none⟩ = some (.int .u64 0) := by rw [← hw6]; exact (World.cell?_setCell_other _ _ _ _ (fun e => by injection e with e; have := HZ3.out; omega)).trans (World.cell?_setCell_same _ _ _ e3)
    have f2 : w6.cell? ⟨w2.heap.size, 0, none⟩ = some (.bool false) := by rw [← hw6]; exact World.cell?_setCell_same _ _ _ e5
    have HB6 := Lib.hid (show Below w.heap.size w w6 by rw [← hw6]; have := HZ3.out; exact ((below_next HB1.out HB4.out).setCell (by show w.heap.size ≤ w1.heap.size; omega) _).setCell (by show w.heap.size ≤ w2.heap.size; omega) _)
    have HU6 : Hid (ErrV w6 A (.iface T (.pointer p)) (mayN g tk).1 (mayN g tk).2) := Lib.hid (by
      rw [← hw6]
      have g1 := gblk_keep' HO1.out HB4.out
      have g2 := gblk_keep' HO2.out HB4.out
      refine (HU.out.put (one_cell g1) _).put (fun o => ?_) _
      rw [World.cell?_setCell_other w4 _ _ _ (fun e => by injection e with e; have := HZ3.out; omega)]
      exact one_cell g2 o)
    rw [hw6]
    clear hw6 e1 e2 e3 e4 e5 e6
    unfold bodyPostD Leaves
    simp [results, Tryd.results23, go_sem, f1, f2]
    exact ⟨_, _, by rw [HVx.out.1, HVx.out.2] <;> rfl, HU6.out, HB6.out⟩
end Go.Proofs.YtndimnomkcjeiaaDoor.Hand
/- The document's grammars of chapter 24: how many trees, by reckoning. -/
namespace Go.Proofs.YtndimnomkcjeiaaDoor.Hand
open Go.RowKit Go.Proofs.YtndimnomkcjeiaaDoorW.PrintWords Go.Proofs.YtndimnomkcjeiaaDoorW.PrintMore Go.Proofs.YtndimnomkcjeiaaDoor.Math

/-- The same reckoning, to be run. -/
def cutB (T : Nat → Nat → Nat → Bool) (tk : List Int) : List Int → Nat → Nat → Bool
  | [], i, j => i == j
  | s :: l, i, j => (List.range (j + 1)).any fun q => decide (i ≤ q) && (Hb T tk s i q && cutB T tk l q j)
theorem cutB_iff {T : Nat → Nat → Nat → Bool} {tk : List Int} : ∀ {l : List Int} {i j : Nat}, Cut T tk l i j ↔ cutB T tk l i j = true
  | [], i, j => by simp [Cut, cutB]
  | s :: l, i, j => by
    unfold cutB
    rw [List.any_eq_true]
    constructor
    · rintro ⟨q, h1, h2, h3, h4⟩
      exact ⟨q, List.mem_range.2 (by omega), by simp [h1, h3, cutB_iff.1 h4]⟩
    · rintro ⟨q, h1, h2⟩
      simp only [Bool.and_eq_true, decide_eq_true_eq] at h2
      exact ⟨q, h2.1, by have := List.mem_range.1 h1; omega, h2.2.1, cutB_iff.2 h2.2.2⟩
def seqB (T : Nat → Nat → Nat → Bool) (tk : List Int) (W : Nat → Nat → Nat → Option Nat) : List Int → Nat → Nat → Option Nat
  | [], i, j => some (if i = j then 1 else 0)
  | s :: l, i, j => sumO (fun q => if (decide (i ≤ q) && (Hb T tk s i q && cutB T tk l q j)) = true then mulO (seqB T tk W l q j) (if s < 0 then W (-1 - s).toNat i q else some 1) else some 0) (j + 1)
def nodeB (T : Nat → Nat → Nat → Bool) (tk : List Int) (R : List (Int × List Int)) : Nat → Nat → Nat → Nat → Option Nat
  | 0, _, _, _ => none
  | f + 1, k, i, j => sumO (fun n => if (decide ((R.getD n (0, [])).1 = (k : Int)) && cutB T tk (R.getD n (0, [])).2 i j) = true then seqB T tk (nodeB T tk R f) (R.getD n (0, [])).2 i j else some 0) R.length
theorem seqB_eq {T : Nat → Nat → Nat → Bool} {tk : List Int} {W : Nat → Nat → Nat → Option Nat} : ∀ {l : List Int} {i j : Nat}, seqC T tk W l i j = seqB T tk W l i j
  | [], i, j => by unfold seqC seqB; congr
  | s :: l, i, j => by
    unfold seqC seqB
    refine sumO_congr (fun q _ => ?_)
    have h : (i ≤ q ∧ Fits T tk s l i q j) ↔ (decide (i ≤ q) && (Hb T tk s i q && cutB T tk l q j)) = true := by
      unfold Fits
      rw [cutB_iff]
      simp
    by_cases hc : i ≤ q ∧ Fits T tk s l i q j
    · rw [if_pos hc, if_pos (h.1 hc), seqB_eq]
    · rw [if_neg hc, if_neg (fun h' => hc (h.2 h'))]
theorem nodeB_eq {T : Nat → Nat → Nat → Bool} {tk : List Int} {R : List (Int × List Int)} : ∀ {f k i j : Nat}, nodeC T tk R f k i j = nodeB T tk R f k i j
  | 0, _, _, _ => rfl
  | f + 1, k, i, j => by
    unfold nodeC nodeB
    refine sumO_congr (fun n _ => ?_)
    unfold ruleC
    have hW : nodeC T tk R f = nodeB T tk R f := by funext k i j; exact nodeB_eq
    have h : ((R.getD n (0, [])).1 = (k : Int) ∧ Cut T tk (R.getD n (0, [])).2 i j) ↔ (decide ((R.getD n (0, [])).1 = (k : Int)) && cutB T tk (R.getD n (0, [])).2 i j) = true := by
      rw [cutB_iff]; simp
    by_cases hc : (R.getD n (0, [])).1 = (k : Int) ∧ Cut T tk (R.getD n (0, [])).2 i j
    · rw [if_pos hc, if_pos (h.1 hc), hW, seqB_eq]
    · rw [if_neg hc, if_neg (fun h' => hc (h.2 h'))]
theorem treeD_run {R : List (Int × List Int)} {tk : List Int} {T : Nat → Nat → Nat → Bool} {f k i j c : Nat} (hT : tabD R tk = T) (h : nodeB T tk R f k i j = some c) : treeD R tk k i j = some c := by
  unfold treeD
  rw [hT]
  exact treeN_of (f := f) (by rw [nodeB_eq]; exact h)
def RA : List (Int × List Int) := [(0, [-1, -1]), (0, [0])]
def gA : Gr := { terms := [⟨#[97]⟩], nonterms := [⟨#[83]⟩], ax := 0, rules := RA }
def RB : List (Int × List Int) := [(0, [-2, -1]), (0, [1]), (1, [0]), (1, [-2]), (1, [])]
def gB : Gr := { terms := [⟨#[97]⟩, ⟨#[98]⟩], nonterms := [⟨#[83]⟩, ⟨#[65]⟩], ax := 0, rules := RB }
theorem names1 (a : ByteArray) (h1 : a.size = 1) : NamesOk [a] := by
  intro i hi
  obtain rfl : i = 0 := by simp at hi; omega
  exact ⟨by simp [h1], by simp [h1], by simp⟩
theorem names2 (a b : ByteArray) (h1 : a.size = 1) (h2 : b.size = 1) (h : a ≠ b) : NamesOk [a, b] := by
  intro i hi
  have : i = 0 ∨ i = 1 := by simp at hi; omega
  rcases this with rfl | rfl
  · exact ⟨by simp [h1], by simp [h1], by simp⟩
  · exact ⟨by simp [h2], by simp [h2], by simpa using fun e => h e.symm⟩
theorem bytes_ne {x y : UInt8} (h : x ≠ y) : (⟨#[x]⟩ : ByteArray) ≠ ⟨#[y]⟩ := by
  intro e
  injection e with e
  have := congrArg (fun a => a[0]?) e
  simp at this
  exact h this
theorem gA_check : checkN gA = (0, -1) := by
  unfold checkN
  have hn1 : NamesOk gA.terms := names1 _ rfl
  have hn2 : NamesOk gA.nonterms := names1 _ rfl
  rw [if_neg (by simp [gA, RA]), if_neg (by simp [hn1, hn2]), if_neg (by simp [gA])]
  decide
theorem gB_check : checkN gB = (0, -1) := by
  unfold checkN
  have hn1 : NamesOk gB.terms := names2 _ _ rfl rfl (bytes_ne (by decide))
  have hn2 : NamesOk gB.nonterms := names2 _ _ rfl rfl (bytes_ne (by decide))
  rw [if_neg (by simp [gB, RB]), if_neg (by simp [hn1, hn2]), if_neg (by simp [gB])]
  decide
def TA (n : Nat) : Nat → Nat → Nat → Bool := fun i j k => decide (i < j ∧ j ≤ n ∧ k = 0)
theorem RA_seq {tk : List Int} {l : List Int} {i j : Nat} (h : SeqD RA tk l i j) : (l ≠ [] → i < tk.length) ∧ i + l.length ≤ j ∧ (i ≤ tk.length → j ≤ tk.length) := by
  induction h with
  | nil i => exact ⟨fun h => absurd rfl h, by simp, fun h => h⟩
  | term h0 h1 h2 h3 ih => exact ⟨fun _ => h1, by simp only [List.length_cons]; omega, fun _ => ih.2.2 (by omega)⟩
  | non r h0 hr h2 h3 h4 ih1 ih2 =>
    have hne : r.2 ≠ [] ∧ 1 ≤ r.2.length := by
      rcases (show r = (0, [-1, -1]) ∨ r = (0, [0]) by simpa [RA] using hr) with rfl | rfl <;> simp
    exact ⟨fun _ => ih1.1 hne.1, by simp only [List.length_cons]; omega, fun h => ih2.2.2 (ih1.2.2 h)⟩
theorem RA_der (n : Nat) : ∀ (d i j : Nat), j - i = d → i < j → j ≤ n → Der RA (List.replicate n 0) 0 i j
  | 0, i, j, hd, h1, h2 => by omega
  | d + 1, i, j, hd, h1, h2 => by
    have hone : SeqD RA (List.replicate n 0) [0] i (i + 1) := .term (by decide) (by simp; omega) (by simp only [List.getD, List.getElem?_replicate]; split <;> rfl) (.nil _)
    by_cases e : j = i + 1
    · subst e
      exact ⟨(0, [0]), by simp [RA], rfl, hone⟩
    · obtain ⟨r, hr, hl, hs⟩ := RA_der n d (i + 1) j (by omega) (by omega) h2
      exact ⟨(0, [-1, -1]), by simp [RA], rfl, .non (0, [0]) (by decide) (by simp [RA]) rfl hone (.non r (by decide) hr (by rw [hl]; rfl) hs (.nil _))⟩
theorem RA_tab (n : Nat) : tabD RA (List.replicate n 0) = TA n := by
  funext i j k
  unfold tabD TA
  rw [Bool.eq_iff_iff, tb_iff, decide_eq_true_eq]
  constructor
  · rintro ⟨r, hr, hl, hs⟩
    have h := RA_seq hs
    have : r.1 = 0 ∧ r.2 ≠ [] ∧ 1 ≤ r.2.length := by
      rcases (show r = (0, [-1, -1]) ∨ r = (0, [0]) by simpa [RA] using hr) with rfl | rfl <;> simp
    have h1 := h.1 this.2.1
    have h2 := h.2.2 (by omega)
    rw [List.length_replicate] at h1 h2
    exact ⟨by omega, h2, by omega⟩
  · rintro ⟨h1, h2, rfl⟩
    exact RA_der n (j - i) i j rfl h1 h2
theorem gA_four : treeD RA [0, 0, 0, 0] 0 0 4 = some 5 := treeD_run (f := 6) (RA_tab 4) (by decide +kernel)
theorem gA_none : treeD RA [] 0 0 0 = some 0 := treeD_run (f := 2) (RA_tab 0) (by decide +kernel)
theorem gB_one : treeD RB [1] 0 0 1 = none := by
  have hA : tabD RB [1] 0 0 1 = true := tb_yes ⟨(1, []), by simp [RB], rfl, .nil _⟩
  have hS : tabD RB [1] 0 1 0 = true := tb_yes ⟨(0, [1]), by simp [RB], rfl, .term (by decide) (by decide) rfl (.nil _)⟩
  have hF : Fits (tabD RB [1]) [1] (-2) [-1] 0 0 1 := ⟨hA, 1, by decide, by decide, hS, rfl⟩
  have h1 := DepS.self (T := tabD RB [1]) (tk := [1]) (R := RB) (x := (0, 0, 1)) (n := 0) (by decide) rfl ⟨0, by decide, by decide, hF⟩
  have h2 := DepS.tail (show DepS (T := tabD RB [1]) (tk := [1]) (R := RB) (0, 0, 1) [-2, -1] 0 1 from h1) (q := 0) (by decide) (by decide) hF
  have h3 := DepS.head h2 (q := 1) (by decide) (by decide) ⟨hS, rfl⟩ (by decide)
  exact Dep.loop h3
theorem gB_der : Der RB [0, 0, 1] 0 0 3 := by
  have a1 : SeqD RB [0, 0, 1] [0] 0 1 := .term (by decide) (by decide) rfl (.nil _)
  have a2 : SeqD RB [0, 0, 1] [0] 1 2 := .term (by decide) (by decide) rfl (.nil _)
  have a3 : SeqD RB [0, 0, 1] [1] 2 3 := .term (by decide) (by decide) rfl (.nil _)
  refine ⟨(0, [-2, -1]), by simp [RB], rfl, .non (1, [0]) (by decide) (by simp [RB]) rfl a1 (.non (0, [-2, -1]) (by decide) (by simp [RB]) rfl (.non (1, [0]) (by decide) (by simp [RB]) rfl a2 (.non (0, [1]) (by decide) (by simp [RB]) rfl a3 (.nil _))) (.nil _))⟩
theorem gA_may4 : (mayN gA [0, 0, 0, 0]).1 = 0 := by
  unfold mayN
  rw [gA_check]
  decide
theorem gA_may0 : (mayN gA []).1 = 0 := by
  unfold mayN
  rw [gA_check]
  decide
theorem gB_may1 : (mayN gB [1]).1 = 0 := by
  unfold mayN
  rw [gB_check]
  decide
theorem gB_may3 : (mayN gB [0, 0, 1]).1 = 0 := by
  unfold mayN
  rw [gB_check]
  decide
theorem gA_cnt4 : cntV gA [0, 0, 0, 0] = 5 ∧ cntX gA [0, 0, 0, 0] = false := by
  unfold cntV cntX cntT
  rw [gA_may4]
  have h : treeD gA.rules [0, 0, 0, 0] gA.ax.toNat 0 [0, 0, 0, (0 : Int)].length = some 5 := gA_four
  rw [h]
  exact ⟨rfl, rfl⟩
theorem gA_cnt0 : cntV gA [] = 0 ∧ cntX gA [] = false := by
  unfold cntV cntX cntT
  rw [gA_may0]
  have h : treeD gA.rules [] gA.ax.toNat 0 ([] : List Int).length = some 0 := gA_none
  rw [h]
  exact ⟨rfl, rfl⟩
theorem gB_cnt1 : cntV gB [1] = 0 ∧ cntX gB [1] = true := by
  unfold cntV cntX cntT
  rw [gB_may1]
  have h : treeD gB.rules [1] gB.ax.toNat 0 [(1 : Int)].length = none := gB_one
  rw [h]
  exact ⟨rfl, rfl⟩
theorem gB_from3 : fromB gB [0, 0, 1] 0 = true ∧ fromK gB [0, 0, 1] 0 = 0 := by
  have h : fromK gB [0, 0, 1] 0 = 0 := by
    unfold fromK
    rw [gB_may3, if_neg (by simp), if_neg (by simp [gB])]
  exact ⟨tb_yes ⟨h, gB_der⟩, h⟩
end Go.Proofs.YtndimnomkcjeiaaDoor.Hand
/- Grammars that the text itself lays out: the world behind the literal, and what it reads as. -/
namespace Go.Proofs.YtndimnomkcjeiaaDoor.Hand
open Go.RowKit Go.Proofs.YtndimnomkcjeiaaDoorW.PrintWords Go.Proofs.YtndimnomkcjeiaaDoorW.PrintMore Go.Proofs.YtndimnomkcjeiaaDoor.Math

theorem litC {α : Type} {enc : α → Value} (h1 : ∀ x, (enc x).oneCell' = true) (xs : List α) (W : World) (T : TypeId) (hx : xs.length ≤ 9223372036854775807) : (Kd.scalar enc h1).C (W.alloc (.cells (xs.map enc).toArray T)) (some ⟨W.heap.size, 0, none⟩) xs.length xs := by
  refine ⟨rfl, hx, fun _ => ⟨⟨W.heap.size, 0, none⟩, rfl, fun j p hj => ⟨[enc p], rfl, rfl, fun i u hu => ?_⟩⟩⟩
  have h0 : i = 0 := by
    have := (List.getElem?_eq_some_iff.1 hu).1
    simp at this
    exact this
  subst h0
  simp at hu
  subst hu
  have e : ((⟨W.heap.size, 0, none⟩ : Addr).add j) = ⟨W.heap.size, j, none⟩ := by unfold Addr.add; by_cases h : j = 0 <;> simp [h]
  have hc := World.cell?_alloc_new W (xs.map enc).toArray T j
  show (W.alloc _).cell? ((⟨W.heap.size, 0, none⟩ : Addr).add (j * 1 + 0)) = _
  rw [Nat.mul_one, Nat.add_zero, e, hc]
  simp [hj]
theorem rulesC {w : World} {b : Nat} {l : List (Int × List Int)} (hm : l.length ≤ 1000) (h : ∀ j r, l[j]? = some r → w.cell? ⟨b, j * 2, none⟩ = some (.int .i64 r.1) ∧ ∃ A, w.cell? ⟨b, j * 2 + 1, none⟩ = some (.slice A r.2.length r.2.length) ∧ Kd.C (Kd.int .i64) w A r.2.length r.2) : KRule.C w (some ⟨b, 0, none⟩) l.length l := by
  refine ⟨rfl, by omega, fun _ => ⟨_, rfl, fun j r hj => ?_⟩⟩
  obtain ⟨h1, A, h2, h3⟩ := h j r hj
  refine ⟨[.int .i64 r.1, .slice A r.2.length r.2.length], rfl, ⟨[.int .i64 r.1], [.slice A r.2.length r.2.length], rfl, rfl, A, r.2.length, rfl, Nat.le_refl _, h3⟩, fun i u hu => ?_⟩
  have e : ∀ i, (Addr.add ⟨b, 0, none⟩ (j * KRule.sz + i)) = ⟨b, j * 2 + i, none⟩ := by
    intro i
    rw [show KRule.sz = 2 from rfl]
    unfold Addr.add
    split
    · rename_i h0; rw [h0]
    · simp
  rw [e]
  match i, hu with
  | 0, hu => simp at hu; subst hu; exact h1
  | 1, hu => simp at hu; subst hu; exact h2
  | i + 2, hu => simp at hu
/-- The right sides, one behind the other; the rules' own cells; how many right sides there are. -/
def litRs (w : World) : List (Int × List Int) → World
  | [] => w
  | (_, []) :: l => litRs w l
  | (_, y :: r) :: l => litRs (w.alloc (.cells ((y :: r).map (Value.int .i64)).toArray 3)) l
def litCells (n : Nat) : List (Int × List Int) → List Value
  | [] => []
  | (x, []) :: l => .int .i64 x :: .slice none 0 0 :: litCells n l
  | (x, y :: r) :: l => .int .i64 x :: .slice (some ⟨n, 0, none⟩) (y :: r).length (y :: r).length :: litCells (n + 1) l
def litN : List (Int × List Int) → Nat
  | [] => 0
  | (_, []) :: l => litN l
  | (_, _ :: _) :: l => litN l + 1
theorem litRs_below : ∀ (l : List (Int × List Int)) (w : World), Below w.heap.size w (litRs w l) ∧ (litRs w l).heap.size = w.heap.size + litN l
  | [], w => ⟨Below.refl _ _, rfl⟩
  | (_, []) :: l, w => litRs_below l w
  | (_, y :: r) :: l, w => by
    obtain ⟨h1, h2⟩ := litRs_below l (w.alloc (.cells ((y :: r).map (Value.int .i64)).toArray 3))
    refine ⟨below_next (below_alloc (Below.refl _ _) _) h1, h2.trans ?_⟩
    rw [World.size_alloc]
    show _ = w.heap.size + (litN l + 1)
    omega
theorem litRs_at : ∀ (l : List (Int × List Int)) (w : World) (j : Nat) (x : Int) (r : List Int), (∀ r ∈ l, r.2.length ≤ 1000) → l[j]? = some (x, r) →
    (litCells w.heap.size l)[j * 2]? = some (.int .i64 x) ∧ ∃ B, (litCells w.heap.size l)[j * 2 + 1]? = some (.slice B r.length r.length) ∧ Kd.C (Kd.int .i64) (litRs w l) B r.length r
  | [], w, j, x, r, _, h => by simp at h
  | (x', []) :: l, w, 0, x, r, _, h => by
    obtain ⟨rfl, rfl⟩ : x' = x ∧ [] = r := by simpa using h
    exact ⟨rfl, none, rfl, ⟨rfl, by simp, fun h => absurd h (by simp)⟩⟩
  | (x', y :: q) :: l, w, 0, x, r, hl, h => by
    obtain ⟨rfl, rfl⟩ : x' = x ∧ y :: q = r := by simpa using h
    refine ⟨rfl, some ⟨w.heap.size, 0, none⟩, rfl, ?_⟩
    have h1 : Kd.C (Kd.int .i64) (w.alloc (.cells ((y :: q).map (Value.int .i64)).toArray 3)) (some ⟨w.heap.size, 0, none⟩) (y :: q).length (y :: q) := litC (enc := Value.int .i64) (fun _ => rfl) (y :: q) w 3 (by have := hl _ (List.mem_cons_self ..); simp only at this; omega)
    exact Kd.C_below h1 (litRs_below l _).1
  | (x', []) :: l, w, j + 1, x, r, hl, h => by
    have := litRs_at l w j x r (fun r hr => hl r (List.mem_cons_of_mem _ hr)) (by simpa using h)
    rw [show (j + 1) * 2 = j * 2 + 2 by omega, show j * 2 + 2 + 1 = j * 2 + 1 + 2 by omega]
    exact this
  | (x', y :: q) :: l, w, j + 1, x, r, hl, h => by
    have := litRs_at l (w.alloc (.cells ((y :: q).map (Value.int .i64)).toArray 3)) j x r (fun r hr => hl r (List.mem_cons_of_mem _ hr)) (by simpa using h)
    rw [World.size_alloc] at this
    rw [show (j + 1) * 2 = j * 2 + 2 by omega, show j * 2 + 2 + 1 = j * 2 + 1 + 2 by omega]
    exact this
/-- The world behind a grammar's literal that lies in a variable; the grammar's value. -/
def litV (n : Nat) (g : Gr) : Array Value := #[.slice (some ⟨n, 0, none⟩) g.terms.length g.terms.length, .slice (some ⟨n + 1, 0, none⟩) g.nonterms.length g.nonterms.length, .int .i64 g.ax, .slice (some ⟨n + 1 + 1 + litN g.rules, 0, none⟩) g.rules.length g.rules.length]
def litW (w : World) (g : Gr) : World := (litRs ((w.alloc (.cells (g.terms.map Value.string).toArray 9)).alloc (.cells (g.nonterms.map Value.string).toArray 9)) g.rules).alloc (.cells (litCells (w.heap.size + 1 + 1) g.rules).toArray 51)
def litG (w : World) (g : Gr) : World := (litW w g).alloc (.cells (litV w.heap.size g) 25)
theorem litW_is (w : World) (g : Gr) (h1 : g.terms.length ≤ 1000) (h2 : g.nonterms.length ≤ 1000) (h3 : g.rules.length ≤ 1000) (h4 : ∀ r ∈ g.rules, r.2.length ≤ 1000) : GramAt (litW w g) (.agg (litV w.heap.size g)) g ∧ Below w.heap.size w (litW w g) ∧ (litW w g).heap.size = w.heap.size + 1 + 1 + litN g.rules + 1 := by
  unfold litW
  have s1 : (w.alloc (.cells (g.terms.map Value.string).toArray 9)).heap.size = w.heap.size + 1 := World.size_alloc _ _
  have b1 := below_alloc (Below.refl w.heap.size w) (.cells (g.terms.map Value.string).toArray 9)
  have c1 : Kd.C Kd.string (w.alloc (.cells (g.terms.map Value.string).toArray 9)) (some ⟨w.heap.size, 0, none⟩) g.terms.length g.terms := litC (enc := Value.string) (fun _ => rfl) g.terms w 9 (by omega)
  generalize w.alloc (.cells (g.terms.map Value.string).toArray 9) = W1 at *
  have s2 : (W1.alloc (.cells (g.nonterms.map Value.string).toArray 9)).heap.size = W1.heap.size + 1 := World.size_alloc _ _
  have b2 := below_alloc (Below.refl W1.heap.size W1) (.cells (g.nonterms.map Value.string).toArray 9)
  have c2 : Kd.C Kd.string (W1.alloc (.cells (g.nonterms.map Value.string).toArray 9)) (some ⟨W1.heap.size, 0, none⟩) g.nonterms.length g.nonterms := litC (enc := Value.string) (fun _ => rfl) g.nonterms W1 9 (by omega)
  rw [s1] at c2
  generalize W1.alloc (.cells (g.nonterms.map Value.string).toArray 9) = W2 at *
  obtain ⟨b3, s3⟩ := litRs_below g.rules W2
  have hat := litRs_at g.rules W2
  have e2 : W2.heap.size = w.heap.size + 1 + 1 := by omega
  rw [e2] at hat
  generalize litRs W2 g.rules = W3 at *
  have b4 := below_alloc (Below.refl W3.heap.size W3) (.cells (litCells (w.heap.size + 1 + 1) g.rules).toArray 51)
  have s4 : (W3.alloc (.cells (litCells (w.heap.size + 1 + 1) g.rules).toArray 51)).heap.size = W3.heap.size + 1 := World.size_alloc _ _
  have hc := fun i => World.cell?_alloc_new W3 (litCells (w.heap.size + 1 + 1) g.rules).toArray 51 i
  generalize W3.alloc (.cells (litCells (w.heap.size + 1 + 1) g.rules).toArray 51) = W4 at *
  have e3 : W3.heap.size = w.heap.size + 1 + 1 + litN g.rules := by omega
  rw [e3] at hc
  refine ⟨⟨_, g.terms.length, _, g.nonterms.length, _, g.rules.length, rfl, Nat.le_refl _, Nat.le_refl _, Nat.le_refl _, Kd.C_below c1 (below_next b2 (below_next b3 b4)), Kd.C_below c2 (below_next b3 b4), ?_⟩, below_next b1 (below_next b2 (below_next b3 b4)), by omega⟩
  refine rulesC h3 (fun j r hj => ?_)
  obtain ⟨x, r⟩ := r
  obtain ⟨k1, B, k2, k3⟩ := hat j x r h4 hj
  exact ⟨(hc (j * 2)).trans (by rw [List.getElem?_toArray]; exact k1), B, (hc (j * 2 + 1)).trans (by rw [List.getElem?_toArray]; exact k2), Kd.C_below k3 b4⟩
theorem litG_is (w : World) (g : Gr) (h1 : g.terms.length ≤ 1000) (h2 : g.nonterms.length ≤ 1000) (h3 : g.rules.length ≤ 1000) (h4 : ∀ r ∈ g.rules, r.2.length ≤ 1000) : GramAt (litG w g) (.agg (litV w.heap.size g)) g ∧ Below w.heap.size w (litG w g) ∧ (litG w g).heap[w.heap.size + 1 + 1 + litN g.rules + 1]? = some (.cells (litV w.heap.size g) 25 (0, 0)) ∧ (litG w g).heap.size = w.heap.size + 1 + 1 + litN g.rules + 1 + 1 := by
  obtain ⟨k1, k2, k3⟩ := litW_is w g h1 h2 h3 h4
  have hb := below_alloc (Below.refl (litW w g).heap.size (litW w g)) (.cells (litV w.heap.size g) 25)
  exact ⟨k1.below hb, below_next k2 hb, by rw [← k3]; exact heap_alloc_new _ _, by show ((litW w g).alloc _).heap.size = _; rw [World.size_alloc, k3]⟩
end Go.Proofs.YtndimnomkcjeiaaDoor.Hand
