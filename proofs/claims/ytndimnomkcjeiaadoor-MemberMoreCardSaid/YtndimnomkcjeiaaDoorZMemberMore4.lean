/- The texts that the statement's proof stands on, part 4: XKnMath XLit XKn XLaid XMmore. -/
import Derived.Test.YtndimnomkcjeiaaDoorZMemberMore3
import Derived.Test.YtndimnomkcjeiaaDoorRows
import Derived.Stop.LaidErr
import Derived.LaidSub
import Derived.LaidMore
import Derived.Stop.Joined
import Derived.MakeChecks
/- The document's grammars of chapter 24: how many trees, by reckoning. -/
namespace Go.Proofs.YtndimnomkcjeiaaDoor.Hand
open Go.RowKit Go.Proofs.YtndimnomkcjeiaaDoorW.PrintWords Go.Proofs.YtndimnomkcjeiaaDoorW.PrintMore Go.Proofs.YtndimnomkcjeiaaDoor.Math

/-- The same reckoning, to be run. -/
def cutB (T : Nat → Nat → Nat → Bool) (tk : List Int) : List Int → Nat → Nat → Bool
  | [], i, j => i == j
  | s :: l, i, j => (List.range (j + 1)).any fun q => decide (i ≤ q) && (Hb T tk s i q && cutB T tk l q j)
theorem cutB_iff {T : Nat → Nat → Nat → Bool} {tk : List Int} : ∀ {l : List Int} {i j : Nat}, Cut T tk l i j ↔ cutB T tk l i j = true
  | [], i, j => by simp [Cut, cutB]
  | s :: l, i, j => by
    unfold cutB
    rw [List.any_eq_true]
    constructor
    · rintro ⟨q, h1, h2, h3, h4⟩
      exact ⟨q, List.mem_range.2 (by omega), by simp [h1, h3, cutB_iff.1 h4]⟩
    · rintro ⟨q, h1, h2⟩
      simp only [Bool.and_eq_true, decide_eq_true_eq] at h2
      exact ⟨q, h2.1, by have := List.mem_range.1 h1; omega, h2.2.1, cutB_iff.2 h2.2.2⟩
def seqB (T : Nat → Nat → Nat → Bool) (tk : List Int) (W : Nat → Nat → Nat → Option Nat) : List Int → Nat → Nat → Option Nat
  | [], i, j => some (if i = j then 1 else 0)
  | s :: l, i, j => sumO (fun q => if (decide (i ≤ q) && (Hb T tk s i q && cutB T tk l q j)) = true then mulO (seqB T tk W l q j) (if s < 0 then W (-1 - s).toNat i q else some 1) else some 0) (j + 1)
def nodeB (T : Nat → Nat → Nat → Bool) (tk : List Int) (R : List (Int × List Int)) : Nat → Nat → Nat → Nat → Option Nat
  | 0, _, _, _ => none
  | f + 1, k, i, j => sumO (fun n => if (decide ((R.getD n (0, [])).1 = (k : Int)) && cutB T tk (R.getD n (0, [])).2 i j) = true then seqB T tk (nodeB T tk R f) (R.getD n (0, [])).2 i j else some 0) R.length
theorem seqB_eq {T : Nat → Nat → Nat → Bool} {tk : List Int} {W : Nat → Nat → Nat → Option Nat} : ∀ {l : List Int} {i j : Nat}, seqC T tk W l i j = seqB T tk W l i j
  | [], i, j => by unfold seqC seqB; congr
  | s :: l, i, j => by
    unfold seqC seqB
    refine sumO_congr (fun q _ => ?_)
    have h : (i ≤ q ∧ Fits T tk s l i q j) ↔ (decide (i ≤ q) && (Hb T tk s i q && cutB T tk l q j)) = true := by
      unfold Fits
      rw [cutB_iff]
      simp
    by_cases hc : i ≤ q ∧ Fits T tk s l i q j
    · rw [if_pos hc, if_pos (h.1 hc), seqB_eq]
    · rw [if_neg hc, if_neg (fun h' => hc (h.2 h'))]
theorem nodeB_eq {T : Nat → Nat → Nat → Bool} {tk : List Int} {R : List (Int × List Int)} : ∀ {f k i j : Nat}, nodeC T tk R f k i j = nodeB T tk R f k i j
  | 0, _, _, _ => rfl
  | f + 1, k, i, j => by
    unfold nodeC nodeB
    refine sumO_congr (fun n _ => ?_)
    unfold ruleC
    have hW : nodeC T tk R f = nodeB T tk R f := by funext k i j; exact nodeB_eq
    have h : ((R.getD n (0, [])).1 = (k : Int) ∧ Cut T tk (R.getD n (0, [])).2 i j) ↔ (decide ((R.getD n (0, [])).1 = (k : Int)) && cutB T tk (R.getD n (0, [])).2 i j) = true := by
      rw [cutB_iff]; simp
    by_cases hc : (R.getD n (0, [])).1 = (k : Int) ∧ Cut T tk (R.getD n (0, [])).2 i j
    · rw [if_pos hc, if_pos (h.1 hc), hW, seqB_eq]
    · rw [if_neg hc, if_neg (fun h' => hc (h.2 h'))]
theorem treeD_run {R : List (Int × List Int)} {tk : List Int} {T : Nat → Nat → Nat → Bool} {f k i j c : Nat} (hT : tabD R tk = T) (h : nodeB T tk R f k i j = some c) : treeD R tk k i j = some c := by
  unfold treeD
  rw [hT]
  exact treeN_of (f := f) (by rw [nodeB_eq]; exact h)
def RA : List (Int × List Int) := [(0, [-1, -1]), (0, [0])]
def gA : Gr := { terms := [⟨#[97]⟩], nonterms := [⟨#[83]⟩], ax := 0, rules := RA }
def RB : List (Int × List Int) := [(0, [-2, -1]), (0, [1]), (1, [0]), (1, [-2]), (1, [])]
def gB : Gr := { terms := [⟨#[97]⟩, ⟨#[98]⟩], nonterms := [⟨#[83]⟩, ⟨#[65]⟩], ax := 0, rules := RB }
theorem names1 (a : ByteArray) (h1 : a.size = 1) : NamesOk [a] := by
  intro i hi
  obtain rfl : i = 0 := by simp at hi; omega
  exact ⟨by simp [h1], by simp [h1], by simp⟩
theorem names2 (a b : ByteArray) (h1 : a.size = 1) (h2 : b.size = 1) (h : a ≠ b) : NamesOk [a, b] := by
  intro i hi
  have : i = 0 ∨ i = 1 := by simp at hi; omega
  rcases this with rfl | rfl
  · exact ⟨by simp [h1], by simp [h1], by simp⟩
  · exact ⟨by simp [h2], by simp [h2], by simpa using fun e => h e.symm⟩
theorem bytes_ne {x y : UInt8} (h : x ≠ y) : (⟨#[x]⟩ : ByteArray) ≠ ⟨#[y]⟩ := by
  intro e
  injection e with e
  have := congrArg (fun a => a[0]?) e
  simp at this
  exact h this
theorem gA_check : checkN gA = (0, -1) := by
  unfold checkN
  have hn1 : NamesOk gA.terms := names1 _ rfl
  have hn2 : NamesOk gA.nonterms := names1 _ rfl
  rw [if_neg (by simp [gA, RA]), if_neg (by simp [hn1, hn2]), if_neg (by simp [gA])]
  decide
theorem gB_check : checkN gB = (0, -1) := by
  unfold checkN
  have hn1 : NamesOk gB.terms := names2 _ _ rfl rfl (bytes_ne (by decide))
  have hn2 : NamesOk gB.nonterms := names2 _ _ rfl rfl (bytes_ne (by decide))
  rw [if_neg (by simp [gB, RB]), if_neg (by simp [hn1, hn2]), if_neg (by simp [gB])]
  decide
def TA (n : Nat) : Nat → Nat → Nat → Bool := fun i j k => decide (i < j ∧ j ≤ n ∧ k = 0)
theorem RA_seq {tk : List Int} {l : List Int} {i j : Nat} (h : SeqD RA tk l i j) : (l ≠ [] → i < tk.length) ∧ i + l.length ≤ j ∧ (i ≤ tk.length → j ≤ tk.length) := by
  induction h with
  | nil i => exact ⟨fun h => absurd rfl h, by simp, fun h => h⟩
  | term h0 h1 h2 h3 ih => exact ⟨fun _ => h1, by simp only [List.length_cons]; omega, fun _ => ih.2.2 (by omega)⟩
  | non r h0 hr h2 h3 h4 ih1 ih2 =>
    have hne : r.2 ≠ [] ∧ 1 ≤ r.2.length := by
      rcases (show r = (0, [-1, -1]) ∨ r = (0, [0]) by simpa [RA] using hr) with rfl | rfl <;> simp
    exact ⟨fun _ => ih1.1 hne.1, by simp only [List.length_cons]; omega, fun h => ih2.2.2 (ih1.2.2 h)⟩
theorem RA_der (n : Nat) : ∀ (d i j : Nat), j - i = d → i < j → j ≤ n → Der RA (List.replicate n 0) 0 i j
  | 0, i, j, hd, h1, h2 => by omega
  | d + 1, i, j, hd, h1, h2 => by
    have hone : SeqD RA (List.replicate n 0) [0] i (i + 1) := .term (by decide) (by simp; omega) (by simp only [List.getD, List.getElem?_replicate]; split <;> rfl) (.nil _)
    by_cases e : j = i + 1
    · subst e
      exact ⟨(0, [0]), by simp [RA], rfl, hone⟩
    · obtain ⟨r, hr, hl, hs⟩ := RA_der n d (i + 1) j (by omega) (by omega) h2
      exact ⟨(0, [-1, -1]), by simp [RA], rfl, .non (0, [0]) (by decide) (by simp [RA]) rfl hone (.non r (by decide) hr (by rw [hl]; rfl) hs (.nil _))⟩
theorem RA_tab (n : Nat) : tabD RA (List.replicate n 0) = TA n := by
  funext i j k
  unfold tabD TA
  rw [Bool.eq_iff_iff, tb_iff, decide_eq_true_eq]
  constructor
  · rintro ⟨r, hr, hl, hs⟩
    have h := RA_seq hs
    have : r.1 = 0 ∧ r.2 ≠ [] ∧ 1 ≤ r.2.length := by
      rcases (show r = (0, [-1, -1]) ∨ r = (0, [0]) by simpa [RA] using hr) with rfl | rfl <;> simp
    have h1 := h.1 this.2.1
    have h2 := h.2.2 (by omega)
    rw [List.length_replicate] at h1 h2
    exact ⟨by omega, h2, by omega⟩
  · rintro ⟨h1, h2, rfl⟩
    exact RA_der n (j - i) i j rfl h1 h2
theorem gA_four : treeD RA [0, 0, 0, 0] 0 0 4 = some 5 := treeD_run (f := 6) (RA_tab 4) (by decide +kernel)
theorem gA_none : treeD RA [] 0 0 0 = some 0 := treeD_run (f := 2) (RA_tab 0) (by decide +kernel)
theorem gB_one : treeD RB [1] 0 0 1 = none := by
  have hA : tabD RB [1] 0 0 1 = true := tb_yes ⟨(1, []), by simp [RB], rfl, .nil _⟩
  have hS : tabD RB [1] 0 1 0 = true := tb_yes ⟨(0, [1]), by simp [RB], rfl, .term (by decide) (by decide) rfl (.nil _)⟩
  have hF : Fits (tabD RB [1]) [1] (-2) [-1] 0 0 1 := ⟨hA, 1, by decide, by decide, hS, rfl⟩
  have h1 := DepS.self (T := tabD RB [1]) (tk := [1]) (R := RB) (x := (0, 0, 1)) (n := 0) (by decide) rfl ⟨0, by decide, by decide, hF⟩
  have h2 := DepS.tail (show DepS (T := tabD RB [1]) (tk := [1]) (R := RB) (0, 0, 1) [-2, -1] 0 1 from h1) (q := 0) (by decide) (by decide) hF
  have h3 := DepS.head h2 (q := 1) (by decide) (by decide) ⟨hS, rfl⟩ (by decide)
  exact Dep.loop h3
theorem gB_der : Der RB [0, 0, 1] 0 0 3 := by
  have a1 : SeqD RB [0, 0, 1] [0] 0 1 := .term (by decide) (by decide) rfl (.nil _)
  have a2 : SeqD RB [0, 0, 1] [0] 1 2 := .term (by decide) (by decide) rfl (.nil _)
  have a3 : SeqD RB [0, 0, 1] [1] 2 3 := .term (by decide) (by decide) rfl (.nil _)
  refine ⟨(0, [-2, -1]), by simp [RB], rfl, .non (1, [0]) (by decide) (by simp [RB]) rfl a1 (.non (0, [-2, -1]) (by decide) (by simp [RB]) rfl (.non (1, [0]) (by decide) (by simp [RB]) rfl a2 (.non (0, [1]) (by decide) (by simp [RB]) rfl a3 (.nil _))) (.nil _))⟩
theorem gA_may4 : (mayN gA [0, 0, 0, 0]).1 = 0 := by
  unfold mayN
  rw [gA_check]
  decide
theorem gA_may0 : (mayN gA []).1 = 0 := by
  unfold mayN
  rw [gA_check]
  decide
theorem gB_may1 : (mayN gB [1]).1 = 0 := by
  unfold mayN
  rw [gB_check]
  decide
theorem gB_may3 : (mayN gB [0, 0, 1]).1 = 0 := by
  unfold mayN
  rw [gB_check]
  decide
theorem gA_cnt4 : cntV gA [0, 0, 0, 0] = 5 ∧ cntX gA [0, 0, 0, 0] = false := by
  unfold cntV cntX cntT
  rw [gA_may4]
  have h : treeD gA.rules [0, 0, 0, 0] gA.ax.toNat 0 [0, 0, 0, (0 : Int)].length = some 5 := gA_four
  rw [h]
  exact ⟨rfl, rfl⟩
theorem gA_cnt0 : cntV gA [] = 0 ∧ cntX gA [] = false := by
  unfold cntV cntX cntT
  rw [gA_may0]
  have h : treeD gA.rules [] gA.ax.toNat 0 ([] : List Int).length = some 0 := gA_none
  rw [h]
  exact ⟨rfl, rfl⟩
theorem gB_cnt1 : cntV gB [1] = 0 ∧ cntX gB [1] = true := by
  unfold cntV cntX cntT
  rw [gB_may1]
  have h : treeD gB.rules [1] gB.ax.toNat 0 [(1 : Int)].length = none := gB_one
  rw [h]
  exact ⟨rfl, rfl⟩
theorem gB_from3 : fromB gB [0, 0, 1] 0 = true ∧ fromK gB [0, 0, 1] 0 = 0 := by
  have h : fromK gB [0, 0, 1] 0 = 0 := by
    unfold fromK
    rw [gB_may3, if_neg (by simp), if_neg (by simp [gB])]
  exact ⟨tb_yes ⟨h, gB_der⟩, h⟩
end Go.Proofs.YtndimnomkcjeiaaDoor.Hand
/- Grammars that the text itself lays out: the world behind the literal, and what it reads as. -/
namespace Go.Proofs.YtndimnomkcjeiaaDoor.Hand
open Go.RowKit Go.Proofs.YtndimnomkcjeiaaDoorW.PrintWords Go.Proofs.YtndimnomkcjeiaaDoorW.PrintMore Go.Proofs.YtndimnomkcjeiaaDoor.Math

theorem litC {α : Type} {enc : α → Value} (h1 : ∀ x, (enc x).oneCell' = true) (xs : List α) (W : World) (T : TypeId) (hx : xs.length ≤ 9223372036854775807) : (Kd.scalar enc h1).C (W.alloc (.cells (xs.map enc).toArray T)) (some ⟨W.heap.size, 0, none⟩) xs.length xs := by
  refine ⟨rfl, hx, fun _ => ⟨⟨W.heap.size, 0, none⟩, rfl, fun j p hj => ⟨[enc p], rfl, rfl, fun i u hu => ?_⟩⟩⟩
  have h0 : i = 0 := by
    have := (List.getElem?_eq_some_iff.1 hu).1
    simp at this
    exact this
  subst h0
  simp at hu
  subst hu
  have e : ((⟨W.heap.size, 0, none⟩ : Addr).add j) = ⟨W.heap.size, j, none⟩ := by unfold Addr.add; by_cases h : j = 0 <;> simp [h]
  have hc := World.cell?_alloc_new W (xs.map enc).toArray T j
  show (W.alloc _).cell? ((⟨W.heap.size, 0, none⟩ : Addr).add (j * 1 + 0)) = _
  rw [Nat.mul_one, Nat.add_zero, e, hc]
  simp [hj]
theorem rulesC {w : World} {b : Nat} {l : List (Int × List Int)} (hm : l.length ≤ 1000) (h : ∀ j r, l[j]? = some r → w.cell? ⟨b, j * 2, none⟩ = some (.int .i64 r.1) ∧ ∃ A, w.cell? ⟨b, j * 2 + 1, none⟩ = some (.slice A r.2.length r.2.length) ∧ Kd.C (Kd.int .i64) w A r.2.length r.2) : KRule.C w (some ⟨b, 0, none⟩) l.length l := by
  refine ⟨rfl, by omega, fun _ => ⟨_, rfl, fun j r hj => ?_⟩⟩
  obtain ⟨h1, A, h2, h3⟩ := h j r hj
  refine ⟨[.int .i64 r.1, .slice A r.2.length r.2.length], rfl, ⟨[.int .i64 r.1], [.slice A r.2.length r.2.length], rfl, rfl, A, r.2.length, rfl, Nat.le_refl _, h3⟩, fun i u hu => ?_⟩
  have e : ∀ i, (Addr.add ⟨b, 0, none⟩ (j * KRule.sz + i)) = ⟨b, j * 2 + i, none⟩ := by
    intro i
    rw [show KRule.sz = 2 from rfl]
    unfold Addr.add
    split
    · rename_i h0; rw [h0]
    · simp
  rw [e]
  match i, hu with
  | 0, hu => simp at hu; subst hu; exact h1
  | 1, hu => simp at hu; subst hu; exact h2
  | i + 2, hu => simp at hu
/-- The right sides, one behind the other; the rules' own cells; how many right sides there are. -/
def litRs (w : World) : List (Int × List Int) → World
  | [] => w
  | (_, []) :: l => litRs w l
  | (_, y :: r) :: l => litRs (w.alloc (.cells ((y :: r).map (Value.int .i64)).toArray 3)) l
def litCells (n : Nat) : List (Int × List Int) → List Value
  | [] => []
  | (x, []) :: l => .int .i64 x :: .slice none 0 0 :: litCells n l
  | (x, y :: r) :: l => .int .i64 x :: .slice (some ⟨n, 0, none⟩) (y :: r).length (y :: r).length :: litCells (n + 1) l
def litN : List (Int × List Int) → Nat
  | [] => 0
  | (_, []) :: l => litN l
  | (_, _ :: _) :: l => litN l + 1
theorem litRs_below : ∀ (l : List (Int × List Int)) (w : World), Below w.heap.size w (litRs w l) ∧ (litRs w l).heap.size = w.heap.size + litN l
  | [], w => ⟨Below.refl _ _, rfl⟩
  | (_, []) :: l, w => litRs_below l w
  | (_, y :: r) :: l, w => by
    obtain ⟨h1, h2⟩ := litRs_below l (w.alloc (.cells ((y :: r).map (Value.int .i64)).toArray 3))
    refine ⟨below_next (below_alloc (Below.refl _ _) _) h1, h2.trans ?_⟩
    rw [World.size_alloc]
    show _ = w.heap.size + (litN l + 1)
    omega
theorem litRs_at : ∀ (l : List (Int × List Int)) (w : World) (j : Nat) (x : Int) (r : List Int), (∀ r ∈ l, r.2.length ≤ 1000) → l[j]? = some (x, r) →
    (litCells w.heap.size l)[j * 2]? = some (.int .i64 x) ∧ ∃ B, (litCells w.heap.size l)[j * 2 + 1]? = some (.slice B r.length r.length) ∧ Kd.C (Kd.int .i64) (litRs w l) B r.length r
  | [], w, j, x, r, _, h => by simp at h
  | (x', []) :: l, w, 0, x, r, _, h => by
    obtain ⟨rfl, rfl⟩ : x' = x ∧ [] = r := by simpa using h
    exact ⟨rfl, none, rfl, ⟨rfl, by simp, fun h => absurd h (by simp)⟩⟩
  | (x', y :: q) :: l, w, 0, x, r, hl, h => by
    obtain ⟨rfl, rfl⟩ : x' = x ∧ y :: q = r := by simpa using h
    refine ⟨rfl, some ⟨w.heap.size, 0, none⟩, rfl, ?_⟩
    have h1 : Kd.C (Kd.int .i64) (w.alloc (.cells ((y :: q).map (Value.int .i64)).toArray 3)) (some ⟨w.heap.size, 0, none⟩) (y :: q).length (y :: q) := litC (enc := Value.int .i64) (fun _ => rfl) (y :: q) w 3 (by have := hl _ (List.mem_cons_self ..); simp only at this; omega)
    exact Kd.C_below h1 (litRs_below l _).1
  | (x', []) :: l, w, j + 1, x, r, hl, h => by
    have := litRs_at l w j x r (fun r hr => hl r (List.mem_cons_of_mem _ hr)) (by simpa using h)
    rw [show (j + 1) * 2 = j * 2 + 2 by omega, show j * 2 + 2 + 1 = j * 2 + 1 + 2 by omega]
    exact this
  | (x', y :: q) :: l, w, j + 1, x, r, hl, h => by
    have := litRs_at l (w.alloc (.cells ((y :: q).map (Value.int .i64)).toArray 3)) j x r (fun r hr => hl r (List.mem_cons_of_mem _ hr)) (by simpa using h)
    rw [World.size_alloc] at this
    rw [show (j + 1) * 2 = j * 2 + 2 by omega, show j * 2 + 2 + 1 = j * 2 + 1 + 2 by omega]
    exact this
/-- The world behind a grammar's literal that lies in a variable; the grammar's value. -/
def litV (n : Nat) (g : Gr) : Array Value := #[.slice (some ⟨n, 0, none⟩) g.terms.length g.terms.length, .slice (some ⟨n + 1, 0, none⟩) g.nonterms.length g.nonterms.length, .int .i64 g.ax, .slice (some ⟨n + 1 + 1 + litN g.rules, 0, none⟩) g.rules.length g.rules.length]
def litW (w : World) (g : Gr) : World := (litRs ((w.alloc (.cells (g.terms.map Value.string).toArray 9)).alloc (.cells (g.nonterms.map Value.string).toArray 9)) g.rules).alloc (.cells (litCells (w.heap.size + 1 + 1) g.rules).toArray 51)
def litG (w : World) (g : Gr) : World := (litW w g).alloc (.cells (litV w.heap.size g) 25)
theorem litW_is (w : World) (g : Gr) (h1 : g.terms.length ≤ 1000) (h2 : g.nonterms.length ≤ 1000) (h3 : g.rules.length ≤ 1000) (h4 : ∀ r ∈ g.rules, r.2.length ≤ 1000) : GramAt (litW w g) (.agg (litV w.heap.size g)) g ∧ Below w.heap.size w (litW w g) ∧ (litW w g).heap.size = w.heap.size + 1 + 1 + litN g.rules + 1 := by
  unfold litW
  have s1 : (w.alloc (.cells (g.terms.map Value.string).toArray 9)).heap.size = w.heap.size + 1 := World.size_alloc _ _
  have b1 := below_alloc (Below.refl w.heap.size w) (.cells (g.terms.map Value.string).toArray 9)
  have c1 : Kd.C Kd.string (w.alloc (.cells (g.terms.map Value.string).toArray 9)) (some ⟨w.heap.size, 0, none⟩) g.terms.length g.terms := litC (enc := Value.string) (fun _ => rfl) g.terms w 9 (by omega)
  generalize w.alloc (.cells (g.terms.map Value.string).toArray 9) = W1 at *
  have s2 : (W1.alloc (.cells (g.nonterms.map Value.string).toArray 9)).heap.size = W1.heap.size + 1 := World.size_alloc _ _
  have b2 := below_alloc (Below.refl W1.heap.size W1) (.cells (g.nonterms.map Value.string).toArray 9)
  have c2 : Kd.C Kd.string (W1.alloc (.cells (g.nonterms.map Value.string).toArray 9)) (some ⟨W1.heap.size, 0, none⟩) g.nonterms.length g.nonterms := litC (enc := Value.string) (fun _ => rfl) g.nonterms W1 9 (by omega)
  rw [s1] at c2
  generalize W1.alloc (.cells (g.nonterms.map Value.string).toArray 9) = W2 at *
  obtain ⟨b3, s3⟩ := litRs_below g.rules W2
  have hat := litRs_at g.rules W2
  have e2 : W2.heap.size = w.heap.size + 1 + 1 := by omega
  rw [e2] at hat
  generalize litRs W2 g.rules = W3 at *
  have b4 := below_alloc (Below.refl W3.heap.size W3) (.cells (litCells (w.heap.size + 1 + 1) g.rules).toArray 51)
  have s4 : (W3.alloc (.cells (litCells (w.heap.size + 1 + 1) g.rules).toArray 51)).heap.size = W3.heap.size + 1 := World.size_alloc _ _
  have hc := fun i => World.cell?_alloc_new W3 (litCells (w.heap.size + 1 + 1) g.rules).toArray 51 i
  generalize W3.alloc (.cells (litCells (w.heap.size + 1 + 1) g.rules).toArray 51) = W4 at *
  have e3 : W3.heap.size = w.heap.size + 1 + 1 + litN g.rules := by omega
  rw [e3] at hc
  refine ⟨⟨_, g.terms.length, _, g.nonterms.length, _, g.rules.length, rfl, Nat.le_refl _, Nat.le_refl _, Nat.le_refl _, Kd.C_below c1 (below_next b2 (below_next b3 b4)), Kd.C_below c2 (below_next b3 b4), ?_⟩, below_next b1 (below_next b2 (below_next b3 b4)), by omega⟩
  refine rulesC h3 (fun j r hj => ?_)
  obtain ⟨x, r⟩ := r
  obtain ⟨k1, B, k2, k3⟩ := hat j x r h4 hj
  exact ⟨(hc (j * 2)).trans (by rw [List.getElem?_toArray]; exact k1), B, (hc (j * 2 + 1)).trans (by rw [List.getElem?_toArray]; exact k2), Kd.C_below k3 b4⟩
theorem litG_is (w : World) (g : Gr) (h1 : g.terms.length ≤ 1000) (h2 : g.nonterms.length ≤ 1000) (h3 : g.rules.length ≤ 1000) (h4 : ∀ r ∈ g.rules, r.2.length ≤ 1000) : GramAt (litG w g) (.agg (litV w.heap.size g)) g ∧ Below w.heap.size w (litG w g) ∧ (litG w g).heap[w.heap.size + 1 + 1 + litN g.rules + 1]? = some (.cells (litV w.heap.size g) 25 (0, 0)) ∧ (litG w g).heap.size = w.heap.size + 1 + 1 + litN g.rules + 1 + 1 := by
  obtain ⟨k1, k2, k3⟩ := litW_is w g h1 h2 h3 h4
  have hb := below_alloc (Below.refl (litW w g).heap.size (litW w g)) (.cells (litV w.heap.size g) 25)
  exact ⟨k1.below hb, below_next k2 hb, by rw [← k3]; exact heap_alloc_new _ _, by show ((litW w g).alloc _).heap.size = _; rw [World.size_alloc, k3]⟩
end Go.Proofs.YtndimnomkcjeiaaDoor.Hand
/- Chapter 24's own known: the document's grammars, its answers. -/
namespace Go.Proofs.YtndimnomkcjeiaaDoor.Hand
open Go.RowKit Go.Proofs.YtndimnomkcjeiaaDoorW.PrintWords Go.Proofs.YtndimnomkcjeiaaDoorW.PrintMore Go.Proofs.YtndimnomkcjeiaaDoor.Math

set_option maxHeartbeats 2000000 in
set_option maxRecDepth 20000 in
theorem known_calls (w : World) (A : Nat → Addr) (hE : Errs w A) :
    Calls Tryd.prog 22 #[] w fun e w' => e = .returned (.bool true) ∧ Below w.heap.size w w' := by
  obtain ⟨hg, hb, hk, hs⟩ := litG_is w gA (by decide) (by decide) (by decide) (by decide)
  have hg1 : GramAt (litG w gA) (.agg #[.slice (some ⟨w.heap.size, 0, none⟩) 1 1, .slice (some ⟨w.heap.size + 1, 0, none⟩) 1 1, .int .i64 0, .slice (some ⟨w.heap.size + 1 + 1 + 1 + 1, 0, none⟩) 2 2]) gA := hg
  have hk1 : (litG w gA).heap[w.heap.size + 1 + 1 + 1 + 1 + 1]? = some (.cells #[.slice (some ⟨w.heap.size, 0, none⟩) 1 1, .slice (some ⟨w.heap.size + 1, 0, none⟩) 1 1, .int .i64 0, .slice (some ⟨w.heap.size + 1 + 1 + 1 + 1, 0, none⟩) 2 2] 25 (0, 0)) := hk
  have HBA := Lib.hid hb
  have HEA := Lib.hid (hE.below hb)
  clear hE hg hb hk hs
  go_enter Tryd.func22, Tryd.ntmps22
  go_upto_region 2 with fail
  change Code.wp _ _ _ _ (litG w gA)
  obtain ⟨w1, hw1⟩ : ∃ w1, litG w gA = w1 := ⟨_, rfl⟩
  rw [hw1] at hg1 hk1 HBA HEA ⊢
  obtain ⟨b5, e5⟩ : ∃ b, w.heap.size + 1 + 1 + 1 + 1 + 1 = b := ⟨_, rfl⟩
  obtain ⟨b4, e4⟩ : ∃ b, w.heap.size + 1 + 1 + 1 + 1 = b := ⟨_, rfl⟩
  rw [e5] at hk1 ⊢
  rw [e4] at hg1 hk1 ⊢
  obtain ⟨b1, e1⟩ : ∃ b, w.heap.size + 1 = b := ⟨_, rfl⟩
  rw [e1] at hg1 hk1 ⊢
  obtain ⟨c0, c1, c2, c3⟩ := blk_cells2 hk1
  have HGA := Lib.hid hg1
  have HKA := Lib.hid hk1
  clear hw1 e5 e4 e1 hg1 hk1
  have HC1 := Lib.hid (fun (W : World) (hW : Below w1.heap.size w1 W) => count_calls _ gA (some ⟨W.heap.size, 0, none⟩) 4 [0, 0, 0, 0] (W.alloc (.cells #[.int .i64 0, .int .i64 0, .int .i64 0, .int .i64 0] 3)) A (HEA.out.below (below_alloc hW _)) (HGA.out.below (below_alloc hW _)) (by decide) (litC (enc := Value.int .i64) (fun _ => rfl) [0, 0, 0, 0] W 3 (by decide)))
  have HC2 := Lib.hid (fun (W : World) (hW : Below w1.heap.size w1 W) => count_calls _ gA none 0 [] W A (HEA.out.below hW) (HGA.out.below hW) (by decide) ⟨rfl, by decide, fun h => absurd h (by decide)⟩)
  unfold CntRes at HC1 HC2
  rw [gA_cnt4.1, gA_cnt4.2, gA_may4] at HC1
  rw [gA_cnt0.1, gA_cnt0.2, gA_may0] at HC2
  go_upto_region 4 with (first
    | (go_at_call 23; refine (HC2.out w2 HB2.out).mono ?_; rintro e w3 ⟨u3, r3, rfl, hu3, hb3⟩; obtain rfl := hu3.nil_of rfl; have HB3 := Lib.hid (below_next HB2.out hb3); clear d0 d1 d2 d3 hu3 hb3)
    | (go_at_call 23; refine (HC1.out w1 (Below.refl _ _)).mono ?_; rintro e w2 ⟨u2, r2, rfl, hu2, hb2⟩; obtain rfl := hu2.nil_of rfl; have HB2 := Lib.hid (below_next (below_alloc (Below.refl _ _) _) hb2); obtain ⟨d0, d1, d2, d3⟩ := blk_cells2 (gblk_keep' HKA.out HB2.out); clear c0 c1 c2 c3 hu2 hb2))
  obtain ⟨hg, hb, hk, hs⟩ := litG_is w3 gB (by decide) (by decide) (by decide) (by decide)
  have hg1 : GramAt (litG w3 gB) (.agg #[.slice (some ⟨w3.heap.size, 0, none⟩) 2 2, .slice (some ⟨w3.heap.size + 1, 0, none⟩) 2 2, .int .i64 0, .slice (some ⟨w3.heap.size + 1 + 1 + 1 + 1 + 1 + 1, 0, none⟩) 5 5]) gB := hg
  have hk1 : (litG w3 gB).heap[w3.heap.size + 1 + 1 + 1 + 1 + 1 + 1 + 1]? = some (.cells #[.slice (some ⟨w3.heap.size, 0, none⟩) 2 2, .slice (some ⟨w3.heap.size + 1, 0, none⟩) 2 2, .int .i64 0, .slice (some ⟨w3.heap.size + 1 + 1 + 1 + 1 + 1 + 1, 0, none⟩) 5 5] 25 (0, 0)) := hk
  have HBB := Lib.hid (below_next HB3.out hb)
  have HEB := Lib.hid (HEA.out.below HBB.out)
  clear hg hb hk hs
  go_upto_region 5 with fail
  change Code.wp _ _ _ _ (litG w3 gB)
  obtain ⟨w4, hw4⟩ : ∃ w1, litG w3 gB = w1 := ⟨_, rfl⟩
  rw [hw4] at hg1 hk1 HBB HEB ⊢
  obtain ⟨b7, e7⟩ : ∃ b, w3.heap.size + 1 + 1 + 1 + 1 + 1 + 1 + 1 = b := ⟨_, rfl⟩
  obtain ⟨b6, e6⟩ : ∃ b, w3.heap.size + 1 + 1 + 1 + 1 + 1 + 1 = b := ⟨_, rfl⟩
  rw [e7] at hk1 ⊢
  rw [e6] at hg1 hk1 ⊢
  obtain ⟨b1', e1⟩ : ∃ b, w3.heap.size + 1 = b := ⟨_, rfl⟩
  rw [e1] at hg1 hk1 ⊢
  obtain ⟨c0, c1, c2, c3⟩ := blk_cells2 hk1
  have HGB := Lib.hid hg1
  have HKB := Lib.hid hk1
  clear hw4 e7 e6 e1 hg1 hk1
  have HC3 := Lib.hid (fun (W : World) (hW : Below w4.heap.size w4 W) => count_calls _ gB (some ⟨W.heap.size, 0, none⟩) 1 [1] (W.alloc (.cells #[.int .i64 1] 3)) A (HEB.out.below (below_alloc hW _)) (HGB.out.below (below_alloc hW _)) (by decide) (litC (enc := Value.int .i64) (fun _ => rfl) [1] W 3 (by decide)))
  have HC4 := Lib.hid (fun (W : World) (hW : Below w4.heap.size w4 W) => mderives_calls _ gB (some ⟨W.heap.size, 0, none⟩) 3 [0, 0, 1] (W.alloc (.cells #[.int .i64 0, .int .i64 0, .int .i64 1] 3)) A (HEB.out.below (below_alloc hW _)) (HGB.out.below (below_alloc hW _)) (by decide) (litC (enc := Value.int .i64) (fun _ => rfl) [0, 0, 1] W 3 (by decide)))
  unfold CntRes at HC3
  rw [gB_cnt1.1, gB_cnt1.2, gB_may1] at HC3
  rw [show gB.ax = 0 from rfl, gB_from3.1, gB_from3.2] at HC4
  go_wp2_with (first
    | (go_at_call 18; refine (HC4.out w5 HB5.out).mono ?_; rintro e w6 ⟨u6, r6, rfl, hu6, hb6⟩; obtain rfl := hu6.nil_of rfl; have HB6 := Lib.hid (below_next (below_alloc HB5.out _) hb6); clear d0 d1 d2 d3 hu6 hb6)
    | (go_at_call 23; refine (HC3.out w4 (Below.refl _ _)).mono ?_; rintro e w5 ⟨u5, r5, rfl, hu5, hb5⟩; obtain rfl := hu5.nil_of rfl; have HB5 := Lib.hid (below_next (below_alloc (Below.refl _ _) _) hb5); obtain ⟨d0, d1, d2, d3⟩ := blk_cells2 (gblk_keep' HKB.out HB5.out); clear c0 c1 c2 c3 hu5 hb5))
  go_ret
  exact ⟨rfl, below_next HBA.out (below_next HBB.out HB6.out)⟩
end Go.Proofs.YtndimnomkcjeiaaDoor.Hand
/- The package's errors, as the row lists them: each variable holds a pointer of its own. -/
namespace Go.Proofs.YtndimnomkcjeiaaDoor.Hand
open Go.ChangeShapes
open Go.RowKit Go.Proofs.YtndimnomkcjeiaaDoorW.PrintWords Go.Proofs.YtndimnomkcjeiaaDoorW.PrintMore Go.Proofs.YtndimnomkcjeiaaDoor.Math

theorem laid_list {P : Program} {W : World} {nm : String} {ti tp te ts : TypeId} {ms : Array (String × TypeId)} {f : Field}
    (hi : P.underlying ti = some (.interface ms)) (hrow : ∀ u, P.typeName? 3 u = some nm → u = tp)
    (hp : P.underlying tp = some (.pointer te)) (he : P.underlying te = some (.struct #[f])) (hft : f.type = ts) (hfo : f.offset = 0) (hs : P.underlying ts = some .string) (hc : P.cellsOf te = 1) (hcs : P.cellsOf ts = 1) :
    ∀ (l : List (String × DataW Unit)) (ps : List MemPlace), DataW.LaidVars P W l ps → ps.Nodup →
      (∀ b off, MemPlace.cell b off ∈ ps → (∃ c t, W.heap[b]? = some (.cells c t (0, 0))) ∧ ∀ u v, W.cell? ⟨b, off, none⟩ = some (.iface u v) → Value.okWide P W .any 0 u v) →
      (∀ x ∈ l, (∃ text, x.2 = .iface nm (.ptr (.agg [.lit (.string text)]))) ∧ ∃ g, P.globalNamed x.1 = some g ∧ (P.globals[g]?).map (·.type) = some ti) →
      ∃ As : List Addr, As.length = l.length ∧ (∀ a ∈ As, MemPlace.cell a.block a.off ∈ ps) ∧ As.Nodup ∧ ∀ (i : Nat) (x : String × DataW Unit) (a : Addr), l[i]? = some x → As[i]? = some a → ∀ g, P.globalNamed x.1 = some g → W.cell? ⟨g, 0, none⟩ = some (.iface tp (.pointer (some a)))
  | [], ps, _, _, _, _ => ⟨[], rfl, fun a h => absurd h (List.not_mem_nil), List.nodup_nil, fun i x a h => by rw [List.getElem?_nil] at h; cases h⟩
  | (n, d) :: r, ps, h, hnd, hrows, hall => by
    obtain ⟨g, t, cs, fuel, p, q, hg, ht, hv, hd, hr, rfl⟩ := h
    obtain ⟨⟨text, hd2⟩, g2, hg2, ht2⟩ := hall (n, d) (List.mem_cons_self ..)
    simp only at hd2 hg2
    subst hd2
    obtain rfl := Option.some.inj (hg.symm.trans hg2)
    obtain rfl := Option.some.inj (ht.symm.trans ht2)
    obtain ⟨l0⟩ := cs
    have ok0 : ∀ u v, l0 = [.iface u v] → Value.okWide P W .any 0 u v := fun u v e => by
      subst e
      exact (hrows g 0 (by simp [MemPlace.row])).2 u v (by simpa using World.var?_cell hg hv 0)
    obtain ⟨a0, s0, rfl, hc0, hs0, hz0, rfl⟩ := errorString_of_trod hi hrow hp he hft hfo hs hc hcs hd ok0
    have hq : q.Nodup := (List.nodup_append.1 hnd).2.1
    obtain ⟨As, k1, k2, k3, k4⟩ := laid_list hi hrow hp he hft hfo hs hc hcs r q hr hq (fun b off hm => hrows b off (List.mem_append_right _ hm)) (fun x hx => hall x (List.mem_cons_of_mem _ hx))
    have hcell : W.cell? ⟨g, 0, none⟩ = some (.iface tp (.pointer (some a0))) := by simpa using World.var?_cell hg hv 0
    refine ⟨a0 :: As, by simp [k1], ?_, ?_, ?_⟩
    · intro a ha
      rcases List.mem_cons.1 ha with rfl | ha
      · exact List.mem_append_left _ (List.mem_append_right _ (by simp [MemPlace.row]))
      · exact List.mem_append_right _ (k2 a ha)
    · refine List.nodup_cons.2 ⟨fun hm => ?_, k3⟩
      exact (List.nodup_append.1 hnd).2.2 _ (List.mem_append_right _ (by simp [MemPlace.row] : MemPlace.cell a0.block a0.off ∈ MemPlace.row a0 1)) _ (k2 a0 hm) rfl
    · intro i x a hx ha g' hg'
      cases i with
      | zero =>
        simp only [List.getElem?_cons_zero, Option.some.injEq] at hx ha
        subst hx ha
        obtain rfl := Option.some.inj (hg.symm.trans hg')
        exact hcell
      | succ i =>
        simp only [List.getElem?_cons_succ] at hx ha
        exact k4 i x a hx ha g' hg'
theorem star_err : "*" ++ "errors.errorString" = "*errors.errorString" := by decide
theorem laid_errs {l : List (String × DataW Unit)} {W : World} (h : laidMetH Tryd.prog l W) (hp : (l.all fun x => x.2.handleName?.isNone) = true)
    (hall : ∀ x ∈ l, (∃ text, x.2 = .iface "*errors.errorString" (.ptr (.agg [.lit (.string text)]))) ∧ ∃ g, Tryd.prog.globalNamed x.1 = some g ∧ (Tryd.prog.globals[g]?).map (·.type) = some 31)
    (hn : l.map (fun x => Tryd.prog.globalNamed x.1) = GE.map some) : ∃ A, Errs W A := by
  rw [MakeChecks.laidMetH_plain _ _ _ hp] at h
  obtain ⟨ps, hv, hnd, hrows⟩ := h
  obtain ⟨As, k1, k2, k3, k4⟩ := laid_list Tryd.underlying31 (tp := 143) (fun u hu => typeName_ptr_named (nm := "errors.errorString") (by rw [star_err]; kernel_rfl) (by kernel_rfl) (by decide) u (by rw [star_err]; exact hu)) Tryd.underlying143 Tryd.underlying169 rfl rfl Tryd.underlying9 (by kernel_rfl) (by kernel_rfl) l ps hv hnd hrows hall
  have hl : l.length = 15 := by have := congrArg List.length hn; simpa [GE] using this
  have hget : ∀ i, i < 15 → ∃ a, As[i]? = some a ∧ As.getD i ⟨0, 0, none⟩ = a := fun i hi => ⟨As[i]'(by omega), List.getElem?_eq_getElem _, by simp [List.getD, List.getElem?_eq_getElem (show i < As.length by omega)]⟩
  refine ⟨fun i => As.getD i ⟨0, 0, none⟩, ⟨fun i hi => ?_, fun i hi => ?_, fun i j hi hj e => ?_⟩⟩
  · obtain ⟨a, e1, e2⟩ := hget i hi
    have hx : l[i]? = some l[i] := List.getElem?_eq_getElem _
    have hg : Tryd.prog.globalNamed (l[i]'(by omega)).1 = some (GE.getD i 0) := by
      have := congrArg (fun z => z[i]?) hn
      simp only [List.getElem?_map, hx, Option.map_some] at this
      have h2 : GE[i]? = some (GE.getD i 0) := by
        have hi2 : i < GE.length := by simpa [GE] using hi
        simp [List.getD, List.getElem?_eq_getElem hi2]
      rw [h2] at this
      simpa using this
    show W.cell? _ = some (.iface _ (.pointer (some (As.getD i _))))
    rw [e2]
    exact k4 i _ a hx e1 _ hg
  · obtain ⟨a, e1, e2⟩ := hget i hi
    show ∃ c t, W.heap[(As.getD i _).block]? = _
    rw [e2]
    exact (hrows a.block a.off (k2 a (List.mem_of_getElem? e1))).1
  · obtain ⟨a, e1, e2⟩ := hget i hi
    obtain ⟨b, e3, e4⟩ := hget j hj
    have e : As.getD i _ = As.getD j _ := e
    rw [e2, e4] at e
    subst e
    exact (List.getElem?_inj (show i < As.length by omega) k3).1 (e1.trans e3.symm)
/-- Is it the datum of an error of errors.New? -/
def sentB (d : DataW Unit) : Bool := match d with | .iface nm (.ptr (.agg [.lit (.string _)])) => nm == "*errors.errorString" | _ => false
theorem sentB_spec {d : DataW Unit} (h : sentB d = true) : ∃ text, d = .iface "*errors.errorString" (.ptr (.agg [.lit (.string text)])) := by
  unfold sentB at h
  split at h
  · rename_i nm text
    exact ⟨text, by rw [beq_iff_eq.1 h]⟩
  · cases h
theorem laid_errs' {l : List (String × DataW Unit)} {W : World} (h : laidMetH Tryd.prog l W) (hp : (l.all fun x => x.2.handleName?.isNone) = true)
    (hall : (l.all fun x => sentB x.2 && (((Tryd.prog.globalNamed x.1).bind fun g => (Tryd.prog.globals[g]?).map (·.type)) == some 31)) = true)
    (hn : l.map (fun x => Tryd.prog.globalNamed x.1) = GE.map some) : ∃ A, Errs W A := by
  refine laid_errs h hp (fun x hx => ?_) hn
  have h1 := List.all_eq_true.1 hall x hx
  rw [Bool.and_eq_true, beq_iff_eq] at h1
  obtain ⟨g, hg, ht⟩ := Option.bind_eq_some_iff.1 h1.2
  exact ⟨sentB_spec h1.1, g, hg, ht⟩
end Go.Proofs.YtndimnomkcjeiaaDoor.Hand
/- MemberMore: the walk. -/
namespace Go.Proofs.YtndimnomkcjeiaaDoor.Hand
open Go.RowKit Go.Proofs.YtndimnomkcjeiaaDoorW.PrintWords Go.Proofs.YtndimnomkcjeiaaDoorW.PrintMore Go.Proofs.YtndimnomkcjeiaaDoor.Math

theorem SetsRes.yes' {w0 w' : World} {A : Nat → Addr} {g : Gr} {tk : List Int} {e : Ending} (h : SetsRes w0 A g tk e w') (hok : (mayN g tk).1 = 0) : ∃ O Bs Tn, e = .returned (.tuple #[.slice (some ⟨O, 0, none⟩) (tk.length + 1) (tk.length + 1), .nilIface]) ∧ SetsAt w0 g tk O Bs Tn w' := by
  rcases h with ⟨u, h1, h2, _⟩ | ⟨O, Bs, Tn, h1, _, h3⟩
  · exact absurd hok h2
  · exact ⟨O, Bs, Tn, h1, h3⟩
theorem SetsRes.no' {w0 w' : World} {A : Nat → Addr} {g : Gr} {tk : List Int} {e : Ending} (h : SetsRes w0 A g tk e w') (hok : ¬ (mayN g tk).1 = 0) : ∃ u, e = .returned (.tuple #[.slice none 0 0, u]) ∧ ErrV w' A u (mayN g tk).1 (mayN g tk).2 ∧ Below w0.heap.size w0 w' := by
  rcases h with ⟨u, h1, h2, h3, h4⟩ | ⟨O, Bs, Tn, h1, h2, _⟩
  · exact ⟨u, h1, h3, h4⟩
  · exact absurd h2 hok
theorem may_okN' {g : Gr} {tk : List Int} (hok : (mayN g tk).1 = 0) : (checkN g).1 = 0 ∧ tk.length ≤ 40 := by
  unfold mayN at hok
  split at hok
  · rename_i h; exact absurd hok h
  · rename_i h
    split at hok
    · cases hok
    · exact ⟨by omega, by omega⟩
theorem blk_rule {b : Nat} {a c : Value} {t : TypeId} {w : World} (h : w.heap[b]? = some (.cells #[a, c] t (0, 0))) : w.cell? ⟨b, 0, none⟩ = some a ∧ w.cell? ⟨b, 1, none⟩ = some c := by
  refine ⟨?_, ?_⟩ <;> simp [World.cell?, h]
set_option maxHeartbeats 8000000 in
set_option maxRecDepth 100000 in
theorem memberMore_E {w : World} (g : Gr) (v : Value) (hg : GramAt w v g ∧ GramB g) (At : Option Addr) (ct : Nat) (tk : List Int)
    (ht : Kd.C (Kd.int .i64) w At tk.length tk ∧ tk.length * 8 ≤ 140737488351232 ∧ tk.length ≤ ct ∧ ∀ x ∈ tk, (Lit.int .i64 x).wf = true) (x : Int) (B : Option Addr) (c : Nat) (l : List Int) (hl : Kd.C (Kd.int .i64) w B l.length l ∧ l.length * 8 ≤ 140737488351232 ∧ l.length ≤ c ∧ (Lit.int .i64 x).wf = true ∧ ∀ s ∈ l, (Lit.int .i64 s).wf = true) (hE : ∃ A, Errs w A) (hok : ¬ (mayN g tk).1 = 0) :
    Calls Tryd.prog 9 #[v, .slice At tk.length ct, .agg #[.int .i64 x, .slice B l.length c]] w fun e w' => e = .returned (.bool true) ∧ Below w.heap.size w w' := by
  obtain ⟨hv, hB⟩ := hg
  obtain ⟨hr, hl8, hlc, -⟩ := ht
  obtain ⟨hlC, hlB, -, -, -⟩ := hl
  obtain ⟨A, hE⟩ := hE
  have HV := Lib.hid hv
  obtain ⟨AT, cT, AN, cN, AR, cR, rfl, q1, q2, q3, q4, q5, q6⟩ := hv
  clear q4 q5 q6
  obtain ⟨w1, hw1⟩ : ∃ w1, w.alloc (.cells #[.slice AT g.terms.length cT, .slice AN g.nonterms.length cN, .int .i64 g.ax, .slice AR g.rules.length cR] 25) = w1 := ⟨_, rfl⟩
  have hb1 : Below w.heap.size w w1 := by rw [← hw1]; exact below_alloc (Below.refl _ _) _
  have hk1 : w1.heap[w.heap.size]? = some (.cells #[.slice AT g.terms.length cT, .slice AN g.nonterms.length cN, .int .i64 g.ax, .slice AR g.rules.length cR] 25 (0, 0)) := by rw [← hw1]; exact heap_alloc_new w _
  have hs1 : w1.heap.size = w.heap.size + 1 := by rw [← hw1]; exact World.size_alloc _ _
  obtain ⟨w2, hw2⟩ : ∃ w2, w1.alloc (.cells #[.int .i64 x, .slice B l.length c] 51) = w2 := ⟨_, rfl⟩
  have hb2 : Below w1.heap.size w1 w2 := by rw [← hw2]; exact below_alloc (Below.refl _ _) _
  have HKR : Hid (w2.heap[w1.heap.size]? = some (.cells #[.int .i64 x, .slice B l.length c] 51 (0, 0))) := Lib.hid (by rw [← hw2]; exact heap_alloc_new w1 _)
  have HB2 := Lib.hid (below_next hb1 hb2)
  have HK2 := Lib.hid (gblk_keep' hk1 hb2)
  have HG2 := Lib.hid (HV.out.below HB2.out)
  have HE2 := Lib.hid (hE.below HB2.out)
  have HL2 := Lib.hid (Kd.C_below hlC HB2.out)
  have HT2 := Lib.hid (Kd.C_below hr HB2.out)
  have HGB := Lib.hid hB
  have HLG := Lib.hid (fun (W : World) (hW : Below w2.heap.size w2 W) => lentGrammar_calls _ g W (HG2.out.below hW) (by have := hB.terms; omega) (by have := hB.nonterms; omega) (by have := hB.rules; omega) (fun r hr => by have := hB.right r hr; omega))
  have HLI := Lib.hid (fun (W : World) (hW : Below w2.heap.size w2 W) => lentInts_calls At ct tk W (Kd.C_below HT2.out hW) (by omega))
  have HMo := Lib.hid (fun (W : World) (hW : Below w2.heap.size w2 W) => more_calls g _ (HG2.out.below hW) HGB.out x B c l (Kd.C_below HL2.out hW) hlB)
  have HKn := Lib.hid (known_calls w2 A HE2.out)
  clear hb1 hk1 hE hB hb2 hlC hr hs1 hlB hl8
  have HOK := Lib.hid hok
  have hFK : fromK g tk g.ax = (mayN g tk).1 := by unfold fromK; rw [if_pos hok]
  have hFB : fromB g tk g.ax = false := tb_no (fun h => hok (by rw [← hFK]; exact h.1))
  have HFK := Lib.hid hFK
  have HFB := Lib.hid hFB
  have HCV : Hid (cntV g tk = 0 ∧ cntX g tk = false) := Lib.hid ⟨by unfold cntV; rw [if_neg hok], by unfold cntX; rw [if_neg hok]⟩
  clear hok hFK hFB
  obtain ⟨k, hk⟩ : ∃ k, (mayN g tk).1 = k := ⟨_, rfl⟩
  have HKk := Lib.hid hk
  have f3 : ((k : Int) != (k : Int)) = false := bne_self_eq_false _
  clear hk
  go_enter Tryd.func9, Tryd.ntmps9
  go_wp2_with (first
    | (go_at_call 22; refine HKn.out.mono ?_; rintro e w3 ⟨rfl, hb3⟩; have HB3 := Lib.hid hb3; obtain ⟨d0, d1, d2, d3⟩ := blk_cells2 (gblk_keep' HK2.out HB3.out); obtain ⟨f0, f1⟩ := blk_rule (gblk_keep' HKR.out HB3.out); clear hb3)
    | (go_at_call 14; refine (kind_calls (HE2.out.below HB10.out) HU10.out).mono ?_; rintro e w11 ⟨rfl, hb11⟩; have HB11 := Lib.hid (below_next HB10.out hb11); clear d0 d1 d2 d3 f0 f1; obtain ⟨d0, d1, d2, d3⟩ := blk_cells2 (gblk_keep' HK2.out HB11.out); obtain ⟨f0, f1⟩ := blk_rule (gblk_keep' HKR.out HB11.out); clear hb11)
    | (go_at_call 14; refine (kind_calls (HE2.out.below HB9.out) HU6'.out).mono ?_; rintro e w10 ⟨rfl, hb10⟩; have HB10 := Lib.hid (below_next HB9.out hb10); have HU10 := Lib.hid (HU9.out.below hb10); clear d0 d1 d2 d3 f0 f1; obtain ⟨d0, d1, d2, d3⟩ := blk_cells2 (gblk_keep' HK2.out HB10.out); obtain ⟨f0, f1⟩ := blk_rule (gblk_keep' HKR.out HB10.out); clear hb10)
    | (go_at_call 23; refine (count_calls _ g Al8 cl8 tk w8 A (HE2.out.below HB8.out) HLt8.out HCl8.out HRl8.out).mono ?_; rintro e w9 ⟨u9, r9, rfl, hu9, hb9⟩; rw [HCV.out.1, HCV.out.2]; rw [HKk.out] at hu9; obtain ⟨T9, p9, hT9, rfl⟩ := hu9.iface_of (by rw [← HKk.out]; exact HOK.out); have HB9 := Lib.hid (below_next HB8.out hb9); have HU9 := Lib.hid hu9; have HU6' := Lib.hid (HU6.out.below (below_next (below_next Q7.out Q8.out) hb9)); clear d0 d1 d2 d3 f0 f1; obtain ⟨d0, d1, d2, d3⟩ := blk_cells2 (gblk_keep' HK2.out HB9.out); obtain ⟨f0, f1⟩ := blk_rule (gblk_keep' HKR.out HB9.out); clear hu9 hb9)
    | (go_at_call 18; refine (mderives_calls _ g Al5 cl5 tk w5 A (HE2.out.below HB5.out) HLt5.out HCl5.out HRl5.out).mono ?_; rintro e w6 ⟨u6, r6, rfl, hu6, hb6⟩; rw [HFB.out]; rw [HFK.out, HKk.out] at hu6; have HU6 := Lib.hid hu6; obtain ⟨T6, p6, hT6, rfl⟩ := hu6.iface_of (by rw [← HKk.out]; exact HOK.out); have HB6 := Lib.hid (below_next HB5.out hb6); clear d0 d1 d2 d3 f0 f1; obtain ⟨d0, d1, d2, d3⟩ := blk_cells2 (gblk_keep' HK2.out HB6.out); obtain ⟨f0, f1⟩ := blk_rule (gblk_keep' HKR.out HB6.out); clear hu6 hb6)
    | (go_at_call 11; refine (HLI.out w7 HB7.out).mono ?_; rintro e w8 ⟨Al8, cl8, rfl, hcl8, hrl8, hb8⟩; have HRl8 := Lib.hid (lent_C (a := Kd.int .i64) (by have := Kd.R_reads' hrl8; have h2 := this.2.2; rwa [← this.1] at h2)); have HCl8 : Hid (tk.length ≤ cl8) := Lib.hid (by omega); have HB8 := Lib.hid (below_next HB7.out hb8); have HLt8 := Lib.hid (HLt7.out.below hb8); have Q8 := Lib.hid hb8; clear hrl8 hb8 hcl8)
    | (go_at_call 10; refine (HLG.out w6 HB6.out).mono ?_; rintro e w7 ⟨u7, rfl, hu7, hb7⟩; have HLt7 := Lib.hid hu7.plain; have HB7 := Lib.hid (below_next HB6.out hb7); have Q7 := Lib.hid hb7; clear hu7 hb7)
    | (go_at_call 11; refine (HLI.out w4 HB4.out).mono ?_; rintro e w5 ⟨Al5, cl5, rfl, hcl5, hrl5, hb5⟩; have HRl5 := Lib.hid (lent_C (a := Kd.int .i64) (by have := Kd.R_reads' hrl5; have h2 := this.2.2; rwa [← this.1] at h2)); have HCl5 : Hid (tk.length ≤ cl5) := Lib.hid (by omega); have HB5 := Lib.hid (below_next HB4.out hb5); have HLt5 := Lib.hid (HLt4.out.below hb5); have Q5 := Lib.hid hb5; clear hrl5 hb5 hcl5)
    | (go_at_call 10; refine (HLG.out w3 HB3.out).mono ?_; rintro e w4 ⟨u4, rfl, hu4, hb4⟩; have HLt4 := Lib.hid hu4.plain; have HB4 := Lib.hid (below_next HB3.out hb4); have Q4 := Lib.hid hb4; clear hu4 hb4))
  go_ret
  exact ⟨rfl, below_next HB2.out HB11.out⟩
set_option maxHeartbeats 8000000 in
set_option maxRecDepth 100000 in
theorem memberMore_M1 {w : World} (g : Gr) (v : Value) (hg : GramAt w v g ∧ GramB g) (At : Option Addr) (ct : Nat) (tk : List Int)
    (ht : Kd.C (Kd.int .i64) w At tk.length tk ∧ tk.length * 8 ≤ 140737488351232 ∧ tk.length ≤ ct ∧ ∀ x ∈ tk, (Lit.int .i64 x).wf = true) (x : Int) (B : Option Addr) (c : Nat) (l : List Int) (hl : Kd.C (Kd.int .i64) w B l.length l ∧ l.length * 8 ≤ 140737488351232 ∧ l.length ≤ c ∧ (Lit.int .i64 x).wf = true ∧ ∀ s ∈ l, (Lit.int .i64 s).wf = true) (hE : ∃ A, Errs w A) (hok : (mayN g tk).1 = 0) (hcv : cntV g tk = 0) (hcx : cntX g tk = true) (hfb : fromB g tk g.ax = true) (hm : ¬ (mayN (moreG g (x, l)) tk).1 = 0) :
    Calls Tryd.prog 9 #[v, .slice At tk.length ct, .agg #[.int .i64 x, .slice B l.length c]] w fun e w' => e = .returned (.bool true) ∧ Below w.heap.size w w' := by
  obtain ⟨hv, hB⟩ := hg
  obtain ⟨hr, hl8, hlc, -⟩ := ht
  obtain ⟨hlC, hlB, -, -, -⟩ := hl
  obtain ⟨A, hE⟩ := hE
  have HV := Lib.hid hv
  obtain ⟨AT, cT, AN, cN, AR, cR, rfl, q1, q2, q3, q4, q5, q6⟩ := hv
  clear q4 q5 q6
  obtain ⟨w1, hw1⟩ : ∃ w1, w.alloc (.cells #[.slice AT g.terms.length cT, .slice AN g.nonterms.length cN, .int .i64 g.ax, .slice AR g.rules.length cR] 25) = w1 := ⟨_, rfl⟩
  have hb1 : Below w.heap.size w w1 := by rw [← hw1]; exact below_alloc (Below.refl _ _) _
  have hk1 : w1.heap[w.heap.size]? = some (.cells #[.slice AT g.terms.length cT, .slice AN g.nonterms.length cN, .int .i64 g.ax, .slice AR g.rules.length cR] 25 (0, 0)) := by rw [← hw1]; exact heap_alloc_new w _
  have hs1 : w1.heap.size = w.heap.size + 1 := by rw [← hw1]; exact World.size_alloc _ _
  obtain ⟨w2, hw2⟩ : ∃ w2, w1.alloc (.cells #[.int .i64 x, .slice B l.length c] 51) = w2 := ⟨_, rfl⟩
  have hb2 : Below w1.heap.size w1 w2 := by rw [← hw2]; exact below_alloc (Below.refl _ _) _
  have HKR : Hid (w2.heap[w1.heap.size]? = some (.cells #[.int .i64 x, .slice B l.length c] 51 (0, 0))) := Lib.hid (by rw [← hw2]; exact heap_alloc_new w1 _)
  have HB2 := Lib.hid (below_next hb1 hb2)
  have HK2 := Lib.hid (gblk_keep' hk1 hb2)
  have HG2 := Lib.hid (HV.out.below HB2.out)
  have HE2 := Lib.hid (hE.below HB2.out)
  have HL2 := Lib.hid (Kd.C_below hlC HB2.out)
  have HT2 := Lib.hid (Kd.C_below hr HB2.out)
  have HGB := Lib.hid hB
  have HLG := Lib.hid (fun (W : World) (hW : Below w2.heap.size w2 W) => lentGrammar_calls _ g W (HG2.out.below hW) (by have := hB.terms; omega) (by have := hB.nonterms; omega) (by have := hB.rules; omega) (fun r hr => by have := hB.right r hr; omega))
  have HLI := Lib.hid (fun (W : World) (hW : Below w2.heap.size w2 W) => lentInts_calls At ct tk W (Kd.C_below HT2.out hW) (by omega))
  have HMo := Lib.hid (fun (W : World) (hW : Below w2.heap.size w2 W) => more_calls g _ (HG2.out.below hW) HGB.out x B c l (Kd.C_below HL2.out hW) hlB)
  have HKn := Lib.hid (known_calls w2 A HE2.out)
  clear hb1 hk1 hE hB hb2 hlC hr hs1 hlB hl8
  obtain ⟨hc0, hn40⟩ := may_okN' hok
  obtain ⟨z1, z2, z3, z4, z5, z6, z7⟩ := checkN_zero hc0
  have HOK := Lib.hid hok
  have HN60 : Hid (g.nonterms.length ≤ 60) := Lib.hid (by omega)
  have HFK : Hid (fromK g tk g.ax = 0) := Lib.hid (by unfold fromK; rw [if_neg (by simp [hok]), if_neg (by omega)])
  obtain ⟨n1, hn1⟩ : ∃ n1 : Nat, n1 = tk.length + 1 := ⟨_, rfl⟩
  have HN1 := Lib.hid hn1
  have hn41 : n1 ≤ 41 := by omega
  have HCV := Lib.hid (And.intro hcv hcx)
  have HFB := Lib.hid hfb
  clear z1 z2 z3 z4 z5 z6 z7 hc0 hok hn1 hn40 hcv hcx hfb
  have HM := Lib.hid hm
  clear hm
  go_enter Tryd.func9, Tryd.ntmps9
  go_wp2_with (first
    | (go_at_call 22; refine HKn.out.mono ?_; rintro e w3 ⟨rfl, hb3⟩; have HB3 := Lib.hid hb3; obtain ⟨d0, d1, d2, d3⟩ := blk_cells2 (gblk_keep' HK2.out HB3.out); obtain ⟨f0, f1⟩ := blk_rule (gblk_keep' HKR.out HB3.out); clear hb3)
    | (go_at_call 12; refine (msets_calls _ (moreG g (x, l)) Al16 cl16 tk w16 A (HE2.out.below HB16.out) HLt16.out HCl16.out HRl16.out).mono ?_; rintro e w17 h17; obtain ⟨u17, rfl, hu17, hb17⟩ := h17.no' HM.out; obtain ⟨T17, p17, hT17, rfl⟩ := hu17.iface_of HM.out; have HB17 := Lib.hid (below_next HB16.out hb17); clear d0 d1 d2 d3 f0 f1; clear h17 hu17 hb17)
    | (go_at_call 12; refine (msets_calls _ g Al13 cl13 tk w13 A (HE2.out.below HB13.out) HLt13.out HCl13.out HRl13.out).mono ?_; rintro e w14 h14; obtain ⟨O, Bs, Tn, rfl, hs14⟩ := h14.yes' HOK.out; rw [← HN1.out]; have HB14 := Lib.hid (below_next HB13.out hs14.bel); have HS14 := Lib.hid hs14; clear d0 d1 d2 d3 f0 f1; obtain ⟨d0, d1, d2, d3⟩ := blk_cells2 (gblk_keep' HK2.out HB14.out); obtain ⟨f0, f1⟩ := blk_rule (gblk_keep' HKR.out HB14.out); clear h14 hs14)
    | (go_at_call 11; refine (HLI.out w15 HB15.out).mono ?_; rintro e w16 ⟨Al16, cl16, rfl, hcl16, hrl16, hb16⟩; have HRl16 := Lib.hid (lent_C (a := Kd.int .i64) (by have := Kd.R_reads' hrl16; have h2 := this.2.2; rwa [← this.1] at h2)); have HCl16 : Hid (tk.length ≤ cl16) := Lib.hid (by omega); have HB16 := Lib.hid (below_next HB15.out hb16); have HLt16 := Lib.hid (HLt15.out.below hb16); have Q16 := Lib.hid hb16; clear hrl16 hb16 hcl16)
    | (go_at_call 30; refine (HMo.out w14 HB14.out).mono ?_; rintro e w15 ⟨u15, rfl, hu15, hb15⟩; have HLt15 := Lib.hid hu15; have HB15 := Lib.hid (below_next HB14.out hb15); have Q15 := Lib.hid hb15; clear hu15 hb15)
    | (go_at_call 11; refine (HLI.out w12 HB12.out).mono ?_; rintro e w13 ⟨Al13, cl13, rfl, hcl13, hrl13, hb13⟩; have HRl13 := Lib.hid (lent_C (a := Kd.int .i64) (by have := Kd.R_reads' hrl13; have h2 := this.2.2; rwa [← this.1] at h2)); have HCl13 : Hid (tk.length ≤ cl13) := Lib.hid (by omega); have HB13 := Lib.hid (below_next HB12.out hb13); have HLt13 := Lib.hid (HLt12.out.below hb13); have Q13 := Lib.hid hb13; clear hrl13 hb13 hcl13)
    | (go_at_call 10; refine (HLG.out w11 HB11.out).mono ?_; rintro e w12 ⟨u12, rfl, hu12, hb12⟩; have HLt12 := Lib.hid hu12.plain; have HB12 := Lib.hid (below_next HB11.out hb12); have Q12 := Lib.hid hb12; clear hu12 hb12)
    | (go_at_call 14; refine (kind_calls (HE2.out.below HB10.out) HU10.out).mono ?_; rintro e w11 ⟨rfl, hb11⟩; have HB11 := Lib.hid (below_next HB10.out hb11); clear d0 d1 d2 d3 f0 f1; obtain ⟨d0, d1, d2, d3⟩ := blk_cells2 (gblk_keep' HK2.out HB11.out); obtain ⟨f0, f1⟩ := blk_rule (gblk_keep' HKR.out HB11.out); clear hb11)
    | (go_at_call 14; refine (kind_calls (HE2.out.below HB9.out) HU6'.out).mono ?_; rintro e w10 ⟨rfl, hb10⟩; have HB10 := Lib.hid (below_next HB9.out hb10); have HU10 := Lib.hid (HU9.out.below hb10); clear d0 d1 d2 d3 f0 f1; obtain ⟨d0, d1, d2, d3⟩ := blk_cells2 (gblk_keep' HK2.out HB10.out); obtain ⟨f0, f1⟩ := blk_rule (gblk_keep' HKR.out HB10.out); clear hb10)
    | (go_at_call 23; refine (count_calls _ g Al8 cl8 tk w8 A (HE2.out.below HB8.out) HLt8.out HCl8.out HRl8.out).mono ?_; rintro e w9 ⟨u9, r9, rfl, hu9, hb9⟩; rw [HCV.out.1, HCV.out.2]; rw [HOK.out] at hu9; obtain rfl := hu9.nil_of rfl; have HB9 := Lib.hid (below_next HB8.out hb9); have HU9 := Lib.hid hu9; have HU6' := Lib.hid (HU6.out.below (below_next (below_next Q7.out Q8.out) hb9)); clear d0 d1 d2 d3 f0 f1; obtain ⟨d0, d1, d2, d3⟩ := blk_cells2 (gblk_keep' HK2.out HB9.out); obtain ⟨f0, f1⟩ := blk_rule (gblk_keep' HKR.out HB9.out); clear hu9 hb9)
    | (go_at_call 18; refine (mderives_calls _ g Al5 cl5 tk w5 A (HE2.out.below HB5.out) HLt5.out HCl5.out HRl5.out).mono ?_; rintro e w6 ⟨u6, r6, rfl, hu6, hb6⟩; rw [HFB.out]; rw [HFK.out] at hu6; have HU6 := Lib.hid hu6; obtain rfl := hu6.nil_of rfl; have HB6 := Lib.hid (below_next HB5.out hb6); clear d0 d1 d2 d3 f0 f1; obtain ⟨d0, d1, d2, d3⟩ := blk_cells2 (gblk_keep' HK2.out HB6.out); obtain ⟨f0, f1⟩ := blk_rule (gblk_keep' HKR.out HB6.out); clear hu6 hb6)
    | (go_at_call 11; refine (HLI.out w7 HB7.out).mono ?_; rintro e w8 ⟨Al8, cl8, rfl, hcl8, hrl8, hb8⟩; have HRl8 := Lib.hid (lent_C (a := Kd.int .i64) (by have := Kd.R_reads' hrl8; have h2 := this.2.2; rwa [← this.1] at h2)); have HCl8 : Hid (tk.length ≤ cl8) := Lib.hid (by omega); have HB8 := Lib.hid (below_next HB7.out hb8); have HLt8 := Lib.hid (HLt7.out.below hb8); have Q8 := Lib.hid hb8; clear hrl8 hb8 hcl8)
    | (go_at_call 10; refine (HLG.out w6 HB6.out).mono ?_; rintro e w7 ⟨u7, rfl, hu7, hb7⟩; have HLt7 := Lib.hid hu7.plain; have HB7 := Lib.hid (below_next HB6.out hb7); have Q7 := Lib.hid hb7; clear hu7 hb7)
    | (go_at_call 11; refine (HLI.out w4 HB4.out).mono ?_; rintro e w5 ⟨Al5, cl5, rfl, hcl5, hrl5, hb5⟩; have HRl5 := Lib.hid (lent_C (a := Kd.int .i64) (by have := Kd.R_reads' hrl5; have h2 := this.2.2; rwa [← this.1] at h2)); have HCl5 : Hid (tk.length ≤ cl5) := Lib.hid (by omega); have HB5 := Lib.hid (below_next HB4.out hb5); have HLt5 := Lib.hid (HLt4.out.below hb5); have Q5 := Lib.hid hb5; clear hrl5 hb5 hcl5)
    | (go_at_call 10; refine (HLG.out w3 HB3.out).mono ?_; rintro e w4 ⟨u4, rfl, hu4, hb4⟩; have HLt4 := Lib.hid hu4.plain; have HB4 := Lib.hid (below_next HB3.out hb4); have Q4 := Lib.hid hb4; clear hu4 hb4))
  go_ret
  exact ⟨rfl, below_next HB2.out HB17.out⟩
set_option maxHeartbeats 8000000 in
set_option maxRecDepth 100000 in
theorem memberMore_M2 {w : World} (g : Gr) (v : Value) (hg : GramAt w v g ∧ GramB g) (At : Option Addr) (ct : Nat) (tk : List Int)
    (ht : Kd.C (Kd.int .i64) w At tk.length tk ∧ tk.length * 8 ≤ 140737488351232 ∧ tk.length ≤ ct ∧ ∀ x ∈ tk, (Lit.int .i64 x).wf = true) (x : Int) (B : Option Addr) (c : Nat) (l : List Int) (hl : Kd.C (Kd.int .i64) w B l.length l ∧ l.length * 8 ≤ 140737488351232 ∧ l.length ≤ c ∧ (Lit.int .i64 x).wf = true ∧ ∀ s ∈ l, (Lit.int .i64 s).wf = true) (hE : ∃ A, Errs w A) (hok : (mayN g tk).1 = 0) (hcv : cntV g tk = 0) (hcx : cntX g tk = false) (hfb : fromB g tk g.ax = false) (hm : ¬ (mayN (moreG g (x, l)) tk).1 = 0) :
    Calls Tryd.prog 9 #[v, .slice At tk.length ct, .agg #[.int .i64 x, .slice B l.length c]] w fun e w' => e = .returned (.bool true) ∧ Below w.heap.size w w' := by
  obtain ⟨hv, hB⟩ := hg
  obtain ⟨hr, hl8, hlc, -⟩ := ht
  obtain ⟨hlC, hlB, -, -, -⟩ := hl
  obtain ⟨A, hE⟩ := hE
  have HV := Lib.hid hv
  obtain ⟨AT, cT, AN, cN, AR, cR, rfl, q1, q2, q3, q4, q5, q6⟩ := hv
  clear q4 q5 q6
  obtain ⟨w1, hw1⟩ : ∃ w1, w.alloc (.cells #[.slice AT g.terms.length cT, .slice AN g.nonterms.length cN, .int .i64 g.ax, .slice AR g.rules.length cR] 25) = w1 := ⟨_, rfl⟩
  have hb1 : Below w.heap.size w w1 := by rw [← hw1]; exact below_alloc (Below.refl _ _) _
  have hk1 : w1.heap[w.heap.size]? = some (.cells #[.slice AT g.terms.length cT, .slice AN g.nonterms.length cN, .int .i64 g.ax, .slice AR g.rules.length cR] 25 (0, 0)) := by rw [← hw1]; exact heap_alloc_new w _
  have hs1 : w1.heap.size = w.heap.size + 1 := by rw [← hw1]; exact World.size_alloc _ _
  obtain ⟨w2, hw2⟩ : ∃ w2, w1.alloc (.cells #[.int .i64 x, .slice B l.length c] 51) = w2 := ⟨_, rfl⟩
  have hb2 : Below w1.heap.size w1 w2 := by rw [← hw2]; exact below_alloc (Below.refl _ _) _
  have HKR : Hid (w2.heap[w1.heap.size]? = some (.cells #[.int .i64 x, .slice B l.length c] 51 (0, 0))) := Lib.hid (by rw [← hw2]; exact heap_alloc_new w1 _)
  have HB2 := Lib.hid (below_next hb1 hb2)
  have HK2 := Lib.hid (gblk_keep' hk1 hb2)
  have HG2 := Lib.hid (HV.out.below HB2.out)
  have HE2 := Lib.hid (hE.below HB2.out)
  have HL2 := Lib.hid (Kd.C_below hlC HB2.out)
  have HT2 := Lib.hid (Kd.C_below hr HB2.out)
  have HGB := Lib.hid hB
  have HLG := Lib.hid (fun (W : World) (hW : Below w2.heap.size w2 W) => lentGrammar_calls _ g W (HG2.out.below hW) (by have := hB.terms; omega) (by have := hB.nonterms; omega) (by have := hB.rules; omega) (fun r hr => by have := hB.right r hr; omega))
  have HLI := Lib.hid (fun (W : World) (hW : Below w2.heap.size w2 W) => lentInts_calls At ct tk W (Kd.C_below HT2.out hW) (by omega))
  have HMo := Lib.hid (fun (W : World) (hW : Below w2.heap.size w2 W) => more_calls g _ (HG2.out.below hW) HGB.out x B c l (Kd.C_below HL2.out hW) hlB)
  have HKn := Lib.hid (known_calls w2 A HE2.out)
  clear hb1 hk1 hE hB hb2 hlC hr hs1 hlB hl8
  obtain ⟨hc0, hn40⟩ := may_okN' hok
  obtain ⟨z1, z2, z3, z4, z5, z6, z7⟩ := checkN_zero hc0
  have HOK := Lib.hid hok
  have HN60 : Hid (g.nonterms.length ≤ 60) := Lib.hid (by omega)
  have HFK : Hid (fromK g tk g.ax = 0) := Lib.hid (by unfold fromK; rw [if_neg (by simp [hok]), if_neg (by omega)])
  obtain ⟨n1, hn1⟩ : ∃ n1 : Nat, n1 = tk.length + 1 := ⟨_, rfl⟩
  have HN1 := Lib.hid hn1
  have hn41 : n1 ≤ 41 := by omega
  have HCV := Lib.hid (And.intro hcv hcx)
  have HFB := Lib.hid hfb
  clear z1 z2 z3 z4 z5 z6 z7 hc0 hok hn1 hn40 hcv hcx hfb
  have HM := Lib.hid hm
  clear hm
  go_enter Tryd.func9, Tryd.ntmps9
  go_wp2_with (first
    | (go_at_call 22; refine HKn.out.mono ?_; rintro e w3 ⟨rfl, hb3⟩; have HB3 := Lib.hid hb3; obtain ⟨d0, d1, d2, d3⟩ := blk_cells2 (gblk_keep' HK2.out HB3.out); obtain ⟨f0, f1⟩ := blk_rule (gblk_keep' HKR.out HB3.out); clear hb3)
    | (go_at_call 12; refine (msets_calls _ (moreG g (x, l)) Al16 cl16 tk w16 A (HE2.out.below HB16.out) HLt16.out HCl16.out HRl16.out).mono ?_; rintro e w17 h17; obtain ⟨u17, rfl, hu17, hb17⟩ := h17.no' HM.out; obtain ⟨T17, p17, hT17, rfl⟩ := hu17.iface_of HM.out; have HB17 := Lib.hid (below_next HB16.out hb17); clear d0 d1 d2 d3 f0 f1; clear h17 hu17 hb17)
    | (go_at_call 12; refine (msets_calls _ g Al13 cl13 tk w13 A (HE2.out.below HB13.out) HLt13.out HCl13.out HRl13.out).mono ?_; rintro e w14 h14; obtain ⟨O, Bs, Tn, rfl, hs14⟩ := h14.yes' HOK.out; rw [← HN1.out]; have HB14 := Lib.hid (below_next HB13.out hs14.bel); have HS14 := Lib.hid hs14; clear d0 d1 d2 d3 f0 f1; obtain ⟨d0, d1, d2, d3⟩ := blk_cells2 (gblk_keep' HK2.out HB14.out); obtain ⟨f0, f1⟩ := blk_rule (gblk_keep' HKR.out HB14.out); clear h14 hs14)
    | (go_at_call 11; refine (HLI.out w15 HB15.out).mono ?_; rintro e w16 ⟨Al16, cl16, rfl, hcl16, hrl16, hb16⟩; have HRl16 := Lib.hid (lent_C (a := Kd.int .i64) (by have := Kd.R_reads' hrl16; have h2 := this.2.2; rwa [← this.1] at h2)); have HCl16 : Hid (tk.length ≤ cl16) := Lib.hid (by omega); have HB16 := Lib.hid (below_next HB15.out hb16); have HLt16 := Lib.hid (HLt15.out.below hb16); have Q16 := Lib.hid hb16; clear hrl16 hb16 hcl16)
    | (go_at_call 30; refine (HMo.out w14 HB14.out).mono ?_; rintro e w15 ⟨u15, rfl, hu15, hb15⟩; have HLt15 := Lib.hid hu15; have HB15 := Lib.hid (below_next HB14.out hb15); have Q15 := Lib.hid hb15; clear hu15 hb15)
    | (go_at_call 11; refine (HLI.out w12 HB12.out).mono ?_; rintro e w13 ⟨Al13, cl13, rfl, hcl13, hrl13, hb13⟩; have HRl13 := Lib.hid (lent_C (a := Kd.int .i64) (by have := Kd.R_reads' hrl13; have h2 := this.2.2; rwa [← this.1] at h2)); have HCl13 : Hid (tk.length ≤ cl13) := Lib.hid (by omega); have HB13 := Lib.hid (below_next HB12.out hb13); have HLt13 := Lib.hid (HLt12.out.below hb13); have Q13 := Lib.hid hb13; clear hrl13 hb13 hcl13)
    | (go_at_call 10; refine (HLG.out w11 HB11.out).mono ?_; rintro e w12 ⟨u12, rfl, hu12, hb12⟩; have HLt12 := Lib.hid hu12.plain; have HB12 := Lib.hid (below_next HB11.out hb12); have Q12 := Lib.hid hb12; clear hu12 hb12)
    | (go_at_call 14; refine (kind_calls (HE2.out.below HB10.out) HU10.out).mono ?_; rintro e w11 ⟨rfl, hb11⟩; have HB11 := Lib.hid (below_next HB10.out hb11); clear d0 d1 d2 d3 f0 f1; obtain ⟨d0, d1, d2, d3⟩ := blk_cells2 (gblk_keep' HK2.out HB11.out); obtain ⟨f0, f1⟩ := blk_rule (gblk_keep' HKR.out HB11.out); clear hb11)
    | (go_at_call 14; refine (kind_calls (HE2.out.below HB9.out) HU6'.out).mono ?_; rintro e w10 ⟨rfl, hb10⟩; have HB10 := Lib.hid (below_next HB9.out hb10); have HU10 := Lib.hid (HU9.out.below hb10); clear d0 d1 d2 d3 f0 f1; obtain ⟨d0, d1, d2, d3⟩ := blk_cells2 (gblk_keep' HK2.out HB10.out); obtain ⟨f0, f1⟩ := blk_rule (gblk_keep' HKR.out HB10.out); clear hb10)
    | (go_at_call 23; refine (count_calls _ g Al8 cl8 tk w8 A (HE2.out.below HB8.out) HLt8.out HCl8.out HRl8.out).mono ?_; rintro e w9 ⟨u9, r9, rfl, hu9, hb9⟩; rw [HCV.out.1, HCV.out.2]; rw [HOK.out] at hu9; obtain rfl := hu9.nil_of rfl; have HB9 := Lib.hid (below_next HB8.out hb9); have HU9 := Lib.hid hu9; have HU6' := Lib.hid (HU6.out.below (below_next (below_next Q7.out Q8.out) hb9)); clear d0 d1 d2 d3 f0 f1; obtain ⟨d0, d1, d2, d3⟩ := blk_cells2 (gblk_keep' HK2.out HB9.out); obtain ⟨f0, f1⟩ := blk_rule (gblk_keep' HKR.out HB9.out); clear hu9 hb9)
    | (go_at_call 18; refine (mderives_calls _ g Al5 cl5 tk w5 A (HE2.out.below HB5.out) HLt5.out HCl5.out HRl5.out).mono ?_; rintro e w6 ⟨u6, r6, rfl, hu6, hb6⟩; rw [HFB.out]; rw [HFK.out] at hu6; have HU6 := Lib.hid hu6; obtain rfl := hu6.nil_of rfl; have HB6 := Lib.hid (below_next HB5.out hb6); clear d0 d1 d2 d3 f0 f1; obtain ⟨d0, d1, d2, d3⟩ := blk_cells2 (gblk_keep' HK2.out HB6.out); obtain ⟨f0, f1⟩ := blk_rule (gblk_keep' HKR.out HB6.out); clear hu6 hb6)
    | (go_at_call 11; refine (HLI.out w7 HB7.out).mono ?_; rintro e w8 ⟨Al8, cl8, rfl, hcl8, hrl8, hb8⟩; have HRl8 := Lib.hid (lent_C (a := Kd.int .i64) (by have := Kd.R_reads' hrl8; have h2 := this.2.2; rwa [← this.1] at h2)); have HCl8 : Hid (tk.length ≤ cl8) := Lib.hid (by omega); have HB8 := Lib.hid (below_next HB7.out hb8); have HLt8 := Lib.hid (HLt7.out.below hb8); have Q8 := Lib.hid hb8; clear hrl8 hb8 hcl8)
    | (go_at_call 10; refine (HLG.out w6 HB6.out).mono ?_; rintro e w7 ⟨u7, rfl, hu7, hb7⟩; have HLt7 := Lib.hid hu7.plain; have HB7 := Lib.hid (below_next HB6.out hb7); have Q7 := Lib.hid hb7; clear hu7 hb7)
    | (go_at_call 11; refine (HLI.out w4 HB4.out).mono ?_; rintro e w5 ⟨Al5, cl5, rfl, hcl5, hrl5, hb5⟩; have HRl5 := Lib.hid (lent_C (a := Kd.int .i64) (by have := Kd.R_reads' hrl5; have h2 := this.2.2; rwa [← this.1] at h2)); have HCl5 : Hid (tk.length ≤ cl5) := Lib.hid (by omega); have HB5 := Lib.hid (below_next HB4.out hb5); have HLt5 := Lib.hid (HLt4.out.below hb5); have Q5 := Lib.hid hb5; clear hrl5 hb5 hcl5)
    | (go_at_call 10; refine (HLG.out w3 HB3.out).mono ?_; rintro e w4 ⟨u4, rfl, hu4, hb4⟩; have HLt4 := Lib.hid hu4.plain; have HB4 := Lib.hid (below_next HB3.out hb4); have Q4 := Lib.hid hb4; clear hu4 hb4))
  go_ret
  exact ⟨rfl, below_next HB2.out HB17.out⟩
set_option maxHeartbeats 8000000 in
set_option maxRecDepth 100000 in
theorem memberMore_M3 {w : World} (g : Gr) (v : Value) (hg : GramAt w v g ∧ GramB g) (At : Option Addr) (ct : Nat) (tk : List Int)
    (ht : Kd.C (Kd.int .i64) w At tk.length tk ∧ tk.length * 8 ≤ 140737488351232 ∧ tk.length ≤ ct ∧ ∀ x ∈ tk, (Lit.int .i64 x).wf = true) (x : Int) (B : Option Addr) (c : Nat) (l : List Int) (hl : Kd.C (Kd.int .i64) w B l.length l ∧ l.length * 8 ≤ 140737488351232 ∧ l.length ≤ c ∧ (Lit.int .i64 x).wf = true ∧ ∀ s ∈ l, (Lit.int .i64 s).wf = true) (hE : ∃ A, Errs w A) (hok : (mayN g tk).1 = 0) (n : Nat) (hn0 : 0 < n) (hcv : cntV g tk = n) (hcx : cntX g tk = false) (hfb : fromB g tk g.ax = true) (hm : ¬ (mayN (moreG g (x, l)) tk).1 = 0) :
    Calls Tryd.prog 9 #[v, .slice At tk.length ct, .agg #[.int .i64 x, .slice B l.length c]] w fun e w' => e = .returned (.bool true) ∧ Below w.heap.size w w' := by
  obtain ⟨hv, hB⟩ := hg
  obtain ⟨hr, hl8, hlc, -⟩ := ht
  obtain ⟨hlC, hlB, -, -, -⟩ := hl
  obtain ⟨A, hE⟩ := hE
  have HV := Lib.hid hv
  obtain ⟨AT, cT, AN, cN, AR, cR, rfl, q1, q2, q3, q4, q5, q6⟩ := hv
  clear q4 q5 q6
  obtain ⟨w1, hw1⟩ : ∃ w1, w.alloc (.cells #[.slice AT g.terms.length cT, .slice AN g.nonterms.length cN, .int .i64 g.ax, .slice AR g.rules.length cR] 25) = w1 := ⟨_, rfl⟩
  have hb1 : Below w.heap.size w w1 := by rw [← hw1]; exact below_alloc (Below.refl _ _) _
  have hk1 : w1.heap[w.heap.size]? = some (.cells #[.slice AT g.terms.length cT, .slice AN g.nonterms.length cN, .int .i64 g.ax, .slice AR g.rules.length cR] 25 (0, 0)) := by rw [← hw1]; exact heap_alloc_new w _
  have hs1 : w1.heap.size = w.heap.size + 1 := by rw [← hw1]; exact World.size_alloc _ _
  obtain ⟨w2, hw2⟩ : ∃ w2, w1.alloc (.cells #[.int .i64 x, .slice B l.length c] 51) = w2 := ⟨_, rfl⟩
  have hb2 : Below w1.heap.size w1 w2 := by rw [← hw2]; exact below_alloc (Below.refl _ _) _
  have HKR : Hid (w2.heap[w1.heap.size]? = some (.cells #[.int .i64 x, .slice B l.length c] 51 (0, 0))) := Lib.hid (by rw [← hw2]; exact heap_alloc_new w1 _)
  have HB2 := Lib.hid (below_next hb1 hb2)
  have HK2 := Lib.hid (gblk_keep' hk1 hb2)
  have HG2 := Lib.hid (HV.out.below HB2.out)
  have HE2 := Lib.hid (hE.below HB2.out)
  have HL2 := Lib.hid (Kd.C_below hlC HB2.out)
  have HT2 := Lib.hid (Kd.C_below hr HB2.out)
  have HGB := Lib.hid hB
  have HLG := Lib.hid (fun (W : World) (hW : Below w2.heap.size w2 W) => lentGrammar_calls _ g W (HG2.out.below hW) (by have := hB.terms; omega) (by have := hB.nonterms; omega) (by have := hB.rules; omega) (fun r hr => by have := hB.right r hr; omega))
  have HLI := Lib.hid (fun (W : World) (hW : Below w2.heap.size w2 W) => lentInts_calls At ct tk W (Kd.C_below HT2.out hW) (by omega))
  have HMo := Lib.hid (fun (W : World) (hW : Below w2.heap.size w2 W) => more_calls g _ (HG2.out.below hW) HGB.out x B c l (Kd.C_below HL2.out hW) hlB)
  have HKn := Lib.hid (known_calls w2 A HE2.out)
  clear hb1 hk1 hE hB hb2 hlC hr hs1 hlB hl8
  obtain ⟨hc0, hn40⟩ := may_okN' hok
  obtain ⟨z1, z2, z3, z4, z5, z6, z7⟩ := checkN_zero hc0
  have HOK := Lib.hid hok
  have HN60 : Hid (g.nonterms.length ≤ 60) := Lib.hid (by omega)
  have HFK : Hid (fromK g tk g.ax = 0) := Lib.hid (by unfold fromK; rw [if_neg (by simp [hok]), if_neg (by omega)])
  obtain ⟨n1, hn1⟩ : ∃ n1 : Nat, n1 = tk.length + 1 := ⟨_, rfl⟩
  have HN1 := Lib.hid hn1
  have hn41 : n1 ≤ 41 := by omega
  have HCV := Lib.hid (And.intro hcv hcx)
  have HFB := Lib.hid hfb
  clear z1 z2 z3 z4 z5 z6 z7 hc0 hok hn1 hn40 hcv hcx hfb
  have HM := Lib.hid hm
  clear hm
  go_enter Tryd.func9, Tryd.ntmps9
  go_wp2_with (first
    | (go_at_call 22; refine HKn.out.mono ?_; rintro e w3 ⟨rfl, hb3⟩; have HB3 := Lib.hid hb3; obtain ⟨d0, d1, d2, d3⟩ := blk_cells2 (gblk_keep' HK2.out HB3.out); obtain ⟨f0, f1⟩ := blk_rule (gblk_keep' HKR.out HB3.out); clear hb3)
    | (go_at_call 12; refine (msets_calls _ (moreG g (x, l)) Al16 cl16 tk w16 A (HE2.out.below HB16.out) HLt16.out HCl16.out HRl16.out).mono ?_; rintro e w17 h17; obtain ⟨u17, rfl, hu17, hb17⟩ := h17.no' HM.out; obtain ⟨T17, p17, hT17, rfl⟩ := hu17.iface_of HM.out; have HB17 := Lib.hid (below_next HB16.out hb17); clear d0 d1 d2 d3 f0 f1; clear h17 hu17 hb17)
    | (go_at_call 12; refine (msets_calls _ g Al13 cl13 tk w13 A (HE2.out.below HB13.out) HLt13.out HCl13.out HRl13.out).mono ?_; rintro e w14 h14; obtain ⟨O, Bs, Tn, rfl, hs14⟩ := h14.yes' HOK.out; rw [← HN1.out]; have HB14 := Lib.hid (below_next HB13.out hs14.bel); have HS14 := Lib.hid hs14; clear d0 d1 d2 d3 f0 f1; obtain ⟨d0, d1, d2, d3⟩ := blk_cells2 (gblk_keep' HK2.out HB14.out); obtain ⟨f0, f1⟩ := blk_rule (gblk_keep' HKR.out HB14.out); clear h14 hs14)
    | (go_at_call 11; refine (HLI.out w15 HB15.out).mono ?_; rintro e w16 ⟨Al16, cl16, rfl, hcl16, hrl16, hb16⟩; have HRl16 := Lib.hid (lent_C (a := Kd.int .i64) (by have := Kd.R_reads' hrl16; have h2 := this.2.2; rwa [← this.1] at h2)); have HCl16 : Hid (tk.length ≤ cl16) := Lib.hid (by omega); have HB16 := Lib.hid (below_next HB15.out hb16); have HLt16 := Lib.hid (HLt15.out.below hb16); have Q16 := Lib.hid hb16; clear hrl16 hb16 hcl16)
    | (go_at_call 30; refine (HMo.out w14 HB14.out).mono ?_; rintro e w15 ⟨u15, rfl, hu15, hb15⟩; have HLt15 := Lib.hid hu15; have HB15 := Lib.hid (below_next HB14.out hb15); have Q15 := Lib.hid hb15; clear hu15 hb15)
    | (go_at_call 11; refine (HLI.out w12 HB12.out).mono ?_; rintro e w13 ⟨Al13, cl13, rfl, hcl13, hrl13, hb13⟩; have HRl13 := Lib.hid (lent_C (a := Kd.int .i64) (by have := Kd.R_reads' hrl13; have h2 := this.2.2; rwa [← this.1] at h2)); have HCl13 : Hid (tk.length ≤ cl13) := Lib.hid (by omega); have HB13 := Lib.hid (below_next HB12.out hb13); have HLt13 := Lib.hid (HLt12.out.below hb13); have Q13 := Lib.hid hb13; clear hrl13 hb13 hcl13)
    | (go_at_call 10; refine (HLG.out w11 HB11.out).mono ?_; rintro e w12 ⟨u12, rfl, hu12, hb12⟩; have HLt12 := Lib.hid hu12.plain; have HB12 := Lib.hid (below_next HB11.out hb12); have Q12 := Lib.hid hb12; clear hu12 hb12)
    | (go_at_call 14; refine (kind_calls (HE2.out.below HB10.out) HU10.out).mono ?_; rintro e w11 ⟨rfl, hb11⟩; have HB11 := Lib.hid (below_next HB10.out hb11); clear d0 d1 d2 d3 f0 f1; obtain ⟨d0, d1, d2, d3⟩ := blk_cells2 (gblk_keep' HK2.out HB11.out); obtain ⟨f0, f1⟩ := blk_rule (gblk_keep' HKR.out HB11.out); clear hb11)
    | (go_at_call 14; refine (kind_calls (HE2.out.below HB9.out) HU6'.out).mono ?_; rintro e w10 ⟨rfl, hb10⟩; have HB10 := Lib.hid (below_next HB9.out hb10); have HU10 := Lib.hid (HU9.out.below hb10); clear d0 d1 d2 d3 f0 f1; obtain ⟨d0, d1, d2, d3⟩ := blk_cells2 (gblk_keep' HK2.out HB10.out); obtain ⟨f0, f1⟩ := blk_rule (gblk_keep' HKR.out HB10.out); clear hb10)
    | (go_at_call 23; refine (count_calls _ g Al8 cl8 tk w8 A (HE2.out.below HB8.out) HLt8.out HCl8.out HRl8.out).mono ?_; rintro e w9 ⟨u9, r9, rfl, hu9, hb9⟩; rw [HCV.out.1, HCV.out.2]; rw [HOK.out] at hu9; obtain rfl := hu9.nil_of rfl; have HB9 := Lib.hid (below_next HB8.out hb9); have HU9 := Lib.hid hu9; have HU6' := Lib.hid (HU6.out.below (below_next (below_next Q7.out Q8.out) hb9)); clear d0 d1 d2 d3 f0 f1; obtain ⟨d0, d1, d2, d3⟩ := blk_cells2 (gblk_keep' HK2.out HB9.out); obtain ⟨f0, f1⟩ := blk_rule (gblk_keep' HKR.out HB9.out); clear hu9 hb9)
    | (go_at_call 18; refine (mderives_calls _ g Al5 cl5 tk w5 A (HE2.out.below HB5.out) HLt5.out HCl5.out HRl5.out).mono ?_; rintro e w6 ⟨u6, r6, rfl, hu6, hb6⟩; rw [HFB.out]; rw [HFK.out] at hu6; have HU6 := Lib.hid hu6; obtain rfl := hu6.nil_of rfl; have HB6 := Lib.hid (below_next HB5.out hb6); clear d0 d1 d2 d3 f0 f1; obtain ⟨d0, d1, d2, d3⟩ := blk_cells2 (gblk_keep' HK2.out HB6.out); obtain ⟨f0, f1⟩ := blk_rule (gblk_keep' HKR.out HB6.out); clear hu6 hb6)
    | (go_at_call 11; refine (HLI.out w7 HB7.out).mono ?_; rintro e w8 ⟨Al8, cl8, rfl, hcl8, hrl8, hb8⟩; have HRl8 := Lib.hid (lent_C (a := Kd.int .i64) (by have := Kd.R_reads' hrl8; have h2 := this.2.2; rwa [← this.1] at h2)); have HCl8 : Hid (tk.length ≤ cl8) := Lib.hid (by omega); have HB8 := Lib.hid (below_next HB7.out hb8); have HLt8 := Lib.hid (HLt7.out.below hb8); have Q8 := Lib.hid hb8; clear hrl8 hb8 hcl8)
    | (go_at_call 10; refine (HLG.out w6 HB6.out).mono ?_; rintro e w7 ⟨u7, rfl, hu7, hb7⟩; have HLt7 := Lib.hid hu7.plain; have HB7 := Lib.hid (below_next HB6.out hb7); have Q7 := Lib.hid hb7; clear hu7 hb7)
    | (go_at_call 11; refine (HLI.out w4 HB4.out).mono ?_; rintro e w5 ⟨Al5, cl5, rfl, hcl5, hrl5, hb5⟩; have HRl5 := Lib.hid (lent_C (a := Kd.int .i64) (by have := Kd.R_reads' hrl5; have h2 := this.2.2; rwa [← this.1] at h2)); have HCl5 : Hid (tk.length ≤ cl5) := Lib.hid (by omega); have HB5 := Lib.hid (below_next HB4.out hb5); have HLt5 := Lib.hid (HLt4.out.below hb5); have Q5 := Lib.hid hb5; clear hrl5 hb5 hcl5)
    | (go_at_call 10; refine (HLG.out w3 HB3.out).mono ?_; rintro e w4 ⟨u4, rfl, hu4, hb4⟩; have HLt4 := Lib.hid hu4.plain; have HB4 := Lib.hid (below_next HB3.out hb4); have Q4 := Lib.hid hb4; clear hu4 hb4))
  go_ret
  exact ⟨rfl, below_next HB2.out HB17.out⟩
set_option maxHeartbeats 8000000 in
set_option maxRecDepth 100000 in
theorem memberMore_T1 {w : World} (g : Gr) (v : Value) (hg : GramAt w v g ∧ GramB g) (At : Option Addr) (ct : Nat) (tk : List Int)
    (ht : Kd.C (Kd.int .i64) w At tk.length tk ∧ tk.length * 8 ≤ 140737488351232 ∧ tk.length ≤ ct ∧ ∀ x ∈ tk, (Lit.int .i64 x).wf = true) (x : Int) (B : Option Addr) (c : Nat) (l : List Int) (hl : Kd.C (Kd.int .i64) w B l.length l ∧ l.length * 8 ≤ 140737488351232 ∧ l.length ≤ c ∧ (Lit.int .i64 x).wf = true ∧ ∀ s ∈ l, (Lit.int .i64 s).wf = true) (hE : ∃ A, Errs w A) (hok : (mayN g tk).1 = 0) (hcv : cntV g tk = 0) (hcx : cntX g tk = true) (hfb : fromB g tk g.ax = true) (hm : (mayN (moreG g (x, l)) tk).1 = 0) (m2 : Nat) (hc2 : cntV (moreG g (x, l)) tk = m2) (hx2 : cntX (moreG g (x, l)) tk = true) :
    Calls Tryd.prog 9 #[v, .slice At tk.length ct, .agg #[.int .i64 x, .slice B l.length c]] w fun e w' => e = .returned (.bool true) ∧ Below w.heap.size w w' := by
  obtain ⟨hv, hB⟩ := hg
  obtain ⟨hr, hl8, hlc, -⟩ := ht
  obtain ⟨hlC, hlB, -, -, -⟩ := hl
  obtain ⟨A, hE⟩ := hE
  have HV := Lib.hid hv
  obtain ⟨AT, cT, AN, cN, AR, cR, rfl, q1, q2, q3, q4, q5, q6⟩ := hv
  clear q4 q5 q6
  obtain ⟨w1, hw1⟩ : ∃ w1, w.alloc (.cells #[.slice AT g.terms.length cT, .slice AN g.nonterms.length cN, .int .i64 g.ax, .slice AR g.rules.length cR] 25) = w1 := ⟨_, rfl⟩
  have hb1 : Below w.heap.size w w1 := by rw [← hw1]; exact below_alloc (Below.refl _ _) _
  have hk1 : w1.heap[w.heap.size]? = some (.cells #[.slice AT g.terms.length cT, .slice AN g.nonterms.length cN, .int .i64 g.ax, .slice AR g.rules.length cR] 25 (0, 0)) := by rw [← hw1]; exact heap_alloc_new w _
  have hs1 : w1.heap.size = w.heap.size + 1 := by rw [← hw1]; exact World.size_alloc _ _
  obtain ⟨w2, hw2⟩ : ∃ w2, w1.alloc (.cells #[.int .i64 x, .slice B l.length c] 51) = w2 := ⟨_, rfl⟩
  have hb2 : Below w1.heap.size w1 w2 := by rw [← hw2]; exact below_alloc (Below.refl _ _) _
  have HKR : Hid (w2.heap[w1.heap.size]? = some (.cells #[.int .i64 x, .slice B l.length c] 51 (0, 0))) := Lib.hid (by rw [← hw2]; exact heap_alloc_new w1 _)
  have HB2 := Lib.hid (below_next hb1 hb2)
  have HK2 := Lib.hid (gblk_keep' hk1 hb2)
  have HG2 := Lib.hid (HV.out.below HB2.out)
  have HE2 := Lib.hid (hE.below HB2.out)
  have HL2 := Lib.hid (Kd.C_below hlC HB2.out)
  have HT2 := Lib.hid (Kd.C_below hr HB2.out)
  have HGB := Lib.hid hB
  have HLG := Lib.hid (fun (W : World) (hW : Below w2.heap.size w2 W) => lentGrammar_calls _ g W (HG2.out.below hW) (by have := hB.terms; omega) (by have := hB.nonterms; omega) (by have := hB.rules; omega) (fun r hr => by have := hB.right r hr; omega))
  have HLI := Lib.hid (fun (W : World) (hW : Below w2.heap.size w2 W) => lentInts_calls At ct tk W (Kd.C_below HT2.out hW) (by omega))
  have HMo := Lib.hid (fun (W : World) (hW : Below w2.heap.size w2 W) => more_calls g _ (HG2.out.below hW) HGB.out x B c l (Kd.C_below HL2.out hW) hlB)
  have HKn := Lib.hid (known_calls w2 A HE2.out)
  clear hb1 hk1 hE hB hb2 hlC hr hs1 hlB hl8
  obtain ⟨hc0, hn40⟩ := may_okN' hok
  obtain ⟨z1, z2, z3, z4, z5, z6, z7⟩ := checkN_zero hc0
  have HOK := Lib.hid hok
  have HN60 : Hid (g.nonterms.length ≤ 60) := Lib.hid (by omega)
  have HFK : Hid (fromK g tk g.ax = 0) := Lib.hid (by unfold fromK; rw [if_neg (by simp [hok]), if_neg (by omega)])
  obtain ⟨n1, hn1⟩ : ∃ n1 : Nat, n1 = tk.length + 1 := ⟨_, rfl⟩
  have HN1 := Lib.hid hn1
  have hn41 : n1 ≤ 41 := by omega
  have HCV := Lib.hid (And.intro hcv hcx)
  have HFB := Lib.hid hfb
  clear z1 z2 z3 z4 z5 z6 z7 hc0 hok hn1 hn40 hcv hcx hfb
  have HC2 := Lib.hid (And.intro hc2 hx2)
  clear hc2 hx2
  have HM := Lib.hid hm
  clear hm
  go_enter Tryd.func9, Tryd.ntmps9
  go_upto_region 15 with (first
    | (go_at_call 22; refine HKn.out.mono ?_; rintro e w3 ⟨rfl, hb3⟩; have HB3 := Lib.hid hb3; obtain ⟨d0, d1, d2, d3⟩ := blk_cells2 (gblk_keep' HK2.out HB3.out); obtain ⟨f0, f1⟩ := blk_rule (gblk_keep' HKR.out HB3.out); clear hb3)
    | (go_at_call 12; refine (msets_calls _ (moreG g (x, l)) Al16 cl16 tk w16 A (HE2.out.below HB16.out) HLt16.out HCl16.out HRl16.out).mono ?_; rintro e w17 h17; obtain ⟨O2, Bs2, Tm, rfl, hs17⟩ := h17.yes' HM.out; rw [← HN1.out]; have HB17 := Lib.hid (below_next HB16.out hs17.bel); have Q17 := Lib.hid (below_next (below_next Q15.out Q16.out) hs17.bel); have HS17 := Lib.hid hs17; clear d0 d1 d2 d3 f0 f1; obtain ⟨d0, d1, d2, d3⟩ := blk_cells2 (gblk_keep' HK2.out HB17.out); obtain ⟨f0, f1⟩ := blk_rule (gblk_keep' HKR.out HB17.out); clear h17 hs17)
    | (go_at_call 12; refine (msets_calls _ g Al13 cl13 tk w13 A (HE2.out.below HB13.out) HLt13.out HCl13.out HRl13.out).mono ?_; rintro e w14 h14; obtain ⟨O, Bs, Tn, rfl, hs14⟩ := h14.yes' HOK.out; rw [← HN1.out]; have HB14 := Lib.hid (below_next HB13.out hs14.bel); have HS14 := Lib.hid hs14; clear d0 d1 d2 d3 f0 f1; obtain ⟨d0, d1, d2, d3⟩ := blk_cells2 (gblk_keep' HK2.out HB14.out); obtain ⟨f0, f1⟩ := blk_rule (gblk_keep' HKR.out HB14.out); clear h14 hs14)
    | (go_at_call 11; refine (HLI.out w15 HB15.out).mono ?_; rintro e w16 ⟨Al16, cl16, rfl, hcl16, hrl16, hb16⟩; have HRl16 := Lib.hid (lent_C (a := Kd.int .i64) (by have := Kd.R_reads' hrl16; have h2 := this.2.2; rwa [← this.1] at h2)); have HCl16 : Hid (tk.length ≤ cl16) := Lib.hid (by omega); have HB16 := Lib.hid (below_next HB15.out hb16); have HLt16 := Lib.hid (HLt15.out.below hb16); have Q16 := Lib.hid hb16; clear hrl16 hb16 hcl16)
    | (go_at_call 30; refine (HMo.out w14 HB14.out).mono ?_; rintro e w15 ⟨u15, rfl, hu15, hb15⟩; have HLt15 := Lib.hid hu15; have HB15 := Lib.hid (below_next HB14.out hb15); have Q15 := Lib.hid hb15; clear hu15 hb15)
    | (go_at_call 11; refine (HLI.out w12 HB12.out).mono ?_; rintro e w13 ⟨Al13, cl13, rfl, hcl13, hrl13, hb13⟩; have HRl13 := Lib.hid (lent_C (a := Kd.int .i64) (by have := Kd.R_reads' hrl13; have h2 := this.2.2; rwa [← this.1] at h2)); have HCl13 : Hid (tk.length ≤ cl13) := Lib.hid (by omega); have HB13 := Lib.hid (below_next HB12.out hb13); have HLt13 := Lib.hid (HLt12.out.below hb13); have Q13 := Lib.hid hb13; clear hrl13 hb13 hcl13)
    | (go_at_call 10; refine (HLG.out w11 HB11.out).mono ?_; rintro e w12 ⟨u12, rfl, hu12, hb12⟩; have HLt12 := Lib.hid hu12.plain; have HB12 := Lib.hid (below_next HB11.out hb12); have Q12 := Lib.hid hb12; clear hu12 hb12)
    | (go_at_call 14; refine (kind_calls (HE2.out.below HB10.out) HU10.out).mono ?_; rintro e w11 ⟨rfl, hb11⟩; have HB11 := Lib.hid (below_next HB10.out hb11); clear d0 d1 d2 d3 f0 f1; obtain ⟨d0, d1, d2, d3⟩ := blk_cells2 (gblk_keep' HK2.out HB11.out); obtain ⟨f0, f1⟩ := blk_rule (gblk_keep' HKR.out HB11.out); clear hb11)
    | (go_at_call 14; refine (kind_calls (HE2.out.below HB9.out) HU6'.out).mono ?_; rintro e w10 ⟨rfl, hb10⟩; have HB10 := Lib.hid (below_next HB9.out hb10); have HU10 := Lib.hid (HU9.out.below hb10); clear d0 d1 d2 d3 f0 f1; obtain ⟨d0, d1, d2, d3⟩ := blk_cells2 (gblk_keep' HK2.out HB10.out); obtain ⟨f0, f1⟩ := blk_rule (gblk_keep' HKR.out HB10.out); clear hb10)
    | (go_at_call 23; refine (count_calls _ g Al8 cl8 tk w8 A (HE2.out.below HB8.out) HLt8.out HCl8.out HRl8.out).mono ?_; rintro e w9 ⟨u9, r9, rfl, hu9, hb9⟩; rw [HCV.out.1, HCV.out.2]; rw [HOK.out] at hu9; obtain rfl := hu9.nil_of rfl; have HB9 := Lib.hid (below_next HB8.out hb9); have HU9 := Lib.hid hu9; have HU6' := Lib.hid (HU6.out.below (below_next (below_next Q7.out Q8.out) hb9)); clear d0 d1 d2 d3 f0 f1; obtain ⟨d0, d1, d2, d3⟩ := blk_cells2 (gblk_keep' HK2.out HB9.out); obtain ⟨f0, f1⟩ := blk_rule (gblk_keep' HKR.out HB9.out); clear hu9 hb9)
    | (go_at_call 18; refine (mderives_calls _ g Al5 cl5 tk w5 A (HE2.out.below HB5.out) HLt5.out HCl5.out HRl5.out).mono ?_; rintro e w6 ⟨u6, r6, rfl, hu6, hb6⟩; rw [HFB.out]; rw [HFK.out] at hu6; have HU6 := Lib.hid hu6; obtain rfl := hu6.nil_of rfl; have HB6 := Lib.hid (below_next HB5.out hb6); clear d0 d1 d2 d3 f0 f1; obtain ⟨d0, d1, d2, d3⟩ := blk_cells2 (gblk_keep' HK2.out HB6.out); obtain ⟨f0, f1⟩ := blk_rule (gblk_keep' HKR.out HB6.out); clear hu6 hb6)
    | (go_at_call 11; refine (HLI.out w7 HB7.out).mono ?_; rintro e w8 ⟨Al8, cl8, rfl, hcl8, hrl8, hb8⟩; have HRl8 := Lib.hid (lent_C (a := Kd.int .i64) (by have := Kd.R_reads' hrl8; have h2 := this.2.2; rwa [← this.1] at h2)); have HCl8 : Hid (tk.length ≤ cl8) := Lib.hid (by omega); have HB8 := Lib.hid (below_next HB7.out hb8); have HLt8 := Lib.hid (HLt7.out.below hb8); have Q8 := Lib.hid hb8; clear hrl8 hb8 hcl8)
    | (go_at_call 10; refine (HLG.out w6 HB6.out).mono ?_; rintro e w7 ⟨u7, rfl, hu7, hb7⟩; have HLt7 := Lib.hid hu7.plain; have HB7 := Lib.hid (below_next HB6.out hb7); have Q7 := Lib.hid hb7; clear hu7 hb7)
    | (go_at_call 11; refine (HLI.out w4 HB4.out).mono ?_; rintro e w5 ⟨Al5, cl5, rfl, hcl5, hrl5, hb5⟩; have HRl5 := Lib.hid (lent_C (a := Kd.int .i64) (by have := Kd.R_reads' hrl5; have h2 := this.2.2; rwa [← this.1] at h2)); have HCl5 : Hid (tk.length ≤ cl5) := Lib.hid (by omega); have HB5 := Lib.hid (below_next HB4.out hb5); have HLt5 := Lib.hid (HLt4.out.below hb5); have Q5 := Lib.hid hb5; clear hrl5 hb5 hcl5)
    | (go_at_call 10; refine (HLG.out w3 HB3.out).mono ?_; rintro e w4 ⟨u4, rfl, hu4, hb4⟩; have HLt4 := Lib.hid hu4.plain; have HB4 := Lib.hid (below_next HB3.out hb4); have Q4 := Lib.hid hb4; clear hu4 hb4))
  have HO1 := Lib.hid (HS14.out.out.below Q17.out)
  have HI1 := Lib.hid (fun i (hi : i ≤ tk.length) => (HS14.out.inn i hi).below Q17.out)
  go_wp2
  go_loopw [16, 17] (fun a _ wr => ∃ i d : Nat, i ≤ n1 ∧ a = .int .i64 i ∧ wr = w17.drewN d) (fun a _ _ => n1 - (intOf a).toNat)
  case atStart => exact ⟨0, 0, by omega, rfl, rfl⟩
  case round =>
    obtain ⟨i, d, hi, rfl, rfl⟩ := hrel
    by_cases hin : i < n1
    · have hit : i ≤ tk.length := by have := HN1.out; omega
      have p1 := HO1.out.cell i (by omega)
      have p2 := HS17.out.out.cell i (by omega)
      obtain ⟨m, hm⟩ : ∃ m : Nat, tk.length - i + 1 = m := ⟨_, rfl⟩
      rw [hm] at p1 p2
      have HMm := Lib.hid hm
      have hm41 : m ≤ 41 := by have := HN1.out; omega
      clear hm
      go_wp2
      go_loopw [17] (fun a wr => ∃ k d : Nat, k ≤ m ∧ a = .int .i64 k ∧ wr = w17.drewN d) (fun a _ => m - (intOf a).toNat)
      case atStart => exact ⟨0, d, by omega, rfl, rfl⟩
      case round =>
        obtain ⟨k, d, hk, rfl, rfl⟩ := hrel
        by_cases hkm : k < m
        · have h1 := (HI1.out i hit).cell k (by have := HMm.out; omega)
          have h2 := (HS17.out.inn i hit).cell k (by have := HMm.out; omega)
          have h3 := sets_more HS14.out HS17.out HN60.out (show i ≤ i + k by omega) (show i + k ≤ tk.length by have := HMm.out; omega)
          generalize Tn i (i + k) = y1 at h1 h3
          generalize Tm i (i + k) = y2 at h2 h3
          go_wp2
          go_quiet (fail)
          go_wp2
          go_roundw
          case rel => exact ⟨k + 1, _, by omega, by go_num, rfl⟩
          case measure => simp [intOf]; omega
        · obtain rfl : k = m := by omega
          go_wp2
          go_roundw
          case rel => exact ⟨i + 1, d, by omega, by go_num, rfl⟩
          case measure => simp [intOf]; omega
    · obtain rfl : i = n1 := by omega
      go_wp2_with (first
        | (go_at_call 23; refine (count_calls _ (moreG g (x, l)) Al19 cl19 tk w19 A (HE2.out.below HB19.out) HLt19.out HCl19.out HRl19.out).mono ?_; rintro e w20 ⟨u20, r20, rfl, hu20, hb20⟩; rw [HC2.out.1, HC2.out.2]; rw [HM.out] at hu20; obtain rfl := hu20.nil_of rfl; have HB20 := Lib.hid (below_next HB19.out hb20); clear hu20 hb20)
        | (go_at_call 11; refine (HLI.out w18 HB18.out).mono ?_; rintro e w19 ⟨Al19, cl19, rfl, hcl19, hrl19, hb19⟩; have HRl19 := Lib.hid (lent_C (a := Kd.int .i64) (by have := Kd.R_reads' hrl19; have h2 := this.2.2; rwa [← this.1] at h2)); have HCl19 : Hid (tk.length ≤ cl19) := Lib.hid (by omega); have HB19 := Lib.hid (below_next HB18.out hb19); have HLt19 := Lib.hid (HLt18.out.below hb19); have Q19 := Lib.hid hb19; clear hrl19 hb19 hcl19)
        | (go_at_call 30; refine (HMo.out _ (show Below w2.heap.size w2 _ from pw_below_drewN HB17.out _)).mono ?_; rintro e w18 ⟨u18, rfl, hu18, hb18⟩; have HLt18 := Lib.hid hu18; have HB18 := Lib.hid (below_next (show Below w2.heap.size w2 _ from pw_below_drewN HB17.out _) hb18); clear hu18 hb18))
      go_ret
      exact ⟨rfl, below_next HB2.out HB20.out⟩
set_option maxHeartbeats 8000000 in
set_option maxRecDepth 100000 in
theorem memberMore_T2 {w : World} (g : Gr) (v : Value) (hg : GramAt w v g ∧ GramB g) (At : Option Addr) (ct : Nat) (tk : List Int)
    (ht : Kd.C (Kd.int .i64) w At tk.length tk ∧ tk.length * 8 ≤ 140737488351232 ∧ tk.length ≤ ct ∧ ∀ x ∈ tk, (Lit.int .i64 x).wf = true) (x : Int) (B : Option Addr) (c : Nat) (l : List Int) (hl : Kd.C (Kd.int .i64) w B l.length l ∧ l.length * 8 ≤ 140737488351232 ∧ l.length ≤ c ∧ (Lit.int .i64 x).wf = true ∧ ∀ s ∈ l, (Lit.int .i64 s).wf = true) (hE : ∃ A, Errs w A) (hok : (mayN g tk).1 = 0) (hcv : cntV g tk = 0) (hcx : cntX g tk = false) (hfb : fromB g tk g.ax = false) (hm : (mayN (moreG g (x, l)) tk).1 = 0) (m2 : Nat) (hc2 : cntV (moreG g (x, l)) tk = m2) (hx2 : cntX (moreG g (x, l)) tk = true) :
    Calls Tryd.prog 9 #[v, .slice At tk.length ct, .agg #[.int .i64 x, .slice B l.length c]] w fun e w' => e = .returned (.bool true) ∧ Below w.heap.size w w' := by
  obtain ⟨hv, hB⟩ := hg
  obtain ⟨hr, hl8, hlc, -⟩ := ht
  obtain ⟨hlC, hlB, -, -, -⟩ := hl
  obtain ⟨A, hE⟩ := hE
  have HV := Lib.hid hv
  obtain ⟨AT, cT, AN, cN, AR, cR, rfl, q1, q2, q3, q4, q5, q6⟩ := hv
  clear q4 q5 q6
  obtain ⟨w1, hw1⟩ : ∃ w1, w.alloc (.cells #[.slice AT g.terms.length cT, .slice AN g.nonterms.length cN, .int .i64 g.ax, .slice AR g.rules.length cR] 25) = w1 := ⟨_, rfl⟩
  have hb1 : Below w.heap.size w w1 := by rw [← hw1]; exact below_alloc (Below.refl _ _) _
  have hk1 : w1.heap[w.heap.size]? = some (.cells #[.slice AT g.terms.length cT, .slice AN g.nonterms.length cN, .int .i64 g.ax, .slice AR g.rules.length cR] 25 (0, 0)) := by rw [← hw1]; exact heap_alloc_new w _
  have hs1 : w1.heap.size = w.heap.size + 1 := by rw [← hw1]; exact World.size_alloc _ _
  obtain ⟨w2, hw2⟩ : ∃ w2, w1.alloc (.cells #[.int .i64 x, .slice B l.length c] 51) = w2 := ⟨_, rfl⟩
  have hb2 : Below w1.heap.size w1 w2 := by rw [← hw2]; exact below_alloc (Below.refl _ _) _
  have HKR : Hid (w2.heap[w1.heap.size]? = some (.cells #[.int .i64 x, .slice B l.length c] 51 (0, 0))) := Lib.hid (by rw [← hw2]; exact heap_alloc_new w1 _)
  have HB2 := Lib.hid (below_next hb1 hb2)
  have HK2 := Lib.hid (gblk_keep' hk1 hb2)
  have HG2 := Lib.hid (HV.out.below HB2.out)
  have HE2 := Lib.hid (hE.below HB2.out)
  have HL2 := Lib.hid (Kd.C_below hlC HB2.out)
  have HT2 := Lib.hid (Kd.C_below hr HB2.out)
  have HGB := Lib.hid hB
  have HLG := Lib.hid (fun (W : World) (hW : Below w2.heap.size w2 W) => lentGrammar_calls _ g W (HG2.out.below hW) (by have := hB.terms; omega) (by have := hB.nonterms; omega) (by have := hB.rules; omega) (fun r hr => by have := hB.right r hr; omega))
  have HLI := Lib.hid (fun (W : World) (hW : Below w2.heap.size w2 W) => lentInts_calls At ct tk W (Kd.C_below HT2.out hW) (by omega))
  have HMo := Lib.hid (fun (W : World) (hW : Below w2.heap.size w2 W) => more_calls g _ (HG2.out.below hW) HGB.out x B c l (Kd.C_below HL2.out hW) hlB)
  have HKn := Lib.hid (known_calls w2 A HE2.out)
  clear hb1 hk1 hE hB hb2 hlC hr hs1 hlB hl8
  obtain ⟨hc0, hn40⟩ := may_okN' hok
  obtain ⟨z1, z2, z3, z4, z5, z6, z7⟩ := checkN_zero hc0
  have HOK := Lib.hid hok
  have HN60 : Hid (g.nonterms.length ≤ 60) := Lib.hid (by omega)
  have HFK : Hid (fromK g tk g.ax = 0) := Lib.hid (by unfold fromK; rw [if_neg (by simp [hok]), if_neg (by omega)])
  obtain ⟨n1, hn1⟩ : ∃ n1 : Nat, n1 = tk.length + 1 := ⟨_, rfl⟩
  have HN1 := Lib.hid hn1
  have hn41 : n1 ≤ 41 := by omega
  have HCV := Lib.hid (And.intro hcv hcx)
  have HFB := Lib.hid hfb
  clear z1 z2 z3 z4 z5 z6 z7 hc0 hok hn1 hn40 hcv hcx hfb
  have HC2 := Lib.hid (And.intro hc2 hx2)
  clear hc2 hx2
  have HM := Lib.hid hm
  clear hm
  go_enter Tryd.func9, Tryd.ntmps9
  go_upto_region 15 with (first
    | (go_at_call 22; refine HKn.out.mono ?_; rintro e w3 ⟨rfl, hb3⟩; have HB3 := Lib.hid hb3; obtain ⟨d0, d1, d2, d3⟩ := blk_cells2 (gblk_keep' HK2.out HB3.out); obtain ⟨f0, f1⟩ := blk_rule (gblk_keep' HKR.out HB3.out); clear hb3)
    | (go_at_call 12; refine (msets_calls _ (moreG g (x, l)) Al16 cl16 tk w16 A (HE2.out.below HB16.out) HLt16.out HCl16.out HRl16.out).mono ?_; rintro e w17 h17; obtain ⟨O2, Bs2, Tm, rfl, hs17⟩ := h17.yes' HM.out; rw [← HN1.out]; have HB17 := Lib.hid (below_next HB16.out hs17.bel); have Q17 := Lib.hid (below_next (below_next Q15.out Q16.out) hs17.bel); have HS17 := Lib.hid hs17; clear d0 d1 d2 d3 f0 f1; obtain ⟨d0, d1, d2, d3⟩ := blk_cells2 (gblk_keep' HK2.out HB17.out); obtain ⟨f0, f1⟩ := blk_rule (gblk_keep' HKR.out HB17.out); clear h17 hs17)
    | (go_at_call 12; refine (msets_calls _ g Al13 cl13 tk w13 A (HE2.out.below HB13.out) HLt13.out HCl13.out HRl13.out).mono ?_; rintro e w14 h14; obtain ⟨O, Bs, Tn, rfl, hs14⟩ := h14.yes' HOK.out; rw [← HN1.out]; have HB14 := Lib.hid (below_next HB13.out hs14.bel); have HS14 := Lib.hid hs14; clear d0 d1 d2 d3 f0 f1; obtain ⟨d0, d1, d2, d3⟩ := blk_cells2 (gblk_keep' HK2.out HB14.out); obtain ⟨f0, f1⟩ := blk_rule (gblk_keep' HKR.out HB14.out); clear h14 hs14)
    | (go_at_call 11; refine (HLI.out w15 HB15.out).mono ?_; rintro e w16 ⟨Al16, cl16, rfl, hcl16, hrl16, hb16⟩; have HRl16 := Lib.hid (lent_C (a := Kd.int .i64) (by have := Kd.R_reads' hrl16; have h2 := this.2.2; rwa [← this.1] at h2)); have HCl16 : Hid (tk.length ≤ cl16) := Lib.hid (by omega); have HB16 := Lib.hid (below_next HB15.out hb16); have HLt16 := Lib.hid (HLt15.out.below hb16); have Q16 := Lib.hid hb16; clear hrl16 hb16 hcl16)
    | (go_at_call 30; refine (HMo.out w14 HB14.out).mono ?_; rintro e w15 ⟨u15, rfl, hu15, hb15⟩; have HLt15 := Lib.hid hu15; have HB15 := Lib.hid (below_next HB14.out hb15); have Q15 := Lib.hid hb15; clear hu15 hb15)
    | (go_at_call 11; refine (HLI.out w12 HB12.out).mono ?_; rintro e w13 ⟨Al13, cl13, rfl, hcl13, hrl13, hb13⟩; have HRl13 := Lib.hid (lent_C (a := Kd.int .i64) (by have := Kd.R_reads' hrl13; have h2 := this.2.2; rwa [← this.1] at h2)); have HCl13 : Hid (tk.length ≤ cl13) := Lib.hid (by omega); have HB13 := Lib.hid (below_next HB12.out hb13); have HLt13 := Lib.hid (HLt12.out.below hb13); have Q13 := Lib.hid hb13; clear hrl13 hb13 hcl13)
    | (go_at_call 10; refine (HLG.out w11 HB11.out).mono ?_; rintro e w12 ⟨u12, rfl, hu12, hb12⟩; have HLt12 := Lib.hid hu12.plain; have HB12 := Lib.hid (below_next HB11.out hb12); have Q12 := Lib.hid hb12; clear hu12 hb12)
    | (go_at_call 14; refine (kind_calls (HE2.out.below HB10.out) HU10.out).mono ?_; rintro e w11 ⟨rfl, hb11⟩; have HB11 := Lib.hid (below_next HB10.out hb11); clear d0 d1 d2 d3 f0 f1; obtain ⟨d0, d1, d2, d3⟩ := blk_cells2 (gblk_keep' HK2.out HB11.out); obtain ⟨f0, f1⟩ := blk_rule (gblk_keep' HKR.out HB11.out); clear hb11)
    | (go_at_call 14; refine (kind_calls (HE2.out.below HB9.out) HU6'.out).mono ?_; rintro e w10 ⟨rfl, hb10⟩; have HB10 := Lib.hid (below_next HB9.out hb10); have HU10 := Lib.hid (HU9.out.below hb10); clear d0 d1 d2 d3 f0 f1; obtain ⟨d0, d1, d2, d3⟩ := blk_cells2 (gblk_keep' HK2.out HB10.out); obtain ⟨f0, f1⟩ := blk_rule (gblk_keep' HKR.out HB10.out); clear hb10)
    | (go_at_call 23; refine (count_calls _ g Al8 cl8 tk w8 A (HE2.out.below HB8.out) HLt8.out HCl8.out HRl8.out).mono ?_; rintro e w9 ⟨u9, r9, rfl, hu9, hb9⟩; rw [HCV.out.1, HCV.out.2]; rw [HOK.out] at hu9; obtain rfl := hu9.nil_of rfl; have HB9 := Lib.hid (below_next HB8.out hb9); have HU9 := Lib.hid hu9; have HU6' := Lib.hid (HU6.out.below (below_next (below_next Q7.out Q8.out) hb9)); clear d0 d1 d2 d3 f0 f1; obtain ⟨d0, d1, d2, d3⟩ := blk_cells2 (gblk_keep' HK2.out HB9.out); obtain ⟨f0, f1⟩ := blk_rule (gblk_keep' HKR.out HB9.out); clear hu9 hb9)
    | (go_at_call 18; refine (mderives_calls _ g Al5 cl5 tk w5 A (HE2.out.below HB5.out) HLt5.out HCl5.out HRl5.out).mono ?_; rintro e w6 ⟨u6, r6, rfl, hu6, hb6⟩; rw [HFB.out]; rw [HFK.out] at hu6; have HU6 := Lib.hid hu6; obtain rfl := hu6.nil_of rfl; have HB6 := Lib.hid (below_next HB5.out hb6); clear d0 d1 d2 d3 f0 f1; obtain ⟨d0, d1, d2, d3⟩ := blk_cells2 (gblk_keep' HK2.out HB6.out); obtain ⟨f0, f1⟩ := blk_rule (gblk_keep' HKR.out HB6.out); clear hu6 hb6)
    | (go_at_call 11; refine (HLI.out w7 HB7.out).mono ?_; rintro e w8 ⟨Al8, cl8, rfl, hcl8, hrl8, hb8⟩; have HRl8 := Lib.hid (lent_C (a := Kd.int .i64) (by have := Kd.R_reads' hrl8; have h2 := this.2.2; rwa [← this.1] at h2)); have HCl8 : Hid (tk.length ≤ cl8) := Lib.hid (by omega); have HB8 := Lib.hid (below_next HB7.out hb8); have HLt8 := Lib.hid (HLt7.out.below hb8); have Q8 := Lib.hid hb8; clear hrl8 hb8 hcl8)
    | (go_at_call 10; refine (HLG.out w6 HB6.out).mono ?_; rintro e w7 ⟨u7, rfl, hu7, hb7⟩; have HLt7 := Lib.hid hu7.plain; have HB7 := Lib.hid (below_next HB6.out hb7); have Q7 := Lib.hid hb7; clear hu7 hb7)
    | (go_at_call 11; refine (HLI.out w4 HB4.out).mono ?_; rintro e w5 ⟨Al5, cl5, rfl, hcl5, hrl5, hb5⟩; have HRl5 := Lib.hid (lent_C (a := Kd.int .i64) (by have := Kd.R_reads' hrl5; have h2 := this.2.2; rwa [← this.1] at h2)); have HCl5 : Hid (tk.length ≤ cl5) := Lib.hid (by omega); have HB5 := Lib.hid (below_next HB4.out hb5); have HLt5 := Lib.hid (HLt4.out.below hb5); have Q5 := Lib.hid hb5; clear hrl5 hb5 hcl5)
    | (go_at_call 10; refine (HLG.out w3 HB3.out).mono ?_; rintro e w4 ⟨u4, rfl, hu4, hb4⟩; have HLt4 := Lib.hid hu4.plain; have HB4 := Lib.hid (below_next HB3.out hb4); have Q4 := Lib.hid hb4; clear hu4 hb4))
  have HO1 := Lib.hid (HS14.out.out.below Q17.out)
  have HI1 := Lib.hid (fun i (hi : i ≤ tk.length) => (HS14.out.inn i hi).below Q17.out)
  go_wp2
  go_loopw [16, 17] (fun a _ wr => ∃ i d : Nat, i ≤ n1 ∧ a = .int .i64 i ∧ wr = w17.drewN d) (fun a _ _ => n1 - (intOf a).toNat)
  case atStart => exact ⟨0, 0, by omega, rfl, rfl⟩
  case round =>
    obtain ⟨i, d, hi, rfl, rfl⟩ := hrel
    by_cases hin : i < n1
    · have hit : i ≤ tk.length := by have := HN1.out; omega
      have p1 := HO1.out.cell i (by omega)
      have p2 := HS17.out.out.cell i (by omega)
      obtain ⟨m, hm⟩ : ∃ m : Nat, tk.length - i + 1 = m := ⟨_, rfl⟩
      rw [hm] at p1 p2
      have HMm := Lib.hid hm
      have hm41 : m ≤ 41 := by have := HN1.out; omega
      clear hm
      go_wp2
      go_loopw [17] (fun a wr => ∃ k d : Nat, k ≤ m ∧ a = .int .i64 k ∧ wr = w17.drewN d) (fun a _ => m - (intOf a).toNat)
      case atStart => exact ⟨0, d, by omega, rfl, rfl⟩
      case round =>
        obtain ⟨k, d, hk, rfl, rfl⟩ := hrel
        by_cases hkm : k < m
        · have h1 := (HI1.out i hit).cell k (by have := HMm.out; omega)
          have h2 := (HS17.out.inn i hit).cell k (by have := HMm.out; omega)
          have h3 := sets_more HS14.out HS17.out HN60.out (show i ≤ i + k by omega) (show i + k ≤ tk.length by have := HMm.out; omega)
          generalize Tn i (i + k) = y1 at h1 h3
          generalize Tm i (i + k) = y2 at h2 h3
          go_wp2
          go_quiet (fail)
          go_wp2
          go_roundw
          case rel => exact ⟨k + 1, _, by omega, by go_num, rfl⟩
          case measure => simp [intOf]; omega
        · obtain rfl : k = m := by omega
          go_wp2
          go_roundw
          case rel => exact ⟨i + 1, d, by omega, by go_num, rfl⟩
          case measure => simp [intOf]; omega
    · obtain rfl : i = n1 := by omega
      go_wp2_with (first
        | (go_at_call 23; refine (count_calls _ (moreG g (x, l)) Al19 cl19 tk w19 A (HE2.out.below HB19.out) HLt19.out HCl19.out HRl19.out).mono ?_; rintro e w20 ⟨u20, r20, rfl, hu20, hb20⟩; rw [HC2.out.1, HC2.out.2]; rw [HM.out] at hu20; obtain rfl := hu20.nil_of rfl; have HB20 := Lib.hid (below_next HB19.out hb20); clear hu20 hb20)
        | (go_at_call 11; refine (HLI.out w18 HB18.out).mono ?_; rintro e w19 ⟨Al19, cl19, rfl, hcl19, hrl19, hb19⟩; have HRl19 := Lib.hid (lent_C (a := Kd.int .i64) (by have := Kd.R_reads' hrl19; have h2 := this.2.2; rwa [← this.1] at h2)); have HCl19 : Hid (tk.length ≤ cl19) := Lib.hid (by omega); have HB19 := Lib.hid (below_next HB18.out hb19); have HLt19 := Lib.hid (HLt18.out.below hb19); have Q19 := Lib.hid hb19; clear hrl19 hb19 hcl19)
        | (go_at_call 30; refine (HMo.out _ (show Below w2.heap.size w2 _ from pw_below_drewN HB17.out _)).mono ?_; rintro e w18 ⟨u18, rfl, hu18, hb18⟩; have HLt18 := Lib.hid hu18; have HB18 := Lib.hid (below_next (show Below w2.heap.size w2 _ from pw_below_drewN HB17.out _) hb18); clear hu18 hb18))
      go_ret
      exact ⟨rfl, below_next HB2.out HB20.out⟩
set_option maxHeartbeats 8000000 in
set_option maxRecDepth 100000 in
theorem memberMore_T3 {w : World} (g : Gr) (v : Value) (hg : GramAt w v g ∧ GramB g) (At : Option Addr) (ct : Nat) (tk : List Int)
    (ht : Kd.C (Kd.int .i64) w At tk.length tk ∧ tk.length * 8 ≤ 140737488351232 ∧ tk.length ≤ ct ∧ ∀ x ∈ tk, (Lit.int .i64 x).wf = true) (x : Int) (B : Option Addr) (c : Nat) (l : List Int) (hl : Kd.C (Kd.int .i64) w B l.length l ∧ l.length * 8 ≤ 140737488351232 ∧ l.length ≤ c ∧ (Lit.int .i64 x).wf = true ∧ ∀ s ∈ l, (Lit.int .i64 s).wf = true) (hE : ∃ A, Errs w A) (hok : (mayN g tk).1 = 0) (hcv : cntV g tk = 0) (hcx : cntX g tk = false) (hfb : fromB g tk g.ax = false) (hm : (mayN (moreG g (x, l)) tk).1 = 0) (m2 : Nat) (hc2 : cntV (moreG g (x, l)) tk = m2) (hx2 : cntX (moreG g (x, l)) tk = false) :
    Calls Tryd.prog 9 #[v, .slice At tk.length ct, .agg #[.int .i64 x, .slice B l.length c]] w fun e w' => e = .returned (.bool true) ∧ Below w.heap.size w w' := by
  obtain ⟨hv, hB⟩ := hg
  obtain ⟨hr, hl8, hlc, -⟩ := ht
  obtain ⟨hlC, hlB, -, -, -⟩ := hl
  obtain ⟨A, hE⟩ := hE
  have HV := Lib.hid hv
  obtain ⟨AT, cT, AN, cN, AR, cR, rfl, q1, q2, q3, q4, q5, q6⟩ := hv
  clear q4 q5 q6
  obtain ⟨w1, hw1⟩ : ∃ w1, w.alloc (.cells #[.slice AT g.terms.length cT, .slice AN g.nonterms.length cN, .int .i64 g.ax, .slice AR g.rules.length cR] 25) = w1 := ⟨_, rfl⟩
  have hb1 : Below w.heap.size w w1 := by rw [← hw1]; exact below_alloc (Below.refl _ _) _
  have hk1 : w1.heap[w.heap.size]? = some (.cells #[.slice AT g.terms.length cT, .slice AN g.nonterms.length cN, .int .i64 g.ax, .slice AR g.rules.length cR] 25 (0, 0)) := by rw [← hw1]; exact heap_alloc_new w _
  have hs1 : w1.heap.size = w.heap.size + 1 := by rw [← hw1]; exact World.size_alloc _ _
  obtain ⟨w2, hw2⟩ : ∃ w2, w1.alloc (.cells #[.int .i64 x, .slice B l.length c] 51) = w2 := ⟨_, rfl⟩
  have hb2 : Below w1.heap.size w1 w2 := by rw [← hw2]; exact below_alloc (Below.refl _ _) _
  have HKR : Hid (w2.heap[w1.heap.size]? = some (.cells #[.int .i64 x, .slice B l.length c] 51 (0, 0))) := Lib.hid (by rw [← hw2]; exact heap_alloc_new w1 _)
  have HB2 := Lib.hid (below_next hb1 hb2)
  have HK2 := Lib.hid (gblk_keep' hk1 hb2)
  have HG2 := Lib.hid (HV.out.below HB2.out)
  have HE2 := Lib.hid (hE.below HB2.out)
  have HL2 := Lib.hid (Kd.C_below hlC HB2.out)
  have HT2 := Lib.hid (Kd.C_below hr HB2.out)
  have HGB := Lib.hid hB
  have HLG := Lib.hid (fun (W : World) (hW : Below w2.heap.size w2 W) => lentGrammar_calls _ g W (HG2.out.below hW) (by have := hB.terms; omega) (by have := hB.nonterms; omega) (by have := hB.rules; omega) (fun r hr => by have := hB.right r hr; omega))
  have HLI := Lib.hid (fun (W : World) (hW : Below w2.heap.size w2 W) => lentInts_calls At ct tk W (Kd.C_below HT2.out hW) (by omega))
  have HMo := Lib.hid (fun (W : World) (hW : Below w2.heap.size w2 W) => more_calls g _ (HG2.out.below hW) HGB.out x B c l (Kd.C_below HL2.out hW) hlB)
  have HKn := Lib.hid (known_calls w2 A HE2.out)
  clear hb1 hk1 hE hB hb2 hlC hr hs1 hlB hl8
  obtain ⟨hc0, hn40⟩ := may_okN' hok
  obtain ⟨z1, z2, z3, z4, z5, z6, z7⟩ := checkN_zero hc0
  have HOK := Lib.hid hok
  have HN60 : Hid (g.nonterms.length ≤ 60) := Lib.hid (by omega)
  have HFK : Hid (fromK g tk g.ax = 0) := Lib.hid (by unfold fromK; rw [if_neg (by simp [hok]), if_neg (by omega)])
  obtain ⟨n1, hn1⟩ : ∃ n1 : Nat, n1 = tk.length + 1 := ⟨_, rfl⟩
  have HN1 := Lib.hid hn1
  have hn41 : n1 ≤ 41 := by omega
  have HCV := Lib.hid (And.intro hcv hcx)
  have HFB := Lib.hid hfb
  clear z1 z2 z3 z4 z5 z6 z7 hc0 hok hn1 hn40 hcv hcx hfb
  have HC2 := Lib.hid (And.intro hc2 hx2)
  clear hc2 hx2
  have HM := Lib.hid hm
  clear hm
  go_enter Tryd.func9, Tryd.ntmps9
  go_upto_region 15 with (first
    | (go_at_call 22; refine HKn.out.mono ?_; rintro e w3 ⟨rfl, hb3⟩; have HB3 := Lib.hid hb3; obtain ⟨d0, d1, d2, d3⟩ := blk_cells2 (gblk_keep' HK2.out HB3.out); obtain ⟨f0, f1⟩ := blk_rule (gblk_keep' HKR.out HB3.out); clear hb3)
    | (go_at_call 12; refine (msets_calls _ (moreG g (x, l)) Al16 cl16 tk w16 A (HE2.out.below HB16.out) HLt16.out HCl16.out HRl16.out).mono ?_; rintro e w17 h17; obtain ⟨O2, Bs2, Tm, rfl, hs17⟩ := h17.yes' HM.out; rw [← HN1.out]; have HB17 := Lib.hid (below_next HB16.out hs17.bel); have Q17 := Lib.hid (below_next (below_next Q15.out Q16.out) hs17.bel); have HS17 := Lib.hid hs17; clear d0 d1 d2 d3 f0 f1; obtain ⟨d0, d1, d2, d3⟩ := blk_cells2 (gblk_keep' HK2.out HB17.out); obtain ⟨f0, f1⟩ := blk_rule (gblk_keep' HKR.out HB17.out); clear h17 hs17)
    | (go_at_call 12; refine (msets_calls _ g Al13 cl13 tk w13 A (HE2.out.below HB13.out) HLt13.out HCl13.out HRl13.out).mono ?_; rintro e w14 h14; obtain ⟨O, Bs, Tn, rfl, hs14⟩ := h14.yes' HOK.out; rw [← HN1.out]; have HB14 := Lib.hid (below_next HB13.out hs14.bel); have HS14 := Lib.hid hs14; clear d0 d1 d2 d3 f0 f1; obtain ⟨d0, d1, d2, d3⟩ := blk_cells2 (gblk_keep' HK2.out HB14.out); obtain ⟨f0, f1⟩ := blk_rule (gblk_keep' HKR.out HB14.out); clear h14 hs14)
    | (go_at_call 11; refine (HLI.out w15 HB15.out).mono ?_; rintro e w16 ⟨Al16, cl16, rfl, hcl16, hrl16, hb16⟩; have HRl16 := Lib.hid (lent_C (a := Kd.int .i64) (by have := Kd.R_reads' hrl16; have h2 := this.2.2; rwa [← this.1] at h2)); have HCl16 : Hid (tk.length ≤ cl16) := Lib.hid (by omega); have HB16 := Lib.hid (below_next HB15.out hb16); have HLt16 := Lib.hid (HLt15.out.below hb16); have Q16 := Lib.hid hb16; clear hrl16 hb16 hcl16)
    | (go_at_call 30; refine (HMo.out w14 HB14.out).mono ?_; rintro e w15 ⟨u15, rfl, hu15, hb15⟩; have HLt15 := Lib.hid hu15; have HB15 := Lib.hid (below_next HB14.out hb15); have Q15 := Lib.hid hb15; clear hu15 hb15)
    | (go_at_call 11; refine (HLI.out w12 HB12.out).mono ?_; rintro e w13 ⟨Al13, cl13, rfl, hcl13, hrl13, hb13⟩; have HRl13 := Lib.hid (lent_C (a := Kd.int .i64) (by have := Kd.R_reads' hrl13; have h2 := this.2.2; rwa [← this.1] at h2)); have HCl13 : Hid (tk.length ≤ cl13) := Lib.hid (by omega); have HB13 := Lib.hid (below_next HB12.out hb13); have HLt13 := Lib.hid (HLt12.out.below hb13); have Q13 := Lib.hid hb13; clear hrl13 hb13 hcl13)
    | (go_at_call 10; refine (HLG.out w11 HB11.out).mono ?_; rintro e w12 ⟨u12, rfl, hu12, hb12⟩; have HLt12 := Lib.hid hu12.plain; have HB12 := Lib.hid (below_next HB11.out hb12); have Q12 := Lib.hid hb12; clear hu12 hb12)
    | (go_at_call 14; refine (kind_calls (HE2.out.below HB10.out) HU10.out).mono ?_; rintro e w11 ⟨rfl, hb11⟩; have HB11 := Lib.hid (below_next HB10.out hb11); clear d0 d1 d2 d3 f0 f1; obtain ⟨d0, d1, d2, d3⟩ := blk_cells2 (gblk_keep' HK2.out HB11.out); obtain ⟨f0, f1⟩ := blk_rule (gblk_keep' HKR.out HB11.out); clear hb11)
    | (go_at_call 14; refine (kind_calls (HE2.out.below HB9.out) HU6'.out).mono ?_; rintro e w10 ⟨rfl, hb10⟩; have HB10 := Lib.hid (below_next HB9.out hb10); have HU10 := Lib.hid (HU9.out.below hb10); clear d0 d1 d2 d3 f0 f1; obtain ⟨d0, d1, d2, d3⟩ := blk_cells2 (gblk_keep' HK2.out HB10.out); obtain ⟨f0, f1⟩ := blk_rule (gblk_keep' HKR.out HB10.out); clear hb10)
    | (go_at_call 23; refine (count_calls _ g Al8 cl8 tk w8 A (HE2.out.below HB8.out) HLt8.out HCl8.out HRl8.out).mono ?_; rintro e w9 ⟨u9, r9, rfl, hu9, hb9⟩; rw [HCV.out.1, HCV.out.2]; rw [HOK.out] at hu9; obtain rfl := hu9.nil_of rfl; have HB9 := Lib.hid (below_next HB8.out hb9); have HU9 := Lib.hid hu9; have HU6' := Lib.hid (HU6.out.below (below_next (below_next Q7.out Q8.out) hb9)); clear d0 d1 d2 d3 f0 f1; obtain ⟨d0, d1, d2, d3⟩ := blk_cells2 (gblk_keep' HK2.out HB9.out); obtain ⟨f0, f1⟩ := blk_rule (gblk_keep' HKR.out HB9.out); clear hu9 hb9)
    | (go_at_call 18; refine (mderives_calls _ g Al5 cl5 tk w5 A (HE2.out.below HB5.out) HLt5.out HCl5.out HRl5.out).mono ?_; rintro e w6 ⟨u6, r6, rfl, hu6, hb6⟩; rw [HFB.out]; rw [HFK.out] at hu6; have HU6 := Lib.hid hu6; obtain rfl := hu6.nil_of rfl; have HB6 := Lib.hid (below_next HB5.out hb6); clear d0 d1 d2 d3 f0 f1; obtain ⟨d0, d1, d2, d3⟩ := blk_cells2 (gblk_keep' HK2.out HB6.out); obtain ⟨f0, f1⟩ := blk_rule (gblk_keep' HKR.out HB6.out); clear hu6 hb6)
    | (go_at_call 11; refine (HLI.out w7 HB7.out).mono ?_; rintro e w8 ⟨Al8, cl8, rfl, hcl8, hrl8, hb8⟩; have HRl8 := Lib.hid (lent_C (a := Kd.int .i64) (by have := Kd.R_reads' hrl8; have h2 := this.2.2; rwa [← this.1] at h2)); have HCl8 : Hid (tk.length ≤ cl8) := Lib.hid (by omega); have HB8 := Lib.hid (below_next HB7.out hb8); have HLt8 := Lib.hid (HLt7.out.below hb8); have Q8 := Lib.hid hb8; clear hrl8 hb8 hcl8)
    | (go_at_call 10; refine (HLG.out w6 HB6.out).mono ?_; rintro e w7 ⟨u7, rfl, hu7, hb7⟩; have HLt7 := Lib.hid hu7.plain; have HB7 := Lib.hid (below_next HB6.out hb7); have Q7 := Lib.hid hb7; clear hu7 hb7)
    | (go_at_call 11; refine (HLI.out w4 HB4.out).mono ?_; rintro e w5 ⟨Al5, cl5, rfl, hcl5, hrl5, hb5⟩; have HRl5 := Lib.hid (lent_C (a := Kd.int .i64) (by have := Kd.R_reads' hrl5; have h2 := this.2.2; rwa [← this.1] at h2)); have HCl5 : Hid (tk.length ≤ cl5) := Lib.hid (by omega); have HB5 := Lib.hid (below_next HB4.out hb5); have HLt5 := Lib.hid (HLt4.out.below hb5); have Q5 := Lib.hid hb5; clear hrl5 hb5 hcl5)
    | (go_at_call 10; refine (HLG.out w3 HB3.out).mono ?_; rintro e w4 ⟨u4, rfl, hu4, hb4⟩; have HLt4 := Lib.hid hu4.plain; have HB4 := Lib.hid (below_next HB3.out hb4); have Q4 := Lib.hid hb4; clear hu4 hb4))
  have HO1 := Lib.hid (HS14.out.out.below Q17.out)
  have HI1 := Lib.hid (fun i (hi : i ≤ tk.length) => (HS14.out.inn i hi).below Q17.out)
  go_wp2
  go_loopw [16, 17] (fun a _ wr => ∃ i d : Nat, i ≤ n1 ∧ a = .int .i64 i ∧ wr = w17.drewN d) (fun a _ _ => n1 - (intOf a).toNat)
  case atStart => exact ⟨0, 0, by omega, rfl, rfl⟩
  case round =>
    obtain ⟨i, d, hi, rfl, rfl⟩ := hrel
    by_cases hin : i < n1
    · have hit : i ≤ tk.length := by have := HN1.out; omega
      have p1 := HO1.out.cell i (by omega)
      have p2 := HS17.out.out.cell i (by omega)
      obtain ⟨m, hm⟩ : ∃ m : Nat, tk.length - i + 1 = m := ⟨_, rfl⟩
      rw [hm] at p1 p2
      have HMm := Lib.hid hm
      have hm41 : m ≤ 41 := by have := HN1.out; omega
      clear hm
      go_wp2
      go_loopw [17] (fun a wr => ∃ k d : Nat, k ≤ m ∧ a = .int .i64 k ∧ wr = w17.drewN d) (fun a _ => m - (intOf a).toNat)
      case atStart => exact ⟨0, d, by omega, rfl, rfl⟩
      case round =>
        obtain ⟨k, d, hk, rfl, rfl⟩ := hrel
        by_cases hkm : k < m
        · have h1 := (HI1.out i hit).cell k (by have := HMm.out; omega)
          have h2 := (HS17.out.inn i hit).cell k (by have := HMm.out; omega)
          have h3 := sets_more HS14.out HS17.out HN60.out (show i ≤ i + k by omega) (show i + k ≤ tk.length by have := HMm.out; omega)
          generalize Tn i (i + k) = y1 at h1 h3
          generalize Tm i (i + k) = y2 at h2 h3
          go_wp2
          go_quiet (fail)
          go_wp2
          go_roundw
          case rel => exact ⟨k + 1, _, by omega, by go_num, rfl⟩
          case measure => simp [intOf]; omega
        · obtain rfl : k = m := by omega
          go_wp2
          go_roundw
          case rel => exact ⟨i + 1, d, by omega, by go_num, rfl⟩
          case measure => simp [intOf]; omega
    · obtain rfl : i = n1 := by omega
      go_wp2_with (first
        | (go_at_call 23; refine (count_calls _ (moreG g (x, l)) Al19 cl19 tk w19 A (HE2.out.below HB19.out) HLt19.out HCl19.out HRl19.out).mono ?_; rintro e w20 ⟨u20, r20, rfl, hu20, hb20⟩; rw [HC2.out.1, HC2.out.2]; rw [HM.out] at hu20; obtain rfl := hu20.nil_of rfl; have HB20 := Lib.hid (below_next HB19.out hb20); clear hu20 hb20)
        | (go_at_call 11; refine (HLI.out w18 HB18.out).mono ?_; rintro e w19 ⟨Al19, cl19, rfl, hcl19, hrl19, hb19⟩; have HRl19 := Lib.hid (lent_C (a := Kd.int .i64) (by have := Kd.R_reads' hrl19; have h2 := this.2.2; rwa [← this.1] at h2)); have HCl19 : Hid (tk.length ≤ cl19) := Lib.hid (by omega); have HB19 := Lib.hid (below_next HB18.out hb19); have HLt19 := Lib.hid (HLt18.out.below hb19); have Q19 := Lib.hid hb19; clear hrl19 hb19 hcl19)
        | (go_at_call 30; refine (HMo.out _ (show Below w2.heap.size w2 _ from pw_below_drewN HB17.out _)).mono ?_; rintro e w18 ⟨u18, rfl, hu18, hb18⟩; have HLt18 := Lib.hid hu18; have HB18 := Lib.hid (below_next (show Below w2.heap.size w2 _ from pw_below_drewN HB17.out _) hb18); clear hu18 hb18))
      go_ret
      exact ⟨rfl, below_next HB2.out HB20.out⟩
set_option maxHeartbeats 8000000 in
set_option maxRecDepth 100000 in
theorem memberMore_T4 {w : World} (g : Gr) (v : Value) (hg : GramAt w v g ∧ GramB g) (At : Option Addr) (ct : Nat) (tk : List Int)
    (ht : Kd.C (Kd.int .i64) w At tk.length tk ∧ tk.length * 8 ≤ 140737488351232 ∧ tk.length ≤ ct ∧ ∀ x ∈ tk, (Lit.int .i64 x).wf = true) (x : Int) (B : Option Addr) (c : Nat) (l : List Int) (hl : Kd.C (Kd.int .i64) w B l.length l ∧ l.length * 8 ≤ 140737488351232 ∧ l.length ≤ c ∧ (Lit.int .i64 x).wf = true ∧ ∀ s ∈ l, (Lit.int .i64 s).wf = true) (hE : ∃ A, Errs w A) (hok : (mayN g tk).1 = 0) (n : Nat) (hn0 : 0 < n) (hcv : cntV g tk = n) (hcx : cntX g tk = false) (hfb : fromB g tk g.ax = true) (hm : (mayN (moreG g (x, l)) tk).1 = 0) (m2 : Nat) (hc2 : cntV (moreG g (x, l)) tk = m2) (hx2 : cntX (moreG g (x, l)) tk = true) :
    Calls Tryd.prog 9 #[v, .slice At tk.length ct, .agg #[.int .i64 x, .slice B l.length c]] w fun e w' => e = .returned (.bool true) ∧ Below w.heap.size w w' := by
  obtain ⟨hv, hB⟩ := hg
  obtain ⟨hr, hl8, hlc, -⟩ := ht
  obtain ⟨hlC, hlB, -, -, -⟩ := hl
  obtain ⟨A, hE⟩ := hE
  have HV := Lib.hid hv
  obtain ⟨AT, cT, AN, cN, AR, cR, rfl, q1, q2, q3, q4, q5, q6⟩ := hv
  clear q4 q5 q6
  obtain ⟨w1, hw1⟩ : ∃ w1, w.alloc (.cells #[.slice AT g.terms.length cT, .slice AN g.nonterms.length cN, .int .i64 g.ax, .slice AR g.rules.length cR] 25) = w1 := ⟨_, rfl⟩
  have hb1 : Below w.heap.size w w1 := by rw [← hw1]; exact below_alloc (Below.refl _ _) _
  have hk1 : w1.heap[w.heap.size]? = some (.cells #[.slice AT g.terms.length cT, .slice AN g.nonterms.length cN, .int .i64 g.ax, .slice AR g.rules.length cR] 25 (0, 0)) := by rw [← hw1]; exact heap_alloc_new w _
  have hs1 : w1.heap.size = w.heap.size + 1 := by rw [← hw1]; exact World.size_alloc _ _
  obtain ⟨w2, hw2⟩ : ∃ w2, w1.alloc (.cells #[.int .i64 x, .slice B l.length c] 51) = w2 := ⟨_, rfl⟩
  have hb2 : Below w1.heap.size w1 w2 := by rw [← hw2]; exact below_alloc (Below.refl _ _) _
  have HKR : Hid (w2.heap[w1.heap.size]? = some (.cells #[.int .i64 x, .slice B l.length c] 51 (0, 0))) := Lib.hid (by rw [← hw2]; exact heap_alloc_new w1 _)
  have HB2 := Lib.hid (below_next hb1 hb2)
  have HK2 := Lib.hid (gblk_keep' hk1 hb2)
  have HG2 := Lib.hid (HV.out.below HB2.out)
  have HE2 := Lib.hid (hE.below HB2.out)
  have HL2 := Lib.hid (Kd.C_below hlC HB2.out)
  have HT2 := Lib.hid (Kd.C_below hr HB2.out)
  have HGB := Lib.hid hB
  have HLG := Lib.hid (fun (W : World) (hW : Below w2.heap.size w2 W) => lentGrammar_calls _ g W (HG2.out.below hW) (by have := hB.terms; omega) (by have := hB.nonterms; omega) (by have := hB.rules; omega) (fun r hr => by have := hB.right r hr; omega))
  have HLI := Lib.hid (fun (W : World) (hW : Below w2.heap.size w2 W) => lentInts_calls At ct tk W (Kd.C_below HT2.out hW) (by omega))
  have HMo := Lib.hid (fun (W : World) (hW : Below w2.heap.size w2 W) => more_calls g _ (HG2.out.below hW) HGB.out x B c l (Kd.C_below HL2.out hW) hlB)
  have HKn := Lib.hid (known_calls w2 A HE2.out)
  clear hb1 hk1 hE hB hb2 hlC hr hs1 hlB hl8
  obtain ⟨hc0, hn40⟩ := may_okN' hok
  obtain ⟨z1, z2, z3, z4, z5, z6, z7⟩ := checkN_zero hc0
  have HOK := Lib.hid hok
  have HN60 : Hid (g.nonterms.length ≤ 60) := Lib.hid (by omega)
  have HFK : Hid (fromK g tk g.ax = 0) := Lib.hid (by unfold fromK; rw [if_neg (by simp [hok]), if_neg (by omega)])
  obtain ⟨n1, hn1⟩ : ∃ n1 : Nat, n1 = tk.length + 1 := ⟨_, rfl⟩
  have HN1 := Lib.hid hn1
  have hn41 : n1 ≤ 41 := by omega
  have HCV := Lib.hid (And.intro hcv hcx)
  have HFB := Lib.hid hfb
  clear z1 z2 z3 z4 z5 z6 z7 hc0 hok hn1 hn40 hcv hcx hfb
  have HC2 := Lib.hid (And.intro hc2 hx2)
  clear hc2 hx2
  have HM := Lib.hid hm
  clear hm
  go_enter Tryd.func9, Tryd.ntmps9
  go_upto_region 15 with (first
    | (go_at_call 22; refine HKn.out.mono ?_; rintro e w3 ⟨rfl, hb3⟩; have HB3 := Lib.hid hb3; obtain ⟨d0, d1, d2, d3⟩ := blk_cells2 (gblk_keep' HK2.out HB3.out); obtain ⟨f0, f1⟩ := blk_rule (gblk_keep' HKR.out HB3.out); clear hb3)
    | (go_at_call 12; refine (msets_calls _ (moreG g (x, l)) Al16 cl16 tk w16 A (HE2.out.below HB16.out) HLt16.out HCl16.out HRl16.out).mono ?_; rintro e w17 h17; obtain ⟨O2, Bs2, Tm, rfl, hs17⟩ := h17.yes' HM.out; rw [← HN1.out]; have HB17 := Lib.hid (below_next HB16.out hs17.bel); have Q17 := Lib.hid (below_next (below_next Q15.out Q16.out) hs17.bel); have HS17 := Lib.hid hs17; clear d0 d1 d2 d3 f0 f1; obtain ⟨d0, d1, d2, d3⟩ := blk_cells2 (gblk_keep' HK2.out HB17.out); obtain ⟨f0, f1⟩ := blk_rule (gblk_keep' HKR.out HB17.out); clear h17 hs17)
    | (go_at_call 12; refine (msets_calls _ g Al13 cl13 tk w13 A (HE2.out.below HB13.out) HLt13.out HCl13.out HRl13.out).mono ?_; rintro e w14 h14; obtain ⟨O, Bs, Tn, rfl, hs14⟩ := h14.yes' HOK.out; rw [← HN1.out]; have HB14 := Lib.hid (below_next HB13.out hs14.bel); have HS14 := Lib.hid hs14; clear d0 d1 d2 d3 f0 f1; obtain ⟨d0, d1, d2, d3⟩ := blk_cells2 (gblk_keep' HK2.out HB14.out); obtain ⟨f0, f1⟩ := blk_rule (gblk_keep' HKR.out HB14.out); clear h14 hs14)
    | (go_at_call 11; refine (HLI.out w15 HB15.out).mono ?_; rintro e w16 ⟨Al16, cl16, rfl, hcl16, hrl16, hb16⟩; have HRl16 := Lib.hid (lent_C (a := Kd.int .i64) (by have := Kd.R_reads' hrl16; have h2 := this.2.2; rwa [← this.1] at h2)); have HCl16 : Hid (tk.length ≤ cl16) := Lib.hid (by omega); have HB16 := Lib.hid (below_next HB15.out hb16); have HLt16 := Lib.hid (HLt15.out.below hb16); have Q16 := Lib.hid hb16; clear hrl16 hb16 hcl16)
    | (go_at_call 30; refine (HMo.out w14 HB14.out).mono ?_; rintro e w15 ⟨u15, rfl, hu15, hb15⟩; have HLt15 := Lib.hid hu15; have HB15 := Lib.hid (below_next HB14.out hb15); have Q15 := Lib.hid hb15; clear hu15 hb15)
    | (go_at_call 11; refine (HLI.out w12 HB12.out).mono ?_; rintro e w13 ⟨Al13, cl13, rfl, hcl13, hrl13, hb13⟩; have HRl13 := Lib.hid (lent_C (a := Kd.int .i64) (by have := Kd.R_reads' hrl13; have h2 := this.2.2; rwa [← this.1] at h2)); have HCl13 : Hid (tk.length ≤ cl13) := Lib.hid (by omega); have HB13 := Lib.hid (below_next HB12.out hb13); have HLt13 := Lib.hid (HLt12.out.below hb13); have Q13 := Lib.hid hb13; clear hrl13 hb13 hcl13)
    | (go_at_call 10; refine (HLG.out w11 HB11.out).mono ?_; rintro e w12 ⟨u12, rfl, hu12, hb12⟩; have HLt12 := Lib.hid hu12.plain; have HB12 := Lib.hid (below_next HB11.out hb12); have Q12 := Lib.hid hb12; clear hu12 hb12)
    | (go_at_call 14; refine (kind_calls (HE2.out.below HB10.out) HU10.out).mono ?_; rintro e w11 ⟨rfl, hb11⟩; have HB11 := Lib.hid (below_next HB10.out hb11); clear d0 d1 d2 d3 f0 f1; obtain ⟨d0, d1, d2, d3⟩ := blk_cells2 (gblk_keep' HK2.out HB11.out); obtain ⟨f0, f1⟩ := blk_rule (gblk_keep' HKR.out HB11.out); clear hb11)
    | (go_at_call 14; refine (kind_calls (HE2.out.below HB9.out) HU6'.out).mono ?_; rintro e w10 ⟨rfl, hb10⟩; have HB10 := Lib.hid (below_next HB9.out hb10); have HU10 := Lib.hid (HU9.out.below hb10); clear d0 d1 d2 d3 f0 f1; obtain ⟨d0, d1, d2, d3⟩ := blk_cells2 (gblk_keep' HK2.out HB10.out); obtain ⟨f0, f1⟩ := blk_rule (gblk_keep' HKR.out HB10.out); clear hb10)
    | (go_at_call 23; refine (count_calls _ g Al8 cl8 tk w8 A (HE2.out.below HB8.out) HLt8.out HCl8.out HRl8.out).mono ?_; rintro e w9 ⟨u9, r9, rfl, hu9, hb9⟩; rw [HCV.out.1, HCV.out.2]; rw [HOK.out] at hu9; obtain rfl := hu9.nil_of rfl; have HB9 := Lib.hid (below_next HB8.out hb9); have HU9 := Lib.hid hu9; have HU6' := Lib.hid (HU6.out.below (below_next (below_next Q7.out Q8.out) hb9)); clear d0 d1 d2 d3 f0 f1; obtain ⟨d0, d1, d2, d3⟩ := blk_cells2 (gblk_keep' HK2.out HB9.out); obtain ⟨f0, f1⟩ := blk_rule (gblk_keep' HKR.out HB9.out); clear hu9 hb9)
    | (go_at_call 18; refine (mderives_calls _ g Al5 cl5 tk w5 A (HE2.out.below HB5.out) HLt5.out HCl5.out HRl5.out).mono ?_; rintro e w6 ⟨u6, r6, rfl, hu6, hb6⟩; rw [HFB.out]; rw [HFK.out] at hu6; have HU6 := Lib.hid hu6; obtain rfl := hu6.nil_of rfl; have HB6 := Lib.hid (below_next HB5.out hb6); clear d0 d1 d2 d3 f0 f1; obtain ⟨d0, d1, d2, d3⟩ := blk_cells2 (gblk_keep' HK2.out HB6.out); obtain ⟨f0, f1⟩ := blk_rule (gblk_keep' HKR.out HB6.out); clear hu6 hb6)
    | (go_at_call 11; refine (HLI.out w7 HB7.out).mono ?_; rintro e w8 ⟨Al8, cl8, rfl, hcl8, hrl8, hb8⟩; have HRl8 := Lib.hid (lent_C (a := Kd.int .i64) (by have := Kd.R_reads' hrl8; have h2 := this.2.2; rwa [← this.1] at h2)); have HCl8 : Hid (tk.length ≤ cl8) := Lib.hid (by omega); have HB8 := Lib.hid (below_next HB7.out hb8); have HLt8 := Lib.hid (HLt7.out.below hb8); have Q8 := Lib.hid hb8; clear hrl8 hb8 hcl8)
    | (go_at_call 10; refine (HLG.out w6 HB6.out).mono ?_; rintro e w7 ⟨u7, rfl, hu7, hb7⟩; have HLt7 := Lib.hid hu7.plain; have HB7 := Lib.hid (below_next HB6.out hb7); have Q7 := Lib.hid hb7; clear hu7 hb7)
    | (go_at_call 11; refine (HLI.out w4 HB4.out).mono ?_; rintro e w5 ⟨Al5, cl5, rfl, hcl5, hrl5, hb5⟩; have HRl5 := Lib.hid (lent_C (a := Kd.int .i64) (by have := Kd.R_reads' hrl5; have h2 := this.2.2; rwa [← this.1] at h2)); have HCl5 : Hid (tk.length ≤ cl5) := Lib.hid (by omega); have HB5 := Lib.hid (below_next HB4.out hb5); have HLt5 := Lib.hid (HLt4.out.below hb5); have Q5 := Lib.hid hb5; clear hrl5 hb5 hcl5)
    | (go_at_call 10; refine (HLG.out w3 HB3.out).mono ?_; rintro e w4 ⟨u4, rfl, hu4, hb4⟩; have HLt4 := Lib.hid hu4.plain; have HB4 := Lib.hid (below_next HB3.out hb4); have Q4 := Lib.hid hb4; clear hu4 hb4))
  have HO1 := Lib.hid (HS14.out.out.below Q17.out)
  have HI1 := Lib.hid (fun i (hi : i ≤ tk.length) => (HS14.out.inn i hi).below Q17.out)
  go_wp2
  go_loopw [16, 17] (fun a _ wr => ∃ i d : Nat, i ≤ n1 ∧ a = .int .i64 i ∧ wr = w17.drewN d) (fun a _ _ => n1 - (intOf a).toNat)
  case atStart => exact ⟨0, 0, by omega, rfl, rfl⟩
  case round =>
    obtain ⟨i, d, hi, rfl, rfl⟩ := hrel
    by_cases hin : i < n1
    · have hit : i ≤ tk.length := by have := HN1.out; omega
      have p1 := HO1.out.cell i (by omega)
      have p2 := HS17.out.out.cell i (by omega)
      obtain ⟨m, hm⟩ : ∃ m : Nat, tk.length - i + 1 = m := ⟨_, rfl⟩
      rw [hm] at p1 p2
      have HMm := Lib.hid hm
      have hm41 : m ≤ 41 := by have := HN1.out; omega
      clear hm
      go_wp2
      go_loopw [17] (fun a wr => ∃ k d : Nat, k ≤ m ∧ a = .int .i64 k ∧ wr = w17.drewN d) (fun a _ => m - (intOf a).toNat)
      case atStart => exact ⟨0, d, by omega, rfl, rfl⟩
      case round =>
        obtain ⟨k, d, hk, rfl, rfl⟩ := hrel
        by_cases hkm : k < m
        · have h1 := (HI1.out i hit).cell k (by have := HMm.out; omega)
          have h2 := (HS17.out.inn i hit).cell k (by have := HMm.out; omega)
          have h3 := sets_more HS14.out HS17.out HN60.out (show i ≤ i + k by omega) (show i + k ≤ tk.length by have := HMm.out; omega)
          generalize Tn i (i + k) = y1 at h1 h3
          generalize Tm i (i + k) = y2 at h2 h3
          go_wp2
          go_quiet (fail)
          go_wp2
          go_roundw
          case rel => exact ⟨k + 1, _, by omega, by go_num, rfl⟩
          case measure => simp [intOf]; omega
        · obtain rfl : k = m := by omega
          go_wp2
          go_roundw
          case rel => exact ⟨i + 1, d, by omega, by go_num, rfl⟩
          case measure => simp [intOf]; omega
    · obtain rfl : i = n1 := by omega
      go_wp2_with (first
        | (go_at_call 23; refine (count_calls _ (moreG g (x, l)) Al19 cl19 tk w19 A (HE2.out.below HB19.out) HLt19.out HCl19.out HRl19.out).mono ?_; rintro e w20 ⟨u20, r20, rfl, hu20, hb20⟩; rw [HC2.out.1, HC2.out.2]; rw [HM.out] at hu20; obtain rfl := hu20.nil_of rfl; have HB20 := Lib.hid (below_next HB19.out hb20); clear hu20 hb20)
        | (go_at_call 11; refine (HLI.out w18 HB18.out).mono ?_; rintro e w19 ⟨Al19, cl19, rfl, hcl19, hrl19, hb19⟩; have HRl19 := Lib.hid (lent_C (a := Kd.int .i64) (by have := Kd.R_reads' hrl19; have h2 := this.2.2; rwa [← this.1] at h2)); have HCl19 : Hid (tk.length ≤ cl19) := Lib.hid (by omega); have HB19 := Lib.hid (below_next HB18.out hb19); have HLt19 := Lib.hid (HLt18.out.below hb19); have Q19 := Lib.hid hb19; clear hrl19 hb19 hcl19)
        | (go_at_call 30; refine (HMo.out _ (show Below w2.heap.size w2 _ from pw_below_drewN HB17.out _)).mono ?_; rintro e w18 ⟨u18, rfl, hu18, hb18⟩; have HLt18 := Lib.hid hu18; have HB18 := Lib.hid (below_next (show Below w2.heap.size w2 _ from pw_below_drewN HB17.out _) hb18); clear hu18 hb18))
      go_ret
      exact ⟨rfl, below_next HB2.out HB20.out⟩
set_option maxHeartbeats 8000000 in
set_option maxRecDepth 100000 in
theorem memberMore_T5 {w : World} (g : Gr) (v : Value) (hg : GramAt w v g ∧ GramB g) (At : Option Addr) (ct : Nat) (tk : List Int)
    (ht : Kd.C (Kd.int .i64) w At tk.length tk ∧ tk.length * 8 ≤ 140737488351232 ∧ tk.length ≤ ct ∧ ∀ x ∈ tk, (Lit.int .i64 x).wf = true) (x : Int) (B : Option Addr) (c : Nat) (l : List Int) (hl : Kd.C (Kd.int .i64) w B l.length l ∧ l.length * 8 ≤ 140737488351232 ∧ l.length ≤ c ∧ (Lit.int .i64 x).wf = true ∧ ∀ s ∈ l, (Lit.int .i64 s).wf = true) (hE : ∃ A, Errs w A) (hok : (mayN g tk).1 = 0) (n : Nat) (hn0 : 0 < n) (hcv : cntV g tk = n) (hcx : cntX g tk = false) (hfb : fromB g tk g.ax = true) (hm : (mayN (moreG g (x, l)) tk).1 = 0) (m2 : Nat) (hle : n ≤ m2) (hc2 : cntV (moreG g (x, l)) tk = m2) (hx2 : cntX (moreG g (x, l)) tk = false) :
    Calls Tryd.prog 9 #[v, .slice At tk.length ct, .agg #[.int .i64 x, .slice B l.length c]] w fun e w' => e = .returned (.bool true) ∧ Below w.heap.size w w' := by
  obtain ⟨hv, hB⟩ := hg
  obtain ⟨hr, hl8, hlc, -⟩ := ht
  obtain ⟨hlC, hlB, -, -, -⟩ := hl
  obtain ⟨A, hE⟩ := hE
  have HV := Lib.hid hv
  obtain ⟨AT, cT, AN, cN, AR, cR, rfl, q1, q2, q3, q4, q5, q6⟩ := hv
  clear q4 q5 q6
  obtain ⟨w1, hw1⟩ : ∃ w1, w.alloc (.cells #[.slice AT g.terms.length cT, .slice AN g.nonterms.length cN, .int .i64 g.ax, .slice AR g.rules.length cR] 25) = w1 := ⟨_, rfl⟩
  have hb1 : Below w.heap.size w w1 := by rw [← hw1]; exact below_alloc (Below.refl _ _) _
  have hk1 : w1.heap[w.heap.size]? = some (.cells #[.slice AT g.terms.length cT, .slice AN g.nonterms.length cN, .int .i64 g.ax, .slice AR g.rules.length cR] 25 (0, 0)) := by rw [← hw1]; exact heap_alloc_new w _
  have hs1 : w1.heap.size = w.heap.size + 1 := by rw [← hw1]; exact World.size_alloc _ _
  obtain ⟨w2, hw2⟩ : ∃ w2, w1.alloc (.cells #[.int .i64 x, .slice B l.length c] 51) = w2 := ⟨_, rfl⟩
  have hb2 : Below w1.heap.size w1 w2 := by rw [← hw2]; exact below_alloc (Below.refl _ _) _
  have HKR : Hid (w2.heap[w1.heap.size]? = some (.cells #[.int .i64 x, .slice B l.length c] 51 (0, 0))) := Lib.hid (by rw [← hw2]; exact heap_alloc_new w1 _)
  have HB2 := Lib.hid (below_next hb1 hb2)
  have HK2 := Lib.hid (gblk_keep' hk1 hb2)
  have HG2 := Lib.hid (HV.out.below HB2.out)
  have HE2 := Lib.hid (hE.below HB2.out)
  have HL2 := Lib.hid (Kd.C_below hlC HB2.out)
  have HT2 := Lib.hid (Kd.C_below hr HB2.out)
  have HGB := Lib.hid hB
  have HLG := Lib.hid (fun (W : World) (hW : Below w2.heap.size w2 W) => lentGrammar_calls _ g W (HG2.out.below hW) (by have := hB.terms; omega) (by have := hB.nonterms; omega) (by have := hB.rules; omega) (fun r hr => by have := hB.right r hr; omega))
  have HLI := Lib.hid (fun (W : World) (hW : Below w2.heap.size w2 W) => lentInts_calls At ct tk W (Kd.C_below HT2.out hW) (by omega))
  have HMo := Lib.hid (fun (W : World) (hW : Below w2.heap.size w2 W) => more_calls g _ (HG2.out.below hW) HGB.out x B c l (Kd.C_below HL2.out hW) hlB)
  have HKn := Lib.hid (known_calls w2 A HE2.out)
  clear hb1 hk1 hE hB hb2 hlC hr hs1 hlB hl8
  obtain ⟨hc0, hn40⟩ := may_okN' hok
  obtain ⟨z1, z2, z3, z4, z5, z6, z7⟩ := checkN_zero hc0
  have HOK := Lib.hid hok
  have HN60 : Hid (g.nonterms.length ≤ 60) := Lib.hid (by omega)
  have HFK : Hid (fromK g tk g.ax = 0) := Lib.hid (by unfold fromK; rw [if_neg (by simp [hok]), if_neg (by omega)])
  obtain ⟨n1, hn1⟩ : ∃ n1 : Nat, n1 = tk.length + 1 := ⟨_, rfl⟩
  have HN1 := Lib.hid hn1
  have hn41 : n1 ≤ 41 := by omega
  have HCV := Lib.hid (And.intro hcv hcx)
  have HFB := Lib.hid hfb
  clear z1 z2 z3 z4 z5 z6 z7 hc0 hok hn1 hn40 hcv hcx hfb
  have HC2 := Lib.hid (And.intro hc2 hx2)
  clear hc2 hx2
  have HM := Lib.hid hm
  clear hm
  go_enter Tryd.func9, Tryd.ntmps9
  go_upto_region 15 with (first
    | (go_at_call 22; refine HKn.out.mono ?_; rintro e w3 ⟨rfl, hb3⟩; have HB3 := Lib.hid hb3; obtain ⟨d0, d1, d2, d3⟩ := blk_cells2 (gblk_keep' HK2.out HB3.out); obtain ⟨f0, f1⟩ := blk_rule (gblk_keep' HKR.out HB3.out); clear hb3)
    | (go_at_call 12; refine (msets_calls _ (moreG g (x, l)) Al16 cl16 tk w16 A (HE2.out.below HB16.out) HLt16.out HCl16.out HRl16.out).mono ?_; rintro e w17 h17; obtain ⟨O2, Bs2, Tm, rfl, hs17⟩ := h17.yes' HM.out; rw [← HN1.out]; have HB17 := Lib.hid (below_next HB16.out hs17.bel); have Q17 := Lib.hid (below_next (below_next Q15.out Q16.out) hs17.bel); have HS17 := Lib.hid hs17; clear d0 d1 d2 d3 f0 f1; obtain ⟨d0, d1, d2, d3⟩ := blk_cells2 (gblk_keep' HK2.out HB17.out); obtain ⟨f0, f1⟩ := blk_rule (gblk_keep' HKR.out HB17.out); clear h17 hs17)
    | (go_at_call 12; refine (msets_calls _ g Al13 cl13 tk w13 A (HE2.out.below HB13.out) HLt13.out HCl13.out HRl13.out).mono ?_; rintro e w14 h14; obtain ⟨O, Bs, Tn, rfl, hs14⟩ := h14.yes' HOK.out; rw [← HN1.out]; have HB14 := Lib.hid (below_next HB13.out hs14.bel); have HS14 := Lib.hid hs14; clear d0 d1 d2 d3 f0 f1; obtain ⟨d0, d1, d2, d3⟩ := blk_cells2 (gblk_keep' HK2.out HB14.out); obtain ⟨f0, f1⟩ := blk_rule (gblk_keep' HKR.out HB14.out); clear h14 hs14)
    | (go_at_call 11; refine (HLI.out w15 HB15.out).mono ?_; rintro e w16 ⟨Al16, cl16, rfl, hcl16, hrl16, hb16⟩; have HRl16 := Lib.hid (lent_C (a := Kd.int .i64) (by have := Kd.R_reads' hrl16; have h2 := this.2.2; rwa [← this.1] at h2)); have HCl16 : Hid (tk.length ≤ cl16) := Lib.hid (by omega); have HB16 := Lib.hid (below_next HB15.out hb16); have HLt16 := Lib.hid (HLt15.out.below hb16); have Q16 := Lib.hid hb16; clear hrl16 hb16 hcl16)
    | (go_at_call 30; refine (HMo.out w14 HB14.out).mono ?_; rintro e w15 ⟨u15, rfl, hu15, hb15⟩; have HLt15 := Lib.hid hu15; have HB15 := Lib.hid (below_next HB14.out hb15); have Q15 := Lib.hid hb15; clear hu15 hb15)
    | (go_at_call 11; refine (HLI.out w12 HB12.out).mono ?_; rintro e w13 ⟨Al13, cl13, rfl, hcl13, hrl13, hb13⟩; have HRl13 := Lib.hid (lent_C (a := Kd.int .i64) (by have := Kd.R_reads' hrl13; have h2 := this.2.2; rwa [← this.1] at h2)); have HCl13 : Hid (tk.length ≤ cl13) := Lib.hid (by omega); have HB13 := Lib.hid (below_next HB12.out hb13); have HLt13 := Lib.hid (HLt12.out.below hb13); have Q13 := Lib.hid hb13; clear hrl13 hb13 hcl13)
    | (go_at_call 10; refine (HLG.out w11 HB11.out).mono ?_; rintro e w12 ⟨u12, rfl, hu12, hb12⟩; have HLt12 := Lib.hid hu12.plain; have HB12 := Lib.hid (below_next HB11.out hb12); have Q12 := Lib.hid hb12; clear hu12 hb12)
    | (go_at_call 14; refine (kind_calls (HE2.out.below HB10.out) HU10.out).mono ?_; rintro e w11 ⟨rfl, hb11⟩; have HB11 := Lib.hid (below_next HB10.out hb11); clear d0 d1 d2 d3 f0 f1; obtain ⟨d0, d1, d2, d3⟩ := blk_cells2 (gblk_keep' HK2.out HB11.out); obtain ⟨f0, f1⟩ := blk_rule (gblk_keep' HKR.out HB11.out); clear hb11)
    | (go_at_call 14; refine (kind_calls (HE2.out.below HB9.out) HU6'.out).mono ?_; rintro e w10 ⟨rfl, hb10⟩; have HB10 := Lib.hid (below_next HB9.out hb10); have HU10 := Lib.hid (HU9.out.below hb10); clear d0 d1 d2 d3 f0 f1; obtain ⟨d0, d1, d2, d3⟩ := blk_cells2 (gblk_keep' HK2.out HB10.out); obtain ⟨f0, f1⟩ := blk_rule (gblk_keep' HKR.out HB10.out); clear hb10)
    | (go_at_call 23; refine (count_calls _ g Al8 cl8 tk w8 A (HE2.out.below HB8.out) HLt8.out HCl8.out HRl8.out).mono ?_; rintro e w9 ⟨u9, r9, rfl, hu9, hb9⟩; rw [HCV.out.1, HCV.out.2]; rw [HOK.out] at hu9; obtain rfl := hu9.nil_of rfl; have HB9 := Lib.hid (below_next HB8.out hb9); have HU9 := Lib.hid hu9; have HU6' := Lib.hid (HU6.out.below (below_next (below_next Q7.out Q8.out) hb9)); clear d0 d1 d2 d3 f0 f1; obtain ⟨d0, d1, d2, d3⟩ := blk_cells2 (gblk_keep' HK2.out HB9.out); obtain ⟨f0, f1⟩ := blk_rule (gblk_keep' HKR.out HB9.out); clear hu9 hb9)
    | (go_at_call 18; refine (mderives_calls _ g Al5 cl5 tk w5 A (HE2.out.below HB5.out) HLt5.out HCl5.out HRl5.out).mono ?_; rintro e w6 ⟨u6, r6, rfl, hu6, hb6⟩; rw [HFB.out]; rw [HFK.out] at hu6; have HU6 := Lib.hid hu6; obtain rfl := hu6.nil_of rfl; have HB6 := Lib.hid (below_next HB5.out hb6); clear d0 d1 d2 d3 f0 f1; obtain ⟨d0, d1, d2, d3⟩ := blk_cells2 (gblk_keep' HK2.out HB6.out); obtain ⟨f0, f1⟩ := blk_rule (gblk_keep' HKR.out HB6.out); clear hu6 hb6)
    | (go_at_call 11; refine (HLI.out w7 HB7.out).mono ?_; rintro e w8 ⟨Al8, cl8, rfl, hcl8, hrl8, hb8⟩; have HRl8 := Lib.hid (lent_C (a := Kd.int .i64) (by have := Kd.R_reads' hrl8; have h2 := this.2.2; rwa [← this.1] at h2)); have HCl8 : Hid (tk.length ≤ cl8) := Lib.hid (by omega); have HB8 := Lib.hid (below_next HB7.out hb8); have HLt8 := Lib.hid (HLt7.out.below hb8); have Q8 := Lib.hid hb8; clear hrl8 hb8 hcl8)
    | (go_at_call 10; refine (HLG.out w6 HB6.out).mono ?_; rintro e w7 ⟨u7, rfl, hu7, hb7⟩; have HLt7 := Lib.hid hu7.plain; have HB7 := Lib.hid (below_next HB6.out hb7); have Q7 := Lib.hid hb7; clear hu7 hb7)
    | (go_at_call 11; refine (HLI.out w4 HB4.out).mono ?_; rintro e w5 ⟨Al5, cl5, rfl, hcl5, hrl5, hb5⟩; have HRl5 := Lib.hid (lent_C (a := Kd.int .i64) (by have := Kd.R_reads' hrl5; have h2 := this.2.2; rwa [← this.1] at h2)); have HCl5 : Hid (tk.length ≤ cl5) := Lib.hid (by omega); have HB5 := Lib.hid (below_next HB4.out hb5); have HLt5 := Lib.hid (HLt4.out.below hb5); have Q5 := Lib.hid hb5; clear hrl5 hb5 hcl5)
    | (go_at_call 10; refine (HLG.out w3 HB3.out).mono ?_; rintro e w4 ⟨u4, rfl, hu4, hb4⟩; have HLt4 := Lib.hid hu4.plain; have HB4 := Lib.hid (below_next HB3.out hb4); have Q4 := Lib.hid hb4; clear hu4 hb4))
  have HO1 := Lib.hid (HS14.out.out.below Q17.out)
  have HI1 := Lib.hid (fun i (hi : i ≤ tk.length) => (HS14.out.inn i hi).below Q17.out)
  go_wp2
  go_loopw [16, 17] (fun a _ wr => ∃ i d : Nat, i ≤ n1 ∧ a = .int .i64 i ∧ wr = w17.drewN d) (fun a _ _ => n1 - (intOf a).toNat)
  case atStart => exact ⟨0, 0, by omega, rfl, rfl⟩
  case round =>
    obtain ⟨i, d, hi, rfl, rfl⟩ := hrel
    by_cases hin : i < n1
    · have hit : i ≤ tk.length := by have := HN1.out; omega
      have p1 := HO1.out.cell i (by omega)
      have p2 := HS17.out.out.cell i (by omega)
      obtain ⟨m, hm⟩ : ∃ m : Nat, tk.length - i + 1 = m := ⟨_, rfl⟩
      rw [hm] at p1 p2
      have HMm := Lib.hid hm
      have hm41 : m ≤ 41 := by have := HN1.out; omega
      clear hm
      go_wp2
      go_loopw [17] (fun a wr => ∃ k d : Nat, k ≤ m ∧ a = .int .i64 k ∧ wr = w17.drewN d) (fun a _ => m - (intOf a).toNat)
      case atStart => exact ⟨0, d, by omega, rfl, rfl⟩
      case round =>
        obtain ⟨k, d, hk, rfl, rfl⟩ := hrel
        by_cases hkm : k < m
        · have h1 := (HI1.out i hit).cell k (by have := HMm.out; omega)
          have h2 := (HS17.out.inn i hit).cell k (by have := HMm.out; omega)
          have h3 := sets_more HS14.out HS17.out HN60.out (show i ≤ i + k by omega) (show i + k ≤ tk.length by have := HMm.out; omega)
          generalize Tn i (i + k) = y1 at h1 h3
          generalize Tm i (i + k) = y2 at h2 h3
          go_wp2
          go_quiet (fail)
          go_wp2
          go_roundw
          case rel => exact ⟨k + 1, _, by omega, by go_num, rfl⟩
          case measure => simp [intOf]; omega
        · obtain rfl : k = m := by omega
          go_wp2
          go_roundw
          case rel => exact ⟨i + 1, d, by omega, by go_num, rfl⟩
          case measure => simp [intOf]; omega
    · obtain rfl : i = n1 := by omega
      go_wp2_with (first
        | (go_at_call 23; refine (count_calls _ (moreG g (x, l)) Al19 cl19 tk w19 A (HE2.out.below HB19.out) HLt19.out HCl19.out HRl19.out).mono ?_; rintro e w20 ⟨u20, r20, rfl, hu20, hb20⟩; rw [HC2.out.1, HC2.out.2]; rw [HM.out] at hu20; obtain rfl := hu20.nil_of rfl; have HB20 := Lib.hid (below_next HB19.out hb20); clear hu20 hb20)
        | (go_at_call 11; refine (HLI.out w18 HB18.out).mono ?_; rintro e w19 ⟨Al19, cl19, rfl, hcl19, hrl19, hb19⟩; have HRl19 := Lib.hid (lent_C (a := Kd.int .i64) (by have := Kd.R_reads' hrl19; have h2 := this.2.2; rwa [← this.1] at h2)); have HCl19 : Hid (tk.length ≤ cl19) := Lib.hid (by omega); have HB19 := Lib.hid (below_next HB18.out hb19); have HLt19 := Lib.hid (HLt18.out.below hb19); have Q19 := Lib.hid hb19; clear hrl19 hb19 hcl19)
        | (go_at_call 30; refine (HMo.out _ (show Below w2.heap.size w2 _ from pw_below_drewN HB17.out _)).mono ?_; rintro e w18 ⟨u18, rfl, hu18, hb18⟩; have HLt18 := Lib.hid hu18; have HB18 := Lib.hid (below_next (show Below w2.heap.size w2 _ from pw_below_drewN HB17.out _) hb18); clear hu18 hb18))
      go_ret
      exact ⟨rfl, below_next HB2.out HB20.out⟩
set_option maxHeartbeats 8000000 in
set_option maxRecDepth 100000 in
theorem memberMore_walk {w : World} (g : Gr) (v : Value) (hg : GramAt w v g ∧ GramB g) (At : Option Addr) (ct : Nat) (tk : List Int)
    (ht : Kd.C (Kd.int .i64) w At tk.length tk ∧ tk.length * 8 ≤ 140737488351232 ∧ tk.length ≤ ct ∧ ∀ x ∈ tk, (Lit.int .i64 x).wf = true) (x : Int) (B : Option Addr) (c : Nat) (l : List Int) (hl : Kd.C (Kd.int .i64) w B l.length l ∧ l.length * 8 ≤ 140737488351232 ∧ l.length ≤ c ∧ (Lit.int .i64 x).wf = true ∧ ∀ s ∈ l, (Lit.int .i64 s).wf = true) (hE : ∃ A, Errs w A) :
    Calls Tryd.prog 9 #[v, .slice At tk.length ct, .agg #[.int .i64 x, .slice B l.length c]] w fun e w' => e = .returned (.bool true) ∧ Below w.heap.size w w' := by
  by_cases hok : (mayN g tk).1 = 0
  · have h3 := count_three hok
    by_cases hm : (mayN (moreG g (x, l)) tk).1 = 0
    · have h4 := count_more hok hm
      rcases h3 with ⟨h1, h2, h3, _⟩ | ⟨h1, h2, h3⟩ | ⟨n, h1, hn, _, h2, h3⟩
      · rcases h4 with h4 | ⟨_, h5, _⟩
        · exact memberMore_T1 g v hg At ct tk ht x B c l hl hE hok h1 h2 h3 hm _ rfl h4
        · rw [h2] at h5; cases h5
      · rcases h4 with h4 | ⟨h4, _, h5⟩
        · exact memberMore_T2 g v hg At ct tk ht x B c l hl hE hok h1 h2 h3 hm _ rfl h4
        · exact memberMore_T3 g v hg At ct tk ht x B c l hl hE hok h1 h2 h3 hm _ rfl h4
      · rcases h4 with h4 | ⟨h4, _, h5⟩
        · exact memberMore_T4 g v hg At ct tk ht x B c l hl hE hok n hn h1 h2 h3 hm _ rfl h4
        · exact memberMore_T5 g v hg At ct tk ht x B c l hl hE hok n hn h1 h2 h3 hm _ (by rw [← h1]; exact h5) rfl h4
    · rcases h3 with ⟨h1, h2, h3, _⟩ | ⟨h1, h2, h3⟩ | ⟨n, h1, hn, _, h2, h3⟩
      · exact memberMore_M1 g v hg At ct tk ht x B c l hl hE hok h1 h2 h3 hm
      · exact memberMore_M2 g v hg At ct tk ht x B c l hl hE hok h1 h2 h3 hm
      · exact memberMore_M3 g v hg At ct tk ht x B c l hl hE hok n hn h1 h2 h3 hm
  · exact memberMore_E g v hg At ct tk ht x B c l hl hE hok
end Go.Proofs.YtndimnomkcjeiaaDoor.Hand
