/- The texts that the statement's proof stands on, part 2: XRight XRow XRcut XWkM XMay XEq XKit XStp XNode. -/
import Derived.Test.YtapgglmdnggopaaDoorZ2baf5b2c7
import Derived.Deep.LoopGhost
import Derived.ArgAppend
import Derived.Laws.StructEq
import Derived.WalkLawsBesides
import Derived.Test.YtapgglmdnggopaaDoorWLast
/- Plainly: what a grammar that is right is like. -/
namespace Go.Proofs.YtapgglmdnggopaaDoor.Hand
open Go.RowKit Go.Proofs.YtapgglmdnggopaaDoorW.PrintWords Go.Proofs.YtapgglmdnggopaaDoorW.PrintMore Go.Proofs.YtapgglmdnggopaaDoor.Math

theorem firstBad_zero (t n : Nat) : ∀ (l : List (Int × List Int)) (i : Nat), (firstBad t n l i).1 = 0 → ∀ r ∈ l, ruleN t n r = 0
  | [], _, _, r, hr => by cases hr
  | x :: l, i, h, r, hr => by
    unfold firstBad at h
    by_cases h0 : ruleN t n x = 0
    · rw [if_pos h0] at h
      rcases List.mem_cons.1 hr with rfl | hr
      · exact h0
      · exact firstBad_zero t n l (i + 1) h r hr
    · rw [if_neg h0] at h
      exact absurd h h0
structure RightIs (g : Gr) : Prop where
  size : g.terms.length + g.nonterms.length ≤ 60
  rules : g.rules.length ≤ 120
  terms : NamesOk g.terms
  nonterms : NamesOk g.nonterms
  ax0 : 0 ≤ g.ax
  ax1 : g.ax < g.nonterms.length
  ruleN : ∀ r ∈ g.rules, ruleN g.terms.length g.nonterms.length r = 0
theorem checkN_zero {g : Gr} (h : (checkN g).1 = 0) : RightIs g := by
  unfold checkN at h
  split at h
  · cases h
  · split at h
    · cases h
    · split at h
      · cases h
      · rename_i h1 h2 h3
        have h2' : NamesOk g.terms ∧ NamesOk g.nonterms := ⟨Classical.byContradiction (fun x => h2 (.inl x)), Classical.byContradiction (fun x => h2 (.inr x))⟩
        exact ⟨by omega, by omega, h2'.1, h2'.2, by omega, by omega, firstBad_zero _ _ _ _ h⟩
theorem firstBad_ok (t n : Nat) : ∀ (l : List (Int × List Int)) (i : Nat), (firstBad t n l i).1 = 0 → firstBad t n l i = (0, -1)
  | [], _, _ => rfl
  | x :: l, i, h => by
    unfold firstBad at h ⊢
    by_cases h0 : Hand.ruleN t n x = 0
    · rw [if_pos h0] at h ⊢
      exact firstBad_ok t n l (i + 1) h
    · rw [if_neg h0] at h
      exact absurd h h0
theorem checkN_ok {g : Gr} (h : (checkN g).1 = 0) : checkN g = (0, -1) := by
  unfold checkN at h ⊢
  split at h
  · cases h
  · rename_i h1
    rw [if_neg h1]
    split at h
    · cases h
    · rename_i h2
      rw [if_neg h2]
      split at h
      · cases h
      · rename_i h3
        rw [if_neg h3]
        exact firstBad_ok _ _ _ _ h
theorem ruleN_len {t n : Nat} {r : Int × List Int} (h : Hand.ruleN t n r = 0) : r.2.length ≤ 32 := by
  unfold Hand.ruleN at h
  split at h
  · cases h
  · omega
/-- How many symbols all right sides have. -/
def sizeN (l : List (Int × List Int)) : Nat := (l.map (fun r => r.2.length)).sum
theorem sizeN_snoc (l : List (Int × List Int)) (r : Int × List Int) : sizeN (l ++ [r]) = sizeN l + r.2.length := by simp [sizeN]
theorem sizeN_le (l : List (Int × List Int)) (h : ∀ r ∈ l, r.2.length ≤ 32) : sizeN l ≤ 32 * l.length := by
  induction l with
  | nil => simp [sizeN]
  | cons x l ih =>
    have := ih (fun r hr => h r (List.mem_cons_of_mem _ hr))
    have h2 := h x List.mem_cons_self
    simp only [sizeN, List.map_cons, List.sum_cons, List.length_cons] at this ⊢
    omega
theorem sizeN_take (l : List (Int × List Int)) (k : Nat) : sizeN (l.take k) ≤ sizeN l := by
  have : sizeN l = sizeN (l.take k) + sizeN (l.drop k) := by
    conv => lhs; rw [← List.take_append_drop k l]
    simp [sizeN, -List.take_append_drop]
  omega
def tokBad (t : Nat) (x : Int) : Bool := decide (x < 0) || decide ((t : Int) ≤ x)
open Classical in
/-- What is wrong of a grammar and tokens: the error's number, and the rule. -/
noncomputable def mayN (g : Gr) (tk : List Int) : Nat × Int :=
  if (checkN g).1 ≠ 0 then checkN g
  else if 40 < tk.length ∨ 512 < sizeN g.rules then (12, -1)
  else if tk.any (tokBad g.terms.length) = true then (1, -1)
  else (0, -1)
end Go.Proofs.YtapgglmdnggopaaDoor.Hand
/- Rows in a block of their own, by their cells: made, written, kept. -/
namespace Go.Proofs.YtapgglmdnggopaaDoor.Hand
open Go.RowKit Go.Proofs.YtapgglmdnggopaaDoorW.PrintWords Go.Proofs.YtapgglmdnggopaaDoorW.PrintMore Go.Proofs.YtapgglmdnggopaaDoor.Math

/-- Block g begins with these m cells, and may be written. -/
structure Row (w : World) (g m : Nat) (f : Nat → Value) : Prop where
  cell : ∀ q, q < m → w.cell? ⟨g, q, none⟩ = some (f q)
  free : ∀ q, w.frozen? ⟨g, q, none⟩ = false
  lt : g < w.heap.size
section
variable {w w' : World} {g m : Nat} {f : Nat → Value}
theorem Row.below (h : Row w g m f) (hb : Below w.heap.size w w') : Row w' g m f :=
  ⟨fun q hq => (hb.cell (p := ⟨g, q, none⟩) h.lt).trans (h.cell q hq), fun q => (hb.frozen (p := ⟨g, q, none⟩) h.lt).trans (h.free q), Nat.lt_of_lt_of_le h.lt hb.size⟩
theorem Row.belowN (h : Row w g m f) {B : Nat} (hb : Below B w w') (hg : g < B) : Row w' g m f :=
  ⟨fun q hq => (hb.cell (p := ⟨g, q, none⟩) hg).trans (h.cell q hq), fun q => (hb.frozen (p := ⟨g, q, none⟩) hg).trans (h.free q), Nat.lt_of_lt_of_le h.lt hb.size⟩
theorem Row.drewN (h : Row w g m f) (n : Nat) : Row (w.drewN n) g m f := h.below (pw_below_drewN (Below.refl _ _) _)
theorem Row.block (h : Row w g m f) (hk : w'.heap[g]? = w.heap[g]?) (hs : w.heap.size ≤ w'.heap.size) : Row w' g m f :=
  ⟨fun q hq => (World.cell?_of_block (w := w) (a := ⟨g, q, none⟩) hk).trans (h.cell q hq), fun q => (World.frozen?_of_block (w := w) (a := ⟨g, q, none⟩) hk).trans (h.free q), Nat.lt_of_lt_of_le h.lt hs⟩
theorem Row.far (h : Row w g m f) (p : Addr) (hp : p.block ≠ g) (v : Value) : Row (w.setCell p v) g m f :=
  ⟨fun q hq => (World.cell?_setCell_other w p ⟨g, q, none⟩ v (fun e => hp (by rw [e]))).trans (h.cell q hq), fun q => by rw [World.frozen?_setCell]; exact h.free q, by rw [World.size_setCell]; exact h.lt⟩
theorem Row.set (h : Row w g m f) (q : Nat) (hq : q < m) (v : Value) : Row (w.setCell ⟨g, q, none⟩ v) g m (fun x => if x = q then v else f x) := by
  refine ⟨fun x hx => ?_, fun x => by rw [World.frozen?_setCell]; exact h.free x, by rw [World.size_setCell]; exact h.lt⟩
  by_cases e : x = q
  · subst e
    rw [if_pos rfl]
    exact World.cell?_setCell_same w _ v (h.cell x hx)
  · rw [if_neg e, World.cell?_setCell_other w _ _ v (fun h => e (by injection h with _ h2 _; exact h2.symm))]
    exact h.cell x hx
theorem Row.ext {f' : Nat → Value} (h : Row w g m f) (he : ∀ q, q < m → f q = f' q) : Row w g m f' := ⟨fun q hq => by rw [h.cell q hq, he q hq], h.free, h.lt⟩
theorem Row.made (w : World) (z : Value) (m : Nat) (e : TypeId) : Row (w.alloc (.cells (madeCells #[z] m) e)) w.heap.size m (fun _ => z) := by
  refine ⟨fun q hq => ?_, fun q => by simp, by simp⟩
  rw [World.cell?_alloc_new]
  simp [madeCells, hq, Nat.mod_one]
end
theorem infoBool : (Tryd.prog.info? 4).map (fun i => (i.zero, i.size, i.bytes)) = some (some (.bool false), 1, 1) := by kernel_rfl
end Go.Proofs.YtapgglmdnggopaaDoor.Hand
/- Rows of one's own that may have been cut to their length: their first append goes to new memory; rows that share none. -/
namespace Go.Proofs.YtapgglmdnggopaaDoor.Hand
open Go.RowKit Go.Proofs.YtapgglmdnggopaaDoorW.PrintWords Go.Proofs.YtapgglmdnggopaaDoorW.PrintMore Go.Proofs.YtapgglmdnggopaaDoor.Math

/-- A row of the call's own, its room perhaps cut to its length. -/
def RC {α : Type} (d : Kd α) (e : Nat) (w : World) (base : Nat) (v : Value) (xs : List α) : Prop :=
  ∃ A c cap, v = .slice A xs.length c ∧ (c = cap ∨ c = xs.length) ∧ d.R e w base (fun _ => True) (.slice A xs.length cap) xs
/-- They share no block. -/
def disj (u v : Value) : Prop := ∀ k, u.ownBlock = some k → v.ownBlock ≠ some k
theorem disj.symm {u v : Value} (h : disj u v) : disj v u := fun k h1 h2 => h k h2 h1
theorem disj_nil (v : Value) : disj v (.slice none 0 0) := fun k _ h => by simp [Value.ownBlock] at h
section
variable {α : Type} {d : Kd α} {e base : Nat} {w w1 : World} {v : Value} {xs : List α}
theorem RC.of_R (h : d.R e w base (fun _ => True) v xs) : RC d e w base v xs := by
  obtain ⟨A, c, rfl⟩ := Kd.R_slice h
  exact ⟨A, c, c, rfl, .inl rfl, h⟩
theorem RC.nil : RC d e w base (.slice none 0 0) [] := .of_R (Kd.R_nil _ _ _ _ _)
theorem RC.cut {A : Option Addr} {cap : Nat} (h : d.R e w base (fun _ => True) (.slice A xs.length cap) xs) : RC d e w base (.slice A xs.length xs.length) xs := ⟨A, _, cap, rfl, .inr rfl, h⟩
theorem RC.below (h : RC d e w base v xs) (hb : Below w.heap.size w w1) : RC d e w1 base v xs := by
  obtain ⟨A, c, cap, e1, e2, h⟩ := h
  exact ⟨A, c, cap, e1, e2, Kd.R_below h hb⟩
theorem RC.lower {b' : Nat} (h : RC d e w base v xs) (hb : b' ≤ base) : RC d e w b' v xs := by
  obtain ⟨A, c, cap, e1, e2, h⟩ := h
  exact ⟨A, c, cap, e1, e2, Kd.R_lower h hb⟩
theorem RC.reads (h : RC d e w base v xs) : ∃ A c, v = .slice A xs.length c ∧ xs.length ≤ c ∧ d.C w A xs.length xs := by
  obtain ⟨A, c, cap, rfl, e2, h⟩ := h
  obtain ⟨h1, h2, h3⟩ := Kd.R_reads' h
  exact ⟨A, c, rfl, by omega, h3⟩
theorem RC.C {A : Option Addr} {c : Nat} (h : RC d e w base (.slice A xs.length c) xs) : d.C w A xs.length xs := by
  obtain ⟨A', c', e1, _, e3⟩ := h.reads
  injection e1 with e1 _ _
  subst e1
  exact e3
theorem RC.form {n : Nat} (h : RC d e w base v xs) (hn : xs.length = n) : ∃ A c, v = .slice A n c ∧ n ≤ c ∧ d.C w A xs.length xs := by
  subst hn; exact h.reads
theorem ownBlock_slice (A : Option Addr) (n c : Nat) : (Value.slice A n c).ownBlock = A.map (·.block) := by cases A <;> rfl
theorem RC.lt (h : RC d e w base v xs) (k : Nat) (hk : v.ownBlock = some k) : base ≤ k ∧ k < w.heap.size := by
  obtain ⟨A, c, cap, rfl, e2, h⟩ := h
  rw [ownBlock_slice, ← ownBlock_slice A xs.length cap] at hk
  obtain ⟨inner, ho⟩ := Kd.R_own h
  exact ⟨own_base ho k hk, own_lt ho k hk⟩
/-- Another row is written: this one stays. -/
theorem RC.grown (h : RC d e w base v xs) (hE : d.E = []) {row : Option Nat} (hg : w.grownBy w1 row) (hne : ∀ k, row = some k → v.ownBlock ≠ some k) : RC d e w1 base v xs := by
  obtain ⟨A, c, cap, rfl, e2, h⟩ := h
  refine ⟨A, c, cap, rfl, e2, Kd.R_grown2 h hE hg (fun k hk hq => hne k hk ?_)⟩
  rw [ownBlock_slice] at hq ⊢
  exact hq.symm
theorem RC.disj_new {u : Value} {b : Nat} (h : RC d e w base v xs) (hu : u.ownBlock = some b) (hb : w.heap.size ≤ b) : disj u v := fun k h1 h2 => by
  have := (h.lt k h2).2
  rw [hu] at h1
  injection h1 with h1
  omega
/-- Made later: they share no block. -/
theorem RC.disj_later {β : Type} {d' : Kd β} {e' : Nat} {w' : World} {u : Value} {ys : List β} (h : RC d e w base v xs) (k : RC d' e' w' w.heap.size u ys) : disj u v := fun i h1 h2 => by
  have := (h.lt i h2).2
  have := (k.lt i h1).1
  omega
end
section
variable {P : Program} {ops : Array Oper} {rest : List Oper} {o : Oper} {a : Act} {Q : Exit → Act → World → Prop} {α : Type}
/-- append of one element. -/
theorem RC_append (d : Kd α) {w0 W : World} (base : Nat) (hgd : o.guard = none) (s x : Operand) (t e : TypeId) (z : Value) (bytes : Nat)
    (ho : o.op = .call { callee := .builtin .append, args := #[s, x], argTypes := #[t, t] })
    (ht : P.underlying t = some (.slice e)) (hinfo : (P.info? e).map (fun i => (i.zero, i.size, i.bytes)) = some (some z, d.sz, bytes)) (hz : z.cells.size = d.sz) (hs0 : 0 < d.sz) (hb0 : 0 < bytes)
    (v : Value) (xs : List α) (p : α) (cs : List Value) (hs : a.eval s = v) (hx : a.eval x = .slice (some ⟨W.heap.size, 0, none⟩) 1 1) (hp : d.M W base (fun _ => False) p cs)
    (HO : RC d e W base v xs) (HB : Below base w0 W) (hbase : base ≤ W.heap.size) (hl : (xs.length + 1) * bytes ≤ 140737488355328)
    (h : ∀ v1 w1, RC d e w1 base v1 (xs ++ [p]) → Below base w0 w1 → W.grownBy w1 v.ownBlock → (v1.ownBlock = v.ownBlock ∨ ∃ b, v1.ownBlock = some b ∧ W.heap.size ≤ b) → wpList P ops Q rest (a.put o.dst v1) w1) :
    wpList P ops Q (o :: rest) a (W.alloc (.cells cs.toArray e)) := by
  obtain ⟨A, c, cap, rfl, hc, hR⟩ := HO
  rcases hc with rfl | rfl
  · exact Kd.R_append d (w0 := w0) base hgd s x t e z bytes ho ht hinfo hz hs0 hb0 _ xs p cs (fun _ => True) (fun _ => False) hs hx hp (fun _ hk => hk.elim) (fun _ _ => trivial) hR HB hbase hl
      (fun v1 w1 h1 h2 h3 h4 => h v1 w1 (.of_R h1) h2 h3 h4)
  · obtain ⟨i0, hi, hzz⟩ := Option.map_eq_some_iff.1 hinfo
    simp only [Prod.mk.injEq] at hzz
    obtain ⟨hz0, hz1, hz2⟩ := hzz
    have hlen : xs.length + 1 ≤ 140737488355328 := Nat.le_trans (Nat.le_mul_of_pos_right _ hb0) hl
    obtain ⟨h0, inner, hown, hr⟩ := hR
    have hcl : cs.length = d.sz := d.K_len (d.K_of_M hp)
    have hcells : ∀ b, A = some b → ∀ j u, inner[j]? = some u → (W.alloc (.cells cs.toArray e)).cell? (b.add j) = some u := fun b hb j u hu => by
      subst hb
      rcases hown.2 with ⟨hv, _⟩ | ⟨g, cap', cur, hv, _⟩
      · cases hv
      · injection hv with ha _ _
        injection ha with ha
        subst ha
        have h1 := hown.cells (g := g) rfl j u hu
        rw [World.cell?_alloc_lt _ _ _ (World.block_lt_of_cell? _ _ h1)]
        exact h1
    refine wpList_append_grows (P := P) _ hgd s x t ho e i0 z d.sz bytes ht hi hz0 hz1 hz2 hz hs0 A xs.length xs.length inner hs (fun hA => ?_) hr.1 hcells ⟨W.heap.size, 0, none⟩ 1 1 cs hx (by rw [hcl, Nat.one_mul])
      (World.news_of_block (cs := cs.toArray) (t := e) (fr := (0, 0)) (heap_alloc_new W _)) (d.K_one (d.K_of_M hp)) (by omega) (by simp only [maxLen]; omega) hl ?_
    · rcases hown.2 with ⟨_, h1⟩ | ⟨g, cap', cur, hv, _⟩
      · exact ⟨h1, h1⟩
      · subst hA; cases hv
    · intro v1 w1 hown1 hg1
      have hbk : ∀ k, v1.ownBlock = some k → W.heap.size ≤ k := fun k hk => by
        have := own_base hown1 k hk
        simp at this
        omega
      have hg2 : W.grownBy w1 none := World.grownBy.trans (World.grownBy_alloc W _ _) hg1
      have hg3 : W.grownBy w1 (Value.slice A xs.length cap).ownBlock := ⟨hg2.os, hg2.tape, hg2.output, hg2.size, fun k hk _ => hg2.block k hk (by simp)⟩
      have hat : ∃ b, v1.ownBlock = some b ∧ W.heap.size ≤ b := by
        rcases hown1.2 with ⟨_, h1⟩ | ⟨g, cap', cur, rfl, hb, _⟩
        · omega
        · exact ⟨g, rfl, hbk g rfl⟩
      have hR1 : d.R e w1 base (fun _ => True) v1 (xs ++ [p]) := Kd.R_appended h0 hr hp (fun _ hk => hk.elim) (fun _ _ => trivial) (own_less hown1 (by simp; omega)) hg3 (.inr hat)
      refine h v1 w1 (.of_R hR1) (HB.grown hg2 hbase (fun k hk => by cases hk)) ?_ (.inr hat)
      exact ⟨hg2.os, hg2.tape, hg2.output, hg2.size, fun k hk _ => hg2.block k hk (by simp)⟩
/-- A store into an element. -/
theorem RC_store (d : Kd α) {w0 W : World} (base : Nat) (hN : o.dst = none) (hgd : o.guard = none) (t : TypeId) (p x : Operand) (ho : o.op = .store t p x) (e : TypeId) {A : Option Addr} {c : Nat} (i : Nat) (xs : List α) (x' : α) (u : Value) (seg : List Value) (z : α)
    (haddr : a.eval p = .pointer (A.map (·.add (i * d.sz)))) (hx : a.eval x = u) (hu : u.cells.toList = seg) (ht : (P.info? t).map (·.size) = some seg.length) (h1 : ∀ q ∈ seg, q.oneCell' = true)
    (HO : RC d e W base (.slice A xs.length c) xs) (hi : i < xs.length) (hj : seg.length = d.sz) (hM : d.M W base (fun _ => False) x' seg) (HB : Below base w0 W)
    (h : ∀ w1, RC d e w1 base (.slice A xs.length c) (xs.set i x') → Below base w0 w1 → W.grownBy w1 (Value.slice A xs.length c).ownBlock → wpList P ops Q rest a w1) : wpList P ops Q (o :: rest) a W := by
  obtain ⟨A', c', cap, hv, hc, hR⟩ := HO
  injection hv with e1 _ e3
  subst e1 e3
  obtain ⟨g, cap', e4, e5, e6⟩ : ∃ g cap', A = some ⟨g, 0, none⟩ ∧ cap = cap' ∧ True := by
    obtain ⟨_, inner, ho, _⟩ := hR
    rcases ho.2 with ⟨_, h0⟩ | ⟨g, cap', cur, hv, _⟩
    · omega
    · injection hv with ha _ hcc
      exact ⟨g, cap', ha, hcc, trivial⟩
  subst e4 e5
  obtain ⟨c0, hcl, hMc, hcc⟩ := Kd.R_get hR z (i : Int) (by omega) (by omega)
  rw [Int.toNat_natCast] at hcc
  refine Kd.R_store d (w0 := w0) base hN hgd t p x ho e (i : Int) 0 xs x' u seg c0 (fun _ => True) (fun _ => False) (o' := i * d.sz) ?_ (by simp) hx hu ht h1 hR (by omega) (by omega) hcl (fun j u hu => ?_) (by omega) ?_ (fun _ hk => hk.elim) HB ?_
  · rw [haddr]
    simp only [Option.map_some]
    rw [add_plain]
  · have := hcc j u hu
    rw [add_plain] at this
    rw [Int.toNat_natCast]
    exact this
  · rw [List.take_zero, List.nil_append, Nat.zero_add, hj, List.drop_of_length_le (by omega), List.append_nil]
    exact hM
  · intro w1 hR1 hb1 hg1
    rw [Int.toNat_natCast] at hR1
    refine h w1 ⟨_, _, _, by rw [List.length_set], ?_, by rw [List.length_set]; exact hR1⟩ hb1 hg1
    rw [List.length_set]
    exact hc
end
/-- Three rows that share no block. -/
structure Three {α : Type} (d : Kd α) (e : Nat) (w0 w : World) (lv mv nv : Value) (L M N : List α) : Prop where
  rl : RC d e w w0.heap.size lv L
  rm : RC d e w w0.heap.size mv M
  rn : RC d e w w0.heap.size nv N
  lm : disj lv mv
  ln : disj lv nv
  mn : disj mv nv
  bel : Below w0.heap.size w0 w
section
variable {α : Type} {d : Kd α} {e : Nat} {w0 w w1 : World} {lv mv nv v1 : Value} {L M N X : List α}
theorem Three.putL (h : Three d e w0 w lv mv nv L M N) (hE : d.E = []) (hr : RC d e w1 w0.heap.size v1 X) (hb : Below w0.heap.size w0 w1) (hg : w.grownBy w1 lv.ownBlock) (hat : v1.ownBlock = lv.ownBlock ∨ ∃ b, v1.ownBlock = some b ∧ w.heap.size ≤ b) : Three d e w0 w1 v1 mv nv X M N := by
  refine ⟨hr, h.rm.grown hE hg (fun k hk => h.lm k hk), h.rn.grown hE hg (fun k hk => h.ln k hk), ?_, ?_, h.mn, hb⟩
  · rcases hat with hat | ⟨b, hb1, hb2⟩
    · intro k hk; exact h.lm k (hat ▸ hk)
    · exact h.rm.disj_new hb1 hb2
  · rcases hat with hat | ⟨b, hb1, hb2⟩
    · intro k hk; exact h.ln k (hat ▸ hk)
    · exact h.rn.disj_new hb1 hb2
theorem Three.putM (h : Three d e w0 w lv mv nv L M N) (hE : d.E = []) (hr : RC d e w1 w0.heap.size v1 X) (hb : Below w0.heap.size w0 w1) (hg : w.grownBy w1 mv.ownBlock) (hat : v1.ownBlock = mv.ownBlock ∨ ∃ b, v1.ownBlock = some b ∧ w.heap.size ≤ b) : Three d e w0 w1 lv v1 nv L X N := by
  refine ⟨h.rl.grown hE hg (fun k hk => h.lm.symm k hk), hr, h.rn.grown hE hg (fun k hk => h.mn k hk), ?_, h.ln, ?_, hb⟩
  · rcases hat with hat | ⟨b, hb1, hb2⟩
    · intro k hk e
      exact h.lm k hk (hat ▸ e)
    · exact (h.rl.disj_new hb1 hb2).symm
  · rcases hat with hat | ⟨b, hb1, hb2⟩
    · intro k hk; exact h.mn k (hat ▸ hk)
    · exact h.rn.disj_new hb1 hb2
theorem Three.below (h : Three d e w0 w lv mv nv L M N) (hb : Below w.heap.size w w1) : Three d e w0 w1 lv mv nv L M N := ⟨h.rl.below hb, h.rm.below hb, h.rn.below hb, h.lm, h.ln, h.mn, below_next h.bel hb⟩
end
theorem set_fill {α : Type} (x : α) (l : List α) (j : Nat) (h : j < l.length) : (List.replicate j x ++ l.drop j).set j x = List.replicate (j + 1) x ++ l.drop (j + 1) := by
  rw [List.set_append_right _ _ (by simp), List.length_replicate, Nat.sub_self, List.drop_eq_getElem_cons h, List.set_cons_zero, List.replicate_succ']
  simp
/-- xs[m:], whatever its room. -/
theorem cut_drop {P : Program} {α : Type} (d : Kd α) (t e : TypeId) {i : TypeInfo} (ht : P.underlying t = some (.slice e)) (hi : P.info? e = some i) (hsz : i.size = d.sz) (A : Option Addr) (c : Nat) (xs : List α) (j : Int) (m : Nat) (hj : j = m) (hm : m ≤ xs.length) (hc : xs.length ≤ c) :
    ∃ A', (∀ W : World, (Instr.slice t (.slice A xs.length c) (some (.int .i64 j)) none none).run P W = .ok (.slice A' (xs.drop m).length (c - m)) W) ∧ ∀ w, d.C w A xs.length xs → d.C w A' (xs.drop m).length (xs.drop m) := by
  subst hj
  refine ⟨if c = m then A else A.map (·.add (m * d.sz)), fun W => ?_, fun w h => Kd.C_drop h hm hc⟩
  have h := cut_from t e .i64 ht hi d.sz hsz A xs.length c (m : Int) (by omega) (by omega) W
  rw [Int.toNat_natCast] at h
  rw [h, List.length_drop]
/-- Two rows, of kinds of their own, that share no block. -/
structure TwoR {α β : Type} (d : Kd α) (e : Nat) (d' : Kd β) (e' : Nat) (w0 w : World) (u v : Value) (X : List α) (Y : List β) : Prop where
  a : d.R e w w0.heap.size (fun _ => True) u X
  b : d'.R e' w w0.heap.size (fun _ => True) v Y
  dj : disj u v
  bel : Below w0.heap.size w0 w
section
variable {α β : Type} {d : Kd α} {e : Nat} {d' : Kd β} {e' : Nat} {w0 w w1 : World} {u v u1 v1 : Value} {X X1 : List α} {Y Y1 : List β}
theorem TwoR.putA (h : TwoR d e d' e' w0 w u v X Y) (hE : d'.E = []) (hr : d.R e w1 w0.heap.size (fun _ => True) u1 X1) (hb : Below w0.heap.size w0 w1) (hg : w.grownBy w1 u.ownBlock) (hat : u1.ownBlock = u.ownBlock ∨ ∃ b, u1.ownBlock = some b ∧ w.heap.size ≤ b) : TwoR d e d' e' w0 w1 u1 v X1 Y := by
  refine ⟨hr, Kd.R_grown2 h.b hE hg (fun k hk e => h.dj k hk e.symm), ?_, hb⟩
  rcases hat with hat | ⟨b, hb1, hb2⟩
  · intro k hk; exact h.dj k (hat ▸ hk)
  · exact (RC.of_R h.b).disj_new hb1 hb2
theorem TwoR.putB (h : TwoR d e d' e' w0 w u v X Y) (hE : d.E = []) (hr : d'.R e' w1 w0.heap.size (fun _ => True) v1 Y1) (hb : Below w0.heap.size w0 w1) (hg : w.grownBy w1 v.ownBlock) (hat : v1.ownBlock = v.ownBlock ∨ ∃ b, v1.ownBlock = some b ∧ w.heap.size ≤ b) : TwoR d e d' e' w0 w1 u v1 X Y1 := by
  refine ⟨Kd.R_grown2 h.a hE hg (fun k hk e => h.dj.symm k hk e.symm), hr, ?_, hb⟩
  rcases hat with hat | ⟨b, hb1, hb2⟩
  · intro k hk e; exact h.dj k hk (hat ▸ e)
  · exact ((RC.of_R h.a).disj_new hb1 hb2).symm
/-- The second row is made anew. -/
theorem TwoR.newB (h : TwoR d e d' e' w0 w u v X Y) (hr : d'.R e' w1 w.heap.size (fun _ => True) v1 Y1) (hb : Below w.heap.size w w1) : TwoR d e d' e' w0 w1 u v1 X Y1 :=
  ⟨Kd.R_below h.a hb, Kd.R_lower hr h.bel.size, ((RC.of_R h.a).disj_later (RC.of_R hr)).symm, below_next h.bel hb⟩
theorem TwoR.below (h : TwoR d e d' e' w0 w u v X Y) (hb : Below w.heap.size w w1) : TwoR d e d' e' w0 w1 u v X Y := ⟨Kd.R_below h.a hb, Kd.R_below h.b hb, h.dj, below_next h.bel hb⟩
end
end Go.Proofs.YtapgglmdnggopaaDoor.Hand
/- The walker's memory (deriv): its block, the steps and the tokens so far. -/
namespace Go.Proofs.YtapgglmdnggopaaDoor.Hand
open Go.RowKit Go.Proofs.YtapgglmdnggopaaDoorW.PrintWords Go.Proofs.YtapgglmdnggopaaDoorW.PrintMore Go.Proofs.YtapgglmdnggopaaDoor.Math

/-- Steps: rule, from, to. -/
def KStep : Kd (Int × Int × Int) := Kd.pair (Kd.int .i64) (Kd.pair (Kd.int .i64) (Kd.int .i64))
theorem KStep_M (w : World) (base : Nat) (ok : Nat → Prop) (x y z : Int) : KStep.M w base ok (x, y, z) [.int .i64 x, .int .i64 y, .int .i64 z] := ⟨[.int .i64 x], [.int .i64 y, .int .i64 z], rfl, rfl, [.int .i64 y], [.int .i64 z], rfl, rfl, rfl⟩
theorem at_step {w : World} {A : Option Addr} {l : List (Int × Int × Int)} (h : KStep.C w A l.length l) (i : Nat) (hi : i < l.length) :
    ∃ (ad : Addr) (x y z : Int), A = some ad ∧ w.cell? (ad.add (i * 3)) = some (.int .i64 x) ∧ w.cell? ⟨(ad.add (i * 3)).block, (ad.add (i * 3)).off + 1, none⟩ = some (.int .i64 y) ∧ w.cell? ⟨(ad.add (i * 3)).block, (ad.add (i * 3)).off + 2, none⟩ = some (.int .i64 z) ∧ Hid (l.getD i (0, 0, 0) = (x, y, z)) := by
  obtain ⟨ad, cs, h1, h2, h3, h4⟩ := h.get_ (0, 0, 0) (i : Int) (by omega) (by omega)
  rw [Int.toNat_natCast] at h3 h4
  obtain ⟨c0, c1, rfl, k0, d0, d1, rfl, k1, k2⟩ := h3
  have e0 : c0 = [.int .i64 (l.getD i (0, 0, 0)).1] := k0
  have e1 : d0 = [.int .i64 (l.getD i (0, 0, 0)).2.1] := k1
  have e2 : d1 = [.int .i64 (l.getD i (0, 0, 0)).2.2] := k2
  subst e0 e1 e2
  have hz : KStep.sz = 3 := rfl
  rw [hz] at h4
  refine ⟨ad, _, _, _, h1, ?_, ?_, ?_, Lib.hid rfl⟩
  · have := h4 0 _ rfl; rwa [Nat.add_zero] at this
  · rw [← add_field _ _ _]; exact h4 1 _ rfl
  · rw [← add_field _ _ _]; exact h4 2 _ rfl
theorem blk_cell {g t : Nat} {c : Array Value} {w : World} (h : w.heap[g]? = some (.cells c t (0, 0))) (j : Nat) {u : Value} (hu : c[j]? = some u) (_hs : u.oneCell' = true) : w.cell? ⟨g, j, none⟩ = some u := by
  simp [World.cell?, h, hu]
theorem blk_free {g t : Nat} {c : Array Value} {w : World} (h : w.heap[g]? = some (.cells c t (0, 0))) (j : Nat) : w.frozen? ⟨g, j, none⟩ = false := by
  simp [World.frozen?, h]
/-- The walker's block: the grammar's four cells, the rules, the next rule, the place, the steps, the tokens, the depth. -/
structure WkAt (w0 w : World) (b : Nat) (gt gn gr : Value) (ax : Int) (rv : Value) (i : Nat) (d : DS) (vt vk : Value) : Prop where
  blk : w.heap[b]? = some (.cells #[gt, gn, .int .i64 ax, gr, rv, .int .i64 (i : Int), .int .i64 d.place, vt, vk, .int .i64 (d.depth : Int)] 121 (0, 0))
  tr : KStep.R 50 w w0.heap.size (fun k => k ≠ b) vt d.tree
  tk : (Kd.int .i64).R 3 w w0.heap.size (fun k => k ≠ b) vk d.tokens
  bel : Below w0.heap.size w0 w
  hb : w0.heap.size ≤ b
section
variable {w0 w w1 : World} {b i : Nat} {gt gn gr rv vt vk v1 : Value} {ax : Int} {d : DS}
theorem WkAt.lt (h : WkAt w0 w b gt gn gr ax rv i d vt vk) : b < w.heap.size := (Array.getElem?_eq_some_iff.1 h.blk).1
theorem WkAt.c3 (h : WkAt w0 w b gt gn gr ax rv i d vt vk) (h1 : gr.oneCell' = true) : w.cell? ⟨b, 3, none⟩ = some gr := blk_cell h.blk 3 rfl h1
theorem WkAt.c4 (h : WkAt w0 w b gt gn gr ax rv i d vt vk) (h1 : rv.oneCell' = true) : w.cell? ⟨b, 4, none⟩ = some rv := blk_cell h.blk 4 rfl h1
theorem WkAt.c5 (h : WkAt w0 w b gt gn gr ax rv i d vt vk) : w.cell? ⟨b, 5, none⟩ = some (.int .i64 (i : Int)) := blk_cell h.blk 5 rfl rfl
theorem WkAt.c6 (h : WkAt w0 w b gt gn gr ax rv i d vt vk) : w.cell? ⟨b, 6, none⟩ = some (.int .i64 d.place) := blk_cell h.blk 6 rfl rfl
theorem WkAt.c7 (h : WkAt w0 w b gt gn gr ax rv i d vt vk) (h1 : vt.oneCell' = true) : w.cell? ⟨b, 7, none⟩ = some vt := blk_cell h.blk 7 rfl h1
theorem WkAt.c8 (h : WkAt w0 w b gt gn gr ax rv i d vt vk) (h1 : vk.oneCell' = true) : w.cell? ⟨b, 8, none⟩ = some vk := blk_cell h.blk 8 rfl h1
theorem WkAt.c9 (h : WkAt w0 w b gt gn gr ax rv i d vt vk) : w.cell? ⟨b, 9, none⟩ = some (.int .i64 (d.depth : Int)) := blk_cell h.blk 9 rfl rfl
theorem WkAt.fr (h : WkAt w0 w b gt gn gr ax rv i d vt vk) (k : Nat) : w.frozen? ⟨b, k, none⟩ = false := blk_free h.blk k
theorem WkAt.below (h : WkAt w0 w b gt gn gr ax rv i d vt vk) (hb : Below w.heap.size w w1) : WkAt w0 w1 b gt gn gr ax rv i d vt vk :=
  ⟨(hb.block b h.lt).trans h.blk, Kd.R_below h.tr hb, Kd.R_below h.tk hb, below_next h.bel hb, h.hb⟩
theorem WkAt.drewN (h : WkAt w0 w b gt gn gr ax rv i d vt vk) (n : Nat) : WkAt w0 (w.drewN n) b gt gn gr ax rv i d vt vk := h.below (pw_below_drewN (Below.refl _ _) n)
theorem blk_put {g t : Nat} {c : Array Value} {w : World} (h : w.heap[g]? = some (.cells c t (0, 0))) (j : Nat) (u : Value) : (w.setCell ⟨g, j, none⟩ u).heap[g]? = some (.cells (c.setIfInBounds j u) t (0, 0)) := by
  simp [World.setCell, h, Array.getElem?_modify]
theorem WkAt.setI (h : WkAt w0 w b gt gn gr ax rv i d vt vk) (j : Nat) : WkAt w0 (w.setCell ⟨b, 5, none⟩ (.int .i64 (j : Int))) b gt gn gr ax rv j d vt vk :=
  ⟨by rw [blk_put h.blk]; rfl, Kd.R_far h.tr (fun k hk => hk) _, Kd.R_far h.tk (fun k hk => hk) _, h.bel.setCell h.hb _, h.hb⟩
theorem WkAt.setP (h : WkAt w0 w b gt gn gr ax rv i d vt vk) (p : Int) : WkAt w0 (w.setCell ⟨b, 6, none⟩ (.int .i64 p)) b gt gn gr ax rv i ⟨p, d.tree, d.tokens, d.depth⟩ vt vk :=
  ⟨by rw [blk_put h.blk]; rfl, Kd.R_far h.tr (fun k hk => hk) _, Kd.R_far h.tk (fun k hk => hk) _, h.bel.setCell h.hb _, h.hb⟩
theorem WkAt.setD (h : WkAt w0 w b gt gn gr ax rv i d vt vk) (m : Nat) : WkAt w0 (w.setCell ⟨b, 9, none⟩ (.int .i64 (m : Int))) b gt gn gr ax rv i ⟨d.place, d.tree, d.tokens, m⟩ vt vk :=
  ⟨by rw [blk_put h.blk]; rfl, Kd.R_far h.tr (fun k hk => hk) _, Kd.R_far h.tk (fun k hk => hk) _, h.bel.setCell h.hb _, h.hb⟩
theorem step_ne_int : ∀ q, q ∈ 50 :: KStep.E → q ≠ 3 := by
  intro q hq
  rw [show KStep.E = [] from rfl, List.mem_singleton] at hq
  subst hq
  decide
theorem int_ne_step : ∀ q, q ∈ 3 :: (Kd.int .i64).E → q ≠ 50 := by
  intro q hq
  rw [show (Kd.int .i64).E = [] from rfl, List.mem_singleton] at hq
  subst hq
  decide
/-- The steps grow, and their variable is written. -/
theorem WkAt.growT (h : WkAt w0 w b gt gn gr ax rv i d vt vk) {T : List (Int × Int × Int)} (ho : KStep.R 50 w1 w0.heap.size (fun k => k ≠ b) v1 T) (hbl : Below w0.heap.size w0 w1) (hg : w.grownBy w1 vt.ownBlock) :
    WkAt w0 (w1.setCell ⟨b, 7, none⟩ v1) b gt gn gr ax rv i ⟨d.place, T, d.tokens, d.depth⟩ v1 vk := by
  have hne : some b ≠ vt.ownBlock := fun e => h.tr.1 b e.symm rfl
  exact ⟨by rw [blk_put ((hg.block b h.lt hne).trans h.blk)]; rfl, Kd.R_far ho (fun k hk => hk) _, Kd.R_far (Kd.R_over h.tk h.tr int_ne_step hg) (fun k hk => hk) _, hbl.setCell h.hb _, h.hb⟩
/-- The block itself, while the steps grow. -/
theorem WkAt.grown7 (h : WkAt w0 w b gt gn gr ax rv i d vt vk) (_hbl : Below w0.heap.size w0 w1) (hg : w.grownBy w1 vt.ownBlock) (h1 : vt.oneCell' = true := by rfl) : (w1.cell? ⟨b, 7, none⟩ = some vt ∧ w1.cell? ⟨b, 6, none⟩ = some (.int .i64 d.place)) ∧ w1.frozen? ⟨b, 7, none⟩ = false := by
  have hne : some b ≠ vt.ownBlock := fun e => h.tr.1 b e.symm rfl
  have hk := (hg.block b h.lt hne).trans h.blk
  exact ⟨⟨blk_cell hk 7 rfl h1, blk_cell hk 6 rfl rfl⟩, blk_free hk 7⟩
/-- The block itself, while the tokens grow. -/
theorem WkAt.grown8 (h : WkAt w0 w b gt gn gr ax rv i d vt vk) (_hbl : Below w0.heap.size w0 w1) (hg : w.grownBy w1 vk.ownBlock) (h1 : vk.oneCell' = true := by rfl) : w1.cell? ⟨b, 8, none⟩ = some vk ∧ w1.frozen? ⟨b, 8, none⟩ = false := by
  have hne : some b ≠ vk.ownBlock := fun e => h.tk.1 b e.symm rfl
  have hk := (hg.block b h.lt hne).trans h.blk
  exact ⟨blk_cell hk 8 rfl h1, blk_free hk 8⟩
/-- The tokens grow, and their variable is written. -/
theorem WkAt.growK (h : WkAt w0 w b gt gn gr ax rv i d vt vk) {K : List Int} (ho : (Kd.int .i64).R 3 w1 w0.heap.size (fun k => k ≠ b) v1 K) (hbl : Below w0.heap.size w0 w1) (hg : w.grownBy w1 vk.ownBlock) :
    WkAt w0 (w1.setCell ⟨b, 8, none⟩ v1) b gt gn gr ax rv i ⟨d.place, d.tree, K, d.depth⟩ vt v1 := by
  have hne : some b ≠ vk.ownBlock := fun e => h.tk.1 b e.symm rfl
  exact ⟨by rw [blk_put ((hg.block b h.lt hne).trans h.blk)]; rfl, Kd.R_far (Kd.R_over h.tr h.tk step_ne_int hg) (fun k hk => hk) _, Kd.R_far ho (fun k hk => hk) _, hbl.setCell h.hb _, h.hb⟩
/-- A step is written. -/
theorem WkAt.putT (h : WkAt w0 w b gt gn gr ax rv i d vt vk) {T : List (Int × Int × Int)} (ho : KStep.R 50 w1 w0.heap.size (fun k => k ≠ b) vt T) (hbl : Below w0.heap.size w0 w1) (hg : w.grownBy w1 vt.ownBlock) :
    WkAt w0 w1 b gt gn gr ax rv i ⟨d.place, T, d.tokens, d.depth⟩ vt vk := by
  have hne : some b ≠ vt.ownBlock := fun e => h.tr.1 b e.symm rfl
  exact ⟨(hg.block b h.lt hne).trans h.blk, ho, Kd.R_over h.tk h.tr int_ne_step hg, hbl, h.hb⟩
/-- A step is left: the place behind it is written. -/
theorem step_put3 {W : World} {base : Nat} {ok : Nat → Prop} {g n cap : Nat} {T : List (Int × Int × Int)} (h : KStep.R 50 W base ok (.slice (some ⟨g, 0, none⟩) n cap) T) (q : Nat) (hq : q < T.length) (p : Int) :
    KStep.R 50 (W.setCell ⟨g, q * 3 + 2, none⟩ (.int .i64 p)) base ok (.slice (some ⟨g, 0, none⟩) n cap) (T.set q ((T.getD q (0, 0, 0)).1, (T.getD q (0, 0, 0)).2.1, p)) ∧ W.grownBy (W.setCell ⟨g, q * 3 + 2, none⟩ (.int .i64 p)) (some g) := by
  have hn := (Kd.R_reads' h).1
  obtain ⟨c, hcl, hM, hcc, -⟩ := Kd.R_elem h (0, 0, 0) (q : Int) (by omega) (by omega)
  rw [Int.toNat_natCast] at hM hcc
  obtain ⟨c0, c1, rfl, k0, d0, d1, rfl, k1, k2⟩ := hM
  have e0 : c0 = [.int .i64 (T.getD q (0, 0, 0)).1] := k0
  have e1 : d0 = [.int .i64 (T.getD q (0, 0, 0)).2.1] := k1
  have e2 : d1 = [.int .i64 (T.getD q (0, 0, 0)).2.2] := k2
  subst e0 e1 e2
  have := Kd.R_seg (seg := [.int .i64 p]) (j := 2) (okp := fun _ => False) h (q : Int) (by omega) (by omega) hcl (by rw [Int.toNat_natCast]; exact hcc) (by show 3 ≤ 3; omega) (x' := ((T.getD q (0, 0, 0)).1, (T.getD q (0, 0, 0)).2.1, p)) (KStep_M _ _ _ _ _ _) (fun _ hk => hk.elim)
  rw [Int.toNat_natCast] at this
  exact this
theorem WkAt.leave {g n cap : Nat} (h : WkAt w0 w b gt gn gr ax rv i d (.slice (some ⟨g, 0, none⟩) n cap) vk) (q : Nat) (hq : q < d.tree.length) :
    WkAt w0 (w.setCell ⟨g, q * 3 + 2, none⟩ (.int .i64 d.place)) b gt gn gr ax rv i ((opsD inc64).lv d q) (.slice (some ⟨g, 0, none⟩) n cap) vk := by
  obtain ⟨h1, h2⟩ := step_put3 h.tr q hq d.place
  exact h.putT h1 (h.bel.setCell (Kd.R_base h.tr g rfl) _) h2
theorem WkAt.form {n : Nat} (h : WkAt w0 w b gt gn gr ax rv i d vt vk) (hn : d.tree.length = n) (h0 : 0 < n) : ∃ g cap, vt = .slice (some ⟨g, 0, none⟩) n cap ∧ n ≤ cap ∧ g ≠ b ∧ ∀ q, q < n → (∃ u, w.cell? ⟨g, q * 3 + 2, none⟩ = some u) ∧ w.frozen? ⟨g, q * 3 + 2, none⟩ = false := by
  subst hn
  obtain ⟨g, cap, e, h3⟩ := Kd.R_form h.tr h0
  subst e
  refine ⟨g, cap, rfl, (Kd.R_reads' h.tr).2.1, h.tr.1 g rfl, fun q hq => ?_⟩
  obtain ⟨c, hcl, -, hcc, hf⟩ := Kd.R_elem h.tr (0, 0, 0) (q : Int) (by omega) (by omega)
  rw [Int.toNat_natCast] at hcc hf
  refine ⟨⟨_, hcc 2 _ (List.getElem?_eq_getElem (by rw [hcl]; show 2 < 3; omega))⟩, hf 2⟩
end
end Go.Proofs.YtapgglmdnggopaaDoor.Hand
/- Contracts: what is wrong with a grammar and with how many steps there are (deriv.may, its document's May). -/
namespace Go.Proofs.YtapgglmdnggopaaDoor.Hand
open Go.RowKit Go.Proofs.YtapgglmdnggopaaDoorW.PrintWords Go.Proofs.YtapgglmdnggopaaDoorW.PrintMore Go.Proofs.YtapgglmdnggopaaDoor.Math

theorem gr_blk {w : World} {AT AN AR : Option Addr} {nT cT nN cN nR cR : Nat} {ax : Int} {b : Nat} (h : w.heap[b]? = some (.cells #[.slice AT nT cT, .slice AN nN cN, .int .i64 ax, .slice AR nR cR] 25 (0, 0))) :
    w.cell? ⟨b, 0, none⟩ = some (.slice AT nT cT) ∧ w.cell? ⟨b, 1, none⟩ = some (.slice AN nN cN) ∧ w.cell? ⟨b, 2, none⟩ = some (.int .i64 ax) ∧ w.cell? ⟨b, 3, none⟩ = some (.slice AR nR cR) :=
  ⟨blk_cell h 0 rfl rfl, blk_cell h 1 rfl rfl, blk_cell h 2 rfl rfl, blk_cell h 3 rfl rfl⟩
theorem mayF_calls (x : Int) (B : Option Addr) (c : Nat) (r : List Int) (w : World) :
    Calls Tryd.prog 98 #[.agg #[.int .i64 x, .slice B r.length c]] w fun e w' => e = .returned (.bool (decide (r = []))) ∧ Below w.heap.size w w' := by
  obtain ⟨w1, hw1⟩ : ∃ w1, w.alloc (.cells #[.int .i64 x, .slice B r.length c] 59) = w1 := ⟨_, rfl⟩
  have hb1 : Below w.heap.size w w1 := by rw [← hw1]; exact below_alloc (Below.refl _ _) _
  have g1 : w1.cell? ⟨w.heap.size, 1, none⟩ = some (.slice B r.length c) := by rw [← hw1]; simp [go_sem]
  have HB1 := Lib.hid hb1
  clear hb1
  by_cases h : r = []
  · have H : Hid (decide (r = []) = true) := Lib.hid (decide_eq_true h)
    have h0 : ((r.length : Int) == 0) = true := by simp [h]
    clear h
    go_enter Tryd.func98, Tryd.ntmps98
    go_wp2
    go_ret
    exact ⟨ret_bool H.out.symm, HB1.out⟩
  · have H : Hid (decide (r = []) = false) := Lib.hid (decide_eq_false h)
    have h0 : ((r.length : Int) == 0) = false := by simp [h]
    clear h
    go_enter Tryd.func98, Tryd.ntmps98
    go_wp2
    go_ret
    exact ⟨ret_bool H.out.symm, HB1.out⟩
theorem indexR_calls (A : Option Addr) (c : Nat) (l : List (Int × List Int)) (w : World) (hr : KRule.C w A l.length l) :
    Calls Tryd.prog 97 #[.slice A l.length c, .func (.func 98) #[] #[]] w fun e w' => e = .returned (.int .i64 (firstEmpty l 0)) ∧ Below w.heap.size w w' := by
  have hlen := hr.2.1
  have HR := Lib.hid hr
  clear hr
  go_enter Tryd.func97, Tryd.ntmps97
  go_wp2
  go_loopw [8] (fun i wr => ∃ (j : Nat), j ≤ l.length ∧ i = .int .i64 j ∧ Hid (Below w.heap.size w wr) ∧ Hid (∀ k, k < j → (l.getD k (0, [])).2 ≠ [])) (fun i _ => l.length - (intOf i).toNat)
  case atStart => exact ⟨0, by omega, rfl, Lib.hid (Below.refl _ _), Lib.hid (fun k hk => by omega)⟩
  case round =>
    obtain ⟨j, hj, rfl, HB, HT⟩ := hrel
    obtain ⟨w2, rfl⟩ : ∃ w2, wr = w2 := ⟨_, rfl⟩
    by_cases hlt : j < l.length
    · obtain ⟨ad, x, B, cr, r, rfl, k1, k2, hrc, hr, HD⟩ := at_rule (Kd.C_below HR.out HB.out) j hlt
      have HC := Lib.hid (mayF_calls x B cr r wr)
      clear hr
      by_cases he : r = []
      · rw [decide_eq_true he] at HC
        have HF : Hid (firstEmpty l 0 = (j : Int)) := Lib.hid (firstEmpty_at l j HT.out hlt (by rw [HD.out]; exact he))
        clear he
        go_wp2_with (go_at_call 98; refine HC.out.mono ?_; rintro e w3 ⟨rfl, hb3⟩; have HB3 := Lib.hid hb3; clear hb3)
        go_ret
        exact ⟨ret_int HF.out.symm, below_next HB.out HB3.out⟩
      · rw [decide_eq_false he] at HC
        have HE := Lib.hid he
        clear he
        go_wp2_with (go_at_call 98; refine HC.out.mono ?_; rintro e w3 ⟨rfl, hb3⟩; have HB3 := Lib.hid hb3; clear hb3)
        go_roundw
        case rel => exact ⟨j + 1, by omega, by go_num, Lib.hid (below_next HB.out HB3.out), Lib.hid (fun k hk => by
          rcases Nat.lt_or_ge k j with h | h
          · exact HT.out k h
          · obtain rfl : k = j := by omega
            rw [HD.out]; exact HE.out)⟩
        case measure => simp [intOf]; omega
    · have HF : Hid (firstEmpty l 0 = -1) := Lib.hid (firstEmpty_none l (fun k hk => HT.out k (by omega)))
      go_wp2
      go_ret
      exact ⟨ret_int HF.out.symm, HB.out⟩
set_option maxHeartbeats 1000000 in
theorem may_calls (v : Value) (g : Gr) (n : Nat) (w : World) (A : Nat → Addr) (hE : Errs w A) (hv : GramAt w v g) :
    Calls Tryd.prog 85 #[v, .int .i64 (n : Int)] w fun e w' => ∃ u, e = .returned u ∧ ErrV w' A u (dmayN g n).1 (dmayN g n).2 ∧ Below w.heap.size w w' := by
  have HV := Lib.hid hv
  obtain ⟨AT, cT, AN, cN, AR, cR, rfl, q1, q2, q3, q4, q5, q6⟩ := hv
  have l1 := q4.2.1
  have l2 := q5.2.1
  have l3 := q6.2.1
  obtain ⟨w1, hw1⟩ : ∃ w1, w.alloc (.cells #[.slice AT g.terms.length cT, .slice AN g.nonterms.length cN, .int .i64 g.ax, .slice AR g.rules.length cR] 25) = w1 := ⟨_, rfl⟩
  have hb1 : Below w.heap.size w w1 := by rw [← hw1]; exact below_alloc (Below.refl _ _) _
  have hk1 : w1.heap[w.heap.size]? = some (.cells #[.slice AT g.terms.length cT, .slice AN g.nonterms.length cN, .int .i64 g.ax, .slice AR g.rules.length cR] 25 (0, 0)) := by rw [← hw1]; exact heap_alloc_new w _
  obtain ⟨c0, c1, c2, c3⟩ := gr_blk hk1
  have HB1 := Lib.hid hb1
  have HK1 := Lib.hid hk1
  have HE := Lib.hid (hE.below hb1)
  have HC := Lib.hid (check_calls _ g w1 A (hE.below hb1).weak (HV.out.below hb1))
  have HR := Lib.hid (Kd.C_below q6 hb1)
  clear hb1 hk1 hE q4 q5 q6
  by_cases h0 : (checkN g).1 = 0
  · have hc := checkN_ok h0
    rw [hc] at HC
    by_cases h1 : 0 ≤ firstEmpty g.rules 0
    · have H : Hid (dmayN g n = (4, firstEmpty g.rules 0)) := Lib.hid (by unfold dmayN; rw [if_neg (by simp [h0]), if_pos h1])
      have hE3 : ∀ W, Below w1.heap.size w1 W → W.cell? ⟨3, 0, none⟩ = some (.iface 219 (.pointer (some (A 3)))) := fun W hb => (HE.out.below hb).cells 3 (by omega)
      have HE3 := Lib.hid hE3
      clear hE3 hc h0
      go_enter Tryd.func85, Tryd.ntmps85
      go_wp2_with (first
        | (go_at_call 97; have B2 := HB2.out; refine (indexR_calls AR cR g.rules w2 (Kd.C_below HR.out HB2.out)).mono ?_; rintro e w3 ⟨rfl, hb3⟩; have HB3 := Lib.hid (below_next HB2.out hb3); have e3 := HE3.out _ HB3.out; clear hb3 B2)
        | (go_at_call 96; refine HC.out.mono ?_; rintro e w2 ⟨u, rfl, hu, hb2⟩; obtain rfl : u = .nilIface := (by cases hu; rfl); have HB2 := Lib.hid hb2; clear hb2 hu; have c3 := (gr_blk (blk_below HK1.out HB2.out)).2.2.2))
      go_ret
      refine ⟨_, rfl, ?_, below_next HB1.out (below_next HB3.out (below_alloc (Below.refl _ _) _))⟩
      rw [H.out]
      refine .rule 3 (by omega) _ 0 _ ?_ ?_ <;> simp [go_sem]
    · have h1' : firstEmpty g.rules 0 < 0 := by omega
      by_cases h2 : 131072 < n
      · have H : Hid (dmayN g n = (12, -1)) := Lib.hid (by unfold dmayN; rw [if_neg (by simp [h0]), if_neg h1, if_pos h2])
        have HE3 : Hid (∀ W, Below w1.heap.size w1 W → W.cell? ⟨11, 0, none⟩ = some (.iface 219 (.pointer (some (A 11))))) := Lib.hid (fun W hb => (HE.out.below hb).cells 11 (by omega))
        clear hc h0
        go_enter Tryd.func85, Tryd.ntmps85
        go_wp2_with (first
          | (go_at_call 97; have B2 := HB2.out; refine (indexR_calls AR cR g.rules w2 (Kd.C_below HR.out HB2.out)).mono ?_; rintro e w3 ⟨rfl, hb3⟩; have HB3 := Lib.hid (below_next HB2.out hb3); have e3 := HE3.out _ HB3.out; clear hb3 B2)
          | (go_at_call 96; refine HC.out.mono ?_; rintro e w2 ⟨u, rfl, hu, hb2⟩; obtain rfl : u = .nilIface := (by cases hu; rfl); have HB2 := Lib.hid hb2; clear hb2 hu; have c3 := (gr_blk (blk_below HK1.out HB2.out)).2.2.2))
        go_ret
        exact ⟨_, rfl, by rw [H.out]; exact .sent 11 (by omega), below_next HB1.out HB3.out⟩
      · have H : Hid (dmayN g n = (0, -1)) := Lib.hid (by unfold dmayN; rw [if_neg (by simp [h0]), if_neg h1, if_neg h2])
        clear hc h0
        go_enter Tryd.func85, Tryd.ntmps85
        go_wp2_with (first
          | (go_at_call 97; have B2 := HB2.out; refine (indexR_calls AR cR g.rules w2 (Kd.C_below HR.out HB2.out)).mono ?_; rintro e w3 ⟨rfl, hb3⟩; have HB3 := Lib.hid (below_next HB2.out hb3); clear hb3 B2)
          | (go_at_call 96; refine HC.out.mono ?_; rintro e w2 ⟨u, rfl, hu, hb2⟩; obtain rfl : u = .nilIface := (by cases hu; rfl); have HB2 := Lib.hid hb2; clear hb2 hu; have c3 := (gr_blk (blk_below HK1.out HB2.out)).2.2.2))
        go_ret
        exact ⟨_, rfl, by rw [H.out]; exact .none, below_next HB1.out HB3.out⟩
  · have H : Hid (dmayN g n = checkN g) := Lib.hid (by unfold dmayN; rw [if_pos h0])
    have HN := Lib.hid h0
    clear h0
    go_enter Tryd.func85, Tryd.ntmps85
    go_wp2_with (go_at_call 96; refine HC.out.mono ?_; rintro e w2 ⟨u, rfl, hu, hb2⟩; have HB2 := Lib.hid hb2; have HU := Lib.hid hu; obtain ⟨t, x, rfl⟩ : ∃ t x, u = .iface t x := (by rcases hu.nil_iff with ⟨h, _⟩ | ⟨_, t, x, h⟩; exact absurd h HN.out; exact ⟨t, x, h⟩); clear hb2 hu)
    go_ret
    exact ⟨_, rfl, by rw [H.out]; exact HU.out, below_next HB1.out HB2.out⟩
set_option maxHeartbeats 1000000 in
theorem rmay_calls (v : Value) (g : Gr) (n : Nat) (w : World) (hv : GramAt w v g) :
    Calls Tryd.prog 80 #[v, .int .i64 (n : Int)] w fun e w' => e = .returned (.tuple #[.int .i64 ((dmayN g n).1 : Nat), .int .i64 (dmayN g n).2]) ∧ Below w.heap.size w w' := by
  have HV := Lib.hid hv
  obtain ⟨AT, cT, AN, cN, AR, cR, rfl, q1, q2, q3, q4, q5, q6⟩ := hv
  have l1 := q4.2.1
  have l2 := q5.2.1
  have l3 := q6.2.1
  obtain ⟨w1, hw1⟩ : ∃ w1, w.alloc (.cells #[.slice AT g.terms.length cT, .slice AN g.nonterms.length cN, .int .i64 g.ax, .slice AR g.rules.length cR] 25) = w1 := ⟨_, rfl⟩
  have hb1 : Below w.heap.size w w1 := by rw [← hw1]; exact below_alloc (Below.refl _ _) _
  have hk1 : w1.heap[w.heap.size]? = some (.cells #[.slice AT g.terms.length cT, .slice AN g.nonterms.length cN, .int .i64 g.ax, .slice AR g.rules.length cR] 25 (0, 0)) := by rw [← hw1]; exact heap_alloc_new w _
  obtain ⟨c0, c1, c2, c3⟩ := gr_blk hk1
  have HB1 := Lib.hid hb1
  have HK1 := Lib.hid hk1
  have HC := Lib.hid (rcheck_calls _ g w1 (HV.out.below hb1))
  have HR := Lib.hid (Kd.C_below q6 hb1)
  clear hb1 hk1 q4 q5 q6
  by_cases h0 : (checkN g).1 = 0
  · have hc := checkN_ok h0
    rw [hc] at HC
    have HM : Hid (dmayN g n = if 0 ≤ firstEmpty g.rules 0 then (4, firstEmpty g.rules 0) else if 131072 < n then (12, -1) else (0, -1)) := Lib.hid (by unfold dmayN; rw [if_neg (by simp [h0])])
    clear h0 hc
    go_enter Tryd.func80, Tryd.ntmps80
    go_wp2_with (go_at_call 91; refine HC.out.mono ?_; rintro e w2 ⟨rfl, hb2⟩; have HB2 := Lib.hid hb2; clear hb2)
    go_loopw [8] (fun i wr => ∃ (j d : Nat), j ≤ g.rules.length ∧ i = .int .i64 j ∧ wr = w2.drewN d ∧ Hid (∀ k, k < j → (g.rules.getD k (0, [])).2 ≠ [])) (fun i _ => g.rules.length - (intOf i).toNat)
    case atStart => exact ⟨0, 0, by omega, rfl, rfl, Lib.hid (fun k hk => by omega)⟩
    case round =>
      obtain ⟨j, d, hj, rfl, rfl, HT⟩ := hrel
      have c3 := (gr_blk (blk_below HK1.out (HB2.out))).2.2.2
      by_cases hlt : j < g.rules.length
      · obtain ⟨ad, x, B, cr, r, rfl, k1, k2, hrc, hr, HD⟩ := at_rule (Kd.C_below HR.out HB2.out) j hlt
        clear hr
        by_cases he : r = []
        · have h0 : ((r.length : Int) == 0) = true := by simp [he]
          have HF : Hid (firstEmpty g.rules 0 = (j : Int)) := Lib.hid (firstEmpty_at _ j HT.out hlt (by rw [HD.out]; exact he))
          clear he
          go_wp2
          go_ret2
          exact ⟨by rw [HM.out, HF.out, if_pos (by omega)]; rfl, below_next HB1.out (pw_below_drewN HB2.out _)⟩
        · have h0 : ((r.length : Int) == 0) = false := by simp [he]
          have HE := Lib.hid he
          clear he
          go_wp2
          go_roundw
          case rel => exact ⟨j + 1, _, by omega, by go_num, rfl, Lib.hid (fun k hk => by
            rcases Nat.lt_or_ge k j with h | h
            · exact HT.out k h
            · obtain rfl : k = j := by omega
              rw [HD.out]; exact HE.out)⟩
          case measure => simp [intOf]; omega
      · have HF : Hid (firstEmpty g.rules 0 = -1) := Lib.hid (firstEmpty_none _ (fun k hk => HT.out k (by omega)))
        by_cases h2 : 131072 < n
        · go_wp2
          go_ret2
          exact ⟨by rw [HM.out, HF.out, if_neg (by omega), if_pos h2]; rfl, below_next HB1.out (pw_below_drewN HB2.out _)⟩
        · go_wp2
          go_ret2
          exact ⟨by rw [HM.out, HF.out, if_neg (by omega), if_neg h2]; rfl, below_next HB1.out (pw_below_drewN HB2.out _)⟩
  · have H : Hid (dmayN g n = checkN g) := Lib.hid (by unfold dmayN; rw [if_pos h0])
    have h0I : (((checkN g).1 : Int) == 0) = false := by simp; omega
    clear h0
    go_enter Tryd.func80, Tryd.ntmps80
    go_wp2_with (go_at_call 91; refine HC.out.mono ?_; rintro e w2 ⟨rfl, hb2⟩; have HB2 := Lib.hid hb2; clear hb2)
    go_ret2
    exact ⟨by rw [H.out]; rfl, below_next HB1.out HB2.out⟩
end Go.Proofs.YtapgglmdnggopaaDoor.Hand
/- Contracts of dovetailkit: are two lists the same? -/
namespace Go.Proofs.YtapgglmdnggopaaDoor.Hand
open Go.RowKit Go.Proofs.YtapgglmdnggopaaDoorW.PrintWords Go.Proofs.YtapgglmdnggopaaDoorW.PrintMore Go.Proofs.YtapgglmdnggopaaDoor.Math

/-- Are two lists the same? -/
theorem ints_calls (A B : Option Addr) (c d : Nat) (l m : List Int) (w : World) (hr : Kd.C (Kd.int .i64) w A l.length l) (hq : Kd.C (Kd.int .i64) w B m.length m) : Quiet 25 #[.slice A l.length c, .slice B m.length d] w (.bool (decide (l = m))) := by
  unfold Quiet
  have hlen := hr.2.1
  have hlen2 := hq.2.1
  have HR := Lib.hid hr
  have HQ := Lib.hid hq
  clear hr hq
  by_cases hl : l.length = m.length
  · have hlI : ((l.length : Int) == (m.length : Int)) = true := by simp [hl]
    have HL := Lib.hid hl
    go_enter Tryd.func25, Tryd.ntmps25
    go_wp2
    go_loopw [5] (fun i wr => ∃ (j d : Nat), j ≤ l.length ∧ i = .int .i64 j ∧ wr = w.drewN d ∧ Hid (l.take j = m.take j)) (fun i _ => l.length - (intOf i).toNat)
    case atStart => exact ⟨0, 0, by omega, rfl, rfl, Lib.hid (by simp)⟩
    case round =>
      obtain ⟨j, d, hj, rfl, rfl, HT⟩ := hrel
      by_cases hlt : j < l.length
      · obtain ⟨ad, y, rfl, hc, HY⟩ := at_scalar HR.out j hlt 0
        obtain ⟨ad2, y2, rfl, hc2, HY2⟩ := at_scalar HQ.out j (by omega) 0
        have hlt2 : j < m.length := by omega
        by_cases e : y = y2
        · subst e
          go_wp2
          go_quiet (fail)
          go_wp2
          go_roundw
          case rel => exact ⟨j + 1, _, by omega, by go_num, rfl, Lib.hid (by rw [take_snocD l j 0 hlt, take_snocD m j 0 hlt2, HT.out, HY.out, HY2.out])⟩
          case measure => simp [intOf]; omega
        · have HE : Hid (decide (l = m) = false) := Lib.hid (decide_eq_false (fun h => e (by rw [← HY.out, ← HY2.out, h])))
          have HN := Lib.hid e
          have hn : ((y : Int) == y2) = false := by simpa using e
          clear e
          go_wp2
          go_quiet (fail)
          go_wp2
          go_ret
          exact ⟨ret_bool HE.out.symm, _, World.drewN_drewN _ _ _⟩
      · have HE : Hid (decide (l = m) = true) := Lib.hid (decide_eq_true (by
          have := HT.out
          rwa [List.take_of_length_le (by omega), List.take_of_length_le (by have := HL.out; omega)] at this))
        go_wp2
        go_ret
        exact ⟨ret_bool HE.out.symm, _, rfl⟩
  · have HE : Hid (decide (l = m) = false) := Lib.hid (decide_eq_false (fun h => hl (by rw [h])))
    have hlI : ((l.length : Int) == (m.length : Int)) = false := by simp; omega
    have hlN : decide (l.length = m.length) = false := by simp [hl]
    have HL := Lib.hid hl
    clear hl
    go_enter Tryd.func25, Tryd.ntmps25
    go_wp2
    go_ret
    exact ⟨ret_bool HE.out.symm, 0, rfl⟩
/-- Are two lists the same? -/
theorem kstrings_calls (A B : Option Addr) (c d : Nat) (l m : List ByteArray) (w : World) (hr : Kd.C Kd.string w A l.length l) (hq : Kd.C Kd.string w B m.length m) : Quiet 78 #[.slice A l.length c, .slice B m.length d] w (.bool (decide (l = m))) := by
  unfold Quiet
  have hlen := hr.2.1
  have hlen2 := hq.2.1
  have HR := Lib.hid hr
  have HQ := Lib.hid hq
  clear hr hq
  by_cases hl : l.length = m.length
  · have hlI : ((l.length : Int) == (m.length : Int)) = true := by simp [hl]
    have HL := Lib.hid hl
    go_enter Tryd.func78, Tryd.ntmps78
    go_wp2
    go_loopw [5] (fun i wr => ∃ (j d : Nat), j ≤ l.length ∧ i = .int .i64 j ∧ wr = w.drewN d ∧ Hid (l.take j = m.take j)) (fun i _ => l.length - (intOf i).toNat)
    case atStart => exact ⟨0, 0, by omega, rfl, rfl, Lib.hid (by simp)⟩
    case round =>
      obtain ⟨j, d, hj, rfl, rfl, HT⟩ := hrel
      by_cases hlt : j < l.length
      · obtain ⟨ad, y, rfl, hc, HY⟩ := at_scalar HR.out j hlt ByteArray.empty
        obtain ⟨ad2, y2, rfl, hc2, HY2⟩ := at_scalar HQ.out j (by omega) ByteArray.empty
        have hlt2 : j < m.length := by omega
        by_cases e : y = y2
        · subst e
          go_wp2
          go_quiet (fail)
          go_wp2
          go_roundw
          case rel => exact ⟨j + 1, _, by omega, by go_num, rfl, Lib.hid (by rw [take_snocD l j ByteArray.empty hlt, take_snocD m j ByteArray.empty hlt2, HT.out, HY.out, HY2.out])⟩
          case measure => simp [intOf]; omega
        · have HE : Hid (decide (l = m) = false) := Lib.hid (decide_eq_false (fun h => e (by rw [← HY.out, ← HY2.out, h])))
          have HN := Lib.hid e
          (have hn3 : (y.toList == y2.toList) = false := beq_eq_false_iff_ne.mpr (fun h => e (str_inj h)); have hn4 : (y.toList != y2.toList) = true := bne_iff_ne.mpr (fun h => e (str_inj h)))
          clear e
          go_wp2
          go_quiet (fail)
          go_wp2
          go_ret
          exact ⟨ret_bool HE.out.symm, _, World.drewN_drewN _ _ _⟩
      · have HE : Hid (decide (l = m) = true) := Lib.hid (decide_eq_true (by
          have := HT.out
          rwa [List.take_of_length_le (by omega), List.take_of_length_le (by have := HL.out; omega)] at this))
        go_wp2
        go_ret
        exact ⟨ret_bool HE.out.symm, _, rfl⟩
  · have HE : Hid (decide (l = m) = false) := Lib.hid (decide_eq_false (fun h => hl (by rw [h])))
    have hlI : ((l.length : Int) == (m.length : Int)) = false := by simp; omega
    have hlN : decide (l.length = m.length) = false := by simp [hl]
    have HL := Lib.hid hl
    clear hl
    go_enter Tryd.func78, Tryd.ntmps78
    go_wp2
    go_ret
    exact ⟨ret_bool HE.out.symm, 0, rfl⟩
end Go.Proofs.YtapgglmdnggopaaDoor.Hand
/- Contracts of dovetailkit's lent and kept lists, rules, grammars. -/
namespace Go.Proofs.YtapgglmdnggopaaDoor.Hand
open Go.RowKit Go.Proofs.YtapgglmdnggopaaDoorW.PrintWords Go.Proofs.YtapgglmdnggopaaDoorW.PrintMore Go.Proofs.YtapgglmdnggopaaDoor.Math

theorem lentInts_calls (A0 : Option Addr) (c0 : Nat) (l0 : List Int) (w : World) (hr0 : Kd.C (Kd.int .i64) w A0 l0.length l0) (hl : (l0.length + 1) * 8 ≤ 140737488355328) :
    Calls Tryd.prog 76 #[.slice A0 l0.length c0] w fun e w' => ∃ A c, e = .returned (.slice A l0.length c) ∧ l0.length + 1 ≤ c ∧ KMInt.R 3 w' w.heap.size (fun _ => True) (.slice A (l0.length + 1) c) (l0.map some ++ [none]) ∧ Below w.heap.size w w' := by
  have HR0 := Aside0.mk (C_some (a := (Kd.int .i64)) (b := KMInt) rfl hr0 (fun _ _ h => h))
  have HL := Aside0.mk hl
  clear hr0 hl
  have HB := Aside0.mk (Below.refl w.heap.size w)
  go_enter Tryd.func76, Tryd.ntmps76
  go_wp2_with (first
    | ((with_reducible refine gate_builtin (b := .append) (xs := #[.tmp 4, .tmp 5]) rfl ?_); at_builtin; refine Kd.R_append_rows KMInt (w0 := w) w.heap.size rfl (.tmp 4) (.tmp 5) 30 3 (.int .i64 0) 8 rfl Tryd.underlying30 infoInt rfl (by decide) (by omega) (.slice none 0 0) ([] : List (Option Int)) (l0.map some) _ _ _ (fun _ => True) (fun _ => False) rfl rfl (Kd.R_nil _ _ _ _ _) HR0.out (fun _ _ h => h) (fun _ h => h.elim) (fun _ _ => trivial) HB.out (Nat.le_refl _) (by have := HL.out; simp at this ⊢; omega) ?_; intro v1 w1 ho hb _ _; have HO := Aside0.mk ho; have HB1 := Aside0.mk hb; clear ho hb)
    | ((with_reducible refine gate_builtin (b := .append) (xs := #[.tmp 7, .tmp 8]) rfl ?_); at_builtin; refine Kd.R_append KMInt (w0 := w) w.heap.size rfl (.tmp 7) (.tmp 8) 30 3 (.int .i64 0) 8 rfl Tryd.underlying30 infoInt rfl (by decide) (by omega) v1 ([] ++ l0.map some) none [.int .i64 (-7171)] (fun _ => True) (fun _ => False) rfl rfl rfl (fun _ hk => hk.elim) (fun _ _ => trivial) HO.out HB1.out (Below.size HB1.out) (by have := HL.out; simp at this ⊢; omega) ?_; intro v2 w2 ho hb _ _; have HO2 := Aside0.mk ho; have HB2 := Aside0.mk hb; clear ho hb; (obtain ⟨A, c, rfl⟩ := Kd.R_slice HO2.out; have hc : l0.length + 1 ≤ c := (by have := (Kd.R_reads' HO2.out).2.1; simpa using this); have hc2 : l0.length ≤ c := (by omega))))
  go_ret
  exact ⟨A, c, rfl, hc, by simpa using HO2.out, HB2.out⟩
theorem lentStrings_calls (A0 : Option Addr) (c0 : Nat) (l0 : List ByteArray) (w : World) (hr0 : Kd.C Kd.string w A0 l0.length l0) (hl : (l0.length + 1) * 16 ≤ 140737488355328) :
    Calls Tryd.prog 52 #[.slice A0 l0.length c0] w fun e w' => ∃ A c, e = .returned (.slice A l0.length c) ∧ l0.length + 1 ≤ c ∧ KMString.R 9 w' w.heap.size (fun _ => True) (.slice A (l0.length + 1) c) (l0.map some ++ [none]) ∧ Below w.heap.size w w' := by
  have HR0 := Aside0.mk (C_some (a := Kd.string) (b := KMString) rfl hr0 (fun _ _ h => h))
  have HL := Aside0.mk hl
  clear hr0 hl
  have HB := Aside0.mk (Below.refl w.heap.size w)
  go_enter Tryd.func52, Tryd.ntmps52
  go_wp2_with (first
    | ((with_reducible refine gate_builtin (b := .append) (xs := #[.tmp 4, .tmp 5]) rfl ?_); at_builtin; refine Kd.R_append_rows KMString (w0 := w) w.heap.size rfl (.tmp 4) (.tmp 5) 22 9 (.string ⟨#[]⟩) 16 rfl Tryd.underlying22 infoString rfl (by decide) (by omega) (.slice none 0 0) ([] : List (Option ByteArray)) (l0.map some) _ _ _ (fun _ => True) (fun _ => False) rfl rfl (Kd.R_nil _ _ _ _ _) HR0.out (fun _ _ h => h) (fun _ h => h.elim) (fun _ _ => trivial) HB.out (Nat.le_refl _) (by have := HL.out; simp at this ⊢; omega) ?_; intro v1 w1 ho hb _ _; have HO := Aside0.mk ho; have HB1 := Aside0.mk hb; clear ho hb)
    | ((with_reducible refine gate_builtin (b := .append) (xs := #[.tmp 7, .tmp 8]) rfl ?_); at_builtin; refine Kd.R_append KMString (w0 := w) w.heap.size rfl (.tmp 7) (.tmp 8) 22 9 (.string ⟨#[]⟩) 16 rfl Tryd.underlying22 infoString rfl (by decide) (by omega) v1 ([] ++ l0.map some) none [.string ⟨#[109, 97, 114, 107]⟩] (fun _ => True) (fun _ => False) rfl rfl rfl (fun _ hk => hk.elim) (fun _ _ => trivial) HO.out HB1.out (Below.size HB1.out) (by have := HL.out; simp at this ⊢; omega) ?_; intro v2 w2 ho hb _ _; have HO2 := Aside0.mk ho; have HB2 := Aside0.mk hb; clear ho hb; (obtain ⟨A, c, rfl⟩ := Kd.R_slice HO2.out; have hc : l0.length + 1 ≤ c := (by have := (Kd.R_reads' HO2.out).2.1; simpa using this); have hc2 : l0.length ≤ c := (by omega))))
  go_ret
  exact ⟨A, c, rfl, hc, by simpa using HO2.out, HB2.out⟩
theorem keptInts_calls (A B : Option Addr) (c d : Nat) (l : List Int) (w : World) (hv : KMInt.C w A (l.length + 1) (l.map some ++ [none])) (hc : l.length + 1 ≤ c) (hq : Kd.C (Kd.int .i64) w B l.length l) : Quiet 79 #[.slice A l.length c, .slice B l.length d] w (.bool true) := by
  unfold Quiet
  have hlen := hv.2.1
  obtain ⟨ad, rfl, hm⟩ := lent_mark (a := (Kd.int .i64)) hv
  have hcell : w.cell? (ad.add l.length) = some (.int .i64 (-7171)) := by simpa [show Kd.sz (Kd.int .i64) = 1 from rfl] using hm 0 _ rfl
  have HR := Lib.hid (lent_C (a := (Kd.int .i64)) hv)
  have HQ := Lib.hid hq
  clear hv hq hm
  go_enter Tryd.func79, Tryd.ntmps79
  go_wp2_with (go_at_call 25; refine (ints_calls (some ad) B c d l l _ HR.out HQ.out).mono ?_; rintro e w' ⟨rfl, n, rfl⟩; rw [decide_eq_true (show l = l from rfl)])
  go_ret
  exact ⟨rfl, _, rfl⟩
theorem keptStrings_calls (A B : Option Addr) (c d : Nat) (l : List ByteArray) (w : World) (hv : KMString.C w A (l.length + 1) (l.map some ++ [none])) (hc : l.length + 1 ≤ c) (hq : Kd.C Kd.string w B l.length l) : Quiet 57 #[.slice A l.length c, .slice B l.length d] w (.bool true) := by
  unfold Quiet
  have hlen := hv.2.1
  obtain ⟨ad, rfl, hm⟩ := lent_mark (a := Kd.string) hv
  have hcell : w.cell? (ad.add l.length) = some (.string ⟨#[109, 97, 114, 107]⟩) := by simpa [show Kd.sz Kd.string = 1 from rfl] using hm 0 _ rfl
  have HR := Lib.hid (lent_C (a := Kd.string) hv)
  have HQ := Lib.hid hq
  clear hv hq hm
  go_enter Tryd.func57, Tryd.ntmps57
  go_wp2_with (go_at_call 78; refine (kstrings_calls (some ad) B c d l l _ HR.out HQ.out).mono ?_; rintro e w' ⟨rfl, n, rfl⟩; rw [decide_eq_true (show l = l from rfl)])
  go_ret
  exact ⟨rfl, _, rfl⟩
theorem infoRule : (Tryd.prog.info? 59).map (fun i => (i.zero, i.size, i.bytes)) = some (some (.agg #[.int .i64 0, .slice none 0 0]), 2, 32) := by kernel_rfl
theorem lent_made {d : Kd (Option (Int × List Int))} {w1 w2 : World} {base e1 : Nat} {A2 : Option Addr} {c2 : Nat} {r : List Int} {u : Value} {xs : List (Option (Int × List Int))} (hR : KMInt.R 3 w2 w1.heap.size (fun _ => True) (.slice A2 (r.length + 1) c2) (r.map some ++ [none])) (hq : r.length + 1 ≤ c2) (ho : d.R e1 w1 base (fun _ => True) u xs) (hb : base ≤ w1.heap.size) :
    KLInts.M w2 base (fun k => True ∧ some k ≠ u.ownBlock) r [.slice A2 r.length c2] := by
  obtain ⟨inner, hown⟩ := Kd.R_own ho
  exact KLInts.M_lower hb (Kd.M_new (d := KLInts) ⟨A2, c2, rfl, hq, hR⟩ hown)
theorem lent_pair {w : World} {base : Nat} {ok : Nat → Prop} {x : Int} {r : List Int} {v : Value} (h : KLInts.M w base ok r [v]) : KMRule.M w base ok (some (x, r)) [.int .i64 x, v] := ⟨[.int .i64 x], [v], rfl, rfl, h⟩
theorem lentRules_calls (A0 : Option Addr) (c0 : Nat) (l0 : List (Int × List Int)) (w : World) (hr0 : KRule.C w A0 l0.length l0) (hl : (l0.length + 1) * 32 ≤ 140737488355328) (hi : ∀ r ∈ l0, (r.2.length + 1) * 8 ≤ 140737488355328) :
    Calls Tryd.prog 53 #[.slice A0 l0.length c0] w fun e w' => ∃ A c, e = .returned (.slice A l0.length c) ∧ l0.length + 1 ≤ c ∧ KMRule.R 59 w' w.heap.size (fun _ => True) (.slice A (l0.length + 1) c) (l0.map some ++ [none]) ∧ Below w.heap.size w w' := by
  have hlen := hr0.2.1
  have HR0 := Aside0.mk hr0
  have HL := Aside0.mk hl
  have HI := Aside0.mk hi
  clear hr0 hl hi
  go_enter Tryd.func53, Tryd.ntmps53
  go_wp2
  go_loopw [3, 4] (fun v i wr => ∃ (j : Nat), j ≤ l0.length ∧ i = .int .i64 j ∧ Aside0 (KMRule.R 59 wr w.heap.size (fun _ => True) v ((l0.take j).map some)) ∧ Aside0 (Below w.heap.size w wr)) (fun _ i _ => l0.length - (intOf i).toNat)
  case atStart => exact ⟨0, by omega, rfl, ⟨Kd.R_nil _ _ _ _ _⟩, ⟨Below.refl _ _⟩⟩
  case round =>
    obtain ⟨j, hj, rfl, HO, HB⟩ := hrel
    obtain ⟨w1, rfl⟩ : ∃ w1, wr = w1 := ⟨_, rfl⟩
    have hlj : ((l0.take j).map some).length = j := by simp; omega
    by_cases hlt : j < l0.length
    · obtain ⟨ad, x, B, c, r, rfl, hc1, hc2, hrc, hr, HD⟩ := at_rule (Kd.C_below HR0.out HB.out) j hlt
      have HIr := Aside0.mk (HI.out (x, r) (by rw [← HD.out]; exact getD_mem l0 j (0, []) hlt))
      have HRr := Aside0.mk hr
      have HTk := Lib.hid (take_snocD l0 j (0, []) hlt)
      clear hr
      go_wp2_with (first
        | (go_at_call 76; refine (lentInts_calls B c r _ HRr.out HIr.out).mono ?_; rintro e w2 ⟨A2, c2, rfl, hq, hR2, hB2⟩; have HB2 := Aside0.mk (below_next HB.out hB2); have HM := Aside0.mk (lent_made hR2 hq HO.out HB.out.size); have HO2 := Aside0.mk (Kd.R_below HO.out hB2); have hc3 := (hB2.cell (p := ad.add (j * 2)) (World.block_lt_of_cell? _ _ hc1)).trans hc1; clear hR2 hB2 hq)
        | ((with_reducible refine gate_builtin (b := .append) (xs := #[.tmp 18, .tmp 26]) rfl ?_); at_builtin; refine Kd.R_append KMRule (w0 := w) w.heap.size rfl (.tmp 18) (.tmp 26) 23 59 (.agg #[.int .i64 0, .slice none 0 0]) 32 rfl Tryd.underlying23 infoRule rfl (by decide) (by omega) u3 ((l0.take j).map some) (some (x, r)) [.int .i64 x, .slice A2 r.length c2] (fun _ => True) (fun k => True ∧ some k ≠ Value.ownBlock u3) rfl rfl (lent_pair HM.out) (fun k h => h) (fun _ _ => trivial) HO2.out HB2.out (Below.size HB2.out) (by have := HL.out; rw [hlj]; omega) ?_; intro v3 w3 ho hb _ _; have HO3 := Aside0.mk ho; have HB3 := Aside0.mk hb; clear ho hb; skip))
      go_roundw
      case rel => exact ⟨j + 1, by omega, by go_num, ⟨by rw [HTk.out, HD.out, List.map_append]; exact HO3.out⟩, HB3⟩
      case measure => simp [intOf]; omega
    · obtain rfl : j = l0.length := by omega
      have HT : Hid (l0.take l0.length = l0) := Lib.hid (List.take_of_length_le (Nat.le_refl _))
      go_wp2_with (first
        | ((with_reducible refine gate_builtin (b := .append) (xs := #[.tmp 28, .tmp 30]) rfl ?_); at_builtin; refine Kd.R_append KMRule (w0 := w) w.heap.size rfl (.tmp 28) (.tmp 30) 23 59 (.agg #[.int .i64 0, .slice none 0 0]) 32 rfl Tryd.underlying23 infoRule rfl (by decide) (by omega) u3 ((l0.take l0.length).map some) none [.int .i64 (-7171), .slice none 0 0] (fun _ => True) (fun _ => False) rfl rfl rfl (fun _ hk => hk.elim) (fun _ _ => trivial) HO.out HB.out (Below.size HB.out) (by have := HL.out; rw [hlj]; omega) ?_; intro v2 w2 ho hb _ _; have HO2 := Aside0.mk ho; have HB2 := Aside0.mk hb; clear ho hb; (rw [HT.out] at HO2; obtain ⟨A, c, rfl⟩ := Kd.R_slice HO2.out; have hc : l0.length + 1 ≤ c := (by have := (Kd.R_reads' HO2.out).2.1; simpa using this); have hc2 : l0.length ≤ c := (by omega))))
      go_ret
      exact ⟨A, c, rfl, hc, by simpa using HO2.out, HB2.out⟩
theorem keptRules_calls (A B : Option Addr) (c d : Nat) (l : List (Int × List Int)) (w : World) (hv : KMRule.C w A (l.length + 1) (l.map some ++ [none])) (hc : l.length + 1 ≤ c) (hq : KRule.C w B l.length l) : Quiet 58 #[.slice A l.length c, .slice B l.length d] w (.bool true) := by
  unfold Quiet
  have hlen := hv.2.1
  obtain ⟨ad, rfl, hm⟩ := lent_mark (a := KLRule) hv
  have hcell : w.cell? (ad.add (l.length * 2)) = some (.int .i64 (-7171)) := by simpa [show KLRule.sz = 2 from rfl] using hm 0 _ rfl
  have HV := Lib.hid hv
  have HQ := Lib.hid hq
  clear hv hq hm
  go_enter Tryd.func58, Tryd.ntmps58
  go_wp2
  go_loopw [5] (fun i wr => ∃ (j : Nat), j ≤ l.length ∧ i = .int .i64 j ∧ Hid (∃ n, wr = w.drewN n)) (fun i _ => l.length - (intOf i).toNat)
  case atStart => exact ⟨0, by omega, rfl, Lib.hid ⟨0, rfl⟩⟩
  case round =>
    obtain ⟨j, hj, rfl, HW⟩ := hrel
    have HV1 := Lib.hid (show KMRule.C wr (some ad) (l.length + 1) (l.map some ++ [none]) by obtain ⟨n, e⟩ := HW.out; rw [e]; exact Kd.C_drewN HV.out n)
    have HQ1 := Lib.hid (show KRule.C wr B l.length l by obtain ⟨n, e⟩ := HW.out; rw [e]; exact Kd.C_drewN HQ.out n)
    by_cases hlt : j < l.length
    · obtain ⟨ad1, x, B1, c1, r, e1, h1, h2, h3, h4, HD⟩ := at_lrule HV1.out j hlt
      simp only [Option.some.injEq] at e1
      subst e1
      obtain ⟨ad2, x2, B2, c2, r2, rfl, g1, g2, g3, g4, HD2⟩ := at_rule HQ1.out j hlt
      have e := HD.out.symm.trans HD2.out
      simp only [Prod.mk.injEq] at e
      obtain ⟨rfl, rfl⟩ := e
      have H4 := Lib.hid h4
      have G4 := Lib.hid g4
      have hxx : ((x : Int) == x) = true := by simp
      have hxn : ((x : Int) != x) = false := by simp
      clear h4 g4
      go_wp2
      go_quiet ((go_at_call 79; exact Calls.quiet_of (keptInts_calls _ _ _ _ _ _ (Kd.C_drewN H4.out _) h3 (Kd.C_drewN G4.out _))))
      go_wp2
      go_roundw
      case rel => exact ⟨j + 1, by omega, by go_num, Lib.hid (by obtain ⟨n, e⟩ := HW.out; exact ⟨_, by rw [e, World.drewN_drewN]⟩)⟩
      case measure => simp [intOf]; omega
    · go_wp2
      go_ret
      exact ⟨rfl, HW.out⟩
theorem keptGrammar_calls (v u : Value) (g : Gr) (w : World) (hv : GramL w v g) (hu : GramAt w u g) :
    Calls Tryd.prog 19 #[v, u] w fun e w' => e = .returned (.bool true) ∧ Below w.heap.size w w' := by
  obtain ⟨AT, cT, AN, cN, AR, cR, rfl, h1, h2, h3, h4, h5, h6⟩ := hv
  obtain ⟨BT, dT, BN, dN, BR, dR, rfl, q1, q2, q3, q4, q5, q6⟩ := hu
  have H4 := Lib.hid h4
  have H5 := Lib.hid h5
  have H6 := Lib.hid h6
  have Q4 := Lib.hid q4
  have Q5 := Lib.hid q5
  have Q6 := Lib.hid q6
  clear h4 h5 h6 q4 q5 q6
  have hB2 := below_alloc (below_alloc (Below.refl w.heap.size w) (.cells #[.slice AT g.terms.length cT, .slice AN g.nonterms.length cN, .int .i64 g.ax, .slice AR g.rules.length cR] 25)) (.cells #[.slice BT g.terms.length dT, .slice BN g.nonterms.length dN, .int .i64 g.ax, .slice BR g.rules.length dR] 25)
  have HB := Lib.hid hB2
  clear hB2
  go_enter Tryd.func19, Tryd.ntmps19
  go_wp2_with (first
    | (go_at_call 57; refine (keptStrings_calls _ _ _ _ _ _ (Kd.C_below (by first | exact H4.out | exact H5.out) (by first | exact HB.out | exact pw_below_drewN HB.out _)) (by assumption) (Kd.C_below (by first | exact Q4.out | exact Q5.out) (by first | exact HB.out | exact pw_below_drewN HB.out _))).mono ?_; rintro e w' ⟨rfl, n, rfl⟩)
    | (go_at_call 58; refine (keptRules_calls _ _ _ _ _ _ (Kd.C_below H6.out (by first | exact HB.out | exact pw_below_drewN HB.out _)) (by assumption) (Kd.C_below Q6.out (by first | exact HB.out | exact pw_below_drewN HB.out _))).mono ?_; rintro e w' ⟨rfl, n2, rfl⟩))
  go_ret
  exact ⟨rfl, pw_below_drewN HB.out _⟩
theorem blk_below {g : Nat} {o : Obj} {w w' : World} (h : w.heap[g]? = some o) (hb : Below w.heap.size w w') : w'.heap[g]? = some o := (hb.block g (Array.getElem?_eq_some_iff.1 h).1).trans h
theorem blk_set {g t : Nat} {c : Array Value} {w : World} (h : w.heap[g]? = some (.cells c t (0, 0))) (j : Nat) (u : Value) : (w.setCell ⟨g, j, none⟩ u).heap[g]? = some (.cells (c.setIfInBounds j u) t (0, 0)) := by
  obtain ⟨hlt, hk⟩ := Array.getElem?_eq_some_iff.1 h
  show (w.heap.modify g _)[g]? = _
  rw [Array.getElem?_eq_getElem (by rw [Array.size_modify]; exact hlt), Array.getElem_modify_self, hk]
  rfl
theorem held_set {w W : World} {b j : Nat} {u a0 a1 a2 a3 : Value} (h : W.cell? ⟨b, 0, none⟩ = some a0 ∧ W.cell? ⟨b, 1, none⟩ = some a1 ∧ W.cell? ⟨b, 2, none⟩ = some a2 ∧ W.cell? ⟨b, 3, none⟩ = some a3 ∧ Aside0 (Below w.heap.size w W) ∧ b + 1 < W.heap.size) (hb : w.heap.size ≤ b + 1 := by omega) :
    (W.setCell ⟨b + 1, j, none⟩ u).cell? ⟨b, 0, none⟩ = some a0 ∧ (W.setCell ⟨b + 1, j, none⟩ u).cell? ⟨b, 1, none⟩ = some a1 ∧ (W.setCell ⟨b + 1, j, none⟩ u).cell? ⟨b, 2, none⟩ = some a2 ∧ (W.setCell ⟨b + 1, j, none⟩ u).cell? ⟨b, 3, none⟩ = some a3 ∧ Aside0 (Below w.heap.size w (W.setCell ⟨b + 1, j, none⟩ u)) ∧ b + 1 < (W.setCell ⟨b + 1, j, none⟩ u).heap.size := by
  obtain ⟨h0, h1, h2, h3, h4, h5⟩ := h
  have hk := Below.heap_setCell W ⟨b + 1, j, none⟩ u b (by simp)
  refine ⟨(World.cell?_of_block (w := W) hk).trans h0, (World.cell?_of_block (w := W) hk).trans h1, (World.cell?_of_block (w := W) hk).trans h2, (World.cell?_of_block (w := W) hk).trans h3, ⟨h4.out.setCell hb u⟩, ?_⟩
  simpa [World.setCell] using h5
theorem R_sets4 {α : Type} {d : Kd α} {e : Nat} {w : World} {base : Nat} {ok : Nat → Prop} {v : Value} {xs : List α} {g t : Nat} {a b c a' : Value} (h : d.R e w base ok v xs) (hb : w.heap[g]? = some (.cells #[a, b, c, a'] t (0, 0))) (ht : ∀ q, q ∈ e :: d.E → q ≠ t) (u0 u1 u2 u3 : Value) :
    d.R e ((((w.setCell ⟨g, 0, none⟩ u0).setCell ⟨g, 1, none⟩ u1).setCell ⟨g, 2, none⟩ u2).setCell ⟨g, 3, none⟩ u3) base ok v xs := by
  have h1 := Kd.R_set h hb ht 0 u0
  have b1 := blk_set hb 0 u0
  have h2 := Kd.R_set h1 b1 ht 1 u1
  have b2 := blk_set b1 1 u1
  have h3 := Kd.R_set h2 b2 ht 2 u2
  have b3 := blk_set b2 2 u2
  exact Kd.R_set h3 b3 ht 3 u3
theorem blk_sets4 {w : World} {g t : Nat} {a b c a' : Value} (hb : w.heap[g]? = some (.cells #[a, b, c, a'] t (0, 0))) (u0 u1 u2 u3 : Value) :
    ((((w.setCell ⟨g, 0, none⟩ u0).setCell ⟨g, 1, none⟩ u1).setCell ⟨g, 2, none⟩ u2).setCell ⟨g, 3, none⟩ u3).heap[g]? = some (.cells #[u0, u1, u2, u3] t (0, 0)) :=
  blk_set (blk_set (blk_set (blk_set hb 0 u0) 1 u1) 2 u2) 3 u3
theorem blk_cells4 {g : Nat} {a b c d : Value} {t : TypeId} {w : World} (h : w.heap[g]? = some (.cells #[a, b, c, d] t (0, 0))) :
    (w.cell? ⟨g, 0, none⟩ = some a ∧ w.cell? ⟨g, 1, none⟩ = some b ∧ w.cell? ⟨g, 2, none⟩ = some c ∧ w.cell? ⟨g, 3, none⟩ = some d) ∧ w.frozen? ⟨g, 0, none⟩ = false ∧ w.frozen? ⟨g, 1, none⟩ = false ∧ w.frozen? ⟨g, 2, none⟩ = false ∧ w.frozen? ⟨g, 3, none⟩ = false := by
  refine ⟨⟨?_, ?_, ?_, ?_⟩, ?_, ?_, ?_, ?_⟩ <;> simp [World.cell?, World.frozen?, h]
theorem held_step {w W w' : World} {b : Nat} {a0 a1 a2 a3 : Value} (h : W.cell? ⟨b, 0, none⟩ = some a0 ∧ W.cell? ⟨b, 1, none⟩ = some a1 ∧ W.cell? ⟨b, 2, none⟩ = some a2 ∧ W.cell? ⟨b, 3, none⟩ = some a3 ∧ Aside0 (Below w.heap.size w W) ∧ b + 1 < W.heap.size) (hb : Below W.heap.size W w') :
    w'.cell? ⟨b, 0, none⟩ = some a0 ∧ w'.cell? ⟨b, 1, none⟩ = some a1 ∧ w'.cell? ⟨b, 2, none⟩ = some a2 ∧ w'.cell? ⟨b, 3, none⟩ = some a3 ∧ Aside0 (Below w.heap.size w w') ∧ b + 1 < w'.heap.size := by
  obtain ⟨h0, h1, h2, h3, h4, h5⟩ := h
  have hl : b < W.heap.size := by omega
  exact ⟨(hb.cell (p := ⟨b, 0, none⟩) hl).trans h0, (hb.cell (p := ⟨b, 1, none⟩) hl).trans h1, (hb.cell (p := ⟨b, 2, none⟩) hl).trans h2, (hb.cell (p := ⟨b, 3, none⟩) hl).trans h3, ⟨below_next h4.out hb⟩, Nat.lt_of_lt_of_le h5 hb.size⟩
theorem lentGrammar_calls (v : Value) (g : Gr) (w : World) (hv : GramAt w v g) (ht : (g.terms.length + 1) * 16 ≤ 140737488355328) (hn : (g.nonterms.length + 1) * 16 ≤ 140737488355328) (hl : (g.rules.length + 1) * 32 ≤ 140737488355328) (hi : ∀ r ∈ g.rules, (r.2.length + 1) * 8 ≤ 140737488355328) :
    Calls Tryd.prog 10 #[v] w fun e w' => ∃ u, e = .returned u ∧ GramL w' u g ∧ Below w.heap.size w w' := by
  obtain ⟨AT, cT, AN, cN, AR, cR, rfl, h1, h2, h3, h4, h5, h6⟩ := hv
  have HT := Lib.hid ht
  have HN := Lib.hid hn
  have HL := Lib.hid hl
  have HI := Lib.hid hi
  clear ht hn hl hi
  obtain ⟨w0, hw0⟩ : ∃ w0, (w.alloc (.cells #[.slice AT g.terms.length cT, .slice AN g.nonterms.length cN, .int .i64 g.ax, .slice AR g.rules.length cR] 25)).alloc (.cells #[.slice none 0 0, .slice none 0 0, .int .i64 0, .slice none 0 0] 25) = w0 := ⟨_, rfl⟩
  have HB := Aside0.mk (show Below w.heap.size w w0 by rw [← hw0]; exact below_alloc (below_alloc (Below.refl w.heap.size w) _) _)
  have hsz : w.heap.size + 1 < w0.heap.size := by rw [← hw0]; simp
  have hc0 : w0.cell? ⟨w.heap.size, 0, none⟩ = some (.slice AT g.terms.length cT) := by rw [← hw0]; simp [go_sem]
  have hc1 : w0.cell? ⟨w.heap.size, 1, none⟩ = some (.slice AN g.nonterms.length cN) := by rw [← hw0]; simp [go_sem]
  have hc2 : w0.cell? ⟨w.heap.size, 2, none⟩ = some (.int .i64 g.ax) := by rw [← hw0]; simp [go_sem]
  have hc3 : w0.cell? ⟨w.heap.size, 3, none⟩ = some (.slice AR g.rules.length cR) := by rw [← hw0]; simp [go_sem]
  have HBlk := Lib.hid (show w0.heap[w.heap.size + 1]? = some (.cells #[.slice none 0 0, .slice none 0 0, .int .i64 0, .slice none 0 0] 25 (0, 0)) by rw [← hw0]; have h := heap_alloc_new (w.alloc (.cells #[.slice AT g.terms.length cT, .slice AN g.nonterms.length cN, .int .i64 g.ax, .slice AR g.rules.length cR] 25)) (.cells #[.slice none 0 0, .slice none 0 0, .int .i64 0, .slice none 0 0] 25); rwa [World.size_alloc] at h)
  have H4 := Lib.hid h4
  have H5 := Lib.hid h5
  have H6 := Lib.hid h6
  clear h4 h5 h6
  go_enter Tryd.func10, Tryd.ntmps10
  go_wp2
  clear hw0
  have tok1 : True := trivial
  go_region_held3 (fun w' => w'.cell? ⟨w.heap.size, 0, none⟩ = some (.slice AT g.terms.length cT) ∧ w'.cell? ⟨w.heap.size, 1, none⟩ = some (.slice AN g.nonterms.length cN) ∧ w'.cell? ⟨w.heap.size, 2, none⟩ = some (.int .i64 g.ax) ∧ w'.cell? ⟨w.heap.size, 3, none⟩ = some (.slice AR g.rules.length cR) ∧ Aside0 (Below w.heap.size w w') ∧ w.heap.size + 1 < w'.heap.size)
    (first
      | (refine ⟨?_, ?_, ?_, ?_, ⟨below_drew1 HB.out⟩, hsz⟩ <;> assumption)
      | exact held_step hS.out hb.out
      | exact held_set (held_set (held_set (held_set (held_step hS.out hb.out)))))
    (first
      | (go_at_call 52; have t_ := tok1; have hS := Aside0.mk (by assumption : _ ∧ _ ∧ _ ∧ _ ∧ Aside0 (Below w.heap.size w _) ∧ _); refine (lentStrings_calls AT cT g.terms _ (Kd.C_below H4.out hS.out.2.2.2.2.1.out) HT.out).mono ?_; rintro e w1 ⟨A1, c1, rfl, hq1, hR1, hb1⟩; have hb := Aside0.mk hb1; have R1 := Aside0.mk hR1; have K1 := Aside0.mk (blk_below HBlk.out (below_drew1 (Below.refl _ _) |>.trans hb1)); clear tok1 t_ hb1 hR1)
      | (go_at_call 52; have hS := Aside0.mk (by assumption : _ ∧ _ ∧ _ ∧ _ ∧ Aside0 (Below w.heap.size w _) ∧ _); refine (lentStrings_calls AN cN g.nonterms _ (Kd.C_below H5.out hS.out.2.2.2.2.1.out) HN.out).mono ?_; rintro e w2 ⟨A2, c2, rfl, hq2, hR2, hb2⟩; have hb := Aside0.mk hb2; have R12 := Aside0.mk (Kd.R_below R1.out hb2); have R2 := Aside0.mk hR2; have K2 := Aside0.mk (blk_below K1.out hb2); clear hb2 hR2)
      | (go_at_call 53; have hS := Aside0.mk (by assumption : _ ∧ _ ∧ _ ∧ _ ∧ Aside0 (Below w.heap.size w _) ∧ _); refine (lentRules_calls AR cR g.rules _ (Kd.C_below H6.out hS.out.2.2.2.2.1.out) HL.out HI.out).mono ?_; rintro e w3 ⟨A3, c3, rfl, hq3, hR3, hb3⟩; have hb := Aside0.mk hb3; have R13 := Aside0.mk (Kd.R_below R12.out hb3); have R23 := Aside0.mk (Kd.R_below R2.out hb3); have R3 := Aside0.mk hR3; have K3 := Aside0.mk (blk_below K2.out hb3); have HB3 := Aside0.mk (below_next hS.out.2.2.2.2.1.out hb3); obtain ⟨⟨e0, e1, e2, e3⟩, f0, f1, f2, f3⟩ := blk_cells4 K3.out; clear hb3 hR3))
  go_wp2
  have hne : ∀ t ∈ [9, 59, 3], t ≠ 25 := by decide
  have G1 := Aside0.mk (R_sets4 (d := KMString) R13.out K3.out (by intro q hq; exact hne q (by revert hq; simp [KMString, KOpt, Kd.string, Kd.scalar]; intro h; subst h; decide)) (.slice A1 g.terms.length c1) (.slice A2 g.nonterms.length c2) (.int .i64 g.ax) (.slice A3 g.rules.length c3))
  have G2 := Aside0.mk (R_sets4 (d := KMString) R23.out K3.out (by intro q hq; exact hne q (by revert hq; simp [KMString, KOpt, Kd.string, Kd.scalar]; intro h; subst h; decide)) (.slice A1 g.terms.length c1) (.slice A2 g.nonterms.length c2) (.int .i64 g.ax) (.slice A3 g.rules.length c3))
  have G3 := Aside0.mk (R_sets4 (d := KMRule) R3.out K3.out (by intro q hq; exact hne q (by revert hq; simp [KMRule, KLRule, KLInts, KLent, KMInt, KOpt, Kd.pair, Kd.int, Kd.scalar]; omega)) (.slice A1 g.terms.length c1) (.slice A2 g.nonterms.length c2) (.int .i64 g.ax) (.slice A3 g.rules.length c3))
  have KF := blk_sets4 K3.out (.slice A1 g.terms.length c1) (.slice A2 g.nonterms.length c2) (.int .i64 g.ax) (.slice A3 g.rules.length c3)
  have BF := Aside0.mk ((((HB3.out.setCell (p := ⟨w.heap.size + 1, 0, none⟩) (by simp) (.slice A1 g.terms.length c1)).setCell (p := ⟨w.heap.size + 1, 1, none⟩) (by simp) (.slice A2 g.nonterms.length c2)).setCell (p := ⟨w.heap.size + 1, 2, none⟩) (by simp) (.int .i64 g.ax)).setCell (p := ⟨w.heap.size + 1, 3, none⟩) (by simp) (.slice A3 g.rules.length c3))
  generalize ((((w3.setCell ⟨w.heap.size + 1, 0, none⟩ (.slice A1 g.terms.length c1)).setCell ⟨w.heap.size + 1, 1, none⟩ (.slice A2 g.nonterms.length c2)).setCell ⟨w.heap.size + 1, 2, none⟩ (.int .i64 g.ax)).setCell ⟨w.heap.size + 1, 3, none⟩ (.slice A3 g.rules.length c3)) = w4 at *
  obtain ⟨⟨g0, g1, g2, g3⟩, -⟩ := blk_cells4 KF
  have L1 := (Kd.R_reads' G1.out).2.2
  have L2 := (Kd.R_reads' G2.out).2.2
  have L3 := (Kd.R_reads' G3.out).2.2
  refine bodyPost_ret (v := .agg #[.slice A1 g.terms.length c1, .slice A2 g.nonterms.length c2, .int .i64 g.ax, .slice A3 g.rules.length c3]) (by simp [results, Tryd.results10, go_sem, g0, g1, g2, g3]) rfl ⟨_, rfl, ⟨A1, c1, A2, c2, A3, c3, rfl, hq1, hq2, hq3, ?_, ?_, ?_⟩, BF.out⟩
  · simpa using L1
  · simpa using L2
  · simpa using L3
end Go.Proofs.YtapgglmdnggopaaDoor.Hand
/- Lists of steps: are two the same; lent and kept ones. -/
namespace Go.Proofs.YtapgglmdnggopaaDoor.Hand
open Go.RowKit Go.Proofs.YtapgglmdnggopaaDoorW.PrintWords Go.Proofs.YtapgglmdnggopaaDoorW.PrintMore Go.Proofs.YtapgglmdnggopaaDoor.Math

theorem infoStep : (Tryd.prog.info? 50).map (fun i => (i.zero, i.size, i.bytes)) = some (some (.agg #[.int .i64 0, .int .i64 0, .int .i64 0]), 3, 24) := by kernel_rfl
theorem stepFields : (Tryd.prog.fieldsOf 50).toList.map (fun f => (f.type, f.offset, decide (f.name ≠ "_"))) = [(3, 0, true), (3, 1, true), (3, 2, true)] := by kernel_rfl
theorem eqS (d : Nat) (a0 a1 a2 b0 b1 b2 : Int) (w : World) : (Op.equalIn (d + 2) 50 (.agg #[.int .i64 a0, .int .i64 a1, .int .i64 a2]) (.agg #[.int .i64 b0, .int .i64 b1, .int .i64 b2])).run Tryd.prog w = .ok (a0 == b0 && (a1 == b1 && a2 == b2)) w := by
  rw [show d + 2 = (d + 1) + 1 from rfl, run_equalIn_struct (P := Tryd.prog) w (d + 1) 50 _ _ (by kernel_rfl) (by kernel_rfl)]
  have hf := stepFields
  obtain ⟨f0, f1, f2, hl, h0, h1, h2⟩ : ∃ f0 f1 f2, (Tryd.prog.fieldsOf 50).toList = [f0, f1, f2] ∧ (f0.type = 3 ∧ f0.offset = 0 ∧ f0.name ≠ "_") ∧ (f1.type = 3 ∧ f1.offset = 1 ∧ f1.name ≠ "_") ∧ (f2.type = 3 ∧ f2.offset = 2 ∧ f2.name ≠ "_") := by
    generalize (Tryd.prog.fieldsOf 50).toList = L at hf
    rcases L with _ | ⟨f0, _ | ⟨f1, _ | ⟨f2, _ | ⟨f3, L⟩⟩⟩⟩
    · cases hf
    · simp at hf
    · simp at hf
    · simp only [List.map_cons, List.map_nil, List.cons.injEq, Prod.mk.injEq, decide_eq_true_eq] at hf
      exact ⟨f0, f1, f2, rfl, hf.1, hf.2.1, hf.2.2.1⟩
    · simp at hf
  rw [hl]
  have hi := fun (a b : Int) => run_equalIn_int (P := Tryd.prog) w d 3 .i64 .i64 a b Tryd.underlying3
  have n0 : ¬ f0.name = "_" := h0.2.2
  have n1 : ¬ f1.name = "_" := h1.2.2
  have n2 : ¬ f2.name = "_" := h2.2.2
  simp only [Op.eqFields, h0.1, h0.2.1, h1.1, h1.2.1, h2.1, h2.2.1]
  simp [n0, n1, n2, go_sem, isAgg, run_underlying Tryd.underlying3]
  by_cases e0 : a0 = b0 <;> by_cases e1 : a1 = b1 <;> by_cases e2 : a2 = b2 <;> simp [e0, e1, e2, go_sem]
theorem eqnS (a0 a1 a2 b0 b1 b2 : Int) (w : World) : (binOp .neq 50 (.agg #[.int .i64 a0, .int .i64 a1, .int .i64 a2]) (.agg #[.int .i64 b0, .int .i64 b1, .int .i64 b2])).run Tryd.prog w = .ok (.bool (!(a0 == b0 && (a1 == b1 && a2 == b2)))) w := by
  rw [run_neq_struct, eqS 9998]; rfl
theorem eqlS (a0 a1 a2 b0 b1 b2 : Int) (w : World) : (binOp .eql 50 (.agg #[.int .i64 a0, .int .i64 a1, .int .i64 a2]) (.agg #[.int .i64 b0, .int .i64 b1, .int .i64 b2])).run Tryd.prog w = .ok (.bool (a0 == b0 && (a1 == b1 && a2 == b2))) w := by
  rw [run_eql_struct, eqS 9998]; rfl
set_option maxHeartbeats 1000000 in
theorem ksteps_calls (A B : Option Addr) (c d : Nat) (l m : List (Int × Int × Int)) (w : World) (hr : KStep.C w A l.length l) (hq : KStep.C w B m.length m) : Quiet 59 #[.slice A l.length c, .slice B m.length d] w (.bool (decide (l = m))) := by
  unfold Quiet
  have hlen := hr.2.1
  have hlen2 := hq.2.1
  have HR := Lib.hid hr
  have HQ := Lib.hid hq
  clear hr hq
  by_cases hl : l.length = m.length
  · have hlI : ((l.length : Int) == (m.length : Int)) = true := by simp [hl]
    have HL := Lib.hid hl
    go_enter Tryd.func59, Tryd.ntmps59
    go_wp2
    go_loopw [5] (fun i wr => ∃ (j d : Nat), j ≤ l.length ∧ i = .int .i64 j ∧ wr = w.drewN d ∧ Hid (l.take j = m.take j)) (fun i _ => l.length - (intOf i).toNat)
    case atStart => exact ⟨0, 0, by omega, rfl, rfl, Lib.hid (by simp)⟩
    case round =>
      obtain ⟨j, d, hj, rfl, rfl, HT⟩ := hrel
      by_cases hlt : j < l.length
      · obtain ⟨ad, x, y, z, rfl, hx, hy, hz, HX⟩ := at_step HR.out j hlt
        obtain ⟨ad2, x2, y2, z2, rfl, hx2, hy2, hz2, HX2⟩ := at_step HQ.out j (by omega)
        have hlt2 : j < m.length := by omega
        by_cases e : (x, y, z) = (x2, y2, z2)
        · cases e
          have HQe := fun (W : World) => eqnS x y z x y z W
          rw [show (x == x && (y == y && z == z)) = true by simp] at HQe
          go_wp2
          go_quiet (fail)
          go_wp2
          go_roundw
          case rel => exact ⟨j + 1, _, by omega, by go_num, rfl, Lib.hid (by rw [take_snocD l j (0, 0, 0) hlt, take_snocD m j (0, 0, 0) hlt2, HT.out, HX.out, HX2.out])⟩
          case measure => simp [intOf]; omega
        · have HE : Hid (decide (l = m) = false) := Lib.hid (decide_eq_false (fun h => e (by rw [← HX.out, ← HX2.out, h])))
          have hcase : (x == x2 && (y == y2 && z == z2)) = false := by
            rw [Bool.eq_false_iff]
            intro h
            simp at h
            exact e (by rw [h.1, h.2.1, h.2.2])
          have HQe := fun (W : World) => eqnS x y z x2 y2 z2 W
          rw [hcase] at HQe
          clear e hcase
          go_wp2
          go_quiet (fail)
          go_wp2
          go_ret
          exact ⟨ret_bool HE.out.symm, _, World.drewN_drewN _ _ _⟩
      · have HE : Hid (decide (l = m) = true) := Lib.hid (decide_eq_true (by
          have := HT.out
          rwa [List.take_of_length_le (by omega), List.take_of_length_le (by have := HL.out; omega)] at this))
        go_wp2
        go_ret
        exact ⟨ret_bool HE.out.symm, _, rfl⟩
  · have HE : Hid (decide (l = m) = false) := Lib.hid (decide_eq_false (fun h => hl (by rw [h])))
    have hlI : ((l.length : Int) == (m.length : Int)) = false := by simp; omega
    have hlN : decide (l.length = m.length) = false := by simp [hl]
    have HL := Lib.hid hl
    clear hl
    go_enter Tryd.func59, Tryd.ntmps59
    go_wp2
    go_ret
    exact ⟨ret_bool HE.out.symm, 0, rfl⟩
set_option maxHeartbeats 1000000 in
theorem esteps_calls (A B : Option Addr) (c d : Nat) (l m : List (Int × Int × Int)) (w : World) (hr : KStep.C w A l.length l) (hq : KStep.C w B m.length m) : Quiet 87 #[.slice A l.length c, .slice B m.length d] w (.bool (decide (l = m))) := by
  unfold Quiet
  have hlen := hr.2.1
  have hlen2 := hq.2.1
  have HR := Lib.hid hr
  have HQ := Lib.hid hq
  clear hr hq
  by_cases hl : l.length = m.length
  · have hlI : ((l.length : Int) == (m.length : Int)) = true := by simp [hl]
    have HL := Lib.hid hl
    go_enter Tryd.func87, Tryd.ntmps87
    go_wp2
    go_loopw [13] (fun i wr => ∃ (j d : Nat), j ≤ l.length ∧ i = .int .i64 j ∧ wr = w.drewN d ∧ Hid (l.take j = m.take j)) (fun i _ => l.length - (intOf i).toNat)
    case atStart => exact ⟨0, 0, by omega, rfl, rfl, Lib.hid (by simp)⟩
    case round =>
      obtain ⟨j, d, hj, rfl, rfl, HT⟩ := hrel
      by_cases hlt : j < l.length
      · obtain ⟨ad, x, y, z, rfl, hx, hy, hz, HX⟩ := at_step HR.out j hlt
        obtain ⟨ad2, x2, y2, z2, rfl, hx2, hy2, hz2, HX2⟩ := at_step HQ.out j (by omega)
        have hlt2 : j < m.length := by omega
        by_cases e : (x, y, z) = (x2, y2, z2)
        · cases e
          have HQe := fun (W : World) => eqnS x y z x y z W
          rw [show (x == x && (y == y && z == z)) = true by simp] at HQe
          go_wp2
          go_quiet (fail)
          go_wp2
          go_roundw
          case rel => exact ⟨j + 1, _, by omega, by go_num, rfl, Lib.hid (by rw [take_snocD l j (0, 0, 0) hlt, take_snocD m j (0, 0, 0) hlt2, HT.out, HX.out, HX2.out])⟩
          case measure => simp [intOf]; omega
        · have HE : Hid (decide (l = m) = false) := Lib.hid (decide_eq_false (fun h => e (by rw [← HX.out, ← HX2.out, h])))
          have hcase : (x == x2 && (y == y2 && z == z2)) = false := by
            rw [Bool.eq_false_iff]
            intro h
            simp at h
            exact e (by rw [h.1, h.2.1, h.2.2])
          have HQe := fun (W : World) => eqnS x y z x2 y2 z2 W
          rw [hcase] at HQe
          clear e hcase
          go_wp2
          go_quiet (fail)
          go_wp2
          go_ret
          exact ⟨ret_bool HE.out.symm, _, World.drewN_drewN _ _ _⟩
      · have HE : Hid (decide (l = m) = true) := Lib.hid (decide_eq_true (by
          have := HT.out
          rwa [List.take_of_length_le (by omega), List.take_of_length_le (by have := HL.out; omega)] at this))
        go_wp2
        go_ret
        exact ⟨ret_bool HE.out.symm, _, rfl⟩
  · have HE : Hid (decide (l = m) = false) := Lib.hid (decide_eq_false (fun h => hl (by rw [h])))
    have hlI : ((l.length : Int) == (m.length : Int)) = false := by simp; omega
    have hlN : decide (l.length = m.length) = false := by simp [hl]
    have HL := Lib.hid hl
    clear hl
    go_enter Tryd.func87, Tryd.ntmps87
    go_wp2
    go_ret
    exact ⟨ret_bool HE.out.symm, 0, rfl⟩
/-- Steps that were lent. -/
def KMStep : Kd (Option (Int × Int × Int)) := KOpt KStep [.int .i64 (-71), .int .i64 0, .int .i64 0] rfl (by simp [Value.oneCell'])
theorem lentSteps_calls (A0 : Option Addr) (c0 : Nat) (l0 : List (Int × Int × Int)) (w : World) (hr0 : KStep.C w A0 l0.length l0) (hl : (l0.length + 1) * 24 ≤ 140737488355328) :
    Calls Tryd.prog 11 #[.slice A0 l0.length c0] w fun e w' => ∃ A c, e = .returned (.slice A l0.length c) ∧ l0.length + 1 ≤ c ∧ KMStep.R 50 w' w.heap.size (fun _ => True) (.slice A (l0.length + 1) c) (l0.map some ++ [none]) ∧ Below w.heap.size w w' := by
  have HR0 := Aside0.mk (C_some (a := KStep) (b := KMStep) rfl hr0 (fun _ _ h => h))
  have HL := Aside0.mk hl
  clear hr0 hl
  have HB := Aside0.mk (Below.refl w.heap.size w)
  go_enter Tryd.func11, Tryd.ntmps11
  go_wp2_with (first
    | ((with_reducible refine gate_builtin (b := .append) (xs := #[.tmp 4, .tmp 5]) rfl ?_); at_builtin; refine Kd.R_append_rows KMStep (w0 := w) w.heap.size rfl (.tmp 4) (.tmp 5) 26 50 (.agg #[.int .i64 0, .int .i64 0, .int .i64 0]) 24 rfl Tryd.underlying26 infoStep rfl (by decide) (by omega) (.slice none 0 0) ([] : List (Option (Int × Int × Int))) (l0.map some) _ _ _ (fun _ => True) (fun _ => False) rfl rfl (Kd.R_nil _ _ _ _ _) HR0.out (fun _ _ h => h) (fun _ h => h.elim) (fun _ _ => trivial) HB.out (Nat.le_refl _) (by have := HL.out; simp at this ⊢; omega) ?_; intro v1 w1 ho hb _ _; have HO := Aside0.mk ho; have HB1 := Aside0.mk hb; clear ho hb)
    | ((with_reducible refine gate_builtin (b := .append) (xs := #[.tmp 7, .tmp 9]) rfl ?_); at_builtin; refine Kd.R_append KMStep (w0 := w) w.heap.size rfl (.tmp 7) (.tmp 9) 26 50 (.agg #[.int .i64 0, .int .i64 0, .int .i64 0]) 24 rfl Tryd.underlying26 infoStep rfl (by decide) (by omega) v1 ([] ++ l0.map some) none [.int .i64 (-71), .int .i64 0, .int .i64 0] (fun _ => True) (fun _ => False) rfl rfl rfl (fun _ hk => hk.elim) (fun _ _ => trivial) HO.out HB1.out (Below.size HB1.out) (by have := HL.out; simp at this ⊢; omega) ?_; intro v2 w2 ho hb _ _; have HO2 := Aside0.mk ho; have HB2 := Aside0.mk hb; clear ho hb; (obtain ⟨A, c, rfl⟩ := Kd.R_slice HO2.out; have hc : l0.length + 1 ≤ c := (by have := (Kd.R_reads' HO2.out).2.1; simpa using this); have hc2 : l0.length ≤ c := (by omega))))
  go_ret
  exact ⟨A, c, rfl, hc, by simpa using HO2.out, HB2.out⟩
set_option maxHeartbeats 1000000 in
theorem keptSteps_calls (A B : Option Addr) (c d : Nat) (l : List (Int × Int × Int)) (w : World) (hv : KMStep.C w A (l.length + 1) (l.map some ++ [none])) (hc : l.length + 1 ≤ c) (hq : KStep.C w B l.length l) : Quiet 20 #[.slice A l.length c, .slice B l.length d] w (.bool true) := by
  unfold Quiet
  have hlen := hv.2.1
  obtain ⟨ad, rfl, hm⟩ := lent_mark (a := KStep) hv
  have h0 : w.cell? (ad.add (l.length * 3)) = some (.int .i64 (-71)) := hm 0 _ rfl
  have h1 : w.cell? ⟨(ad.add (l.length * 3)).block, (ad.add (l.length * 3)).off + 1, none⟩ = some (.int .i64 0) := by rw [← add_field _ _ _]; exact hm 1 _ rfl
  have h2 : w.cell? ⟨(ad.add (l.length * 3)).block, (ad.add (l.length * 3)).off + 2, none⟩ = some (.int .i64 0) := by rw [← add_field _ _ _]; exact hm 2 _ rfl
  have HR := Lib.hid (lent_C (a := KStep) hv)
  have HQ := Lib.hid hq
  clear hv hq hm
  have HQe := fun (W : World) => eqlS (-71) 0 0 (-71) 0 0 W
  rw [show ((-71 : Int) == -71 && ((0 : Int) == 0 && (0 : Int) == 0)) = true by rfl] at HQe
  go_enter Tryd.func20, Tryd.ntmps20
  go_wp2_with (go_at_call 59; refine (ksteps_calls (some ad) B c d l l _ HR.out HQ.out).mono ?_; rintro e w' ⟨rfl, n, rfl⟩; rw [decide_eq_true (show l = l from rfl)])
  go_ret
  exact ⟨rfl, _, rfl⟩
end Go.Proofs.YtapgglmdnggopaaDoor.Hand
/- Contract: the walker's walk of one node (deriv). -/
namespace Go.Proofs.YtapgglmdnggopaaDoor.Hand
open Go.RowKit Go.Proofs.YtapgglmdnggopaaDoorW.PrintWords Go.Proofs.YtapgglmdnggopaaDoorW.PrintMore Go.Proofs.YtapgglmdnggopaaDoorW.PrintLast Go.Proofs.YtapgglmdnggopaaDoor.Math

/-- What node leaves. -/
def NodeP (w0 : World) (b : Nat) (gt gn gr : Value) (ax : Int) (rv : Value) (A : Nat → Addr) (res : Option (Nat × DS)) (e : Ending) (w' : World) : Prop :=
  match res with
  | some st => e = .returned (.tuple #[]) ∧ ∃ vt vk, WkAt w0 w' b gt gn gr ax rv st.1 st.2 vt vk
  | none => e = .panicked [{ v := .iface 187 (.agg #[.iface 219 (.pointer (some (A 10)))]), recovered := false }] ∧ Below w0.heap.size w0 w'
theorem nodeP_none {w0 : World} {b : Nat} {gt gn gr : Value} {ax : Int} {rv : Value} {A : Nat → Addr} {res : Option (Nat × DS)} {w' : World} (h : res = none) (hb : Below w0.heap.size w0 w') :
    NodeP w0 b gt gn gr ax rv A res (.panicked [{ v := .iface 187 (.agg #[.iface 219 (.pointer (some (A 10)))]), recovered := false }]) w' := by
  subst h; exact ⟨rfl, hb⟩
theorem nodeP_some {w0 : World} {b : Nat} {gt gn gr : Value} {ax : Int} {rv : Value} {A : Nat → Addr} {res : Option (Nat × DS)} {w' : World} {st : Nat × DS} {vt vk : Value} (h : res = some st) (hw : WkAt w0 w' b gt gn gr ax rv st.1 st.2 vt vk) :
    NodeP w0 b gt gn gr ax rv A res (.returned (.tuple #[])) w' := by
  subst h; exact ⟨rfl, vt, vk, hw⟩
/-- What stands still on a walk. -/
structure WkIn (w0 : World) (g : Gr) (AR : Option Addr) (rs : List Int) (Ar : Option Addr) (A : Nat → Addr) : Prop where
  err : Errs w0 A
  rules : KRule.C w0 AR g.rules.length g.rules
  row : (Kd.int .i64).C w0 Ar rs.length rs
  len : rs.length ≤ 200000
  short : ∀ r ∈ g.rules, r.2.length ≤ 32
  syms : ∀ r ∈ g.rules, ∀ s ∈ r.2, -100 ≤ s ∧ s ≤ 100
  ne : ∀ r ∈ g.rules, r.2 ≠ []
  few : g.rules.length ≤ 120
theorem nodeG_none {o : Ops DS Nat} {G : List (Int × List Int)} {rs : List Int} {f : Nat} {any : Bool} {nt : Int} {up : Option (Nat × Nat)} {deep : Nat} {st : Nat × DS} (h : rs.length ≤ st.1) : nodeG o G rs f any nt up deep st = none := by
  cases f with
  | zero => rfl
  | succ f => rw [nodeG, List.getElem?_eq_none h]
theorem nodeG_ok {G : List (Int × List Int)} {rs : List Int} {f : Nat} {any : Bool} {nt n x : Int} {r : List Int} {up : Option (Nat × Nat)} {deep i : Nat} {d : DS} (hn : rs[i]? = some n) (hb : ¬ (n < 0 ∨ (G.length : Int) ≤ n)) (hr : ruleD G n = (x, r)) (ha : ¬ (any = false ∧ x ≠ nt)) :
    nodeG (opsD inc64) G rs (f + 1) any nt up deep (i, d) = (symsG (opsD inc64) (fun u m st => nodeG (opsD inc64) G rs f false m (some u) (deep + 1) st) i 0 r (i + 1, ⟨d.place, d.tree ++ [(n, d.place, 0)], d.tokens, max d.depth deep⟩)).map (fun st' => (st'.1, (opsD inc64).lv st'.2 i)) := by
  rw [nodeG]
  simp only [hn]
  rw [if_neg hb, hr, if_neg ha]
  cases h : symsG (opsD inc64) (fun u m st => nodeG (opsD inc64) G rs f false m (some u) (deep + 1) st) i 0 r (i + 1, ⟨d.place, d.tree ++ [(n, d.place, 0)], d.tokens, max d.depth deep⟩) with
  | none =>
    have h' : symsG (opsD inc64) (fun u m st => nodeG (opsD inc64) G rs f false m (some u) (deep + 1) st) ((opsD inc64).ent i d up deep n).2 0 (x, r).2 (i + 1, ((opsD inc64).ent i d up deep n).1) = none := h
    rw [h']
    rfl
  | some s' =>
    have h' : symsG (opsD inc64) (fun u m st => nodeG (opsD inc64) G rs f false m (some u) (deep + 1) st) ((opsD inc64).ent i d up deep n).2 0 (x, r).2 (i + 1, ((opsD inc64).ent i d up deep n).1) = some s' := h
    rw [h']
    rfl
/-- The loop over a node's symbols. -/
structure NLoop (w0 wr : World) (b : Nat) (gt gn gr : Value) (ax : Int) (rv : Value) (rs : List Int) (G : List (Int × List Int)) (f deep i : Nat) (r : List Int) (rS : Option (Nat × DS)) (kk : Nat) (s2 : Nat × DS) (vt vk : Value) : Prop where
  at_ : WkAt w0 wr b gt gn gr ax rv s2.1 s2.2 vt vk
  tl : s2.2.tree.length = s2.1
  tk : s2.2.tokens.length + 32 ≤ 32 * s2.1 + kk
  dep : s2.2.depth ≤ s2.1
  lo : i + 1 ≤ s2.1
  hi : s2.1 ≤ rs.length
  eq : symsG (opsD inc64) (fun u m st => nodeG (opsD inc64) G rs f false m (some u) (deep + 1) st) i kk (r.drop kk) s2 = rS
section
variable {w0 wr w' : World} {b : Nat} {gt gn gr : Value} {ax : Int} {rv : Value} {rs : List Int} {G : List (Int × List Int)} {f deep i : Nat} {r : List Int} {rS : Option (Nat × DS)} {kk : Nat} {s2 : Nat × DS} {vt vk vt' vk' : Value} {y : Int}
theorem NLoop.dead (h : NLoop w0 wr b gt gn gr ax rv rs G f deep i r rS kk s2 vt vk) (hd : r.drop kk = y :: r.drop (kk + 1)) (hy : y < 0) (hn : nodeG (opsD inc64) G rs f false (-1 - y) (some (i, kk)) (deep + 1) s2 = none) : rS = none := by
  rw [← h.eq, hd, symsG, if_pos hy]
  simp only [hn]
theorem NLoop.call (h : NLoop w0 wr b gt gn gr ax rv rs G f deep i r rS kk s2 vt vk) (hd : r.drop kk = y :: r.drop (kk + 1)) (hy : y < 0) {s3 : Nat × DS} (hn : nodeG (opsD inc64) G rs f false (-1 - y) (some (i, kk)) (deep + 1) s2 = some s3)
    (hdp : deep ≤ i + 1) (hG : ∀ r ∈ G, r.2.length ≤ 32) (hne : ∀ r ∈ G, r.2 ≠ []) (hw : WkAt w0 w' b gt gn gr ax rv s3.1 s3.2 vt' vk') : NLoop w0 w' b gt gn gr ax rv rs G f deep i r rS (kk + 1) s3 vt' vk' := by
  obtain ⟨a1, a2, a3, a4⟩ := node_size inc64 G rs 32 hG f false _ _ _ s2 s3 hn h.tl
  have m := (node_mono inc64 G rs hne f false _ _ _ s2 s3 hn).up
  have h1 := h.tk
  have h2 := h.dep
  have h3 := h.lo
  refine ⟨hw, a3, by omega, by omega, by omega, a2, ?_⟩
  rw [← h.eq, hd, symsG, if_pos hy]
  simp only [hn]
theorem NLoop.tok (h : NLoop w0 wr b gt gn gr ax rv rs G f deep i r rS kk s2 vt vk) (hd : r.drop kk = y :: r.drop (kk + 1)) (hy : ¬ y < 0)
    (hw : WkAt w0 w' b gt gn gr ax rv s2.1 ⟨inc64 s2.2.place, s2.2.tree, s2.2.tokens ++ [y], s2.2.depth⟩ vt' vk') : NLoop w0 w' b gt gn gr ax rv rs G f deep i r rS (kk + 1) (s2.1, ⟨inc64 s2.2.place, s2.2.tree, s2.2.tokens ++ [y], s2.2.depth⟩) vt' vk' := by
  have h1 := h.tk
  refine ⟨hw, h.tl, by simp; omega, h.dep, h.lo, h.hi, ?_⟩
  rw [← h.eq, hd, symsG, if_neg hy]
  rfl
theorem NLoop.fin (h : NLoop w0 wr b gt gn gr ax rv rs G f deep i r rS kk s2 vt vk) (hk : r.length ≤ kk) : rS = some s2 := by
  rw [← h.eq, List.drop_eq_nil_of_le hk, symsG]
end
set_option maxHeartbeats 1000000 in
theorem node_end (w0 : World) (b : Nat) (g : Gr) (gt gn : Value) (AR Ar : Option Addr) (cR cr : Nat) (rs : List Int) (A : Nat → Addr) (hI : WkIn w0 g AR rs Ar A) (f : Nat) (any : Bool) (nt : Int) (up : Option (Nat × Nat)) (deep i : Nat) (d : DS) (vt vk : Value) (w : World) (hge : rs.length ≤ i) (_hii : i ≤ 1000000)
    (h : WkAt w0 w b gt gn (.slice AR g.rules.length cR) g.ax (.slice Ar rs.length cr) i d vt vk) :
    Calls Tryd.prog 100 #[.pointer (some ⟨b, 0, none⟩), .int .i64 nt, .int .i64 (deep : Int), .bool any] w
      (NodeP w0 b gt gn (.slice AR g.rules.length cR) g.ax (.slice Ar rs.length cr) A (nodeG (opsD inc64) g.rules rs f any nt up deep (i, d))) := by
  have hlt : ¬ i < rs.length := by omega
  have HI := Lib.hid hI
  have HH := Lib.hid h
  have c3 : w.cell? ⟨b, 3, none⟩ = some (.slice AR g.rules.length cR) := h.c3 rfl
  have c4 : w.cell? ⟨b, 4, none⟩ = some (.slice Ar rs.length cr) := h.c4 rfl
  have c5 : w.cell? ⟨b, 5, none⟩ = some (.int .i64 (i : Int)) := h.c5
  have e10 : w.cell? ⟨10, 0, none⟩ = some (.iface 219 (.pointer (some (A 10)))) := (hI.err.below h.bel).cells 10 (by omega)
  have HE10 : Hid (∀ W, Below w.heap.size w W → W.cell? ⟨10, 0, none⟩ = some (.iface 219 (.pointer (some (A 10))))) := Lib.hid (fun W hb => ((hI.err.below h.bel).below hb).cells 10 (by omega))
  have HRu := Lib.hid (Kd.C_below hI.rules h.bel)
  have HRs := Lib.hid (Kd.C_below hI.row h.bel)
  have hll := hI.len
  have hfew := hI.few
  have HB := Lib.hid h.bel
  clear hI h
  have HNd : Hid (nodeG (opsD inc64) g.rules rs f any nt up deep (i, d) = none) := Lib.hid (nodeG_none (by show rs.length ≤ i; omega))
  go_enter Tryd.func100, Tryd.ntmps100
  go_wp2
  go_quiet (fail)
  go_wp2
  exact ⟨rfl, nodeP_none HNd.out (pw_below_drewN HB.out _)⟩
set_option maxHeartbeats 4000000 in
set_option maxRecDepth 100000 in
theorem node_step (w0 : World) (b : Nat) (g : Gr) (gt gn : Value) (AR Ar : Option Addr) (cR cr : Nat) (rs : List Int) (A : Nat → Addr) (hI : WkIn w0 g AR rs Ar A) (f : Nat)
    (ih : ∀ (any : Bool) (nt : Int) (up : Option (Nat × Nat)) (deep i : Nat) (d : DS) (vt vk : Value) (w : World), rs.length ≤ i + f → deep ≤ i + 1 → d.depth ≤ i → d.tree.length = i → d.tokens.length ≤ 32 * i → i ≤ rs.length →
      WkAt w0 w b gt gn (.slice AR g.rules.length cR) g.ax (.slice Ar rs.length cr) i d vt vk →
      Calls Tryd.prog 100 #[.pointer (some ⟨b, 0, none⟩), .int .i64 nt, .int .i64 (deep : Int), .bool any] w
        (NodeP w0 b gt gn (.slice AR g.rules.length cR) g.ax (.slice Ar rs.length cr) A (nodeG (opsD inc64) g.rules rs f any nt up deep (i, d))))
    (any : Bool) (nt : Int) (up : Option (Nat × Nat)) (deep i : Nat) (pl : Int) (T : List (Int × Int × Int)) (K : List Int) (m0 : Nat) (vt vk : Value) (w : World) (hf : rs.length ≤ i + (f + 1)) (hdp : deep ≤ i + 1) (hdd : m0 ≤ i) (htl : T.length = i) (htk : K.length ≤ 32 * i) (hlt : i < rs.length)
    (h : WkAt w0 w b gt gn (.slice AR g.rules.length cR) g.ax (.slice Ar rs.length cr) i ⟨pl, T, K, m0⟩ vt vk) :
    Calls Tryd.prog 100 #[.pointer (some ⟨b, 0, none⟩), .int .i64 nt, .int .i64 (deep : Int), .bool any] w
      (NodeP w0 b gt gn (.slice AR g.rules.length cR) g.ax (.slice Ar rs.length cr) A (nodeG (opsD inc64) g.rules rs (f + 1) any nt up deep (i, ⟨pl, T, K, m0⟩))) := by
  have IH := Lib.hid ih
  have HTl := Lib.hid htl
  clear ih
  have HI := Lib.hid hI
  have HH := Lib.hid h
  have c3 : w.cell? ⟨b, 3, none⟩ = some (.slice AR g.rules.length cR) := h.c3 rfl
  have c4 : w.cell? ⟨b, 4, none⟩ = some (.slice Ar rs.length cr) := h.c4 rfl
  have c5 : w.cell? ⟨b, 5, none⟩ = some (.int .i64 (i : Int)) := h.c5
  have e10 : w.cell? ⟨10, 0, none⟩ = some (.iface 219 (.pointer (some (A 10)))) := (hI.err.below h.bel).cells 10 (by omega)
  have HE10 : Hid (∀ W, Below w.heap.size w W → W.cell? ⟨10, 0, none⟩ = some (.iface 219 (.pointer (some (A 10))))) := Lib.hid (fun W hb => ((hI.err.below h.bel).below hb).cells 10 (by omega))
  have HRu := Lib.hid (Kd.C_below hI.rules h.bel)
  have HRs := Lib.hid (Kd.C_below hI.row h.bel)
  have hll := hI.len
  have hfew := hI.few
  have HB := Lib.hid h.bel
  clear hI h
  obtain ⟨ad, n, rfl, hn, HN⟩ := at_scalar HRs.out i hlt 0
  obtain ⟨res, hres⟩ : ∃ r, nodeG (opsD inc64) g.rules rs (f + 1) any nt up deep (i, ⟨pl, T, K, m0⟩) = r := ⟨_, rfl⟩
  have hni : rs[i]? = some n := by
    have := HN.out
    rw [List.getD_eq_getElem?_getD, List.getElem?_eq_getElem hlt] at this
    rw [List.getElem?_eq_getElem hlt]
    exact congrArg some this
  rw [hres]
  by_cases h0 : n < 0
  · have HR : Hid (res = none) := Lib.hid (by rw [← hres, nodeG, hni]; simp only; rw [if_pos (.inl h0)])
    clear hres hni
    go_enter Tryd.func100, Tryd.ntmps100
    go_wp2
    go_quiet (fail)
    go_wp2
    go_quiet (fail)
    go_wp2
    exact ⟨rfl, nodeP_none HR.out (by first | exact pw_below_drewN HB.out _ | exact pw_below_drewN (pw_below_drewN HB.out _) _)⟩
  · by_cases h1 : (g.rules.length : Int) ≤ n
    · have HR : Hid (res = none) := Lib.hid (by rw [← hres, nodeG, hni]; simp only; rw [if_pos (.inr h1)])
      clear hres hni
      go_enter Tryd.func100, Tryd.ntmps100
      go_wp2
      go_quiet (fail)
      go_wp2
      go_quiet (fail)
      go_wp2
      exact ⟨rfl, nodeP_none HR.out (by first | exact pw_below_drewN HB.out _ | exact pw_below_drewN (pw_below_drewN HB.out _) _)⟩
    · obtain ⟨j, rfl⟩ : ∃ j : Nat, n = (j : Int) := ⟨n.toNat, by omega⟩
      have hj : j < g.rules.length := by omega
      obtain ⟨adr, x, B, c, r, rfl, k10, k20, hrc, hr, HD⟩ := at_rule HI.out.rules j hj
      have HK2 : Hid (∀ W, Below w0.heap.size w0 W → W.cell? ⟨(adr.add (j * 2)).block, (adr.add (j * 2)).off + 1, none⟩ = some (.slice B r.length c)) := Lib.hid (fun W hW => (hW.cell (World.block_lt_of_cell? _ _ k20)).trans k20)
      have k1 := (HB.out.cell (World.block_lt_of_cell? _ _ k10)).trans k10
      clear k10 k20
      have hrule : ruleD g.rules (j : Int) = (x, r) := by unfold ruleD; rw [Int.toNat_natCast]; exact HD.out
      by_cases ha : any = false ∧ x ≠ nt
      · have HR : Hid (res = none) := Lib.hid (by rw [← hres, nodeG, hni]; simp only; rw [if_neg (by omega), hrule, if_pos ha])
        obtain ⟨rfl, hx⟩ := ha
        have hxI : (x == nt) = false := beq_eq_false_iff_ne.2 hx
        have hxJ : (x != nt) = true := by simp [hx]
        clear hres hni hr hrule
        go_enter Tryd.func100, Tryd.ntmps100
        go_wp2
        go_quiet (fail)
        go_wp2
        go_quiet (fail)
        go_wp2
  
        exact ⟨rfl, nodeP_none HR.out (by first | exact pw_below_drewN HB.out _ | exact pw_below_drewN (pw_below_drewN HB.out _) _)⟩
      · have hsr : ∀ s ∈ r, -100 ≤ s ∧ s ≤ 100 := fun s hs => HI.out.syms (x, r) (by rw [← HD.out]; exact getD_mem _ _ _ hj) s hs
        have hl32 : r.length ≤ 32 := HI.out.short (x, r) (by rw [← HD.out]; exact getD_mem _ _ _ hj)
        obtain ⟨rS, hrS⟩ : ∃ rS, symsG (opsD inc64) (fun u m st => nodeG (opsD inc64) g.rules rs f false m (some u) (deep + 1) st) i 0 r (i + 1, ⟨pl, T ++ [((j : Int), pl, 0)], K, max m0 deep⟩) = rS := ⟨_, rfl⟩
        have HR : Hid (res = rS.map (fun st' => (st'.1, (opsD inc64).lv st'.2 i))) := Lib.hid (by
          rw [← hres, ← hrS]
          exact nodeG_ok hni (by omega) hrule ha)
        have HSy := Lib.hid hsr
        have HrS := Lib.hid hrS
        have HRr := Lib.hid hr
        have hcase : any = true ∨ (any = false ∧ x = nt) := by
          cases any
          · exact .inr ⟨rfl, Classical.byContradiction (fun h => ha ⟨rfl, h⟩)⟩
          · exact .inl rfl
        clear hres hni hrule hsr hrS hr ha
        have hf5 := HH.out.fr 5
        rcases hcase with rfl | ⟨rfl, rfl⟩
        · have hxI : (x == x) = true := by simp
          have hj1 : decide (g.rules.length ≤ j) = false := by simp; omega
          have hj2 : decide ((g.rules.length : Int) ≤ (j : Int)) = false := by simp; omega
          have hj3 : decide ((j : Int) < 0) = false := by simp
          have hj4 : decide (rs.length ≤ i) = false := by simp; omega
          have hj5 : decide ((rs.length : Int) ≤ (i : Int)) = false := by simp; omega
          have hxJ : (x != x) = false := by simp
          go_enter Tryd.func100, Tryd.ntmps100
          go_wp2
          go_quiet (fail)
          rename Nat => q1
          go_wp2
          go_quiet (fail)
          rename Nat => q2
          go_upto_region 7 with (fail)
          obtain ⟨w2, hw2⟩ : ∃ w2, (w.drewN (q1 + q2)).setCell ⟨b, 5, none⟩ (.int .i64 ((i : Int) + 1)) = w2 := ⟨_, rfl⟩
          have h2 : WkAt w0 w2 b gt gn (.slice (some adr) g.rules.length cR) g.ax (.slice (some ad) rs.length cr) (i + 1) ⟨pl, T, K, m0⟩ vt vk := by
            rw [← hw2]
            have := (HH.out.drewN (q1 + q2)).setI (i + 1)
            rwa [show ((i + 1 : Nat) : Int) = (i : Int) + 1 by omega] at this
          rw [hw2]
          clear hw2 c3 c4 c5 k1 e10 hn hf5
          have H2 := Lib.hid h2
          have c9 := h2.c9
          have f9 := h2.fr 9
          clear h2
          have hmx : (if m0 < deep then (deep : Int) else (m0 : Int)) = ((max m0 deep : Nat) : Int) := by split <;> omega
          obtain ⟨mx, hmm⟩ : ∃ mx, max m0 deep = mx := ⟨_, rfl⟩
          rw [hmm] at hmx
          have Hmm := Lib.hid hmm
          go_upto_region 8 with (fail)
          obtain ⟨w3, hw3⟩ : ∃ w3, w2.setCell ⟨b, 9, none⟩ (.int .i64 (mx : Int)) = w3 := ⟨_, rfl⟩
          have h3 : WkAt w0 w3 b gt gn (.slice (some adr) g.rules.length cR) g.ax (.slice (some ad) rs.length cr) (i + 1) ⟨pl, T, K, max m0 deep⟩ vt vk := by
            rw [← hw3]
            rw [hmm]
            exact H2.out.setD mx
          rw [hw3]
          clear hw3 c9 f9 hmx hmm
          obtain ⟨A7, c7, e7⟩ := Kd.R_slice h3.tr
          obtain ⟨n7, hn7⟩ : ∃ n, T.length = n := ⟨_, rfl⟩
          simp only [hn7] at e7
          subst e7
          have H3 := Lib.hid h3
          have HO3 := Lib.hid (Kd.R_drew h3.tr)
          have HB3 := Lib.hid (below_drew h3.bel)
          have HS3 : Hid (w0.heap.size ≤ w3.drew.heap.size) := Lib.hid (below_drew h3.bel).size
          have hD : ∀ W, Below w3.heap.size w3 W → W.cell? ⟨b, 7, none⟩ = some (.slice A7 n7 c7) ∧ W.cell? ⟨b, 6, none⟩ = some (.int .i64 pl) := fun W hW => ⟨(h3.below hW).c7 rfl, (h3.below hW).c6⟩
          have D0 := Lib.hid (hD _ (below_drew (Below.refl w3.heap.size w3)))
          have D1 := Lib.hid (hD _ (below_alloc (below_drew (Below.refl w3.heap.size w3)) (.cells #[.int .i64 (j : Int), .int .i64 pl, .int .i64 0] 50)))
          have Hn7 := Lib.hid hn7
          have hlb : (T.length + 1) * 24 ≤ 140737488355328 := by omega
          have HLb := Lib.hid hlb
          clear hD h3 hn7 hlb htl
          have d7 := D0.out.1
          have d6 := D0.out.2
          refine start_ (n := 16) (S := fun w' => w'.cell? ⟨b, 7, none⟩ = some (.slice A7 n7 c7) ∧ w'.cell? ⟨b, 6, none⟩ = some (.int .i64 pl)) (ds := [12, 15]) #[false, false, false, false, false, false, false, false, false, false, false, false, false, false, false, false] (by kernel_rfl) rfl rfl ⟨d7, d6⟩ (fun hHeld => ?_)
          refine pure_ (i := 0) (N := some 87) (v := ?_) (a' := ?_) #[true, false, false, false, false, false, false, false, false, false, false, false, false, false, false, false] rfl rfl (by kernel_rfl) (fun _ _ _ h => h) (Or.inl ⟨by rfl, ?_⟩) ?_ ?_
          rotate_left
          · intro w'
            go_simp
            with_reducible rfl
          rotate_left
          · simp only [Act.put, List.setIfInBounds_toArray, List.set_cons_zero, List.set_cons_succ]
            rfl
          refine pure_ (i := 1) (N := some 88) (v := ?_) (a' := ?_) #[true, true, false, false, false, false, false, false, false, false, false, false, false, false, false, false] rfl rfl (by kernel_rfl) (fun _ _ _ h => h) (Or.inl ⟨by rfl, ?_⟩) ?_ ?_
          rotate_left
          · intro w'
            go_simp
            with_reducible rfl
          rotate_left
          · simp only [Act.put, List.setIfInBounds_toArray, List.set_cons_zero, List.set_cons_succ]
            rfl
          refine pure_ (i := 2) (N := some 89) (v := ?_) (a' := ?_) #[true, true, true, false, false, false, false, false, false, false, false, false, false, false, false, false] rfl rfl (by kernel_rfl) (fun _ _ _ h => h) (Or.inl ⟨by rfl, ?_⟩) ?_ ?_
          rotate_left
          · intro w'
            go_simp
            with_reducible rfl
          rotate_left
          · simp only [Act.put, List.setIfInBounds_toArray, List.set_cons_zero, List.set_cons_succ]
            rfl
          refine pure_ (i := 3) (N := some 90) (v := ?_) (a' := ?_) #[true, true, true, true, false, false, false, false, false, false, false, false, false, false, false, false] rfl rfl (by kernel_rfl) (fun _ _ _ h => h) (Or.inl ⟨by rfl, ?_⟩) ?_ ?_
          rotate_left
          · intro w'
            go_simp
            with_reducible rfl
          rotate_left
          · simp only [Act.put, List.setIfInBounds_toArray, List.set_cons_zero, List.set_cons_succ]
            rfl
          refine pure_ (i := 5) (N := some 92) (v := ?_) (a' := ?_) #[true, true, true, true, false, true, false, false, false, false, false, false, false, false, false, false] rfl rfl (by kernel_rfl) (fun _ _ _ h => h) (Or.inl ⟨by rfl, ?_⟩) ?_ ?_
          rotate_left
          · intro w'
            go_simp
            with_reducible rfl
          rotate_left
          · simp only [Act.put, List.setIfInBounds_toArray, List.set_cons_zero, List.set_cons_succ]
            rfl
          refine pure_ (i := 6) (N := some 93) (v := ?_) (a' := ?_) #[true, true, true, true, false, true, true, false, false, false, false, false, false, false, false, false] rfl rfl (by kernel_rfl) (fun _ _ _ h => h) (Or.inl ⟨by rfl, ?_⟩) ?_ ?_
          rotate_left
          · intro w'
            go_simp
            with_reducible rfl
          rotate_left
          · simp only [Act.put, List.setIfInBounds_toArray, List.set_cons_zero, List.set_cons_succ]
            rfl
          refine pure_ (i := 7) (N := some 94) (v := ?_) (a' := ?_) #[true, true, true, true, false, true, true, true, false, false, false, false, false, false, false, false] rfl rfl (by kernel_rfl) (fun _ _ _ h => h) (Or.inl ⟨by rfl, ?_⟩) ?_ ?_
          rotate_left
          · intro w'
            go_simp
            with_reducible rfl
          rotate_left
          · simp only [Act.put, List.setIfInBounds_toArray, List.set_cons_zero, List.set_cons_succ]
            rfl
          refine pure_ (i := 8) (N := some 95) (v := ?_) (a' := ?_) #[true, true, true, true, false, true, true, true, true, false, false, false, false, false, false, false] rfl rfl (by kernel_rfl) (fun _ _ _ h => h) (Or.inl ⟨by rfl, ?_⟩) ?_ ?_
          rotate_left
          · intro w'
            go_simp
            with_reducible rfl
          rotate_left
          · simp only [Act.put, List.setIfInBounds_toArray, List.set_cons_zero, List.set_cons_succ]
            rfl
          refine take_ (i := 4) (N := some 91) (v := ?_) (a' := ?_) #[true, true, true, true, true, true, true, true, true, false, false, false, false, false, false, false] rfl rfl (by kernel_rfl) (fun _ _ _ h => h) (Or.inl ⟨by rfl, ?_⟩) hHeld ?_ ?_
          rotate_left
          · rintro w' ⟨s0, s1⟩
            go_simp
            with_reducible rfl
          rotate_left
          · simp only [Act.put, List.setIfInBounds_toArray, List.set_cons_zero, List.set_cons_succ]
            rfl
          refine take_ (i := 9) (N := some 96) (v := ?_) (a' := ?_) #[true, true, true, true, true, true, true, true, true, true, false, false, false, false, false, false] rfl rfl (by kernel_rfl) (fun _ _ _ h => h) (Or.inl ⟨by rfl, ?_⟩) hHeld ?_ ?_
          rotate_left
          · rintro w' ⟨s0, s1⟩
            go_simp
            with_reducible rfl
          rotate_left
          · simp only [Act.put, List.setIfInBounds_toArray, List.set_cons_zero, List.set_cons_succ]
            rfl
          refine pure_ (i := 10) (N := some 97) (v := ?_) (a' := ?_) #[true, true, true, true, true, true, true, true, true, true, true, false, false, false, false, false] rfl rfl (by kernel_rfl) (fun _ _ _ h => h) (Or.inl ⟨by rfl, ?_⟩) ?_ ?_
          rotate_left
          · intro w'
            go_simp
            with_reducible rfl
          rotate_left
          · simp only [Act.put, List.setIfInBounds_toArray, List.set_cons_zero, List.set_cons_succ]
            rfl
          refine one_ (i := 11) (N := some 98) #[true, true, true, true, true, true, true, true, true, true, true, true, false, false, false, false] rfl rfl (by kernel_rfl) (by decide) (fun K hK => ?_)
          refine value_ (w1 := ?_) (v := ?_) (by rfl) rfl ?_ ?_
          rotate_left 2
          · go_simp
            constructor
            · rfl
            · rfl
          refine hK.out _ _ ⟨D1.out.1, D1.out.2⟩ (fun hHeld => ?_)
          clear hK K
          refine norm_ (a' := ?_) ?_ ?_
          rotate_left
          · show Act.put _ (some 98) _ = _
            simp only [Act.put, List.setIfInBounds_toArray, List.set_cons_zero, List.set_cons_succ]
            rfl
          refine last_ (i := 12) (N := some 99) #[true, true, true, true, true, true, true, true, true, true, true, true, true, false, false, false] rfl rfl (by kernel_rfl) (by decide) (fun K hK => ?_)
          refine Kd.R_append_step KStep (w0 := w0) w0.heap.size (by rfl) (.tmp 91) (.tmp 98) 26 50 (.agg #[.int .i64 0, .int .i64 0, .int .i64 0]) 24 rfl Tryd.underlying26 infoStep rfl (by decide) (by omega) (.slice A7 n7 c7) T ((j : Int), pl, 0) [.int .i64 (j : Int), .int .i64 pl, .int .i64 0] (fun k => k ≠ b) (fun _ => False) rfl rfl (KStep_M _ _ _ _ _ _) (fun _ hk => hk.elim) (fun k hk => by have := H3.out.lt; rw [World.size_drew] at hk; omega) HO3.out HB3.out HS3.out HLb.out ?_
          intro v4 w4 ho hb hg hat
          obtain ⟨A8, c8, e8⟩ := Kd.R_slice ho
          obtain ⟨n8, hn8⟩ : ∃ n, (T ++ [((j : Int), pl, (0 : Int))]).length = n := ⟨_, rfl⟩
          rw [hn8] at e8
          subst e8
          have H4 := Lib.hid ((H3.out.below (below_drew (Below.refl _ _))).growT ho hb hg)
          have H5 := Lib.hid ((H3.out.below (below_drew (Below.refl _ _))).grown7 hb hg)
          have g7 := H5.out.1.1
          have f7 := H5.out.2
          clear ho hb hg hat hn8
          refine hK.out _ _ ?_
          clear hK K
          refine norm_ (a' := ?_) ?_ ?_
          rotate_left
          · show Act.put _ (some 99) _ = _
            simp only [Act.put, List.setIfInBounds_toArray, List.set_cons_zero, List.set_cons_succ]
            rfl
          refine pure_ (i := 13) (N := some 100) (v := ?_) (a' := ?_) #[true, true, true, true, true, true, true, true, true, true, true, true, true, true, false, false] rfl rfl (by kernel_rfl) (fun _ _ _ h => h) (Or.inl ⟨by rfl, ?_⟩) ?_ ?_
          rotate_left
          · intro w'
            go_simp
            with_reducible rfl
          rotate_left
          · simp only [Act.put, List.setIfInBounds_toArray, List.set_cons_zero, List.set_cons_succ]
            rfl
          refine pure_ (i := 14) (N := some 101) (v := ?_) (a' := ?_) #[true, true, true, true, true, true, true, true, true, true, true, true, true, true, true, false] rfl rfl (by kernel_rfl) (fun _ _ _ h => h) (Or.inl ⟨by rfl, ?_⟩) ?_ ?_
          rotate_left
          · intro w'
            go_simp
            with_reducible rfl
          rotate_left
          · simp only [Act.put, List.setIfInBounds_toArray, List.set_cons_zero, List.set_cons_succ]
            rfl
          refine last_ (i := 15) (N := none) #[true, true, true, true, true, true, true, true, true, true, true, true, true, true, true, true] rfl rfl (by kernel_rfl) (by decide) (fun K hK => ?_)
          refine skip_ (w1 := ?_) (by rfl) rfl ?_ ?_
          rotate_left
          · go_simp
            rfl
          refine hK.out _ _ ?_
          clear hK K
          refine done_ (by kernel_rfl) ?_
          obtain ⟨w5, hw5⟩ : ∃ w5, w4.setCell ⟨b, 7, none⟩ (.slice A8 n8 c8) = w5 := ⟨_, rfl⟩
          rw [hw5] at H4 ⊢
          have c3 : w5.cell? ⟨b, 3, none⟩ = some (.slice (some adr) g.rules.length cR) := H4.out.c3 rfl
          have k2 := HK2.out _ H4.out.bel
          have HL : Hid (NLoop w0 w5 b gt gn (.slice (some adr) g.rules.length cR) g.ax (.slice (some ad) rs.length cr) rs g.rules f deep i r rS 0 (i + 1, ⟨pl, T ++ [((j : Int), pl, 0)], K, max m0 deep⟩) (.slice A8 n8 c8) vk) := Lib.hid
            ⟨H4.out, by have := HTl.out; simp; omega, by show K.length + 32 ≤ 32 * (i + 1) + 0; omega, by show max m0 deep ≤ i + 1; omega, Nat.le_refl _, by show i + 1 ≤ rs.length; omega, HrS.out⟩
          clear hw5 g7 f7 H4 H5 d7 d6 D0 D1 HO3 HB3 HS3 HLb Hn7 H2 H3 HrS hxI hxJ
          go_wp2
          go_loopw [112] (fun k wr => ∃ (kk : Nat) (s2 : Nat × DS) (vt2 vk2 : Value), kk ≤ r.length ∧ k = .int .i64 (kk : Int) ∧ Hid (NLoop w0 wr b gt gn (.slice (some adr) g.rules.length cR) g.ax (.slice (some ad) rs.length cr) rs g.rules f deep i r rS kk s2 vt2 vk2)) (fun k _ => r.length - (intOf k).toNat)
          case atStart => exact ⟨0, _, _, _, by omega, rfl, HL⟩
          case round =>
            obtain ⟨kk, ⟨i2, p2, T2, K2, m2⟩, vt2, vk2, hkk, rfl, HN2⟩ := hrel
            obtain ⟨w6, rfl⟩ : ∃ w6, wr = w6 := ⟨_, rfl⟩
            clear c3 k2 HL
            by_cases hlk : kk < r.length
            · obtain ⟨adx, y, rfl, hy, HY⟩ := at_scalar (Kd.C_below HRr.out HN2.out.at_.bel) kk hlk 0
              have hdrop : r.drop kk = y :: r.drop (kk + 1) := by
                rw [List.drop_eq_getElem_cons hlk]
                have := HY.out
                rw [List.getD_eq_getElem?_getD, List.getElem?_eq_getElem hlk] at this
                rw [← this]
                rfl
              have hyb := HSy.out y (by rw [← HY.out]; exact getD_mem _ _ _ hlk)
              have HDr := Lib.hid hdrop
              clear hdrop
              by_cases hneg : y < 0
              · obtain ⟨rN, hrN⟩ : ∃ rN, nodeG (opsD inc64) g.rules rs f false (-1 - y) (some (i, kk)) (deep + 1) (i2, ⟨p2, T2, K2, m2⟩) = rN := ⟨_, rfl⟩
                have HC : Hid (Calls Tryd.prog 100 #[.pointer (some ⟨b, 0, none⟩), .int .i64 (-1 - y), .int .i64 ((deep : Int) + 1), .bool false] wr
                    (NodeP w0 b gt gn (.slice (some adr) g.rules.length cR) g.ax (.slice (some ad) rs.length cr) A rN)) := Lib.hid (by
                  have h1 := HN2.out.tk
                  have h2 := HN2.out.dep
                  have h3 := HN2.out.lo
                  have h4 := HN2.out.hi
                  simp only at h1 h2 h3 h4
                  have := IH.out false (-1 - y) (some (i, kk)) (deep + 1) i2 ⟨p2, T2, K2, m2⟩ vt2 vk2 wr (by omega) (by omega) h2 HN2.out.tl (by show K2.length ≤ 32 * i2; omega) h4 HN2.out.at_
                  rw [hrN] at this
                  rwa [show ((deep + 1 : Nat) : Int) = (deep : Int) + 1 by omega] at this)
                cases rN with
                | none =>
                  have HF : Hid (res = none) := Lib.hid (by rw [HR.out, HN2.out.dead HDr.out hneg hrN]; rfl)
                  clear hrN
                  go_wp2_with (go_at_call 100; (with_reducible refine HC.out.mono ?_); rintro e w7 ⟨rfl, hb7⟩; have HB7 := Lib.hid hb7; clear hb7)
                  exact ⟨rfl, nodeP_none HF.out HB7.out⟩
                | some s3 =>
                  have HrN := Lib.hid hrN
                  clear hrN
                  go_wp2_with (go_at_call 100; (with_reducible refine HC.out.mono ?_); rintro e w7 ⟨rfl, vt3, vk3, h7⟩; have H7 := Lib.hid h7; clear h7)
                  go_roundw
                  case rel => exact ⟨kk + 1, s3, vt3, vk3, by omega, by go_num, Lib.hid (HN2.out.call HDr.out hneg HrN.out hdp HI.out.short HI.out.ne H7.out)⟩
                  case measure => simp [intOf]; omega
              · obtain ⟨A9, c9, e9⟩ := Kd.R_slice HN2.out.at_.tk
                obtain ⟨n9, hn9⟩ : ∃ n, K2.length = n := ⟨_, rfl⟩
                simp only [hn9] at e9
                subst e9
                have HA2 := Lib.hid HN2.out.at_
                have hlb : (K2.length + 1) * 8 ≤ 140737488355328 := by
                  have h1 := HN2.out.tk
                  have h4 := HN2.out.hi
                  simp only at h1 h4
                  omega
                have HLb := Lib.hid hlb
                have c8 : wr.cell? ⟨b, 8, none⟩ = some (.slice A9 n9 c9) := HA2.out.c8 rfl
                clear hlb hn9
                go_upto_region 15 with ((with_reducible refine gate_builtin (b := .append) (xs := #[.tmp 128, .tmp 130]) rfl ?_); at_builtin; go_loud (refine Kd.R_append (Kd.int .i64) (w0 := w0) w0.heap.size rfl (.tmp 128) (.tmp 130) 30 3 (.int .i64 0) 8 rfl Tryd.underlying30 infoInt rfl (by decide) (by omega) (.slice A9 n9 c9) K2 y [.int .i64 y] (fun k => k ≠ b) (fun _ => False) rfl rfl rfl (fun _ hk => hk.elim) (fun k hk => by have := HA2.out.lt; omega) HA2.out.tk HA2.out.bel HA2.out.bel.size HLb.out ?_); intro v10 w10 ho hb hg hat; (obtain ⟨A10, c10, e10⟩ := Kd.R_slice ho; obtain ⟨n10, hn10⟩ : ∃ n, (K2 ++ [y]).length = n := ⟨_, rfl⟩; rw [hn10] at e10; subst e10; have H10 := Lib.hid (HA2.out.growK ho hb hg); have H11 := Lib.hid (HA2.out.grown8 hb hg); have g8 := H11.out.1; have f8 := H11.out.2; clear ho hb hg hat hn10))
                obtain ⟨w11, hw11⟩ : ∃ w11, w10.setCell ⟨b, 8, none⟩ (.slice A10 n10 c10) = w11 := ⟨_, rfl⟩
                rw [hw11] at H10 ⊢
                have c6 : w11.cell? ⟨b, 6, none⟩ = some (.int .i64 p2) := H10.out.c6
                have f6 := H10.out.fr 6
                clear hw11 g8 f8 H11 c8
                go_wp2
                go_roundw
                case rel => exact ⟨kk + 1, (i2, ⟨inc64 p2, T2, K2 ++ [y], m2⟩), vt2, .slice A10 n10 c10, by omega, by go_num, Lib.hid (HN2.out.tok HDr.out hneg (H10.out.setP (inc64 p2)))⟩
                case measure => simp [intOf]; omega
            · have HF : Hid (res = some (i2, (opsD inc64).lv ⟨p2, T2, K2, m2⟩ i)) := Lib.hid (by rw [HR.out, HN2.out.fin (by omega)]; rfl)
              have htl2 : T2.length = i2 := HN2.out.tl
              have hlo : i + 1 ≤ i2 := HN2.out.lo
              obtain ⟨gT, cT, rfl, hcT, hgb, hel⟩ := HN2.out.at_.form htl2 (by omega)
              obtain ⟨⟨uo, ko⟩, fo⟩ := hel i (by omega)
              have HA2 := Lib.hid HN2.out.at_
              have d7 : wr.cell? ⟨b, 7, none⟩ = some (.slice (some ⟨gT, 0, none⟩) i2 cT) := HA2.out.c7 rfl
              have d6 : wr.cell? ⟨b, 6, none⟩ = some (.int .i64 p2) := HA2.out.c6
              have hz0 : (0 : Int) ≤ (i : Int) := by omega
              have hz1 : (i : Int) < (i2 : Int) := by omega
              clear hel
              go_upto_region 17 with (fail)
              have D0 : Hid (wr.drew.cell? ⟨b, 7, none⟩ = some (.slice (some ⟨gT, 0, none⟩) i2 cT) ∧ wr.drew.cell? ⟨b, 6, none⟩ = some (.int .i64 p2)) := Lib.hid ⟨by rw [World.cell?_drew]; exact d7, by rw [World.cell?_drew]; exact d6⟩
              have D1 : Hid (∀ u, (wr.drew.setCell ⟨gT, i * 3 + 2, none⟩ u).cell? ⟨b, 7, none⟩ = some (.slice (some ⟨gT, 0, none⟩) i2 cT) ∧ (wr.drew.setCell ⟨gT, i * 3 + 2, none⟩ u).cell? ⟨b, 6, none⟩ = some (.int .i64 p2)) := Lib.hid (fun u => ⟨by rw [World.cell?_setCell_other _ _ _ _ (by intro e; injection e with e _; exact hgb e)]; exact D0.out.1, by rw [World.cell?_setCell_other _ _ _ _ (by intro e; injection e with e _; exact hgb e)]; exact D0.out.2⟩)
              go_region_held3 (fun w' => w'.cell? ⟨b, 7, none⟩ = some (.slice (some ⟨gT, 0, none⟩) i2 cT) ∧ w'.cell? ⟨b, 6, none⟩ = some (.int .i64 p2))
                (first
                  | exact D1.out _
                  | exact D0.out)
                (fail)
              go_end0
              exact nodeP_some HF.out ((HA2.out.leave i (by show i < T2.length; omega)).below (below_drew (Below.refl _ _)))
        · have hxI : (x == x) = true := by simp
          have hj1 : decide (g.rules.length ≤ j) = false := by simp; omega
          have hj2 : decide ((g.rules.length : Int) ≤ (j : Int)) = false := by simp; omega
          have hj3 : decide ((j : Int) < 0) = false := by simp
          have hj4 : decide (rs.length ≤ i) = false := by simp; omega
          have hj5 : decide ((rs.length : Int) ≤ (i : Int)) = false := by simp; omega
          have hxJ : (x != x) = false := by simp
          go_enter Tryd.func100, Tryd.ntmps100
          go_wp2
          go_quiet (fail)
          rename Nat => q1
          go_wp2
          go_quiet (fail)
          rename Nat => q2
          go_upto_region 7 with (fail)
          obtain ⟨w2, hw2⟩ : ∃ w2, (w.drewN (q1 + q2)).setCell ⟨b, 5, none⟩ (.int .i64 ((i : Int) + 1)) = w2 := ⟨_, rfl⟩
          have h2 : WkAt w0 w2 b gt gn (.slice (some adr) g.rules.length cR) g.ax (.slice (some ad) rs.length cr) (i + 1) ⟨pl, T, K, m0⟩ vt vk := by
            rw [← hw2]
            have := (HH.out.drewN (q1 + q2)).setI (i + 1)
            rwa [show ((i + 1 : Nat) : Int) = (i : Int) + 1 by omega] at this
          rw [hw2]
          clear hw2 c3 c4 c5 k1 e10 hn hf5
          have H2 := Lib.hid h2
          have c9 := h2.c9
          have f9 := h2.fr 9
          clear h2
          have hmx : (if m0 < deep then (deep : Int) else (m0 : Int)) = ((max m0 deep : Nat) : Int) := by split <;> omega
          obtain ⟨mx, hmm⟩ : ∃ mx, max m0 deep = mx := ⟨_, rfl⟩
          rw [hmm] at hmx
          have Hmm := Lib.hid hmm
          go_upto_region 8 with (fail)
          obtain ⟨w3, hw3⟩ : ∃ w3, w2.setCell ⟨b, 9, none⟩ (.int .i64 (mx : Int)) = w3 := ⟨_, rfl⟩
          have h3 : WkAt w0 w3 b gt gn (.slice (some adr) g.rules.length cR) g.ax (.slice (some ad) rs.length cr) (i + 1) ⟨pl, T, K, max m0 deep⟩ vt vk := by
            rw [← hw3]
            rw [hmm]
            exact H2.out.setD mx
          rw [hw3]
          clear hw3 c9 f9 hmx hmm
          obtain ⟨A7, c7, e7⟩ := Kd.R_slice h3.tr
          obtain ⟨n7, hn7⟩ : ∃ n, T.length = n := ⟨_, rfl⟩
          simp only [hn7] at e7
          subst e7
          have H3 := Lib.hid h3
          have HO3 := Lib.hid (Kd.R_drew h3.tr)
          have HB3 := Lib.hid (below_drew h3.bel)
          have HS3 : Hid (w0.heap.size ≤ w3.drew.heap.size) := Lib.hid (below_drew h3.bel).size
          have hD : ∀ W, Below w3.heap.size w3 W → W.cell? ⟨b, 7, none⟩ = some (.slice A7 n7 c7) ∧ W.cell? ⟨b, 6, none⟩ = some (.int .i64 pl) := fun W hW => ⟨(h3.below hW).c7 rfl, (h3.below hW).c6⟩
          have D0 := Lib.hid (hD _ (below_drew (Below.refl w3.heap.size w3)))
          have D1 := Lib.hid (hD _ (below_alloc (below_drew (Below.refl w3.heap.size w3)) (.cells #[.int .i64 (j : Int), .int .i64 pl, .int .i64 0] 50)))
          have Hn7 := Lib.hid hn7
          have hlb : (T.length + 1) * 24 ≤ 140737488355328 := by omega
          have HLb := Lib.hid hlb
          clear hD h3 hn7 hlb htl
          have d7 := D0.out.1
          have d6 := D0.out.2
          refine start_ (n := 16) (S := fun w' => w'.cell? ⟨b, 7, none⟩ = some (.slice A7 n7 c7) ∧ w'.cell? ⟨b, 6, none⟩ = some (.int .i64 pl)) (ds := [12, 15]) #[false, false, false, false, false, false, false, false, false, false, false, false, false, false, false, false] (by kernel_rfl) rfl rfl ⟨d7, d6⟩ (fun hHeld => ?_)
          refine pure_ (i := 0) (N := some 87) (v := ?_) (a' := ?_) #[true, false, false, false, false, false, false, false, false, false, false, false, false, false, false, false] rfl rfl (by kernel_rfl) (fun _ _ _ h => h) (Or.inl ⟨by rfl, ?_⟩) ?_ ?_
          rotate_left
          · intro w'
            go_simp
            with_reducible rfl
          rotate_left
          · simp only [Act.put, List.setIfInBounds_toArray, List.set_cons_zero, List.set_cons_succ]
            rfl
          refine pure_ (i := 1) (N := some 88) (v := ?_) (a' := ?_) #[true, true, false, false, false, false, false, false, false, false, false, false, false, false, false, false] rfl rfl (by kernel_rfl) (fun _ _ _ h => h) (Or.inl ⟨by rfl, ?_⟩) ?_ ?_
          rotate_left
          · intro w'
            go_simp
            with_reducible rfl
          rotate_left
          · simp only [Act.put, List.setIfInBounds_toArray, List.set_cons_zero, List.set_cons_succ]
            rfl
          refine pure_ (i := 2) (N := some 89) (v := ?_) (a' := ?_) #[true, true, true, false, false, false, false, false, false, false, false, false, false, false, false, false] rfl rfl (by kernel_rfl) (fun _ _ _ h => h) (Or.inl ⟨by rfl, ?_⟩) ?_ ?_
          rotate_left
          · intro w'
            go_simp
            with_reducible rfl
          rotate_left
          · simp only [Act.put, List.setIfInBounds_toArray, List.set_cons_zero, List.set_cons_succ]
            rfl
          refine pure_ (i := 3) (N := some 90) (v := ?_) (a' := ?_) #[true, true, true, true, false, false, false, false, false, false, false, false, false, false, false, false] rfl rfl (by kernel_rfl) (fun _ _ _ h => h) (Or.inl ⟨by rfl, ?_⟩) ?_ ?_
          rotate_left
          · intro w'
            go_simp
            with_reducible rfl
          rotate_left
          · simp only [Act.put, List.setIfInBounds_toArray, List.set_cons_zero, List.set_cons_succ]
            rfl
          refine pure_ (i := 5) (N := some 92) (v := ?_) (a' := ?_) #[true, true, true, true, false, true, false, false, false, false, false, false, false, false, false, false] rfl rfl (by kernel_rfl) (fun _ _ _ h => h) (Or.inl ⟨by rfl, ?_⟩) ?_ ?_
          rotate_left
          · intro w'
            go_simp
            with_reducible rfl
          rotate_left
          · simp only [Act.put, List.setIfInBounds_toArray, List.set_cons_zero, List.set_cons_succ]
            rfl
          refine pure_ (i := 6) (N := some 93) (v := ?_) (a' := ?_) #[true, true, true, true, false, true, true, false, false, false, false, false, false, false, false, false] rfl rfl (by kernel_rfl) (fun _ _ _ h => h) (Or.inl ⟨by rfl, ?_⟩) ?_ ?_
          rotate_left
          · intro w'
            go_simp
            with_reducible rfl
          rotate_left
          · simp only [Act.put, List.setIfInBounds_toArray, List.set_cons_zero, List.set_cons_succ]
            rfl
          refine pure_ (i := 7) (N := some 94) (v := ?_) (a' := ?_) #[true, true, true, true, false, true, true, true, false, false, false, false, false, false, false, false] rfl rfl (by kernel_rfl) (fun _ _ _ h => h) (Or.inl ⟨by rfl, ?_⟩) ?_ ?_
          rotate_left
          · intro w'
            go_simp
            with_reducible rfl
          rotate_left
          · simp only [Act.put, List.setIfInBounds_toArray, List.set_cons_zero, List.set_cons_succ]
            rfl
          refine pure_ (i := 8) (N := some 95) (v := ?_) (a' := ?_) #[true, true, true, true, false, true, true, true, true, false, false, false, false, false, false, false] rfl rfl (by kernel_rfl) (fun _ _ _ h => h) (Or.inl ⟨by rfl, ?_⟩) ?_ ?_
          rotate_left
          · intro w'
            go_simp
            with_reducible rfl
          rotate_left
          · simp only [Act.put, List.setIfInBounds_toArray, List.set_cons_zero, List.set_cons_succ]
            rfl
          refine take_ (i := 4) (N := some 91) (v := ?_) (a' := ?_) #[true, true, true, true, true, true, true, true, true, false, false, false, false, false, false, false] rfl rfl (by kernel_rfl) (fun _ _ _ h => h) (Or.inl ⟨by rfl, ?_⟩) hHeld ?_ ?_
          rotate_left
          · rintro w' ⟨s0, s1⟩
            go_simp
            with_reducible rfl
          rotate_left
          · simp only [Act.put, List.setIfInBounds_toArray, List.set_cons_zero, List.set_cons_succ]
            rfl
          refine take_ (i := 9) (N := some 96) (v := ?_) (a' := ?_) #[true, true, true, true, true, true, true, true, true, true, false, false, false, false, false, false] rfl rfl (by kernel_rfl) (fun _ _ _ h => h) (Or.inl ⟨by rfl, ?_⟩) hHeld ?_ ?_
          rotate_left
          · rintro w' ⟨s0, s1⟩
            go_simp
            with_reducible rfl
          rotate_left
          · simp only [Act.put, List.setIfInBounds_toArray, List.set_cons_zero, List.set_cons_succ]
            rfl
          refine pure_ (i := 10) (N := some 97) (v := ?_) (a' := ?_) #[true, true, true, true, true, true, true, true, true, true, true, false, false, false, false, false] rfl rfl (by kernel_rfl) (fun _ _ _ h => h) (Or.inl ⟨by rfl, ?_⟩) ?_ ?_
          rotate_left
          · intro w'
            go_simp
            with_reducible rfl
          rotate_left
          · simp only [Act.put, List.setIfInBounds_toArray, List.set_cons_zero, List.set_cons_succ]
            rfl
          refine one_ (i := 11) (N := some 98) #[true, true, true, true, true, true, true, true, true, true, true, true, false, false, false, false] rfl rfl (by kernel_rfl) (by decide) (fun K hK => ?_)
          refine value_ (w1 := ?_) (v := ?_) (by rfl) rfl ?_ ?_
          rotate_left 2
          · go_simp
            constructor
            · rfl
            · rfl
          refine hK.out _ _ ⟨D1.out.1, D1.out.2⟩ (fun hHeld => ?_)
          clear hK K
          refine norm_ (a' := ?_) ?_ ?_
          rotate_left
          · show Act.put _ (some 98) _ = _
            simp only [Act.put, List.setIfInBounds_toArray, List.set_cons_zero, List.set_cons_succ]
            rfl
          refine last_ (i := 12) (N := some 99) #[true, true, true, true, true, true, true, true, true, true, true, true, true, false, false, false] rfl rfl (by kernel_rfl) (by decide) (fun K hK => ?_)
          refine Kd.R_append_step KStep (w0 := w0) w0.heap.size (by rfl) (.tmp 91) (.tmp 98) 26 50 (.agg #[.int .i64 0, .int .i64 0, .int .i64 0]) 24 rfl Tryd.underlying26 infoStep rfl (by decide) (by omega) (.slice A7 n7 c7) T ((j : Int), pl, 0) [.int .i64 (j : Int), .int .i64 pl, .int .i64 0] (fun k => k ≠ b) (fun _ => False) rfl rfl (KStep_M _ _ _ _ _ _) (fun _ hk => hk.elim) (fun k hk => by have := H3.out.lt; rw [World.size_drew] at hk; omega) HO3.out HB3.out HS3.out HLb.out ?_
          intro v4 w4 ho hb hg hat
          obtain ⟨A8, c8, e8⟩ := Kd.R_slice ho
          obtain ⟨n8, hn8⟩ : ∃ n, (T ++ [((j : Int), pl, (0 : Int))]).length = n := ⟨_, rfl⟩
          rw [hn8] at e8
          subst e8
          have H4 := Lib.hid ((H3.out.below (below_drew (Below.refl _ _))).growT ho hb hg)
          have H5 := Lib.hid ((H3.out.below (below_drew (Below.refl _ _))).grown7 hb hg)
          have g7 := H5.out.1.1
          have f7 := H5.out.2
          clear ho hb hg hat hn8
          refine hK.out _ _ ?_
          clear hK K
          refine norm_ (a' := ?_) ?_ ?_
          rotate_left
          · show Act.put _ (some 99) _ = _
            simp only [Act.put, List.setIfInBounds_toArray, List.set_cons_zero, List.set_cons_succ]
            rfl
          refine pure_ (i := 13) (N := some 100) (v := ?_) (a' := ?_) #[true, true, true, true, true, true, true, true, true, true, true, true, true, true, false, false] rfl rfl (by kernel_rfl) (fun _ _ _ h => h) (Or.inl ⟨by rfl, ?_⟩) ?_ ?_
          rotate_left
          · intro w'
            go_simp
            with_reducible rfl
          rotate_left
          · simp only [Act.put, List.setIfInBounds_toArray, List.set_cons_zero, List.set_cons_succ]
            rfl
          refine pure_ (i := 14) (N := some 101) (v := ?_) (a' := ?_) #[true, true, true, true, true, true, true, true, true, true, true, true, true, true, true, false] rfl rfl (by kernel_rfl) (fun _ _ _ h => h) (Or.inl ⟨by rfl, ?_⟩) ?_ ?_
          rotate_left
          · intro w'
            go_simp
            with_reducible rfl
          rotate_left
          · simp only [Act.put, List.setIfInBounds_toArray, List.set_cons_zero, List.set_cons_succ]
            rfl
          refine last_ (i := 15) (N := none) #[true, true, true, true, true, true, true, true, true, true, true, true, true, true, true, true] rfl rfl (by kernel_rfl) (by decide) (fun K hK => ?_)
          refine skip_ (w1 := ?_) (by rfl) rfl ?_ ?_
          rotate_left
          · go_simp
            rfl
          refine hK.out _ _ ?_
          clear hK K
          refine done_ (by kernel_rfl) ?_
          obtain ⟨w5, hw5⟩ : ∃ w5, w4.setCell ⟨b, 7, none⟩ (.slice A8 n8 c8) = w5 := ⟨_, rfl⟩
          rw [hw5] at H4 ⊢
          have c3 : w5.cell? ⟨b, 3, none⟩ = some (.slice (some adr) g.rules.length cR) := H4.out.c3 rfl
          have k2 := HK2.out _ H4.out.bel
          have HL : Hid (NLoop w0 w5 b gt gn (.slice (some adr) g.rules.length cR) g.ax (.slice (some ad) rs.length cr) rs g.rules f deep i r rS 0 (i + 1, ⟨pl, T ++ [((j : Int), pl, 0)], K, max m0 deep⟩) (.slice A8 n8 c8) vk) := Lib.hid
            ⟨H4.out, by have := HTl.out; simp; omega, by show K.length + 32 ≤ 32 * (i + 1) + 0; omega, by show max m0 deep ≤ i + 1; omega, Nat.le_refl _, by show i + 1 ≤ rs.length; omega, HrS.out⟩
          clear hw5 g7 f7 H4 H5 d7 d6 D0 D1 HO3 HB3 HS3 HLb Hn7 H2 H3 HrS hxI hxJ
          go_wp2
          go_loopw [112] (fun k wr => ∃ (kk : Nat) (s2 : Nat × DS) (vt2 vk2 : Value), kk ≤ r.length ∧ k = .int .i64 (kk : Int) ∧ Hid (NLoop w0 wr b gt gn (.slice (some adr) g.rules.length cR) g.ax (.slice (some ad) rs.length cr) rs g.rules f deep i r rS kk s2 vt2 vk2)) (fun k _ => r.length - (intOf k).toNat)
          case atStart => exact ⟨0, _, _, _, by omega, rfl, HL⟩
          case round =>
            obtain ⟨kk, ⟨i2, p2, T2, K2, m2⟩, vt2, vk2, hkk, rfl, HN2⟩ := hrel
            obtain ⟨w6, rfl⟩ : ∃ w6, wr = w6 := ⟨_, rfl⟩
            clear c3 k2 HL
            by_cases hlk : kk < r.length
            · obtain ⟨adx, y, rfl, hy, HY⟩ := at_scalar (Kd.C_below HRr.out HN2.out.at_.bel) kk hlk 0
              have hdrop : r.drop kk = y :: r.drop (kk + 1) := by
                rw [List.drop_eq_getElem_cons hlk]
                have := HY.out
                rw [List.getD_eq_getElem?_getD, List.getElem?_eq_getElem hlk] at this
                rw [← this]
                rfl
              have hyb := HSy.out y (by rw [← HY.out]; exact getD_mem _ _ _ hlk)
              have HDr := Lib.hid hdrop
              clear hdrop
              by_cases hneg : y < 0
              · obtain ⟨rN, hrN⟩ : ∃ rN, nodeG (opsD inc64) g.rules rs f false (-1 - y) (some (i, kk)) (deep + 1) (i2, ⟨p2, T2, K2, m2⟩) = rN := ⟨_, rfl⟩
                have HC : Hid (Calls Tryd.prog 100 #[.pointer (some ⟨b, 0, none⟩), .int .i64 (-1 - y), .int .i64 ((deep : Int) + 1), .bool false] wr
                    (NodeP w0 b gt gn (.slice (some adr) g.rules.length cR) g.ax (.slice (some ad) rs.length cr) A rN)) := Lib.hid (by
                  have h1 := HN2.out.tk
                  have h2 := HN2.out.dep
                  have h3 := HN2.out.lo
                  have h4 := HN2.out.hi
                  simp only at h1 h2 h3 h4
                  have := IH.out false (-1 - y) (some (i, kk)) (deep + 1) i2 ⟨p2, T2, K2, m2⟩ vt2 vk2 wr (by omega) (by omega) h2 HN2.out.tl (by show K2.length ≤ 32 * i2; omega) h4 HN2.out.at_
                  rw [hrN] at this
                  rwa [show ((deep + 1 : Nat) : Int) = (deep : Int) + 1 by omega] at this)
                cases rN with
                | none =>
                  have HF : Hid (res = none) := Lib.hid (by rw [HR.out, HN2.out.dead HDr.out hneg hrN]; rfl)
                  clear hrN
                  go_wp2_with (go_at_call 100; (with_reducible refine HC.out.mono ?_); rintro e w7 ⟨rfl, hb7⟩; have HB7 := Lib.hid hb7; clear hb7)
                  exact ⟨rfl, nodeP_none HF.out HB7.out⟩
                | some s3 =>
                  have HrN := Lib.hid hrN
                  clear hrN
                  go_wp2_with (go_at_call 100; (with_reducible refine HC.out.mono ?_); rintro e w7 ⟨rfl, vt3, vk3, h7⟩; have H7 := Lib.hid h7; clear h7)
                  go_roundw
                  case rel => exact ⟨kk + 1, s3, vt3, vk3, by omega, by go_num, Lib.hid (HN2.out.call HDr.out hneg HrN.out hdp HI.out.short HI.out.ne H7.out)⟩
                  case measure => simp [intOf]; omega
              · obtain ⟨A9, c9, e9⟩ := Kd.R_slice HN2.out.at_.tk
                obtain ⟨n9, hn9⟩ : ∃ n, K2.length = n := ⟨_, rfl⟩
                simp only [hn9] at e9
                subst e9
                have HA2 := Lib.hid HN2.out.at_
                have hlb : (K2.length + 1) * 8 ≤ 140737488355328 := by
                  have h1 := HN2.out.tk
                  have h4 := HN2.out.hi
                  simp only at h1 h4
                  omega
                have HLb := Lib.hid hlb
                have c8 : wr.cell? ⟨b, 8, none⟩ = some (.slice A9 n9 c9) := HA2.out.c8 rfl
                clear hlb hn9
                go_upto_region 15 with ((with_reducible refine gate_builtin (b := .append) (xs := #[.tmp 128, .tmp 130]) rfl ?_); at_builtin; go_loud (refine Kd.R_append (Kd.int .i64) (w0 := w0) w0.heap.size rfl (.tmp 128) (.tmp 130) 30 3 (.int .i64 0) 8 rfl Tryd.underlying30 infoInt rfl (by decide) (by omega) (.slice A9 n9 c9) K2 y [.int .i64 y] (fun k => k ≠ b) (fun _ => False) rfl rfl rfl (fun _ hk => hk.elim) (fun k hk => by have := HA2.out.lt; omega) HA2.out.tk HA2.out.bel HA2.out.bel.size HLb.out ?_); intro v10 w10 ho hb hg hat; (obtain ⟨A10, c10, e10⟩ := Kd.R_slice ho; obtain ⟨n10, hn10⟩ : ∃ n, (K2 ++ [y]).length = n := ⟨_, rfl⟩; rw [hn10] at e10; subst e10; have H10 := Lib.hid (HA2.out.growK ho hb hg); have H11 := Lib.hid (HA2.out.grown8 hb hg); have g8 := H11.out.1; have f8 := H11.out.2; clear ho hb hg hat hn10))
                obtain ⟨w11, hw11⟩ : ∃ w11, w10.setCell ⟨b, 8, none⟩ (.slice A10 n10 c10) = w11 := ⟨_, rfl⟩
                rw [hw11] at H10 ⊢
                have c6 : w11.cell? ⟨b, 6, none⟩ = some (.int .i64 p2) := H10.out.c6
                have f6 := H10.out.fr 6
                clear hw11 g8 f8 H11 c8
                go_wp2
                go_roundw
                case rel => exact ⟨kk + 1, (i2, ⟨inc64 p2, T2, K2 ++ [y], m2⟩), vt2, .slice A10 n10 c10, by omega, by go_num, Lib.hid (HN2.out.tok HDr.out hneg (H10.out.setP (inc64 p2)))⟩
                case measure => simp [intOf]; omega
            · have HF : Hid (res = some (i2, (opsD inc64).lv ⟨p2, T2, K2, m2⟩ i)) := Lib.hid (by rw [HR.out, HN2.out.fin (by omega)]; rfl)
              have htl2 : T2.length = i2 := HN2.out.tl
              have hlo : i + 1 ≤ i2 := HN2.out.lo
              obtain ⟨gT, cT, rfl, hcT, hgb, hel⟩ := HN2.out.at_.form htl2 (by omega)
              obtain ⟨⟨uo, ko⟩, fo⟩ := hel i (by omega)
              have HA2 := Lib.hid HN2.out.at_
              have d7 : wr.cell? ⟨b, 7, none⟩ = some (.slice (some ⟨gT, 0, none⟩) i2 cT) := HA2.out.c7 rfl
              have d6 : wr.cell? ⟨b, 6, none⟩ = some (.int .i64 p2) := HA2.out.c6
              have hz0 : (0 : Int) ≤ (i : Int) := by omega
              have hz1 : (i : Int) < (i2 : Int) := by omega
              clear hel
              go_upto_region 17 with (fail)
              have D0 : Hid (wr.drew.cell? ⟨b, 7, none⟩ = some (.slice (some ⟨gT, 0, none⟩) i2 cT) ∧ wr.drew.cell? ⟨b, 6, none⟩ = some (.int .i64 p2)) := Lib.hid ⟨by rw [World.cell?_drew]; exact d7, by rw [World.cell?_drew]; exact d6⟩
              have D1 : Hid (∀ u, (wr.drew.setCell ⟨gT, i * 3 + 2, none⟩ u).cell? ⟨b, 7, none⟩ = some (.slice (some ⟨gT, 0, none⟩) i2 cT) ∧ (wr.drew.setCell ⟨gT, i * 3 + 2, none⟩ u).cell? ⟨b, 6, none⟩ = some (.int .i64 p2)) := Lib.hid (fun u => ⟨by rw [World.cell?_setCell_other _ _ _ _ (by intro e; injection e with e _; exact hgb e)]; exact D0.out.1, by rw [World.cell?_setCell_other _ _ _ _ (by intro e; injection e with e _; exact hgb e)]; exact D0.out.2⟩)
              go_region_held3 (fun w' => w'.cell? ⟨b, 7, none⟩ = some (.slice (some ⟨gT, 0, none⟩) i2 cT) ∧ w'.cell? ⟨b, 6, none⟩ = some (.int .i64 p2))
                (first
                  | exact D1.out _
                  | exact D0.out)
                (fail)
              go_end0
              exact nodeP_some HF.out ((HA2.out.leave i (by show i < T2.length; omega)).below (below_drew (Below.refl _ _)))
theorem node_calls (w0 : World) (b : Nat) (g : Gr) (gt gn : Value) (AR Ar : Option Addr) (cR cr : Nat) (rs : List Int) (A : Nat → Addr) (hI : WkIn w0 g AR rs Ar A) : ∀ (f : Nat) (any : Bool) (nt : Int) (up : Option (Nat × Nat)) (deep i : Nat) (d : DS) (vt vk : Value) (w : World), rs.length ≤ i + f → deep ≤ i + 1 → d.depth ≤ i → d.tree.length = i → d.tokens.length ≤ 32 * i → i ≤ rs.length →
    WkAt w0 w b gt gn (.slice AR g.rules.length cR) g.ax (.slice Ar rs.length cr) i d vt vk →
    Calls Tryd.prog 100 #[.pointer (some ⟨b, 0, none⟩), .int .i64 nt, .int .i64 (deep : Int), .bool any] w
      (NodeP w0 b gt gn (.slice AR g.rules.length cR) g.ax (.slice Ar rs.length cr) A (nodeG (opsD inc64) g.rules rs f any nt up deep (i, d)))
  | 0, any, nt, up, deep, i, d, vt, vk, w, hf, hdp, hdd, htl, htk, hi, h => node_end w0 b g gt gn AR Ar cR cr rs A hI 0 any nt up deep i d vt vk w (by omega) (by have := hI.len; omega) h
  | f + 1, any, nt, up, deep, i, ⟨pl, T, K, m0⟩, vt, vk, w, hf, hdp, hdd, htl, htk, hi, h => by
    by_cases hlt : i < rs.length
    · exact node_step w0 b g gt gn AR Ar cR cr rs A hI f (node_calls w0 b g gt gn AR Ar cR cr rs A hI f) any nt up deep i pl T K m0 vt vk w hf hdp hdd htl htk hlt h
    · exact node_end w0 b g gt gn AR Ar cR cr rs A hI (f + 1) any nt up deep i _ vt vk w (by omega) (by have := hI.len; omega) h
end Go.Proofs.YtapgglmdnggopaaDoor.Hand
