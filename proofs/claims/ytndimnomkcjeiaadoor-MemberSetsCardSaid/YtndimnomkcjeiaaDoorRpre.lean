/- The document's chart while its first rows are made (dovetailref24.New). -/
import Derived.Test.YtndimnomkcjeiaaDoorRch
namespace Go.Proofs.YtndimnomkcjeiaaDoor.Hand
open Go.RowKit Go.Proofs.YtndimnomkcjeiaaDoorW.PrintWords Go.Proofs.YtndimnomkcjeiaaDoorW.PrintMore Go.Proofs.YtndimnomkcjeiaaDoor.Math

/-- Rows of N, each told by its block; rows of rows, each by its block and capacity. -/
def KQ (N : Nat) : Kd Nat := Kd.scalar (fun q : Nat => Value.slice (some ⟨q, 0, none⟩) N N) (fun _ => rfl)
def KP (n : Nat) : Kd (Nat × Nat) := Kd.scalar (fun p : Nat × Nat => Value.slice (some ⟨p.1, 0, none⟩) n p.2) (fun _ => rfl)
theorem KQ_sz (N : Nat) : 0 < (KQ N).sz := Nat.zero_lt_one
theorem KP_sz (N : Nat) : 0 < (KP N).sz := Nat.zero_lt_one
theorem infoSB : (Tryd.prog.info? 73).map (fun i => (i.zero, i.size, i.bytes)) = some (some (.slice none 0 0), 1, 24) := by kernel_rfl
theorem infoSSB : (Tryd.prog.info? 74).map (fun i => (i.zero, i.size, i.bytes)) = some (some (.slice none 0 0), 1, 24) := by kernel_rfl
/-- One row of rows while it is made. -/
structure InR (wo : World) (N : Nat) (u : Value) (qs : List Nat) (wr : World) : Prop where
  bel : Below wo.heap.size wo wr
  own : (KQ N).R 73 wr wo.heap.size (fun _ => True) u qs
  leaf : ∀ j, j < qs.length → Row wr (qs.getD j 0) N (fun _ => .bool false) ∧ wo.heap.size ≤ qs.getD j 0 ∧ u.ownBlock ≠ some (qs.getD j 0)
  inj : ∀ j j', j < qs.length → j' < qs.length → qs.getD j 0 = qs.getD j' 0 → j = j'
theorem getD_snoc_lt {α : Type} (l : List α) (x d : α) (j : Nat) (h : j < l.length) : (l ++ [x]).getD j d = l.getD j d := by simp [List.getD, List.getElem?_append_left h]
theorem getD_snoc_last {α : Type} (l : List α) (x d : α) : (l ++ [x]).getD l.length d = x := by simp [List.getD]
theorem InR.step {wo wr w3 w5 : World} {N : Nat} {u u1 : Value} {qs : List Nat} (h : InR wo N u qs wr) (hb3 : Below wr.heap.size wr w3) (hrow : Row w3 wr.heap.size N (fun _ => .bool false)) (ho : (KQ N).R 73 w5 wo.heap.size (fun _ => True) u1 (qs ++ [wr.heap.size])) (hb : Below wo.heap.size wo w5) (hg : w3.grownBy w5 u.ownBlock) (hat : u1.ownBlock = u.ownBlock ∨ ∃ b, u1.ownBlock = some b ∧ w3.heap.size ≤ b) : InR wo N u1 (qs ++ [wr.heap.size]) w5 := by
  have hold : ∀ k, k < w3.heap.size → some k ≠ u.ownBlock → u1.ownBlock ≠ some k := by
    intro k hk hne e
    rcases hat with e1 | ⟨b, e1, hb⟩
    · exact hne (by rw [← e1, e])
    · rw [e1] at e; injection e with e; omega
  have hnew : some wr.heap.size ≠ u.ownBlock := fun e => absurd (Kd.R_lt h.own _ e.symm) (Nat.lt_irrefl _)
  have hlt : ∀ j, j < qs.length → qs.getD j 0 < wr.heap.size := fun j hj => (h.leaf j hj).1.lt
  have hgd := getD_snoc_lt qs wr.heap.size 0
  have hgl := getD_snoc_last qs wr.heap.size 0
  refine ⟨hb, ho, fun j hj => ?_, fun j j' hj hj' he => ?_⟩
  · rw [List.length_append, List.length_singleton] at hj
    rcases Nat.lt_or_ge j qs.length with hj' | hj'
    · rw [hgd j hj']
      obtain ⟨r1, r2, r3⟩ := h.leaf j hj'
      have r4 := r1.below hb3
      exact ⟨r4.block (hg.block _ r4.lt (fun e => r3 e.symm)) hg.size, r2, hold _ r4.lt (fun e => r3 e.symm)⟩
    · obtain rfl : j = qs.length := by omega
      rw [hgl]
      exact ⟨hrow.block (hg.block _ hrow.lt hnew) hg.size, h.bel.size, hold _ hrow.lt hnew⟩
  · rw [List.length_append, List.length_singleton] at hj hj'
    rcases Nat.lt_or_ge j qs.length with a | a <;> rcases Nat.lt_or_ge j' qs.length with a' | a'
    · rw [hgd j a, hgd j' a'] at he; exact h.inj j j' a a' he
    · obtain rfl : j' = qs.length := by omega
      rw [hgd j a, hgl] at he; have := hlt j a; omega
    · obtain rfl : j = qs.length := by omega
      rw [hgd j' a', hgl] at he; have := hlt j' a'; omega
    · omega
theorem InR.done {wo wr : World} {N n : Nat} {u : Value} {qs : List Nat} (h : InR wo N u qs wr) (hq : qs.length = n + 1) :
    ∃ P cap, u = .slice (some ⟨P, 0, none⟩) (n + 1) cap ∧ n + 1 ≤ cap ∧ wo.heap.size ≤ P ∧ P < wr.heap.size ∧ (∀ j, j ≤ n → wr.cell? ⟨P, j, none⟩ = some (.slice (some ⟨qs.getD j 0, 0, none⟩) N N)) ∧ ∀ j, j ≤ n → qs.getD j 0 ≠ P := by
  obtain ⟨P, cap, rfl, k1, k2, -⟩ := Kd.R_form h.own (by omega)
  obtain ⟨-, k3, -⟩ := Kd.R_reads' h.own
  refine ⟨P, cap, by rw [hq], by omega, k1, k2, fun j hj => ?_, fun j hj e => (h.leaf j (by omega)).2.2 (by rw [e]; rfl)⟩
  have := (Kd.R_celln 0 h.own (j : Int) (by omega) (by omega)).1
  rw [Int.toNat_natCast] at this
  rw [this]
  simp [rdOf, List.getD]
/-- The document's chart while its first rows are made. -/
structure PreR (w0 : World) (tk : List Int) (N b : Nat) (v : Value) (ps : List (Nat × Nat)) (Q : Nat → Nat → Nat) (w : World) : Prop where
  bel : Below w0.heap.size w0 w
  toks : ∃ At ct, tk.length ≤ ct ∧ Kd.C (Kd.int .i64) w0 At tk.length tk ∧ w.cell? ⟨b, 4, none⟩ = some (.slice At tk.length ct)
  head : w.cell? ⟨b, 5, none⟩ = some v
  frz : w.frozen? ⟨b, 5, none⟩ = false
  own : (KP (tk.length + 1)).R 74 w w0.heap.size (fun k => k ≠ b) v ps
  mid : ∀ i j, i < ps.length → j ≤ tk.length → w.cell? ⟨(ps.getD i (0, 0)).1, j, none⟩ = some (.slice (some ⟨Q i j, 0, none⟩) N N)
  cap : ∀ i, i < ps.length → tk.length + 1 ≤ (ps.getD i (0, 0)).2
  leaf : ∀ i j, i < ps.length → j ≤ tk.length → Row w (Q i j) N (fun _ => .bool false)
  hb : w0.heap.size ≤ b
  farP : ∀ i, i < ps.length → v.ownBlock ≠ some (ps.getD i (0, 0)).1 ∧ (ps.getD i (0, 0)).1 ≠ b ∧ w0.heap.size ≤ (ps.getD i (0, 0)).1
  farQ : ∀ i j, i < ps.length → j ≤ tk.length → v.ownBlock ≠ some (Q i j) ∧ w0.heap.size ≤ Q i j ∧ Q i j ≠ b ∧ ∀ i', i' < ps.length → Q i j ≠ (ps.getD i' (0, 0)).1
  inj : ∀ i j i' j', i < ps.length → j ≤ tk.length → i' < ps.length → j' ≤ tk.length → Q i j = Q i' j' → i = i' ∧ j = j'
theorem PreR.below {w0 w w' : World} {tk : List Int} {N b : Nat} {v : Value} {ps : List (Nat × Nat)} {Q : Nat → Nat → Nat} (h : PreR w0 tk N b v ps Q w) (hb : Below w.heap.size w w') : PreR w0 tk N b v ps Q w' := by
  obtain ⟨At, ct, p1, p2, p3⟩ := h.toks
  have hk : ∀ a v, w.cell? a = some v → w'.cell? a = some v := fun a v hv => (hb.cell (World.block_lt_of_cell? w _ hv)).trans hv
  exact ⟨below_next h.bel hb, ⟨At, ct, p1, p2, hk _ _ p3⟩, hk _ _ h.head, (hb.frozen (p := ⟨b, 5, none⟩) (World.block_lt_of_cell? w _ h.head)).trans h.frz, Kd.R_below h.own hb, fun i j hi hj => hk _ _ (h.mid i j hi hj), h.cap, fun i j hi hj => (h.leaf i j hi hj).below hb, h.hb, h.farP, h.farQ, h.inj⟩
theorem PreR.step {w0 wo wr w5 : World} {tk : List Int} {N b : Nat} {v u v1 : Value} {ps : List (Nat × Nat)} {Q : Nat → Nat → Nat} {qs : List Nat} {P cap : Nat}
    (h : PreR w0 tk N b v ps Q wo) (hi : InR wo N u qs wr) (hq : qs.length = tk.length + 1) (hu : u = .slice (some ⟨P, 0, none⟩) (tk.length + 1) cap)
    (ho : (KP (tk.length + 1)).R 74 w5 w0.heap.size (fun k => k ≠ b) v1 (ps ++ [(P, cap)])) (hb : Below w0.heap.size w0 w5) (hg : wr.grownBy w5 v.ownBlock) (hat : v1.ownBlock = v.ownBlock ∨ ∃ b, v1.ownBlock = some b ∧ wr.heap.size ≤ b) :
    PreR w0 tk N b v1 (ps ++ [(P, cap)]) (fun i j => if i = ps.length then qs.getD j 0 else Q i j) (w5.setCell ⟨b, 5, none⟩ v1) := by
  obtain ⟨P', cap', hu', d1, d2, d3, d4, d5⟩ := hi.done hq
  rw [hu] at hu'
  injection hu' with e1 _ e2
  injection e1 with e1
  injection e1 with e1
  subst e1 e2
  have hr := h.below hi.bel
  have hblt0 : b < wo.heap.size := World.block_lt_of_cell? wo _ h.head
  have hblt : b < wr.heap.size := World.block_lt_of_cell? wr _ hr.head
  have hvb : some b ≠ v.ownBlock := fun e => h.own.1 b e.symm rfl
  have hvlt : ∀ k, v.ownBlock = some k → k < wo.heap.size := Kd.R_lt h.own
  have hws : wo.heap.size ≤ wr.heap.size := hi.bel.size
  have hold : ∀ k, k < wr.heap.size → some k ≠ v.ownBlock → v1.ownBlock ≠ some k := by
    intro k hk hne e
    rcases hat with e1 | ⟨b, e1, hb⟩
    · exact hne (by rw [← e1, e])
    · rw [e1] at e; injection e with e; omega
  have hk : ∀ k, k < wr.heap.size → some k ≠ v.ownBlock → k ≠ b → (w5.setCell ⟨b, 5, none⟩ v1).heap[k]? = wr.heap[k]? := fun k hk hne hkb => (Below.heap_setCell w5 ⟨b, 5, none⟩ v1 k hkb).trans (hg.block k hk hne)
  have hkb : w5.heap[b]? = wr.heap[b]? := hg.block b hblt hvb
  have hsz : wr.heap.size ≤ (w5.setCell ⟨b, 5, none⟩ v1).heap.size := by rw [World.size_setCell]; exact hg.size
  obtain ⟨At, ct, p1, p2, p3⟩ := hr.toks
  have hPv : some P ≠ v.ownBlock := fun e => by have := hvlt P e.symm; omega
  have hPb : P ≠ b := by omega
  have hQlt : ∀ j, j ≤ tk.length → qs.getD j 0 < wr.heap.size ∧ wo.heap.size ≤ qs.getD j 0 := fun j hj => ⟨(hi.leaf j (by omega)).1.lt, (hi.leaf j (by omega)).2.1⟩
  have hQv : ∀ j, j ≤ tk.length → some (qs.getD j 0) ≠ v.ownBlock := fun j hj e => by have := hvlt _ e.symm; have := hQlt j hj; omega
  have hs0 : w0.heap.size ≤ wo.heap.size := h.bel.size
  have hPold : ∀ i, i < ps.length → (ps.getD i (0, 0)).1 < wo.heap.size := fun i hi => World.block_lt_of_cell? wo _ (h.mid i 0 hi (by omega))
  have hQold : ∀ i j, i < ps.length → j ≤ tk.length → Q i j < wo.heap.size := fun i j hi hj => (h.leaf i j hi hj).lt
  have hgd := getD_snoc_lt ps (P, cap) (0, 0)
  have hgl := getD_snoc_last ps (P, cap) (0, 0)
  have hc4 : w5.cell? ⟨b, 4, none⟩ = wr.cell? ⟨b, 4, none⟩ := World.cell?_of_block hkb
  have hc5 : w5.cell? ⟨b, 5, none⟩ = wr.cell? ⟨b, 5, none⟩ := World.cell?_of_block hkb
  have hf5 : w5.frozen? ⟨b, 5, none⟩ = wr.frozen? ⟨b, 5, none⟩ := World.frozen?_of_block hkb
  refine ⟨hb.setCell h.hb _, ⟨At, ct, p1, p2, ?_⟩, World.cell?_setCell_same w5 _ v1 (hc5.trans hr.head), by rw [World.frozen?_setCell, hf5]; exact hr.frz, Kd.R_far ho (fun k hk => hk) _, ?_, ?_, ?_, h.hb, ?_, ?_, ?_⟩
  · rw [World.cell?_setCell_other w5 _ _ _ (fun e => by injection e with _ e _; omega), hc4]; exact p3
  · intro i j hi' hj
    rw [List.length_append, List.length_singleton] at hi'
    by_cases e : i = ps.length
    · subst e
      rw [hgl, if_pos rfl]
      exact (World.cell?_of_block (w := wr) (a := ⟨P, j, none⟩) (hk P d3 hPv hPb)).trans (d4 j hj)
    · have hi2 : i < ps.length := by omega
      rw [hgd i hi2, if_neg e]
      obtain ⟨f1, f2, f3⟩ := h.farP i hi2
      exact (World.cell?_of_block (w := wr) (a := ⟨(ps.getD i (0, 0)).1, j, none⟩) (hk (ps.getD i (0, 0)).1 (by have := hPold i hi2; omega) (fun e => f1 e.symm) f2)).trans (hr.mid i j hi2 hj)
  · intro i hi'
    rw [List.length_append, List.length_singleton] at hi'
    by_cases e : i = ps.length
    · subst e; rw [hgl]; exact d1
    · rw [hgd i (by omega)]; exact h.cap i (by omega)
  · intro i j hi' hj
    rw [List.length_append, List.length_singleton] at hi'
    by_cases e : i = ps.length
    · subst e
      simp only [if_true]
      have hq' := hQlt j hj
      exact (hi.leaf j (by omega)).1.block (hk _ hq'.1 (hQv j hj) (by omega)) hsz
    · have hi2 : i < ps.length := by omega
      simp only [e, if_false]
      obtain ⟨f1, f2, f3, f4⟩ := h.farQ i j hi2 hj
      exact (hr.leaf i j hi2 hj).block (hk _ (by have := hQold i j hi2 hj; omega) (fun e => f1 e.symm) f3) hsz
  · intro i hi'
    rw [List.length_append, List.length_singleton] at hi'
    by_cases e : i = ps.length
    · subst e; rw [hgl]; exact ⟨hold P d3 hPv, hPb, by show w0.heap.size ≤ P; omega⟩
    · have hi2 : i < ps.length := by omega
      rw [hgd i hi2]
      obtain ⟨f1, f2, f3⟩ := h.farP i hi2
      exact ⟨hold _ (by have := hPold i hi2; omega) (fun e => f1 e.symm), f2, f3⟩
  · intro i j hi' hj
    rw [List.length_append, List.length_singleton] at hi'
    by_cases e : i = ps.length
    · subst e
      simp only [if_true]
      have hq' := hQlt j hj
      refine ⟨hold _ hq'.1 (hQv j hj), by omega, by omega, fun i' hi2 => ?_⟩
      rw [List.length_append, List.length_singleton] at hi2
      by_cases e2 : i' = ps.length
      · subst e2; rw [hgl]; exact d5 j hj
      · rw [hgd i' (by omega)]; have := hPold i' (by omega); omega
    · have hi2 : i < ps.length := by omega
      simp only [e, if_false]
      obtain ⟨f1, f2, f3, f4⟩ := h.farQ i j hi2 hj
      have hq' := hQold i j hi2 hj
      refine ⟨hold _ (by omega) (fun e => f1 e.symm), f2, f3, fun i' hi3 => ?_⟩
      rw [List.length_append, List.length_singleton] at hi3
      by_cases e2 : i' = ps.length
      · subst e2; rw [hgl]; show Q i j ≠ P; omega
      · rw [hgd i' (by omega)]; exact f4 i' (by omega)
  · intro i j i' j' hi1 hj hi2 hj' he
    rw [List.length_append, List.length_singleton] at hi1 hi2
    by_cases e : i = ps.length
    · by_cases e2 : i' = ps.length
      · subst e e2
        simp only [if_true] at he
        exact ⟨rfl, hi.inj j j' (by omega) (by omega) he⟩
      · simp only [e, e2, if_true, if_false] at he
        have := hQold i' j' (by omega) hj'
        have := hQlt j hj
        omega
    · by_cases e2 : i' = ps.length
      · simp only [e, e2, if_true, if_false] at he
        have := hQold i j (by omega) hj
        have := hQlt j' hj'
        omega
      · simp only [e, e2, if_false] at he
        exact h.inj i j i' j' (by omega) hj (by omega) hj' he
theorem PreR.done {w0 w : World} {tk : List Int} {N b : Nat} {v : Value} {ps : List (Nat × Nat)} {Q : Nat → Nat → Nat} (h : PreR w0 tk N b v ps Q w) (hp : ps.length = tk.length + 1) :
    ∃ O cO P cP, RChart w0 tk N b O cO P cP Q (fun _ _ _ => false) w := by
  have hown := h.own
  obtain ⟨O, cO, hv, k1, k2, -⟩ := Kd.R_form h.own (by omega)
  subst hv
  obtain ⟨-, k3, -⟩ := Kd.R_reads' hown
  refine ⟨O, cO, fun i => (ps.getD i (0, 0)).1, fun i => (ps.getD i (0, 0)).2, h.bel, h.toks, by rw [← hp]; exact h.head, fun i hi => ?_, fun i j hi hj => h.mid i j (by omega) hj, fun i j hi hj => h.leaf i j (by omega) hj, by omega, fun i hi => h.cap i (by omega), h.hb, fun i j hi hj => ?_, fun i j i' j' hi hj hi' hj' => h.inj i j i' j' (by omega) hj (by omega) hj'⟩
  · have := (Kd.R_celln (0, 0) h.own (i : Int) (by omega) (by omega)).1
    rw [Int.toNat_natCast] at this
    rw [this]
    simp [rdOf, List.getD]
  · obtain ⟨f1, f2, f3, f4⟩ := h.farQ i j (by omega) hj
    exact ⟨f2, f3, fun e => f1 (by rw [e]; rfl), fun i' hi' => f4 i' (by omega)⟩
end Go.Proofs.YtndimnomkcjeiaaDoor.Hand
