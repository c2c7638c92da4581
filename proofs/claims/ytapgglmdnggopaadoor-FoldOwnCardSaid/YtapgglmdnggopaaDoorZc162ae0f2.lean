/- The texts that the statement's proof stands on, part 3: XWalk XKnown18 XTrM XTrAt XTree XRKn. -/
import Derived.Test.YtapgglmdnggopaaDoorZ97ecefebb
import Derived.Defers
import Derived.Recover
import Derived.Laws.Pointers
/- Contract: deriv.walk: all rules as one tree, or what is wrong. -/
namespace Go.Proofs.YtapgglmdnggopaaDoor.Hand
open Go.RowKit Go.Proofs.YtapgglmdnggopaaDoorW.PrintWords Go.Proofs.YtapgglmdnggopaaDoorW.PrintMore Go.Proofs.YtapgglmdnggopaaDoor.Math

theorem rep19 {α : Type} (x : α) : Array.replicate 19 x = #[x, x, x, x, x, x, x, x, x, x, x, x, x, x, x, x, x, x, x] := rfl
theorem ta_fault (v : Value) (w : World) : (Instr.typeAssert (.iface 187 v) 20 187 true).run Tryd.prog w = .ok (.tuple #[v, .bool true]) w := by kernel_rfl
theorem ta_nil (w : World) : (Instr.typeAssert .nilIface 20 187 true).run Tryd.prog w = .ok (.tuple #[.agg #[.nilIface], .bool false]) w := by kernel_rfl
set_option maxRecDepth 20000 in
theorem catch_panicking (p : Addr) (x : Value) (te : TypeId) (ue : Value) (older : List PanicEntry) (w : World) (hc : w.cell? p = some x) (hz : w.frozen? p = false) :
    CallsD Tryd.prog 99 #[.pointer (some p)] (.panicking ({ v := .iface 187 (.agg #[.iface te ue]), recovered := false } :: older)) w fun e u' w' =>
      e = .returned (.tuple #[]) ∧ u' = .panicking ({ v := .iface 187 (.agg #[.iface te ue]), recovered := true } :: older) ∧ ∃ w1, Below w.heap.size w w1 ∧ w' = w1.setCell p (.iface te ue) := by
  refine callsD_of_wpS Tryd.func99 rfl fun c₀ cs hu => ?_
  apply wpS_seq
  apply wpS_region
  simp [wpOpsS, go_sem, recoverD, hu, Tryd.ntmps99, Exit.thenS]
  refine wpS_of_wp ?_
  rw [rep19]
  simp only [List.setIfInBounds_toArray, List.set_cons_succ, List.set_cons_zero, List.append_toArray, List.cons_append, List.nil_append]
  have h1 := ta_fault
  have hpl := World.block_lt_of_cell? w _ hc
  have hc' : ∀ o, (w.alloc o).cell? p = some x := fun o => by rw [World.cell?_alloc_lt _ _ _ hpl]; exact hc
  have hz' : ∀ o, (w.alloc o).frozen? p = false := fun o => by rw [World.frozen?_alloc_old _ _ p (Nat.ne_of_lt hpl)]; exact hz
  go_wp2
  simp [bodyPostS, results, Tryd.results99, go_sem]
  exact ⟨_, below_alloc (Below.refl _ _) _, rfl⟩
set_option maxRecDepth 20000 in
theorem catch_idle (p : Addr) (w : World) :
    CallsD Tryd.prog 99 #[.pointer (some p)] .returning w fun e u' w' => e = .returned (.tuple #[]) ∧ u' = .returning ∧ Below w.heap.size w w' := by
  refine callsD_of_wpS Tryd.func99 rfl fun c₀ cs hu => ?_
  apply wpS_seq
  apply wpS_region
  simp [wpOpsS, go_sem, recoverD, hu, Tryd.ntmps99, Exit.thenS]
  refine wpS_of_wp ?_
  rw [rep19]
  simp only [List.setIfInBounds_toArray, List.set_cons_succ, List.set_cons_zero, List.append_toArray, List.cons_append, List.nil_append]
  have h1 := ta_nil
  go_wp2
  simp [bodyPostS, results, Tryd.results99, go_sem]
  exact ⟨.returning, by cases c₀; simp_all, rfl, below_alloc (Below.refl _ _) _⟩
/-- What walk leaves: the walker, or the error. -/
def WalkP (w0 : World) (gt gn gr : Value) (ax : Int) (rv : Value) (A : Nat → Addr) (res : Option DS) (e : Ending) (w' : World) : Prop :=
  match res with
  | some d => ∃ b i vt vk, e = .returned (.tuple #[.pointer (some ⟨b, 0, none⟩), .nilIface]) ∧ WkAt w0 w' b gt gn gr ax rv i d vt vk
  | none => ∃ v, e = .returned (.tuple #[v, .iface 219 (.pointer (some (A 10)))]) ∧ Below w0.heap.size w0 w'
theorem walkG_fin (G : List (Int × List Int)) (rs : List Int) (any : Bool) (nt : Int) (s : DS) : walkG (opsD inc64) G rs any nt s = (nodeG (opsD inc64) G rs rs.length any nt none 1 (0, s)).bind (fun st => if st.1 < rs.length then none else some st.2) := by
  unfold walkG
  cases nodeG (opsD inc64) G rs rs.length any nt none 1 (0, s) <;> rfl
theorem walkP_some {w0 : World} {gt gn gr : Value} {ax : Int} {rv : Value} {A : Nat → Addr} {res : Option DS} {w' : World} {b i : Nat} {d : DS} {vt vk : Value} (h : res = some d) (hw : WkAt w0 w' b gt gn gr ax rv i d vt vk) :
    WalkP w0 gt gn gr ax rv A res (.returned (.tuple #[.pointer (some ⟨b, 0, none⟩), .nilIface])) w' := by
  subst h; exact ⟨b, i, vt, vk, rfl, hw⟩
/-- The walker's memory, told over what was there before; a cell made meanwhile may be written. -/
theorem WkAt.outer {w w1 w3 : World} {b i : Nat} {gt gn gr rv vt vk : Value} {ax : Int} {d : DS} (h : WkAt w1 w3 b gt gn gr ax rv i d vt vk) (hb : Below w.heap.size w w1) (p : Addr) (hp1 : w.heap.size ≤ p.block) (hp2 : p.block < w1.heap.size) (u : Value) : WkAt w (w3.setCell p u) b gt gn gr ax rv i d vt vk := by
  have hbp : b ≠ p.block := by have := h.hb; omega
  refine ⟨by rw [Below.heap_setCell w3 p u b hbp]; exact h.blk, ?_, ?_, (below_next hb h.bel).setCell hp1 _, Nat.le_trans hb.size h.hb⟩
  · exact Kd.R_lower (Kd.R_mono (Kd.R_far (Kd.R_bound h.tr) (p := p) (fun k hk => by have := hk.2.1; omega) u) (fun k hk => hk.1)) hb.size
  · exact Kd.R_lower (Kd.R_mono (Kd.R_far (Kd.R_bound h.tk) (p := p) (fun k hk => by have := hk.2.1; omega) u) (fun k hk => hk.1)) hb.size
theorem walkP_none {w0 : World} {gt gn gr : Value} {ax : Int} {rv v : Value} {A : Nat → Addr} {res : Option DS} {w' : World} (h : res = none) (hb : Below w0.heap.size w0 w') :
    WalkP w0 gt gn gr ax rv A res (.returned (.tuple #[v, .iface 219 (.pointer (some (A 10)))])) w' := by
  subst h; exact ⟨v, rfl, hb⟩
set_option maxHeartbeats 2000000 in
set_option maxRecDepth 20000 in
theorem walk_calls (g : Gr) (AT AN AR Ar : Option Addr) (cT cN cR cr : Nat) (rs : List Int) (A : Nat → Addr) (any : Bool) (nt fr : Int) (w : World) (hI : WkIn w g AR rs Ar A) (_hlr : rs.length ≤ cr) :
    Calls Tryd.prog 86 #[.agg #[.slice AT g.terms.length cT, .slice AN g.nonterms.length cN, .int .i64 g.ax, .slice AR g.rules.length cR], .slice Ar rs.length cr, .int .i64 nt, .int .i64 fr, .bool any] w
      (WalkP w (.slice AT g.terms.length cT) (.slice AN g.nonterms.length cN) (.slice AR g.rules.length cR) g.ax (.slice Ar rs.length cr) A (walkG (opsD inc64) g.rules rs any nt ⟨fr, [], [], 0⟩)) := by
  have hmf : ∀ (fn : Fn) (first cap : Array Value) (w : World), (Instr.makeFunc fn first cap).run Tryd.prog w = .ok (.func fn first cap) w := fun _ _ _ _ => rfl
  have HI := Lib.hid hI
  obtain ⟨res, hres⟩ : ∃ r, walkG (opsD inc64) g.rules rs any nt ⟨fr, [], [], 0⟩ = r := ⟨_, rfl⟩
  rw [hres]
  rw [walkG_fin] at hres
  have HRes := Lib.hid hres
  clear hI hres
  go_enter_defers Tryd.func86, Tryd.ntmps86
  go_upto_region 3 with (fail)
  obtain ⟨w1, hw1⟩ : ∃ w1, (w.alloc (.cells #[.slice AT g.terms.length cT, .slice AN g.nonterms.length cN, .int .i64 g.ax, .slice AR g.rules.length cR] 25)).alloc (.cells #[.nilIface] 32) = w1 := ⟨_, rfl⟩
  have hs1 : w1.heap.size = w.heap.size + 1 + 1 := by rw [← hw1]; simp
  have hb1 : Below w.heap.size w w1 := by rw [← hw1]; exact below_alloc (below_alloc (Below.refl _ _) _) _
  have ce : w1.cell? ⟨w.heap.size + 1, 0, none⟩ = some .nilIface := by rw [← hw1]; simp [go_sem]
  have fe : w1.frozen? ⟨w.heap.size + 1, 0, none⟩ = false := by rw [← hw1]; simp [go_sem]
  rw [hw1]
  obtain ⟨w2, hw2⟩ : ∃ w2, w1.alloc (.cells #[.slice AT g.terms.length cT, .slice AN g.nonterms.length cN, .int .i64 g.ax, .slice AR g.rules.length cR, .slice Ar rs.length cr, .int .i64 0, .int .i64 fr, .slice none 0 0, .slice none 0 0, .int .i64 0] 121) = w2 := ⟨_, rfl⟩
  have h2 : WkAt w1 w2 (w.heap.size + 1 + 1) (.slice AT g.terms.length cT) (.slice AN g.nonterms.length cN) (.slice AR g.rules.length cR) g.ax (.slice Ar rs.length cr) 0 ⟨fr, [], [], 0⟩ (.slice none 0 0) (.slice none 0 0) :=
    ⟨by rw [← hw2, ← hs1]; exact heap_alloc_new w1 _, Kd.R_nil _ _ _ _ _, Kd.R_nil _ _ _ _ _, by rw [← hw2]; exact below_alloc (Below.refl _ _) _, by rw [hs1]; exact Nat.le_refl _⟩
  rw [hw2]
  have HE : Hid (∀ W, Below w1.heap.size w1 W → W.cell? ⟨w.heap.size + 1, 0, none⟩ = some .nilIface ∧ W.frozen? ⟨w.heap.size + 1, 0, none⟩ = false) := Lib.hid (fun W hW =>
    ⟨(hW.cell (World.block_lt_of_cell? _ _ ce)).trans ce, (World.frozen?_of_block (a := ⟨w.heap.size + 1, 0, none⟩) (hW.block _ (by show w.heap.size + 1 < w1.heap.size; omega))).trans fe⟩)
  have hI1 : WkIn w1 g AR rs Ar A := ⟨HI.out.err.below hb1, Kd.C_below HI.out.rules hb1, Kd.C_below HI.out.row hb1, HI.out.len, HI.out.short, HI.out.syms, HI.out.ne, HI.out.few⟩
  obtain ⟨rN, hrN⟩ : ∃ r, nodeG (opsD inc64) g.rules rs rs.length any nt none 1 (0, ⟨fr, [], [], 0⟩) = r := ⟨_, rfl⟩
  have hc := node_calls w1 (w.heap.size + 1 + 1) g (.slice AT g.terms.length cT) (.slice AN g.nonterms.length cN) AR Ar cR cr rs A hI1 rs.length any nt none 1 0 ⟨fr, [], [], 0⟩ _ _ w2 (by omega) (by omega) (Nat.le_refl _) rfl (Nat.le_refl _) (Nat.zero_le _) h2
  rw [hrN] at hc
  rw [hrN] at HRes
  have HC := Lib.hid hc
  have HB1 := Lib.hid hb1
  have HrN := Lib.hid hrN
  have HE10 : Hid (∀ W, Below w1.heap.size w1 W → W.cell? ⟨10, 0, none⟩ = some (.iface 219 (.pointer (some (A 10))))) := Lib.hid (fun W hb => (hI1.err.below hb).cells 10 (by omega))
  have hlen := HI.out.len
  clear hw1 hw2 hs1 ce fe h2 hI1 hc hb1 hrN
  cases rN with
  | none =>
    go_wp2_with (go_at_call 100; refine HC.out.mono ?_; rintro e w3 ⟨rfl, hb3⟩; have HB3 := Lib.hid hb3; clear hb3)
    change Leaves _ _ _ _ _ _ _
    refine leaves_cons (f := 99) (args := #[.pointer (some ⟨w.heap.size + 1, 0, none⟩)]) (by simp) (by simp [go_sem]) ?_
    refine (catch_panicking ⟨w.heap.size + 1, 0, none⟩ .nilIface _ _ [] _ (HE.out _ HB3.out).1 (HE.out _ HB3.out).2).mono ?_
    rintro e u' w'' ⟨rfl, rfl, w5, hb5, rfl⟩
    have hc5 := (HE.out w5 (below_next HB3.out hb5)).1
    have hcs := World.cell?_setCell_same (w := w5) (a := ⟨w.heap.size + 1, 0, none⟩) (v := .iface 219 (.pointer (some (A 10)))) hc5
    simp [Leaves, settle, results, Tryd.results86, go_sem, hcs]
    exact walkP_none (by rw [HRes.out.symm]; rfl) ((below_next (below_next HB1.out HB3.out) hb5).setCell (Nat.le_succ _) _)
  | some st =>
    obtain ⟨i2, d2⟩ := st
    have hi2 : i2 ≤ rs.length := (kin_len HrN.out).2
    by_cases hlt : i2 < rs.length
    · have HF : Hid (res = none) := Lib.hid (by rw [HRes.out.symm]; simp [hlt])
      have hl1 : decide ((i2 : Int) < (rs.length : Int)) = true := decide_eq_true (by omega)
      have hl2 : decide (i2 < rs.length) = true := decide_eq_true hlt
      go_upto_region 5 with (go_at_call 100; refine HC.out.mono ?_; rintro e w3 ⟨rfl, vt, vk, h3⟩; have H3 := Lib.hid h3; have c5 : w3.cell? ⟨w.heap.size + 1 + 1, 5, none⟩ = some (.int .i64 (i2 : Int)) := h3.c5; clear h3)
      have D0 : Hid (∀ n, (w3.drewN n).cell? ⟨10, 0, none⟩ = some (.iface 219 (.pointer (some (A 10))))) := Lib.hid (fun n => HE10.out _ (pw_below_drewN H3.out.bel n))
      have d0 := HE10.out _ H3.out.bel
      have hg2 : 10 < w.heap.size := World.block_lt_of_cell? w _ (HI.out.err.cells 10 (by omega))
      have D1 : Hid ((w3.setCell ⟨w.heap.size + 1, 0, none⟩ (.iface 219 (.pointer (some (A 10))))).drew.cell? ⟨10, 0, none⟩ = some (.iface 219 (.pointer (some (A 10))))) := Lib.hid (by
        rw [World.cell?_drew, World.cell?_setCell_other _ _ _ _ (by intro e; injection e with e _; omega)]; exact d0)
      have ce3 := (HE.out _ H3.out.bel).1
      have fe3 := (HE.out _ H3.out.bel).2
      go_region_held3 (fun w' => w'.cell? ⟨10, 0, none⟩ = some (.iface 219 (.pointer (some (A 10)))))
        (first
          | exact D1.out
          | exact D0.out 1
          | exact d0)
        (fail)
      have hcs := World.cell?_setCell_same (w := w3) (a := ⟨w.heap.size + 1, 0, none⟩) (v := .iface 219 (.pointer (some (A 10)))) ce3
      go_wp2
      change Leaves _ _ _ _ _ _ _
      refine leaves_cons (f := 99) (args := #[.pointer (some ⟨w.heap.size + 1, 0, none⟩)]) (by simp) (by simp [go_sem]) ?_
      refine (catch_idle ⟨w.heap.size + 1, 0, none⟩ _).mono ?_
      rintro e u' w'' ⟨rfl, rfl, hb⟩
      have hb2 := (below_drew (Below.refl (w3.setCell ⟨w.heap.size + 1, 0, none⟩ (.iface 219 (.pointer (some (A 10))))).heap.size (w3.setCell ⟨w.heap.size + 1, 0, none⟩ (.iface 219 (.pointer (some (A 10))))))).trans hb
      have hcs2 := (hb2.cell (World.block_lt_of_cell? _ _ hcs)).trans hcs
      simp [Leaves, settle, results, Tryd.results86, go_sem, hcs2]
      exact walkP_none HF.out (below_next ((below_next HB1.out H3.out.bel).setCell (Nat.le_succ _) _) hb2)
    · have HF : Hid (res = some d2) := Lib.hid (by rw [HRes.out.symm]; simp [hlt])
      have hl1 : decide ((i2 : Int) < (rs.length : Int)) = false := decide_eq_false (by omega)
      have hl2 : decide (i2 < rs.length) = false := decide_eq_false hlt
      go_wp2_with (go_at_call 100; refine HC.out.mono ?_; rintro e w3 ⟨rfl, vt, vk, h3⟩; have H3 := Lib.hid h3; have c5 : w3.cell? ⟨w.heap.size + 1 + 1, 5, none⟩ = some (.int .i64 (i2 : Int)) := h3.c5; have ce3 := (HE.out _ h3.bel).1; have fe3 := (HE.out _ h3.bel).2; clear h3)
      have hcs := World.cell?_setCell_same (w := w3) (a := ⟨w.heap.size + 1, 0, none⟩) (v := .nilIface) ce3
      change Leaves _ _ _ _ _ _ _
      refine leaves_cons (f := 99) (args := #[.pointer (some ⟨w.heap.size + 1, 0, none⟩)]) (by simp) (by simp [go_sem]) ?_
      refine (catch_idle ⟨w.heap.size + 1, 0, none⟩ _).mono ?_
      rintro e u' w'' ⟨rfl, rfl, hb⟩
      have hcs2 := (hb.cell (World.block_lt_of_cell? _ _ hcs)).trans hcs
      simp [Leaves, settle, results, Tryd.results86, go_sem, hcs2]
      exact walkP_some HF.out ((H3.out.outer HB1.out _ (Nat.le_succ _) (by have := World.block_lt_of_cell? _ _ (HE.out _ (Below.refl _ _)).1; exact this) _).below hb)
end Go.Proofs.YtapgglmdnggopaaDoor.Hand
/- Contract: deriv.known: a tree that is handed in. -/
namespace Go.Proofs.YtapgglmdnggopaaDoor.Hand
open Go.RowKit Go.Proofs.YtapgglmdnggopaaDoorW.PrintWords Go.Proofs.YtapgglmdnggopaaDoorW.PrintMore Go.Proofs.YtapgglmdnggopaaDoor.Math

/-- The walk of all rules from a place on. -/
def grownD (g : Gr) (rs : List Int) (any : Bool) (nt fr : Int) : Option DS := walkG (opsD inc64) g.rules rs any nt ⟨fr, [], [], 0⟩
/-- A known tree's walk. -/
def treeD (g : Gr) (t : List (Int × Int × Int)) : Option DS := grownD g (t.map (·.1)) true 0 (t.getD 0 (0, 0, 0)).2.1
/-- What is wrong with a tree that is handed in: the error and the rule. -/
noncomputable def knownE (g : Gr) (t : List (Int × Int × Int)) : Nat × Int :=
  if (dmayN g t.length).1 ≠ 0 then dmayN g t.length
  else if t = [] ∨ (t.getD 0 (0, 0, 0)).2.1 < 0 ∨ (t.getD 0 (0, 0, 0)).2.2 < (t.getD 0 (0, 0, 0)).2.1 then (11, -1)
  else match treeD g t with
    | none => (11, -1)
    | some d => if d.tree = t then (0, -1) else (11, -1)
theorem knownE_ge (g : Gr) (t : List (Int × Int × Int)) : -1 ≤ (knownE g t).2 := by
  unfold knownE
  split
  · exact dmayN_ge _ _
  · split
    · exact Int.le_refl _
    · split
      · exact Int.le_refl _
      · split <;> exact Int.le_refl _
structure MayIs (g : Gr) (n : Nat) : Prop where
  right : RightIs g
  ne : ∀ r ∈ g.rules, r.2 ≠ []
  len : n ≤ 131072
  eq : dmayN g n = (0, -1)
theorem dmayN_zero {g : Gr} {n : Nat} (h : (dmayN g n).1 = 0) : MayIs g n := by
  unfold dmayN at h
  split at h
  · rename_i h0; exact absurd h h0
  · split at h
    · cases h
    · split at h
      · cases h
      · rename_i h0 h1 h2
        exact ⟨checkN_zero (by omega), firstEmpty_ne 0 (by omega), by omega, by unfold dmayN; rw [if_neg h0, if_neg h1, if_neg h2]⟩
theorem sym_bound {t n : Nat} {r : Int × List Int} (h : Hand.ruleN t n r = 0) (hn : t + n ≤ 60) : ∀ s ∈ r.2, -100 ≤ s ∧ s ≤ 100 := by
  intro s hs
  unfold Hand.ruleN at h
  split at h
  · cases h
  · split at h
    · cases h
    · rename_i h1 h2
      have h3 : ¬ r.2.any (symBad t n) = true := fun h => h2 (.inr (.inr h))
      rw [List.any_eq_true] at h3
      have h4 : ¬ symBad t n s = true := fun h => h3 ⟨s, hs, h⟩
      unfold symBad at h4
      simp at h4
      omega
theorem MayIs.walk {g : Gr} {n : Nat} (h : MayIs g n) {w : World} {AR Ar : Option Addr} {rs : List Int} {A : Nat → Addr} (hE : Errs w A) (hR : KRule.C w AR g.rules.length g.rules) (hr : (Kd.int .i64).C w Ar rs.length rs) (hl : rs.length ≤ 200000) : WkIn w g AR rs Ar A :=
  ⟨hE, hR, hr, hl, fun r hr => ruleN_len (h.right.ruleN r hr), fun r hr => sym_bound (h.right.ruleN r hr) h.right.size, h.ne, h.right.rules⟩
theorem MayIs.lefts {g : Gr} {n : Nat} (h : MayIs g n) : ∀ r ∈ g.rules, 0 ≤ r.1 ∧ r.1 ≤ 100 := by
  intro r hr
  have h1 := h.right.ruleN r hr
  have h2 := h.right.size
  unfold Hand.ruleN at h1
  split at h1
  · cases h1
  · split at h1
    · cases h1
    · rename_i h3 h4
      have h5 : ¬ r.1 < 0 := fun h => h4 (.inl h)
      have h6 : ¬ (g.nonterms.length : Int) ≤ r.1 := fun h => h4 (.inr (.inl h))
      omega
/-- A row of numbers that is being made. -/
structure IRow (wb : World) (u : Value) (p : List Int) (wr : World) : Prop where
  own : (Kd.int .i64).R 3 wr wb.heap.size (fun _ => True) u p
  bel : Below wb.heap.size wb wr
theorem IRow.below {wb w w' : World} {u : Value} {p : List Int} (h : IRow wb u p w) (hb : Below w.heap.size w w') : IRow wb u p w' := ⟨Kd.R_below h.own hb, below_next h.bel hb⟩
theorem WkAt.lower {w w1 w3 : World} {b i : Nat} {gt gn gr rv vt vk : Value} {ax : Int} {d : DS} (h : WkAt w1 w3 b gt gn gr ax rv i d vt vk) (hb : Below w.heap.size w w1) : WkAt w w3 b gt gn gr ax rv i d vt vk :=
  ⟨h.blk, Kd.R_lower h.tr hb.size, Kd.R_lower h.tk hb.size, below_next hb h.bel, Nat.le_trans hb.size h.hb⟩
/-- What known leaves. -/
def KnownP (w : World) (g : Gr) (t : List (Int × Int × Int)) (A : Nat → Addr) (e : Ending) (w' : World) : Prop :=
  (∃ b gt gn gr ax rv i d vt vk, knownE g t = (0, -1) ∧ treeD g t = some d ∧ d.tree = t ∧ e = .returned (.tuple #[.pointer (some ⟨b, 0, none⟩), .nilIface]) ∧ WkAt w w' b gt gn gr ax rv i d vt vk ∧ (Kd.int .i64).R 3 w' w.heap.size (fun _ => True) rv (t.map (·.1))) ∨
  (∃ u, (knownE g t).1 ≠ 0 ∧ e = .returned (.tuple #[.pointer none, u]) ∧ ErrV w' A u (knownE g t).1 (knownE g t).2 ∧ Below w.heap.size w w')
set_option maxHeartbeats 4000000 in
set_option maxRecDepth 20000 in
theorem known_calls (v : Value) (g : Gr) (tA : Option Addr) (tc : Nat) (t : List (Int × Int × Int)) (w : World) (A : Nat → Addr) (hE : Errs w A) (hv : GramAt w v g) (ht : KStep.C w tA t.length t) (htc : t.length ≤ tc) :
    Calls Tryd.prog 69 #[v, .slice tA t.length tc] w (KnownP w g t A) := by
  have HV := Lib.hid hv
  obtain ⟨AT, cT, AN, cN, AR, cR, rfl, q1, q2, q3, q4, q5, q6⟩ := hv
  have l1 := q4.2.1
  have l2 := q5.2.1
  have l3 := q6.2.1
  have l4 := ht.2.1
  obtain ⟨w1, hw1⟩ : ∃ w1, w.alloc (.cells #[.slice AT g.terms.length cT, .slice AN g.nonterms.length cN, .int .i64 g.ax, .slice AR g.rules.length cR] 25) = w1 := ⟨_, rfl⟩
  have hb1 : Below w.heap.size w w1 := by rw [← hw1]; exact below_alloc (Below.refl _ _) _
  have hk1 : w1.heap[w.heap.size]? = some (.cells #[.slice AT g.terms.length cT, .slice AN g.nonterms.length cN, .int .i64 g.ax, .slice AR g.rules.length cR] 25 (0, 0)) := by rw [← hw1]; exact heap_alloc_new w _
  obtain ⟨c0, c1, c2, c3⟩ := gr_blk hk1
  have HB1 := Lib.hid hb1
  have HK1 := Lib.hid hk1
  have HE := Lib.hid (hE.below hb1)
  have HC := Lib.hid (may_calls _ g t.length w1 A (hE.below hb1) (HV.out.below hb1))
  have HT := Lib.hid (Kd.C_below ht hb1)
  have HR := Lib.hid (Kd.C_below q6 hb1)
  have HE10 : Hid (∀ W, Below w1.heap.size w1 W → W.cell? ⟨10, 0, none⟩ = some (.iface 219 (.pointer (some (A 10))))) := Lib.hid (fun W hb => (HE.out.below hb).cells 10 (by omega))
  clear hb1 hk1 hE q4 q5 q6 ht
  by_cases h0 : (dmayN g t.length).1 = 0
  · have hm := dmayN_zero h0
    rw [hm.eq] at HC
    have HM := Lib.hid hm
    have h131 := hm.len
    clear hm
    by_cases h1 : t = [] ∨ (t.getD 0 (0, 0, 0)).2.1 < 0 ∨ (t.getD 0 (0, 0, 0)).2.2 < (t.getD 0 (0, 0, 0)).2.1
    · have H : Hid (knownE g t = (11, -1)) := Lib.hid (by unfold knownE; rw [if_neg (by simp [h0]), if_pos h1])
      by_cases hnil : t = []
      · subst hnil
        clear h1 h0
        go_enter Tryd.func69, Tryd.ntmps69
        go_upto_region 4 with (go_at_call 85; refine HC.out.mono ?_; rintro e w2 ⟨u, rfl, hu, hb2⟩; obtain rfl : u = .nilIface := (by cases hu; rfl); have HB2 := Lib.hid hb2; clear hb2 hu)
        go_quiet (fail)
        rename Nat => q1'
        have e10 := HE10.out _ (pw_below_drewN HB2.out q1')
        have hb9 := pw_below_drewN HB2.out q1'
        have HB9 := Lib.hid hb9
        obtain ⟨w9, hw9⟩ : ∃ w9, w2.drewN q1' = w9 := ⟨_, rfl⟩
        rw [hw9] at e10 HB9 ⊢
        clear hw9 hb9
        go_wp2
        go_quiet (fail)
        go_wp2
        go_ret2
        exact .inr ⟨_, by rw [H.out]; decide, rfl, by rw [H.out]; exact .sent 10 (by omega), below_next HB1.out (pw_below_drewN HB9.out _)⟩
      · have hpos : 0 < t.length := List.length_pos_iff.2 hnil
        obtain ⟨ta, x0, y0, z0, rfl, k0, k1, k2, HX⟩ := at_step HT.out 0 hpos
        rw [HX.out] at h1
        simp only [Nat.zero_mul, addr_zero] at k0 k1 k2
        have hl0 : ((t.length : Int) == 0) = false := by rw [beq_eq_false_iff_ne]; omega
        by_cases hy : y0 < 0
        · have hy0 : decide (y0 < 0) = true := decide_eq_true hy
          clear h0 h1 hnil k0
          go_enter Tryd.func69, Tryd.ntmps69
          go_upto_region 4 with (go_at_call 85; refine HC.out.mono ?_; rintro e w2 ⟨u, rfl, hu, hb2⟩; obtain rfl : u = .nilIface := (by cases hu; rfl); have HB2 := Lib.hid hb2; clear hb2 hu; have j1 := (HB2.out.cell (World.block_lt_of_cell? _ _ k1)).trans k1; have j2 := (HB2.out.cell (World.block_lt_of_cell? _ _ k2)).trans k2)
          go_quiet (fail)
          rename Nat => q1'
          have e10 := HE10.out _ (pw_below_drewN HB2.out q1')
          have hb9 := pw_below_drewN HB2.out q1'
          have HB9 := Lib.hid hb9
          obtain ⟨w9, hw9⟩ : ∃ w9, w2.drewN q1' = w9 := ⟨_, rfl⟩
          rw [hw9] at e10 HB9 ⊢
          clear hw9 hb9
          go_wp2
          go_quiet (fail)
          go_wp2
          go_ret2
          exact .inr ⟨_, by rw [H.out]; decide, rfl, by rw [H.out]; exact .sent 10 (by omega), below_next HB1.out (pw_below_drewN HB9.out _)⟩
        · have hz : z0 < y0 := by rcases h1 with h | h | h; exact absurd h hnil; exact absurd h hy; exact h
          have hy0 : decide (y0 < 0) = false := decide_eq_false hy
          have hz0 : decide (z0 < y0) = true := decide_eq_true hz
          clear h0 h1 hnil k0
          go_enter Tryd.func69, Tryd.ntmps69
          go_upto_region 4 with (go_at_call 85; refine HC.out.mono ?_; rintro e w2 ⟨u, rfl, hu, hb2⟩; obtain rfl : u = .nilIface := (by cases hu; rfl); have HB2 := Lib.hid hb2; clear hb2 hu; have j1 := (HB2.out.cell (World.block_lt_of_cell? _ _ k1)).trans k1; have j2 := (HB2.out.cell (World.block_lt_of_cell? _ _ k2)).trans k2)
          go_quiet (fail)
          rename Nat => q1'
          have e10 := HE10.out _ (pw_below_drewN HB2.out q1')
          have hb9 := pw_below_drewN HB2.out q1'
          have HB9 := Lib.hid hb9
          obtain ⟨w9, hw9⟩ : ∃ w9, w2.drewN q1' = w9 := ⟨_, rfl⟩
          rw [hw9] at e10 HB9 ⊢
          clear hw9 hb9
          go_wp2
          go_quiet (fail)
          go_wp2
          go_ret2
          exact .inr ⟨_, by rw [H.out]; decide, rfl, by rw [H.out]; exact .sent 10 (by omega), below_next HB1.out (pw_below_drewN HB9.out _)⟩
    · obtain ⟨hne, hp0, hp1⟩ : t ≠ [] ∧ ¬ (t.getD 0 (0, 0, 0)).2.1 < 0 ∧ ¬ (t.getD 0 (0, 0, 0)).2.2 < (t.getD 0 (0, 0, 0)).2.1 := ⟨fun h => h1 (.inl h), fun h => h1 (.inr (.inl h)), fun h => h1 (.inr (.inr h))⟩
      have hpos : 0 < t.length := List.length_pos_iff.2 hne
      have HK : Hid (knownE g t = match treeD g t with | none => (11, -1) | some d => if d.tree = t then (0, -1) else (11, -1)) := Lib.hid (by unfold knownE; rw [if_neg (by simp [h0]), if_neg h1])
      obtain ⟨ta, x0, y0, z0, rfl, k0, k1, k2, HX⟩ := at_step HT.out 0 hpos
      rw [HX.out] at hp0 hp1
      simp only [Nat.zero_mul, addr_zero] at k0 k1 k2
      clear h0 h1 hne k0
      have hl0 : ((t.length : Int) == 0) = false := by rw [beq_eq_false_iff_ne]; omega
      have hy0 : decide (y0 < 0) = false := decide_eq_false hp0
      have hz0 : decide (z0 < y0) = false := decide_eq_false hp1
      go_enter Tryd.func69, Tryd.ntmps69
      go_upto_region 4 with (go_at_call 85; refine HC.out.mono ?_; rintro e w2 ⟨u, rfl, hu, hb2⟩; obtain rfl : u = .nilIface := (by cases hu; rfl); have HB2 := Lib.hid hb2; clear hb2 hu; have j1 := (HB2.out.cell (World.block_lt_of_cell? _ _ k1)).trans k1; have j2 := (HB2.out.cell (World.block_lt_of_cell? _ _ k2)).trans k2)
      go_quiet (fail)
      rename Nat => q1'
      obtain ⟨w3, hw3⟩ : ∃ w3, w2.drewN q1' = w3 := ⟨_, rfl⟩
      have hb3 : Below w1.heap.size w1 w3 := by rw [← hw3]; exact pw_below_drewN HB2.out _
      have HB3 := Lib.hid hb3
      rw [hw3]
      clear hw3 hb3 j1 j2 c0 c1 c2 c3 HC k1 k2
      go_wp2
      go_loopw [7, 43] (fun u i wr => ∃ (j : Nat), j ≤ t.length ∧ i = .int .i64 (j : Int) ∧ Hid (IRow w3 u ((t.take j).map (·.1)) wr)) (fun _ i _ => t.length - (intOf i).toNat)
      case atStart => exact ⟨0, by omega, rfl, Lib.hid ⟨by simpa using Kd.R_nil _ _ _ _ _, Below.refl _ _⟩⟩
      case round =>
        obtain ⟨j, hj, rfl, HI⟩ := hrel
        obtain ⟨w4, rfl⟩ : ∃ w4, wr = w4 := ⟨_, rfl⟩
        obtain ⟨Au, cu, eu⟩ := Kd.R_slice HI.out.own
        obtain ⟨nu, hnu⟩ : ∃ n, ((t.take j).map (·.1)).length = n := ⟨_, rfl⟩
        rw [hnu] at eu
        subst eu
        have HNu := Lib.hid hnu
        clear hnu
        by_cases hlt : j < t.length
        · obtain ⟨tb, x, y, z, e, m0, m1, m2, HY⟩ := at_step (Kd.C_below HT.out (below_next HB3.out HI.out.bel)) j hlt
          obtain rfl := Option.some.inj e
          go_upto_region 10 with (fail)
          obtain ⟨w5, hw5⟩ : ∃ w5, wr.alloc (.cells #[.int .i64 x, .int .i64 y, .int .i64 z] 50) = w5 := ⟨_, rfl⟩
          have g0 : w5.cell? ⟨wr.heap.size, 0, none⟩ = some (.int .i64 x) := by rw [← hw5]; simp [go_sem]
          have HI5 : Hid (IRow w3 (.slice Au nu cu) ((t.take j).map (·.1)) w5) := Lib.hid (by rw [← hw5]; exact HI.out.below (below_alloc (Below.refl _ _) _))
          have HBd : Hid ((((t.take j).map (·.1)).length + 1) * 8 ≤ 140737488355328) := Lib.hid (by rw [List.length_map, List.length_take]; omega)
          rw [hw5]
          clear hw5 m0 m1 m2
          go_wp2_with ((with_reducible refine gate_builtin (b := .append) (xs := #[.tmp 47, .tmp 50]) rfl ?_); at_builtin; go_loud (refine Kd.R_append (Kd.int .i64) (w0 := w3) w3.heap.size rfl (.tmp 47) (.tmp 50) 30 3 (.int .i64 0) 8 rfl Tryd.underlying30 infoInt rfl (by decide) (by omega) (.slice Au nu cu) ((t.take j).map (·.1)) x [.int .i64 x] (fun _ => True) (fun _ => False) rfl rfl rfl (fun _ hk => hk.elim) (fun _ _ => trivial) HI5.out.own HI5.out.bel HI5.out.bel.size HBd.out ?_); intro v6 w6 ho hb hg hat; (have H6 : Hid (IRow w3 v6 ((t.take j).map (·.1) ++ [x]) w6) := Lib.hid ⟨ho, hb⟩; clear ho hb hg hat))
          go_roundw
          case rel => exact ⟨j + 1, by omega, by go_num, Lib.hid (by rw [take_snocD t j (0, 0, 0) hlt, HY.out, List.map_append]; exact H6.out)⟩
          case measure => simp [intOf]; omega
        · have hjt : (t.take j).map (·.1) = t.map (·.1) := by rw [List.take_of_length_le (by omega)]
          have hnu : nu = t.length := by rw [← HNu.out, hjt, List.length_map]
          subst hnu
          have hr6 := HI.out
          rw [hjt] at hr6
          have HR6 := Lib.hid hr6
          obtain ⟨hn6, hc6, hC6⟩ := Kd.R_reads' hr6.own
          have hlm : (t.map (·.1)).length = t.length := by simp
          have hB4 : Below w1.heap.size w1 wr := below_next HB3.out hr6.bel
          have hWi : WkIn wr g AR (t.map (·.1)) Au A := HM.out.walk (HE.out.below hB4) (Kd.C_below HR.out hB4) hC6 (by rw [hlm]; omega)
          have hS : ∀ W, Below wr.heap.size wr W → W.cell? ⟨w.heap.size, 0, none⟩ = some (.slice AT g.terms.length cT) ∧ W.cell? ⟨w.heap.size, 1, none⟩ = some (.slice AN g.nonterms.length cN) ∧ W.cell? ⟨w.heap.size, 2, none⟩ = some (.int .i64 g.ax) ∧ W.cell? ⟨w.heap.size, 3, none⟩ = some (.slice AR g.rules.length cR) ∧ W.cell? ⟨ta.block, ta.off + 1, none⟩ = some (.int .i64 y0) := fun W hW => by
            have hb := below_next hB4 hW
            obtain ⟨b0, b1, b2, b3⟩ := gr_blk (blk_below HK1.out hb)
            refine ⟨b0, b1, b2, b3, ?_⟩
            obtain ⟨tb, x', y', z', e, m0, m1, m2, HY⟩ := at_step (Kd.C_below HT.out hb) 0 hpos
            obtain rfl := Option.some.inj e
            simp only [Nat.zero_mul, addr_zero] at m1
            rw [HX.out] at HY
            have e2 := HY.out
            simp only [Prod.mk.injEq] at e2
            rw [e2.2.1]
            exact m1
          have HS := Lib.hid hS
          obtain ⟨res, hres⟩ : ∃ r, treeD g t = r := ⟨_, rfl⟩
          rw [hres] at HK
          have hWk : ∀ W, Below wr.heap.size wr W → Calls Tryd.prog 86 #[.agg #[.slice AT g.terms.length cT, .slice AN g.nonterms.length cN, .int .i64 g.ax, .slice AR g.rules.length cR], .slice Au t.length cu, .int .i64 0, .int .i64 y0, .bool true] W
              (WalkP W (.slice AT g.terms.length cT) (.slice AN g.nonterms.length cN) (.slice AR g.rules.length cR) g.ax (.slice Au t.length cu) A res) := fun W hW => by
            have := walk_calls g AT AN AR Au cT cN cR cu (t.map (·.1)) A true 0 y0 W ⟨hWi.err.below hW, Kd.C_below hWi.rules hW, Kd.C_below hWi.row hW, hWi.len, hWi.short, hWi.syms, hWi.ne, hWi.few⟩ (by rw [hlm]; exact hc6)
            rw [hlm] at this
            rw [← hres]
            unfold treeD grownD
            rw [HX.out]
            exact this
          have HWk := Lib.hid hWk
          have HB4 := Lib.hid hB4
          have HRes := Lib.hid hres
          obtain ⟨s0, s1, s2, s3, s4⟩ := hS wr (Below.refl _ _)
          clear hjt hr6 hn6 hC6 hlm hB4 hWi hS hWk hres HI
          cases res with
          | none =>
            have HF : Hid (knownE g t = (11, -1)) := Lib.hid HK.out
            go_upto_region 12 with (fail)
            go_region_held3 (fun w' => w'.cell? ⟨w.heap.size, 0, none⟩ = some (.slice AT g.terms.length cT) ∧ w'.cell? ⟨w.heap.size, 1, none⟩ = some (.slice AN g.nonterms.length cN) ∧ w'.cell? ⟨w.heap.size, 2, none⟩ = some (.int .i64 g.ax) ∧ w'.cell? ⟨w.heap.size, 3, none⟩ = some (.slice AR g.rules.length cR) ∧ w'.cell? ⟨ta.block, ta.off + 1, none⟩ = some (.int .i64 y0))
              (first
                | exact D1.out
                | exact HS.out _ (below_drew (Below.refl _ _))
                | exact HS.out _ (Below.refl _ _))
              ((go_at_call 86; refine (HWk.out _ (by first | exact below_drew (Below.refl _ _) | exact Below.refl _ _)).mono ?_; rintro e w7 ⟨v7, rfl, hb7⟩; have HB7 : Hid (Below wr.heap.size wr w7) := Lib.hid (by first | exact below_next (below_drew (Below.refl _ _)) hb7 | exact below_next (Below.refl _ _) hb7); have D1 := Lib.hid (HS.out _ HB7.out); clear hb7))
            have e10 := HE10.out _ (below_next HB4.out HB7.out)
            go_wp2
            go_quiet (fail)
            go_wp2
            go_ret2
            exact .inr ⟨_, by rw [HF.out]; decide, rfl, by rw [HF.out]; exact .sent 10 (by omega), below_next HB1.out (below_next HB4.out (pw_below_drewN HB7.out _))⟩
          | some d =>
            by_cases he : d.tree = t
            · have HF : Hid (knownE g t = (0, -1)) := Lib.hid (by rw [HK.out]; simp only; rw [if_pos he])
              have hde : decide (d.tree = t) = true := decide_eq_true he
              have HEq := Lib.hid he
              clear he
              go_upto_region 12 with (fail)
              go_region_held3 (fun w' => w'.cell? ⟨w.heap.size, 0, none⟩ = some (.slice AT g.terms.length cT) ∧ w'.cell? ⟨w.heap.size, 1, none⟩ = some (.slice AN g.nonterms.length cN) ∧ w'.cell? ⟨w.heap.size, 2, none⟩ = some (.int .i64 g.ax) ∧ w'.cell? ⟨w.heap.size, 3, none⟩ = some (.slice AR g.rules.length cR) ∧ w'.cell? ⟨ta.block, ta.off + 1, none⟩ = some (.int .i64 y0))
                (first
                  | exact D1.out
                  | exact HS.out _ (below_drew (Below.refl _ _))
                  | exact HS.out _ (Below.refl _ _))
                ((go_at_call 86; refine (HWk.out _ (by first | exact below_drew (Below.refl _ _) | exact Below.refl _ _)).mono ?_; rintro e w7 ⟨b7, i7, vt7, vk7, rfl, h7⟩; have H7 : Hid (WkAt wr w7 b7 (.slice AT g.terms.length cT) (.slice AN g.nonterms.length cN) (.slice AR g.rules.length cR) g.ax (.slice Au t.length cu) i7 d vt7 vk7) := Lib.hid (by first | exact h7.lower (below_drew (Below.refl _ _)) | exact h7); have HB7 := Lib.hid H7.out.bel; have D1 := Lib.hid (HS.out _ HB7.out); clear h7))
              obtain ⟨A8, c8, e8⟩ := Kd.R_slice H7.out.tr
              subst e8
              have HC8 := Lib.hid (Kd.R_reads' H7.out.tr).2.2
              have c7 : w7.cell? ⟨b7, 7, none⟩ = some (.slice A8 d.tree.length c8) := H7.out.c7 rfl
              go_wp2_with (go_at_call 87; refine (esteps_calls A8 (some ta) c8 tc d.tree t _ HC8.out (Kd.C_below HT.out (below_next HB4.out HB7.out))).mono ?_; rw [hde]; rintro e w8 ⟨rfl, n9, rfl⟩)
              go_ret2
              exact .inl ⟨_, _, _, _, _, _, i7, d, _, vk7, HF.out, HRes.out, HEq.out, rfl, (H7.out.lower (below_next HB1.out HB4.out)).drewN _, Kd.R_drewN (Kd.R_lower (Kd.R_below HR6.out.own HB7.out) (by have := HB1.out.size; have := HB3.out.size; omega)) _⟩
            · have HF : Hid (knownE g t = (11, -1)) := Lib.hid (by rw [HK.out]; simp only; rw [if_neg he])
              have hde : decide (d.tree = t) = false := decide_eq_false he
              clear he
              go_upto_region 12 with (fail)
              go_region_held3 (fun w' => w'.cell? ⟨w.heap.size, 0, none⟩ = some (.slice AT g.terms.length cT) ∧ w'.cell? ⟨w.heap.size, 1, none⟩ = some (.slice AN g.nonterms.length cN) ∧ w'.cell? ⟨w.heap.size, 2, none⟩ = some (.int .i64 g.ax) ∧ w'.cell? ⟨w.heap.size, 3, none⟩ = some (.slice AR g.rules.length cR) ∧ w'.cell? ⟨ta.block, ta.off + 1, none⟩ = some (.int .i64 y0))
                (first
                  | exact D1.out
                  | exact HS.out _ (below_drew (Below.refl _ _))
                  | exact HS.out _ (Below.refl _ _))
                ((go_at_call 86; refine (HWk.out _ (by first | exact below_drew (Below.refl _ _) | exact Below.refl _ _)).mono ?_; rintro e w7 ⟨b7, i7, vt7, vk7, rfl, h7⟩; have H7 : Hid (WkAt wr w7 b7 (.slice AT g.terms.length cT) (.slice AN g.nonterms.length cN) (.slice AR g.rules.length cR) g.ax (.slice Au t.length cu) i7 d vt7 vk7) := Lib.hid (by first | exact h7.lower (below_drew (Below.refl _ _)) | exact h7); have HB7 := Lib.hid H7.out.bel; have D1 := Lib.hid (HS.out _ HB7.out); clear h7))
              obtain ⟨A8, c8, e8⟩ := Kd.R_slice H7.out.tr
              subst e8
              have HC8 := Lib.hid (Kd.R_reads' H7.out.tr).2.2
              have c7 : w7.cell? ⟨b7, 7, none⟩ = some (.slice A8 d.tree.length c8) := H7.out.c7 rfl
              go_wp2_with (go_at_call 87; refine (esteps_calls A8 (some ta) c8 tc d.tree t _ HC8.out (Kd.C_below HT.out (below_next HB4.out HB7.out))).mono ?_; rw [hde]; rintro e w8 ⟨rfl, n9, rfl⟩)
              have e10 := HE10.out _ (below_next HB4.out (pw_below_drewN HB7.out n9))
              have hb9 := pw_below_drewN HB7.out n9
              have HB9 := Lib.hid hb9
              obtain ⟨w9, hw9⟩ : ∃ w9, w7.drewN n9 = w9 := ⟨_, rfl⟩
              rw [hw9] at e10 HB9 ⊢
              clear hw9 hb9
              go_quiet (fail)
              go_wp2
              go_ret2
              exact .inr ⟨_, by rw [HF.out]; decide, rfl, by rw [HF.out]; exact .sent 10 (by omega), below_next HB1.out (below_next HB4.out (pw_below_drewN HB9.out _))⟩
  · have H : Hid (knownE g t = dmayN g t.length) := Lib.hid (by unfold knownE; rw [if_pos h0])
    have HN := Lib.hid h0
    clear h0
    go_enter Tryd.func69, Tryd.ntmps69
    go_wp2_with (go_at_call 85; refine HC.out.mono ?_; rintro e w2 ⟨u, rfl, hu, hb2⟩; have HB2 := Lib.hid hb2; have HU := Lib.hid hu; obtain ⟨tt, x, rfl⟩ : ∃ t x, u = .iface t x := (by rcases hu.nil_iff with ⟨h, _⟩ | ⟨_, t, x, h⟩; exact absurd h HN.out; exact ⟨t, x, h⟩); clear hb2 hu)
    go_ret2
    exact .inr ⟨_, by rw [H.out]; exact HN.out, rfl, by rw [H.out]; exact HU.out, below_next HB1.out HB2.out⟩
end Go.Proofs.YtapgglmdnggopaaDoor.Hand
/- The document's stack of open steps, plainly: what it holds, and its rounds. -/
namespace Go.Proofs.YtapgglmdnggopaaDoor.Math

abbrev Stk := List (Nat × Nat × List Int)
/-- The stack as it lies in memory: the last is on top. -/
def frs (O : Stk) : List (Int × Int) := O.reverse.map (fun x => ((x.1 : Int), (x.2.1 : Int)))
theorem frs_cons (x : Nat × Nat × List Int) (O : Stk) : frs (x :: O) = frs O ++ [((x.1 : Int), (x.2.1 : Int))] := by simp [frs]
theorem frs_length (O : Stk) : (frs O).length = O.length := by simp [frs]
theorem frs_last (x : Nat × Nat × List Int) (O : Stk) : (frs (x :: O)).getD O.length (0, 0) = ((x.1 : Int), (x.2.1 : Int)) := by
  rw [frs_cons, List.getD_eq_getElem?_getD, List.getElem?_append_right (by rw [frs_length]; exact Nat.le_refl _), frs_length]
  simp
theorem frs_take (x : Nat × Nat × List Int) (O : Stk) : (frs (x :: O)).take O.length = frs O := by
  rw [frs_cons, List.take_append_of_le_length (by rw [frs_length]; exact Nat.le_refl _), List.take_of_length_le (by rw [frs_length]; exact Nat.le_refl _)]
theorem frs_set (φ k k' : Nat) (l l' : List Int) (O : Stk) : (frs ((φ, k, l) :: O)).set O.length ((φ : Int), (k' : Int)) = frs ((φ, k', l') :: O) := by
  rw [frs_cons, frs_cons, List.set_append_right _ _ (by rw [frs_length]; exact Nat.le_refl _), frs_length]
  simp
/-- What an open step is: its rule's symbols from the next one on. -/
def FrOk (G : List (Int × List Int)) (T : List (Int × Int × Int)) (x : Nat × Nat × List Int) : Prop :=
  x.1 < T.length ∧ (0 ≤ (T.getD x.1 (0, 0, 0)).1 ∧ (T.getD x.1 (0, 0, 0)).1 < (G.length : Int)) ∧ x.2.1 ≤ (ruleD G (T.getD x.1 (0, 0, 0)).1).2.length ∧ x.2.2 = (ruleD G (T.getD x.1 (0, 0, 0)).1).2.drop x.2.1
def StkOk (G : List (Int × List Int)) (T : List (Int × Int × Int)) (O : Stk) : Prop := ∀ x ∈ O, FrOk G T x
theorem getD_snoc {α : Type} (T : List α) (y z : α) (i : Nat) (h : i < T.length) : (T ++ [y]).getD i z = T.getD i z := by
  rw [List.getD_eq_getElem?_getD, List.getElem?_append_left h, ← List.getD_eq_getElem?_getD]
theorem getD_snoc_last {α : Type} (T : List α) (y z : α) : (T ++ [y]).getD T.length z = y := by
  simp [List.getD_eq_getElem?_getD]
theorem FrOk.snoc {G : List (Int × List Int)} {T : List (Int × Int × Int)} {x : Nat × Nat × List Int} (h : FrOk G T x) (y : Int × Int × Int) : FrOk G (T ++ [y]) x := by
  obtain ⟨h1, h2, h3, h4⟩ := h
  unfold FrOk
  rw [getD_snoc T y _ x.1 h1]
  exact ⟨by simp; omega, h2, h3, h4⟩
theorem StkOk.snoc {G : List (Int × List Int)} {T : List (Int × Int × Int)} {O : Stk} (h : StkOk G T O) (y : Int × Int × Int) : StkOk G (T ++ [y]) O := fun x hx => (h x hx).snoc y
theorem FrOk.put {G : List (Int × List Int)} {T : List (Int × Int × Int)} {x : Nat × Nat × List Int} (h : FrOk G T x) (i : Nat) (a b : Int) : FrOk G (T.set i ((T.getD i (0, 0, 0)).1, a, b)) x := by
  obtain ⟨h1, h2, h3, h4⟩ := h
  have e : ((T.set i ((T.getD i (0, 0, 0)).1, a, b)).getD x.1 (0, 0, 0)).1 = (T.getD x.1 (0, 0, 0)).1 := by
    rw [List.getD_eq_getElem?_getD, List.getElem?_set]
    split
    · rename_i hi
      subst hi
      split
      · rfl
      · rename_i hn; exact absurd h1 hn
    · rw [← List.getD_eq_getElem?_getD]
  unfold FrOk
  rw [e]
  exact ⟨by simpa using h1, h2, h3, h4⟩
theorem StkOk.put {G : List (Int × List Int)} {T : List (Int × Int × Int)} {O : Stk} (h : StkOk G T O) (i : Nat) (a b : Int) : StkOk G (T.set i ((T.getD i (0, 0, 0)).1, a, b)) O := fun x hx => (h x hx).put i a b
theorem StkOk.tail {G : List (Int × List Int)} {T : List (Int × Int × Int)} {x : Nat × Nat × List Int} {O : Stk} (h : StkOk G T (x :: O)) : StkOk G T O := fun y hy => h y (List.mem_cons_of_mem _ hy)
theorem StkOk.next {G : List (Int × List Int)} {T : List (Int × Int × Int)} {φ k : Nat} {s : Int} {r : List Int} {O : Stk} (h : StkOk G T ((φ, k, s :: r) :: O)) : StkOk G T ((φ, k + 1, r) :: O) := by
  intro y hy
  rw [List.mem_cons] at hy
  rcases hy with rfl | hy
  · obtain ⟨h1, h2, h3, h4⟩ := h _ (List.mem_cons_self ..)
    simp only at h1 h2 h3 h4
    have hl := congrArg List.length h4
    simp only [List.length_cons, List.length_drop] at hl
    refine ⟨h1, h2, by show k + 1 ≤ (ruleD G (T.getD φ (0, 0, 0)).1).2.length; omega, ?_⟩
    show r = List.drop (k + 1) _
    rw [← List.drop_drop, ← h4]
    rfl
  · exact h y (List.mem_cons_of_mem _ hy)
/-- How many symbols are still to come. -/
def remS : Stk → Nat
  | [] => 0
  | x :: O => x.2.2.length + remS O
/-- The stack stands at a nonterminal, or is empty. -/
def Popped (O : Stk) : Prop := ∀ φ k l O', O = (φ, k, l) :: O' → ∃ x r, l = x :: r ∧ x < 0
theorem popG_popped {σ : Type} (o : Ops σ Nat) {O : Stk} (s : σ) (h : Popped O) : popG o O s = (O, s) := by
  cases O with
  | nil => rfl
  | cons y O =>
    obtain ⟨φ, k, l⟩ := y
    obtain ⟨x, r, rfl, hx⟩ := h φ k l O rfl
    exact popG_neg o φ k x r O s hx
theorem at_drop {l : List Int} {k : Nat} {x : Int} {r : List Int} (h : x :: r = l.drop k) : k < l.length ∧ l.getD k 0 = x := by
  have hl := congrArg List.length h
  simp only [List.length_cons, List.length_drop] at hl
  have hk : k < l.length := by omega
  refine ⟨hk, ?_⟩
  rw [List.drop_eq_getElem_cons hk] at h
  injection h with h1 _
  rw [List.getD_eq_getElem?_getD, List.getElem?_eq_getElem hk]
  exact h1.symm
/-- What the loop over the rules comes to, from rule k on. -/
def restG {σ : Type} (o : Ops σ Nat) (G : List (Int × List Int)) (rs : List Int) (any : Bool) (nt : Int) (k : Nat) (O : Stk) (d : σ) : Option σ :=
  if k = 0 then enterG o G [] any nt none 0 d rs else contG o G (rs.drop k) k (O, d)
theorem restG_bad {σ : Type} {o : Ops σ Nat} {G : List (Int × List Int)} {rs : List Int} {any : Bool} {nt n : Int} {k : Nat} {O : Stk} {d : σ} (hd : rs.drop k = n :: rs.drop (k + 1)) (hp : Popped O) (hb : n < 0 ∨ (G.length : Int) ≤ n) : restG o G rs any nt k O d = none := by
  unfold restG
  split
  · rename_i h; subst h
    rw [List.drop_zero] at hd
    rw [hd, enterG, if_pos hb]
  · rw [hd]
    cases O with
    | nil => rfl
    | cons y O =>
      obtain ⟨φ, q, l⟩ := y
      obtain ⟨x, r, rfl, _⟩ := hp φ q l O rfl
      rw [contG, if_pos hb]
theorem restG_first_no {σ : Type} {o : Ops σ Nat} {G : List (Int × List Int)} {rs : List Int} {any : Bool} {nt n : Int} {O : Stk} {d : σ} (hd : rs.drop 0 = n :: rs.drop 1) (hb : ¬ (n < 0 ∨ (G.length : Int) ≤ n)) (ha : any = false ∧ (ruleD G n).1 ≠ nt) : restG o G rs any nt 0 O d = none := by
  unfold restG
  rw [List.drop_zero] at hd
  rw [if_pos rfl, hd, enterG, if_neg hb, if_pos ha]
theorem restG_first {σ : Type} {o : Ops σ Nat} {G : List (Int × List Int)} {rs : List Int} {any : Bool} {nt n : Int} {O : Stk} {d : σ} (hd : rs.drop 0 = n :: rs.drop 1) (hb : ¬ (n < 0 ∨ (G.length : Int) ≤ n)) (ha : ¬ (any = false ∧ (ruleD G n).1 ≠ nt)) :
    restG o G rs any nt 0 O d = restG o G rs any nt 1 (popG o [((o.ent 0 d none 1 n).2, 0, (ruleD G n).2)] (o.ent 0 d none 1 n).1).1 (popG o [((o.ent 0 d none 1 n).2, 0, (ruleD G n).2)] (o.ent 0 d none 1 n).1).2 := by
  unfold restG
  rw [if_pos rfl, if_neg (by omega)]
  rw [List.drop_zero] at hd
  have e : ∀ l : List Int, rs = n :: l → enterG o G [] any nt none 0 d rs = contG o G l 1 (popG o [((o.ent 0 d none 1 n).2, 0, (ruleD G n).2)] (o.ent 0 d none 1 n).1) := fun l hl => by
    rw [hl, enterG, if_neg hb, if_neg ha]
    rfl
  exact e _ hd
theorem restG_empty {σ : Type} {o : Ops σ Nat} {G : List (Int × List Int)} {rs : List Int} {any : Bool} {nt n : Int} {k : Nat} {d : σ} (hd : rs.drop k = n :: rs.drop (k + 1)) (hk : 0 < k) : restG o G rs any nt k [] d = none := by
  unfold restG
  rw [if_neg (by omega), hd]
  rfl
theorem restG_no {σ : Type} {o : Ops σ Nat} {G : List (Int × List Int)} {rs : List Int} {any : Bool} {nt n x : Int} {k φ q : Nat} {r : List Int} {O : Stk} {d : σ} (hd : rs.drop k = n :: rs.drop (k + 1)) (hk : 0 < k) (hb : ¬ (n < 0 ∨ (G.length : Int) ≤ n)) (ha : (ruleD G n).1 ≠ -1 - x) :
    restG o G rs any nt k ((φ, q, x :: r) :: O) d = none := by
  unfold restG
  rw [if_neg (by omega), hd, contG, if_neg hb, if_pos ha]
theorem restG_next {σ : Type} {o : Ops σ Nat} {G : List (Int × List Int)} {rs : List Int} {any : Bool} {nt n x : Int} {k φ q : Nat} {r : List Int} {O : Stk} {d : σ} (hd : rs.drop k = n :: rs.drop (k + 1)) (hk : 0 < k) (hb : ¬ (n < 0 ∨ (G.length : Int) ≤ n)) (ha : ¬ (ruleD G n).1 ≠ -1 - x) :
    restG o G rs any nt k ((φ, q, x :: r) :: O) d = restG o G rs any nt (k + 1) (popG o (((o.ent k d (some (φ, q)) (O.length + 2) n).2, 0, (ruleD G n).2) :: (φ, q + 1, r) :: O) (o.ent k d (some (φ, q)) (O.length + 2) n).1).1
      (popG o (((o.ent k d (some (φ, q)) (O.length + 2) n).2, 0, (ruleD G n).2) :: (φ, q + 1, r) :: O) (o.ent k d (some (φ, q)) (O.length + 2) n).1).2 := by
  unfold restG
  rw [if_neg (by omega), if_neg (by omega), hd, contG, if_neg hb, if_neg ha]
theorem restG_end {σ : Type} {o : Ops σ Nat} {G : List (Int × List Int)} {rs : List Int} {any : Bool} {nt : Int} {k : Nat} {O : Stk} {d : σ} (hk : rs.length ≤ k) : restG o G rs any nt k O d = if 0 < k ∧ O.length = 0 then some d else none := by
  unfold restG
  split
  · rename_i h; subst h
    have : rs = [] := List.length_eq_zero_iff.1 (by omega)
    subst this
    simp [enterG]
  · rw [List.drop_eq_nil_of_le hk, contG]
    cases O <;> simp <;> omega
theorem FrOk.new {G : List (Int × List Int)} {T : List (Int × Int × Int)} {n p q : Int} (hb : ¬ (n < 0 ∨ (G.length : Int) ≤ n)) : FrOk G (T ++ [(n, p, q)]) (T.length, 0, (ruleD G n).2) := by
  unfold FrOk
  rw [getD_snoc_last]
  exact ⟨by simp, by omega, Nat.zero_le _, by simp⟩
theorem StkOk.cons {G : List (Int × List Int)} {T : List (Int × Int × Int)} {x : Nat × Nat × List Int} {O : Stk} (h1 : FrOk G T x) (h : StkOk G T O) : StkOk G T (x :: O) := by
  intro y hy
  rw [List.mem_cons] at hy
  rcases hy with rfl | hy
  · exact h1
  · exact h y hy
end Go.Proofs.YtapgglmdnggopaaDoor.Math
/- The memory of the document's loop over the rules: steps, tokens, open steps. -/
namespace Go.Proofs.YtapgglmdnggopaaDoor.Hand
open Go.RowKit Go.Proofs.YtapgglmdnggopaaDoorW.PrintWords Go.Proofs.YtapgglmdnggopaaDoorW.PrintMore Go.Proofs.YtapgglmdnggopaaDoor.Math

theorem results4_tmp {fn : Func} {t u v x : Tmp} (h : fn.results = #[.tmp t, .tmp u, .tmp v, .tmp x]) (tmps : Array Value) (P : Program) (w : World) :
    (results fn tmps).run P w = .ok (.tuple #[tmps.getD t undef, tmps.getD u undef, tmps.getD v undef, tmps.getD x undef]) w := by
  simp [results, h]
theorem results5_tmp {fn : Func} {t u v x y : Tmp} (h : fn.results = #[.tmp t, .tmp u, .tmp v, .tmp x, .tmp y]) (tmps : Array Value) (P : Program) (w : World) :
    (results fn tmps).run P w = .ok (.tuple #[tmps.getD t undef, tmps.getD u undef, tmps.getD v undef, tmps.getD x undef, tmps.getD y undef]) w := by
  simp [results, h]
/-- Open steps: which, how many symbols are done. -/
def KFr : Kd (Int × Int) := Kd.pair (Kd.int .i64) (Kd.int .i64)
theorem KFr_M (w : World) (base : Nat) (ok : Nat → Prop) (x y : Int) : KFr.M w base ok (x, y) [.int .i64 x, .int .i64 y] := ⟨[.int .i64 x], [.int .i64 y], rfl, rfl, rfl⟩
section
variable {W w1 : World} {base : Nat} {ok : Nat → Prop} {g n cap : Nat} {e : TypeId}
theorem fr_at {F : List (Int × Int)} (h : KFr.R e W base ok (.slice (some ⟨g, 0, none⟩) n cap) F) (q : Nat) (hq : q < F.length) :
    W.cell? ⟨g, q * 2, none⟩ = some (.int .i64 (F.getD q (0, 0)).1) ∧ W.cell? ⟨g, q * 2 + 1, none⟩ = some (.int .i64 (F.getD q (0, 0)).2) ∧ W.frozen? ⟨g, q * 2 + 1, none⟩ = false := by
  have hn := (Kd.R_reads' h).1
  obtain ⟨c, hcl, hM, hcc, hf⟩ := Kd.R_elem h (0, 0) (q : Int) (by omega) (by omega)
  rw [Int.toNat_natCast] at hM hcc hf
  obtain ⟨c0, c1, rfl, k0, k1⟩ := hM
  have e0 : c0 = [.int .i64 (F.getD q (0, 0)).1] := k0
  have e1 : c1 = [.int .i64 (F.getD q (0, 0)).2] := k1
  subst e0 e1
  exact ⟨hcc 0 _ rfl, hcc 1 _ rfl, hf 1⟩
theorem fr_put {F : List (Int × Int)} (h : KFr.R e W base ok (.slice (some ⟨g, 0, none⟩) n cap) F) (q : Nat) (hq : q < F.length) (y : Int) :
    KFr.R e (W.setCell ⟨g, q * 2 + 1, none⟩ (.int .i64 y)) base ok (.slice (some ⟨g, 0, none⟩) n cap) (F.set q ((F.getD q (0, 0)).1, y)) ∧ W.grownBy (W.setCell ⟨g, q * 2 + 1, none⟩ (.int .i64 y)) (some g) := by
  have hn := (Kd.R_reads' h).1
  obtain ⟨c, hcl, hM, hcc, -⟩ := Kd.R_elem h (0, 0) (q : Int) (by omega) (by omega)
  rw [Int.toNat_natCast] at hM hcc
  obtain ⟨c0, c1, rfl, k0, k1⟩ := hM
  have e0 : c0 = [.int .i64 (F.getD q (0, 0)).1] := k0
  have e1 : c1 = [.int .i64 (F.getD q (0, 0)).2] := k1
  subst e0 e1
  have := Kd.R_seg (seg := [.int .i64 y]) (j := 1) (okp := fun _ => False) h (q : Int) (by omega) (by omega) hcl (by rw [Int.toNat_natCast]; exact hcc) (by show 2 ≤ 2; omega) (x' := ((F.getD q (0, 0)).1, y)) (KFr_M _ _ _ _ _) (fun _ hk => hk.elim)
  rw [Int.toNat_natCast] at this
  exact this
theorem st_at {T : List (Int × Int × Int)} (h : KStep.R e W base ok (.slice (some ⟨g, 0, none⟩) n cap) T) (q : Nat) (hq : q < T.length) :
    W.cell? ⟨g, q * 3, none⟩ = some (.int .i64 (T.getD q (0, 0, 0)).1) ∧ (∃ u, W.cell? ⟨g, q * 3 + 2, none⟩ = some u) ∧ W.frozen? ⟨g, q * 3 + 2, none⟩ = false := by
  have hn := (Kd.R_reads' h).1
  obtain ⟨c, hcl, hM, hcc, hf⟩ := Kd.R_elem h (0, 0, 0) (q : Int) (by omega) (by omega)
  rw [Int.toNat_natCast] at hM hcc hf
  obtain ⟨c0, c1, rfl, k0, d0, d1, rfl, k1, k2⟩ := hM
  have e0 : c0 = [.int .i64 (T.getD q (0, 0, 0)).1] := k0
  have e1 : d0 = [.int .i64 (T.getD q (0, 0, 0)).2.1] := k1
  have e2 : d1 = [.int .i64 (T.getD q (0, 0, 0)).2.2] := k2
  subst e0 e1 e2
  exact ⟨hcc 0 _ rfl, ⟨_, hcc 2 _ rfl⟩, hf 2⟩
end
/-- The three rows. -/
structure TrAt (w0 w : World) (v1 v2 v3 : Value) (O : Stk) (d : DS) : Prop where
  tr : KStep.R 50 w w0.heap.size (fun _ => True) v1 d.tree
  tk : (Kd.int .i64).R 3 w w0.heap.size (fun _ => True) v2 d.tokens
  op : KFr.R 162 w w0.heap.size (fun _ => True) v3 (frs O)
  bel : Below w0.heap.size w0 w
theorem fr_ne : ∀ q, q ∈ 162 :: KFr.E → q ≠ 3 ∧ q ≠ 50 := by
  intro q hq
  rw [show KFr.E = [] from rfl, List.mem_singleton] at hq
  subst hq
  decide
theorem int_ne : ∀ q, q ∈ 3 :: (Kd.int .i64).E → q ≠ 162 ∧ q ≠ 50 := by
  intro q hq
  rw [show (Kd.int .i64).E = [] from rfl, List.mem_singleton] at hq
  subst hq
  decide
theorem step_ne : ∀ q, q ∈ 50 :: KStep.E → q ≠ 162 ∧ q ≠ 3 := by
  intro q hq
  rw [show KStep.E = [] from rfl, List.mem_singleton] at hq
  subst hq
  decide
section
variable {w0 w w1 : World} {v1 v2 v3 u : Value} {O O' : Stk} {d : DS} {T : List (Int × Int × Int)} {K : List Int}
theorem TrAt.below (h : TrAt w0 w v1 v2 v3 O d) (hb : Below w.heap.size w w1) : TrAt w0 w1 v1 v2 v3 O d := ⟨Kd.R_below h.tr hb, Kd.R_below h.tk hb, Kd.R_below h.op hb, below_next h.bel hb⟩
theorem TrAt.drewN (h : TrAt w0 w v1 v2 v3 O d) (n : Nat) : TrAt w0 (w.drewN n) v1 v2 v3 O d := h.below (pw_below_drewN (Below.refl _ _) n)
theorem TrAt.setT (h : TrAt w0 w v1 v2 v3 O d) (hr : KStep.R 50 w1 w0.heap.size (fun _ => True) u T) (hb : Below w0.heap.size w0 w1) (hg : w.grownBy w1 v1.ownBlock) (p : Int) (m : Nat) : TrAt w0 w1 u v2 v3 O ⟨p, T, d.tokens, m⟩ :=
  ⟨hr, Kd.R_over h.tk h.tr (fun q hq => (int_ne q hq).2) hg, Kd.R_over h.op h.tr (fun q hq => (fr_ne q hq).2) hg, hb⟩
theorem TrAt.setK (h : TrAt w0 w v1 v2 v3 O d) (hr : (Kd.int .i64).R 3 w1 w0.heap.size (fun _ => True) u K) (hb : Below w0.heap.size w0 w1) (hg : w.grownBy w1 v2.ownBlock) (p : Int) (m : Nat) : TrAt w0 w1 v1 u v3 O ⟨p, d.tree, K, m⟩ :=
  ⟨Kd.R_over h.tr h.tk (fun q hq => (step_ne q hq).2) hg, hr, Kd.R_over h.op h.tk (fun q hq => (fr_ne q hq).1) hg, hb⟩
theorem TrAt.setO (h : TrAt w0 w v1 v2 v3 O d) (hr : KFr.R 162 w1 w0.heap.size (fun _ => True) u (frs O')) (hb : Below w0.heap.size w0 w1) (hg : w.grownBy w1 v3.ownBlock) : TrAt w0 w1 v1 v2 u O' d :=
  ⟨Kd.R_over h.tr h.op (fun q hq => (step_ne q hq).1) hg, Kd.R_over h.tk h.op (fun q hq => (int_ne q hq).1) hg, hr, hb⟩
theorem TrAt.num (h : TrAt w0 w v1 v2 v3 O d) (p : Int) (m : Nat) : TrAt w0 w v1 v2 v3 O ⟨p, d.tree, d.tokens, m⟩ := ⟨h.tr, h.tk, h.op, h.bel⟩
/-- The form of the open steps' slice. -/
theorem TrAt.open_ {x : Nat × Nat × List Int} {m : Nat} (h : TrAt w0 w v1 v2 v3 (x :: O) d) (hm : O.length = m) : ∃ g cap, v3 = .slice (some ⟨g, 0, none⟩) (m + 1) cap ∧ m + 1 ≤ cap ∧
    w.cell? ⟨g, m * 2, none⟩ = some (.int .i64 (x.1 : Int)) ∧ w.cell? ⟨g, m * 2 + 1, none⟩ = some (.int .i64 (x.2.1 : Int)) ∧ w.frozen? ⟨g, m * 2 + 1, none⟩ = false ∧ w0.heap.size ≤ g := by
  subst hm
  obtain ⟨g, cap, e, -⟩ := Kd.R_form h.op (by rw [frs_length]; simp)
  rw [frs_length, List.length_cons] at e
  subst e
  obtain ⟨h1, h2, h3⟩ := fr_at h.op O.length (by rw [frs_length]; simp)
  rw [frs_last] at h1 h2
  exact ⟨g, cap, rfl, (Kd.R_reads' h.op).2.1, h1, h2, h3, Kd.R_base h.op g rfl⟩
/-- One symbol more is done. -/
theorem TrAt.done1 {φ q q' : Nat} {l l' : List Int} {g n cap m : Nat} (h : TrAt w0 w v1 v2 (.slice (some ⟨g, 0, none⟩) n cap) ((φ, q, l) :: O) d) (hm : O.length = m) : TrAt w0 (w.setCell ⟨g, m * 2 + 1, none⟩ (.int .i64 (q' : Int))) v1 v2 (.slice (some ⟨g, 0, none⟩) n cap) ((φ, q', l') :: O) d := by
  subst hm
  obtain ⟨h1, h2⟩ := fr_put h.op O.length (by rw [frs_length]; simp) (q' : Int)
  rw [frs_last, frs_set φ q q' l l' O] at h1
  exact h.setO h1 (h.bel.setCell (Kd.R_base h.op g rfl) _) h2
/-- The last is closed. -/
theorem TrAt.pop {x : Nat × Nat × List Int} {g cap m : Nat} (h : TrAt w0 w v1 v2 (.slice (some ⟨g, 0, none⟩) (m + 1) cap) (x :: O) d) (hm : O.length = m) : TrAt w0 w v1 v2 (.slice (some ⟨g, 0, none⟩) m cap) O d := by
  subst hm
  have := Kd.R_take (m := O.length) h.op (by rw [frs_length]; simp)
  rw [frs_take] at this
  exact ⟨h.tr, h.tk, this, h.bel⟩
/-- A step is left. -/
theorem TrAt.leave {g n cap : Nat} (h : TrAt w0 w (.slice (some ⟨g, 0, none⟩) n cap) v2 v3 O d) (q : Nat) (hq : q < d.tree.length) : TrAt w0 (w.setCell ⟨g, q * 3 + 2, none⟩ (.int .i64 d.place)) (.slice (some ⟨g, 0, none⟩) n cap) v2 v3 O ((opsD inc64).lv d q) := by
  obtain ⟨h1, h2⟩ := step_put3 h.tr q hq d.place
  exact h.setT h1 (h.bel.setCell (Kd.R_base h.tr g rfl) _) h2 d.place d.depth
end
end Go.Proofs.YtapgglmdnggopaaDoor.Hand
/- Contract: the document's tree of rules (dovetailref18.Tree). -/
namespace Go.Proofs.YtapgglmdnggopaaDoor.Hand
open Go.RowKit Go.Proofs.YtapgglmdnggopaaDoorW.PrintWords Go.Proofs.YtapgglmdnggopaaDoorW.PrintMore Go.Proofs.YtapgglmdnggopaaDoorW.PrintLast Go.Proofs.YtapgglmdnggopaaDoor.Math

def lenOf : Value → Nat
  | .slice _ n _ => n
  | _ => 0
theorem infoFrame : (Tryd.prog.info? 162).map (fun i => (i.zero, i.size, i.bytes)) = some (some (.agg #[.int .i64 0, .int .i64 0]), 2, 16) := by kernel_rfl
/-- The outer loop. -/
structure TrOut (G : List (Int × List Int)) (rs : List Int) (any : Bool) (nt : Int) (res : Option DS) (w0 w : World) (k : Nat) (v1 v2 v3 : Value) (O : Stk) (d : DS) : Prop where
  mem : TrAt w0 w v1 v2 v3 O d
  len : d.tree.length = k
  tok : d.tokens.length + remS O ≤ 32 * k
  stk : StkOk G d.tree O
  pop : Popped O
  res : restG (opsD inc64) G rs any nt k O d = res
  ol : O.length ≤ k
  z : k = 0 → O = []
/-- The inner loop. -/
structure TrInn (G : List (Int × List Int)) (tgt : Stk × DS) (S k m : Nat) (w0 w : World) (v1 v2 v3 : Value) (O : Stk) (d : DS) : Prop where
  mem : TrAt w0 w v1 v2 v3 O d
  len : d.tree.length = k + 1
  tok : d.tokens.length + remS O = S
  stk : StkOk G d.tree O
  eq : popG (opsD inc64) O d = tgt
  ol : O.length ≤ k + 1
  dep : d.depth = m
section
variable {G : List (Int × List Int)} {rs : List Int} {any : Bool} {nt : Int} {res : Option DS} {tgt : Stk × DS} {S k m : Nat} {w0 w w' : World} {v1 v2 v3 u : Value} {O : Stk} {d : DS}
theorem TrInn.out (h : TrInn G tgt S k m w0 w v1 v2 v3 O d) (hp : Popped O) (hS : S ≤ 32 * (k + 1)) (hN : restG (opsD inc64) G rs any nt (k + 1) tgt.1 tgt.2 = res) : TrOut G rs any nt res w0 w (k + 1) v1 v2 v3 O d := by
  have h1 := h.tok
  have h2 := h.eq
  rw [popG_popped _ _ hp] at h2
  rw [← h2] at hN
  exact ⟨h.mem, h.len, by omega, h.stk, hp, hN, h.ol, fun h => by omega⟩
theorem TrInn.pop1 {φ q : Nat} (h : TrInn G tgt S k m w0 w v1 v2 v3 ((φ, q, []) :: O) d) (hm : TrAt w0 w' v1 v2 u O ((opsD inc64).lv d φ)) : TrInn G tgt S k m w0 w' v1 v2 u O ((opsD inc64).lv d φ) := by
  have h1 := h.tok
  have h2 := h.eq
  have h3 := h.ol
  rw [popG_done] at h2
  simp only [remS, List.length_nil, Nat.zero_add] at h1
  simp only [List.length_cons] at h3
  exact ⟨hm, by show (List.set _ _ _).length = _; rw [List.length_set]; exact h.len, h1, h.stk.tail.put φ _ _, h2, by omega, h.dep⟩
theorem TrInn.tok1 {φ q : Nat} {y : Int} {l : List Int} (h : TrInn G tgt S k m w0 w v1 v2 v3 ((φ, q, y :: l) :: O) d) (hy : ¬ y < 0) (hm : TrAt w0 w' v1 u v3 ((φ, q + 1, l) :: O) ⟨inc64 d.place, d.tree, d.tokens ++ [y], d.depth⟩) :
    TrInn G tgt S k m w0 w' v1 u v3 ((φ, q + 1, l) :: O) ⟨inc64 d.place, d.tree, d.tokens ++ [y], d.depth⟩ := by
  have h1 := h.tok
  have h2 := h.eq
  have h3 := h.ol
  rw [popG_tok _ _ _ _ _ _ _ hy] at h2
  simp only [remS, List.length_cons] at h1
  simp only [List.length_cons] at h3
  exact ⟨hm, h.len, by simp only [remS, List.length_append, List.length_cons, List.length_nil]; omega, h.stk.next, h2, by simp only [List.length_cons]; omega, h.dep⟩
end
/-- What the document's Tree answers. -/
def TreeP (w : World) (res : Option DS) (e : Ending) (w' : World) : Prop :=
  ∃ v1 v2 dp ok, e = .returned (.tuple #[v1, v2, .int .i64 dp, .bool ok]) ∧ Below w.heap.size w w' ∧ (res = none → ok = false) ∧
    ∀ d, res = some d → ok = true ∧ KStep.R 50 w' w.heap.size (fun _ => True) v1 d.tree ∧ (Kd.int .i64).R 3 w' w.heap.size (fun _ => True) v2 d.tokens ∧ dp = (d.depth : Int)
theorem treeP_no {w : World} {res : Option DS} {w' : World} {v1 v2 : Value} {dp : Int} (h : res = none) (hb : Below w.heap.size w w') : TreeP w res (.returned (.tuple #[v1, v2, .int .i64 dp, .bool false])) w' :=
  ⟨v1, v2, dp, false, rfl, hb, fun _ => rfl, fun d hd => by rw [h] at hd; cases hd⟩
theorem treeP_yes {w : World} {res : Option DS} {w' : World} {v1 v2 : Value} {d : DS} (h : res = some d) (hb : Below w.heap.size w w') (h1 : KStep.R 50 w' w.heap.size (fun _ => True) v1 d.tree) (h2 : (Kd.int .i64).R 3 w' w.heap.size (fun _ => True) v2 d.tokens) :
    TreeP w res (.returned (.tuple #[v1, v2, .int .i64 (d.depth : Int), .bool true])) w' := by
  refine ⟨v1, v2, _, true, rfl, hb, fun h' => (by rw [h] at h'; cases h'), fun d' hd => ?_⟩
  rw [h] at hd
  obtain rfl := Option.some.inj hd
  exact ⟨rfl, h1, h2, rfl⟩
set_option maxHeartbeats 4000000 in
set_option maxRecDepth 100000 in
theorem rtree_calls (g : Gr) (AT AN AR Ar : Option Addr) (cT cN cR cr : Nat) (rs : List Int) (any : Bool) (nt fr : Int) (root : Int) (hroot : root < 0 ∧ any = true ∨ 0 ≤ root ∧ any = false ∧ root = nt) (w : World) (A : Nat → Addr) (hI : WkIn w g AR rs Ar A) (hgr : ∀ r ∈ g.rules, 0 ≤ r.1 ∧ r.1 ≤ 100) (_hlr : rs.length ≤ cr) :
    Calls Tryd.prog 81 #[.agg #[.slice AT g.terms.length cT, .slice AN g.nonterms.length cN, .int .i64 g.ax, .slice AR g.rules.length cR], .slice Ar rs.length cr, .int .i64 root, .int .i64 fr] w (TreeP w (walkG (opsD inc64) g.rules rs any nt ⟨fr, [], [], 0⟩)) := by
  obtain ⟨res, hres⟩ : ∃ r, walkG (opsD inc64) g.rules rs any nt ⟨fr, [], [], 0⟩ = r := ⟨_, rfl⟩
  rw [hres]
  rw [walk_is] at hres
  obtain ⟨w1, hw1⟩ : ∃ w1, w.alloc (.cells #[.slice AT g.terms.length cT, .slice AN g.nonterms.length cN, .int .i64 g.ax, .slice AR g.rules.length cR] 25) = w1 := ⟨_, rfl⟩
  have hb1 : Below w.heap.size w w1 := by rw [← hw1]; exact below_alloc (Below.refl _ _) _
  have hk1 : w1.heap[w.heap.size]? = some (.cells #[.slice AT g.terms.length cT, .slice AN g.nonterms.length cN, .int .i64 g.ax, .slice AR g.rules.length cR] 25 (0, 0)) := by rw [← hw1]; exact heap_alloc_new w _
  have HB1 := Lib.hid hb1
  have HK1 := Lib.hid hk1
  have HI := Lib.hid hI
  have HRu := Lib.hid (Kd.C_below hI.rules hb1)
  have HRs := Lib.hid (Kd.C_below hI.row hb1)
  have hll := hI.len
  have hfew := hI.few
  have HGr := Lib.hid hgr
  have HRes := Lib.hid hres
  clear hb1 hk1 hI hgr hres
  go_enter Tryd.func81, Tryd.ntmps81
  go_wp2
  go_loopw [12, 13, 14, 15, 16, 17] (fun v1 v2 v3 dp pl i wr => ∃ (k : Nat) (O : Stk) (d : DS), k ≤ rs.length ∧ i = .int .i64 (k : Int) ∧ dp = .int .i64 (d.depth : Int) ∧ pl = .int .i64 d.place ∧ Hid (TrOut g.rules rs any nt res w1 wr k v1 v2 v3 O d)) (fun _ _ _ _ _ i _ => rs.length - (intOf i).toNat)
  case atStart => exact ⟨0, [], ⟨fr, [], [], 0⟩, by omega, rfl, rfl, rfl, Lib.hid ⟨⟨Kd.R_nil _ _ _ _ _, Kd.R_nil _ _ _ _ _, Kd.R_nil _ _ _ _ _, Below.refl _ _⟩, rfl, by simp [remS], fun x hx => by simp at hx, fun φ k l O' h => by simp at h, by unfold restG; rw [if_pos rfl]; exact HRes.out, by simp, fun _ => rfl⟩⟩
  case round =>
    obtain ⟨k, O, ⟨pl, T, K, m0⟩, hk, rfl, rfl, rfl, HO⟩ := hrel
    obtain ⟨w2, rfl⟩ : ∃ wo : World, wo = wr := ⟨_, rfl⟩
    obtain ⟨b0, b1, b2, b3⟩ := gr_blk (blk_below HK1.out HO.out.mem.bel)
    by_cases hlt : k < rs.length
    · obtain ⟨ad, n, rfl, hn, HN⟩ := at_scalar (Kd.C_below HRs.out HO.out.mem.bel) k hlt 0
      have hdrop : rs.drop k = n :: rs.drop (k + 1) := by
        rw [List.drop_eq_getElem_cons hlt]
        have := HN.out
        rw [List.getD_eq_getElem?_getD, List.getElem?_eq_getElem hlt] at this
        rw [← this]
        rfl
      have HD := Lib.hid hdrop
      clear hdrop
      by_cases h0 : n < 0
      · have HF : Hid (res = none) := Lib.hid (by rw [← HO.out.res]; exact restG_bad HD.out HO.out.pop (.inl h0))
        go_wp2
        ((try simp only [Exit.inBlock, Exit.then]); refine bodyPost_ret (results4_tmp rfl _ _ _) rfl ?_)
        exact treeP_no HF.out (below_next HB1.out HO.out.mem.bel)
      · by_cases h1 : (g.rules.length : Int) ≤ n
        · have HF : Hid (res = none) := Lib.hid (by rw [← HO.out.res]; exact restG_bad HD.out HO.out.pop (.inr h1))
          go_wp2
          ((try simp only [Exit.inBlock, Exit.then]); refine bodyPost_ret (results4_tmp rfl _ _ _) rfl ?_)
          exact treeP_no HF.out (below_next HB1.out HO.out.mem.bel)
        · obtain ⟨j, rfl⟩ : ∃ j : Nat, n = (j : Int) := ⟨n.toNat, by omega⟩
          have hj : j < g.rules.length := by omega
          obtain ⟨adr, x, B, c, r, rfl, k10, k20, hrc, hr, HX⟩ := at_rule HRu.out j hj
          have HK2 : Hid (∀ W, Below w1.heap.size w1 W → W.cell? (adr.add (j * 2)) = some (.int .i64 x) ∧ W.cell? ⟨(adr.add (j * 2)).block, (adr.add (j * 2)).off + 1, none⟩ = some (.slice B r.length c)) := Lib.hid (fun W hW => ⟨(hW.cell (World.block_lt_of_cell? _ _ k10)).trans k10, (hW.cell (World.block_lt_of_cell? _ _ k20)).trans k20⟩)
          have hrule : ruleD g.rules (j : Int) = (x, r) := by unfold ruleD; rw [Int.toNat_natCast]; exact HX.out
          have hxb : 0 ≤ x ∧ x ≤ 100 := HGr.out (x, r) (by rw [← HX.out]; exact getD_mem _ _ _ hj)
          have hl32 : r.length ≤ 32 := HI.out.short (x, r) (by rw [← HX.out]; exact getD_mem _ _ _ hj)
          have HRule := Lib.hid hrule
          have HRr := Lib.hid hr
          have hjb : ¬ ((j : Int) < 0 ∨ (g.rules.length : Int) ≤ (j : Int)) := by omega
          have HJb := Lib.hid hjb
          have hj1 : decide (g.rules.length ≤ j) = false := by simp; omega
          have hj2 : decide ((g.rules.length : Int) ≤ (j : Int)) = false := by simp; omega
          have hj3 : decide ((j : Int) < 0) = false := by simp
          clear hrule hr k10 k20 hjb
          have k1 := (HK2.out _ HO.out.mem.bel).1
          by_cases hk0 : k = 0
          · have hkI : ((k : Int) == 0) = true := by rw [hk0]; rfl
            by_cases ha : any = false ∧ x ≠ nt
            · have HF : Hid (res = none) := Lib.hid (by rw [← HO.out.res]; subst hk0; exact restG_first_no HD.out HJb.out (by rw [HRule.out]; exact ha))
              obtain ⟨rfl, hx⟩ := ha
              rcases hroot with ⟨_, h⟩ | ⟨hr0, _, rfl⟩
              · cases h
              have hxI : (x == root) = false := beq_eq_false_iff_ne.2 hx
              have hxJ : (x != root) = true := by simp [hx]
              clear hk0
              go_wp2
              ((try simp only [Exit.inBlock, Exit.then]); refine bodyPost_ret (results4_tmp rfl _ _ _) rfl ?_)
              exact treeP_no HF.out (below_next HB1.out HO.out.mem.bel)
            · have hOn : O = [] := HO.out.z hk0
              subst hOn
              have HNx : Hid (restG (opsD inc64) g.rules rs any nt (k + 1) (popG (opsD inc64) [(k, 0, r)] ⟨pl, T ++ [((j : Int), pl, 0)], K, max m0 1⟩).1 (popG (opsD inc64) [(k, 0, r)] ⟨pl, T ++ [((j : Int), pl, 0)], K, max m0 1⟩).2 = res) := Lib.hid (by
                rw [← HO.out.res]
                subst hk0
                have := restG_first (o := opsD inc64) (O := ([] : Stk)) (d := ⟨pl, T, K, m0⟩) HD.out HJb.out (by rw [HRule.out]; exact ha)
                rw [HRule.out] at this
                exact this.symm)
              have HB : Hid (TrAt w1 w2 u12 u13 u14 [] ⟨pl, T, K, m0⟩) := Lib.hid HO.out.mem
              have HSt : Hid (StkOk g.rules T []) := Lib.hid HO.out.stk
              have HTk : Hid (K.length + remS [] ≤ 32 * k) := Lib.hid HO.out.tok
              have HOl : Hid (([] : Stk).length ≤ k) := Lib.hid HO.out.ol
              have hz1 : max m0 1 = max m0 (([] : Stk).length + 1) := rfl
              rw [hz1] at HNx
              clear hz1
              obtain ⟨Ob, hOb⟩ : ∃ Ob : Stk, ([] : Stk) = Ob := ⟨_, rfl⟩
              rw [hOb] at HNx HB HSt HTk HOl
              obtain ⟨A3, c3, e3⟩ := Kd.R_slice HB.out.op
              obtain ⟨n3, hn3⟩ : ∃ n, (frs Ob).length = n := ⟨_, rfl⟩
              rw [hn3] at e3
              subst e3
              obtain ⟨A1, c1, e1⟩ := Kd.R_slice HB.out.tr
              obtain ⟨n1, hn1⟩ : ∃ n, T.length = n := ⟨_, rfl⟩
              simp only [hn1] at e1
              subst e1
              clear hOb hn3 hn1
              have hcase : root < 0 ∨ 0 ≤ root ∧ x = root := by
                rcases hroot with ⟨h, _⟩ | ⟨h, h2, h3⟩
                · exact .inl h
                · exact .inr ⟨h, Classical.byContradiction (fun hx => ha ⟨h2, fun e => hx (e.trans h3.symm)⟩)⟩
              clear hk0 ha
              rcases hcase with hr0 | ⟨hr0, rfl⟩
              · go_upto_region 21 with (fail)
                have HTl : Hid (T.length = k) := Lib.hid HO.out.len
                have HBd : Hid ((T.length + 1) * 24 ≤ 140737488355328) := Lib.hid (by have := HTl.out; omega)
                have HBd2 : Hid (((frs Ob).length + 1) * 16 ≤ 140737488355328) := Lib.hid (by rw [frs_length]; have := HOl.out; omega)
                have HNk : Hid (∀ (X : List (Int × Int × Int)), X = T ++ [((j : Int), pl, (0 : Int))] → X.length = k + 1) := Lib.hid (fun X hX => by rw [hX, List.length_append, HTl.out]; rfl)
                obtain ⟨mo, hmo⟩ : ∃ n, Ob.length = n := ⟨_, rfl⟩
                have HMo := Lib.hid hmo
                obtain ⟨mx, hmx⟩ : ∃ n, max m0 (mo + 1) = n := ⟨_, rfl⟩
                have hmx1 : (if m0 < mo + 1 then ((mo : Int) + 1) else (m0 : Int)) = (mx : Int) := by split <;> omega
                have hmx2 : (if (m0 : Int) < (mo : Int) + 1 then ((mo : Int) + 1) else (m0 : Int)) = (mx : Int) := by split <;> omega
                have HMx := Lib.hid hmx
                clear hmx hmo
                go_wp2_with (first
                  | ((with_reducible refine gate_builtin (b := .append) (xs := #[.tmp 98, .tmp 102]) rfl ?_); at_builtin; go_loud (refine Kd.R_append KStep (w0 := w1) w1.heap.size rfl (.tmp 98) (.tmp 102) 26 50 (.agg #[.int .i64 0, .int .i64 0, .int .i64 0]) 24 rfl Tryd.underlying26 infoStep rfl (by decide) (by omega) (.slice A1 n1 c1) T ((j : Int), pl, 0) [.int .i64 (j : Int), .int .i64 pl, .int .i64 0] (fun _ => True) (fun _ => False) rfl rfl (KStep_M _ _ _ _ _ _) (fun _ hk => hk.elim) (fun _ _ => trivial) HB.out.tr HB.out.bel HB.out.bel.size HBd.out ?_); intro v4 w4 ho hb hg hat; (obtain ⟨g4, c4, e4, -⟩ := Kd.R_form ho (by simp); rw [HNk.out _ rfl] at e4; subst e4; have HM4 := Lib.hid (HB.out.setT ho hb hg pl m0); clear ho hb hg hat))
                  | ((with_reducible refine gate_builtin (b := .append) (xs := #[.tmp 104, .tmp 107]) rfl ?_); at_builtin; go_loud (refine Kd.R_append KFr (w0 := w1) w1.heap.size rfl (.tmp 104) (.tmp 107) 160 162 (.agg #[.int .i64 0, .int .i64 0]) 16 rfl Tryd.underlying160 infoFrame rfl (by decide) (by omega) (.slice A3 n3 c3) (frs Ob) ((k : Int), 0) [.int .i64 (k : Int), .int .i64 0] (fun _ => True) (fun _ => False) rfl rfl (KFr_M _ _ _ _ _) (fun _ hk => hk.elim) (fun _ _ => trivial) HM4.out.op HM4.out.bel HM4.out.bel.size HBd2.out ?_); intro v5 w5 ho hb hg hat; (have HM5 := Lib.hid (HM4.out.setO (O' := (k, 0, r) :: Ob) (by rw [frs_cons]; exact ho) hb hg); obtain ⟨g5, c5, e5, -⟩ := HM5.out.open_ HMo.out; subst e5; clear ho hb hg hat)))
                obtain ⟨S, hS⟩ : ∃ S, K.length + remS ((k, 0, r) :: Ob) = S := ⟨_, rfl⟩
                obtain ⟨tgt, htg⟩ : ∃ t, popG (opsD inc64) ((k, 0, r) :: Ob) ⟨pl, T ++ [((j : Int), pl, 0)], K, mx⟩ = t := ⟨_, rfl⟩
                have HNt : Hid (restG (opsD inc64) g.rules rs any nt (k + 1) tgt.1 tgt.2 = res) := Lib.hid (by
                  have := HNx.out
                  rw [HMo.out, HMx.out, htg] at this
                  exact this)
                have HSk : Hid (S ≤ 32 * (k + 1)) := Lib.hid (by
                  have := HTk.out
                  rw [← hS]
                  simp only [remS]
                  omega)
                have HJ0 : Hid (TrInn g.rules tgt S k mx w1 w5 (.slice (some ⟨g4, 0, none⟩) (k + 1) c4) u13 (.slice (some ⟨g5, 0, none⟩) (mo + 1) c5) ((k, 0, r) :: Ob) ⟨pl, T ++ [((j : Int), pl, 0)], K, mx⟩) := Lib.hid
                  ⟨HM5.out.num pl mx, HNk.out _ rfl, hS, StkOk.cons (by have := FrOk.new (G := g.rules) (T := T) (p := pl) (q := 0) HJb.out; rw [HTl.out, HRule.out] at this; exact this) (HSt.out.snoc _), htg, by simp only [List.length_cons]; have := HOl.out; omega, rfl⟩
                clear hS htg HM5 HM4 HB HNx hmx1 hmx2 HBd HBd2 HNk b0 b1 b2 b3
                go_loopw [13, 14, 16] (fun v2 v3 p wr => ∃ (O : Stk) (d : DS), p = .int .i64 d.place ∧ Hid (TrInn g.rules tgt S k mx w1 wr (.slice (some ⟨g4, 0, none⟩) (k + 1) c4) v2 v3 O d)) (fun v2 v3 _ _ => (S - lenOf v2) + lenOf v3)
                case atStart => exact ⟨_, _, rfl, HJ0⟩
                case round =>
                  obtain ⟨O2, ⟨p2, T2, K2, m2⟩, rfl, HJ⟩ := hrel
                  obtain ⟨w6, rfl⟩ : ∃ wo : World, wo = wr := ⟨_, rfl⟩
                  obtain rfl : m2 = mx := HJ.out.dep
                  have b3 := (gr_blk (blk_below HK1.out HJ.out.mem.bel)).2.2.2
                  cases O2 with
                  | nil =>
                    obtain ⟨A6, c6, e6⟩ := Kd.R_slice HJ.out.mem.op
                    rw [show (frs []).length = 0 from rfl] at e6
                    subst e6
                    go_wp2
                    go_roundw
                    case rel => exact ⟨k + 1, [], ⟨p2, T2, K2, m2⟩, by omega, by go_num, rfl, rfl, Lib.hid (HJ.out.out (fun φ q l O' h => by simp at h) HSk.out HNt.out)⟩
                    case measure => simp [intOf]; omega
                  | cons fr O3 =>
                    obtain ⟨φ, q, l⟩ := fr
                    obtain ⟨mo2, hmo2⟩ : ∃ n, O3.length = n := ⟨_, rfl⟩
                    obtain ⟨g6, c6, e6, hc6, f0, f1, ff, hg6⟩ := HJ.out.mem.open_ hmo2
                    subst e6
                    have hmoB : mo2 ≤ 200001 := by have := HJ.out.ol; simp only [List.length_cons] at this; omega
                    obtain ⟨hφ, ⟨hr0, hr1⟩, hq, hl⟩ := HJ.out.stk _ (List.mem_cons_self ..)
                    simp only at hφ hr0 hr1 hq hl
                    obtain ⟨s0, -, -⟩ := st_at HJ.out.mem.tr φ hφ
                    obtain ⟨jn, hjn⟩ : ∃ jn : Nat, (T2.getD φ (0, 0, 0)).1 = (jn : Int) := ⟨(T2.getD φ (0, 0, 0)).1.toNat, by omega⟩
                    simp only [hjn] at s0 hr1 hq hl hr0
                    obtain ⟨ady, y0, B2, c2, r2, e2, p10, p20, hrc2, hr2, HX2⟩ := at_rule HRu.out jn (by omega)
                    obtain rfl := Option.some.inj e2
                    have hrule2 : ruleD g.rules (jn : Int) = (y0, r2) := by unfold ruleD; rw [Int.toNat_natCast]; exact HX2.out
                    rw [hrule2] at hq hl
                    simp only at hq hl
                    have hTk : T2.length = k + 1 := HJ.out.len
                    have hjnl : jn < g.rules.length := by omega
                    have HMo2 := Lib.hid hmo2
                    have HL := Lib.hid hl
                    have Hφ := Lib.hid hφ
                    have hφI : (φ : Int) < (k : Int) + 1 := by omega
                    have hφN : φ < k + 1 := by omega
                    have HK20 := Lib.hid p20
                    have Hr2 := Lib.hid hr2
                    have hq1 : q ≤ r2.length := hq
                    clear hrule2 hjn e2 p10 hr2 hmo2 p20 hl
                    go_upto_region 26 with (fail)
                    obtain ⟨w7, hw7⟩ : ∃ w7, w6.alloc (.cells #[.int .i64 (φ : Int), .int .i64 (q : Int)] 162) = w7 := ⟨_, rfl⟩
                    have h7 : Below w6.heap.size w6 w7 := by rw [← hw7]; exact below_alloc (Below.refl _ _) _
                    have a0 : w7.cell? ⟨w6.heap.size, 0, none⟩ = some (.int .i64 (φ : Int)) := by rw [← hw7]; simp [go_sem]
                    have a1 : w7.cell? ⟨w6.heap.size, 1, none⟩ = some (.int .i64 (q : Int)) := by rw [← hw7]; simp [go_sem]
                    rw [hw7]
                    have HM7 := Lib.hid (HJ.out.mem.below h7)
                    have b3 := (gr_blk (blk_below HK1.out HM7.out.bel)).2.2.2
                    obtain ⟨s0', ⟨us, s2⟩, sf⟩ := st_at HM7.out.tr φ Hφ.out
                    have s0 := (h7.cell (World.block_lt_of_cell? _ _ s0)).trans s0
                    have p20 := (HM7.out.bel.cell (World.block_lt_of_cell? _ _ HK20.out)).trans HK20.out
                    have f1 := (h7.cell (World.block_lt_of_cell? _ _ f1)).trans f1
                    clear hw7 h7 s0' f0 ff
                    go_quiet (fail)
                    rename Nat => nq
                    obtain ⟨w8, hw8⟩ : ∃ w8, w7.drewN nq = w8 := ⟨_, rfl⟩
                    have HM8 : Hid (TrAt w1 w8 (.slice (some ⟨g4, 0, none⟩) (k + 1) c4) u13 (.slice (some ⟨g6, 0, none⟩) (mo2 + 1) c6) ((φ, q, l) :: O3) ⟨p2, T2, K2, m2⟩) := Lib.hid (by rw [← hw8]; exact HM7.out.drewN nq)
                    have a0 : w8.cell? ⟨w6.heap.size, 0, none⟩ = some (.int .i64 (φ : Int)) := by rw [← hw8, World.cell?_drewN]; exact a0
                    have a1 : w8.cell? ⟨w6.heap.size, 1, none⟩ = some (.int .i64 (q : Int)) := by rw [← hw8, World.cell?_drewN]; exact a1
                    have hr2 := Kd.C_below Hr2.out HM8.out.bel
                    rw [hw8]
                    clear hw8 s0 s2 sf p20 f1 b3
                    cases l with
                    | nil =>
                      have hqe : q = r2.length := by have := congrArg List.length HL.out; simp only [List.length_nil, List.length_drop] at this; omega
                      have hqI : ((q : Int) == (r2.length : Int)) = true := by rw [hqe]; simp
                      obtain ⟨-, ⟨us, s2⟩, sf⟩ := st_at HM8.out.tr φ Hφ.out
                      have HM9 : Hid (TrAt w1 (w8.setCell ⟨g4, φ * 3 + 2, none⟩ (.int .i64 p2)) (.slice (some ⟨g4, 0, none⟩) (k + 1) c4) u13 (.slice (some ⟨g6, 0, none⟩) mo2 c6) O3 ((opsD inc64).lv ⟨p2, T2, K2, m2⟩ φ)) := Lib.hid ((HM8.out.pop HMo2.out).leave φ Hφ.out)
                      clear hr2 hqe
                      go_wp2
                      refine ⟨⟨O3, (opsD inc64).lv ⟨p2, T2, K2, m2⟩ φ, rfl, Lib.hid (HJ.out.pop1 HM9.out)⟩, ?_⟩
                      simp only [lenOf]
                      omega
                    | cons y l =>
                      obtain ⟨hq2, hqy⟩ := at_drop HL.out
                      have hq32 : q < 32 := by have := HI.out.short (y0, r2) (by rw [← HX2.out]; exact getD_mem _ _ _ hjnl); simp only at this; omega
                      have hqI : ((q : Int) == (r2.length : Int)) = false := by rw [beq_eq_false_iff_ne]; omega
                      obtain ⟨adq, yy, rfl, hy, HY⟩ := at_scalar hr2 q hq2 0
                      obtain rfl : y = yy := by rw [← HY.out]; exact hqy.symm
                      clear hqy hr2
                      by_cases hneg : y < 0
                      · go_wp2
                        go_roundw
                        case rel => exact ⟨k + 1, (φ, q, y :: l) :: O3, ⟨p2, T2, K2, m2⟩, by omega, by go_num, rfl, rfl, Lib.hid (TrInn.out ⟨HM8.out, HJ.out.len, HJ.out.tok, HJ.out.stk, HJ.out.eq, HJ.out.ol, HJ.out.dep⟩ (fun φ' q' l' O' h => by injection h with h1 h2; injection h1 with h3 h4; injection h4 with h5 h6; exact ⟨y, l, h6.symm, hneg⟩) HSk.out HNt.out)⟩
                        case measure => simp [intOf]; omega
                      · obtain ⟨A9, c9, e9⟩ := Kd.R_slice HM8.out.tk
                        obtain ⟨n9, hn9⟩ : ∃ n, K2.length = n := ⟨_, rfl⟩
                        simp only [hn9] at e9
                        subst e9
                        have HKb : Hid ((K2.length + 1) * 8 ≤ 140737488355328) := Lib.hid (by have := HJ.out.tok; have := HSk.out; simp only at *; omega)
                        have HKS : Hid (K2.length + remS ((φ, q, y :: l) :: O3) = S) := Lib.hid HJ.out.tok
                        have Hn9 := Lib.hid hn9
                        clear hn9
                        go_wp2_with ((with_reducible refine gate_builtin (b := .append) (xs := #[.tmp 155, .tmp 161]) rfl ?_); at_builtin; go_loud (refine Kd.R_append (Kd.int .i64) (w0 := w1) w1.heap.size rfl (.tmp 155) (.tmp 161) 30 3 (.int .i64 0) 8 rfl Tryd.underlying30 infoInt rfl (by decide) (by omega) (.slice A9 n9 c9) K2 y [.int .i64 y] (fun _ => True) (fun _ => False) rfl rfl rfl (fun _ hk => hk.elim) (fun _ _ => trivial) HM8.out.tk HM8.out.bel HM8.out.bel.size HKb.out ?_); intro v10 w10 ho hb hg hat; (obtain ⟨A10, c10, e10⟩ := Kd.R_slice ho; rw [List.length_append, Hn9.out] at e10; subst e10; have HM10 := Lib.hid (HM8.out.setK ho hb hg (inc64 p2) m2); obtain ⟨g11, c11, e11, hc11, t0, t1, tf, -⟩ := HM10.out.open_ HMo2.out; injection e11 with e12 e13 e14; injection e12 with e12; injection e12 with e12; subst e12; subst e14; clear ho hb hg hat t0 e13))
                        refine ⟨⟨(φ, q + 1, l) :: O3, ⟨inc64 p2, T2, K2 ++ [y], m2⟩, rfl, Lib.hid (HJ.out.tok1 hneg ?_)⟩, ?_⟩
                        · have := HM10.out.done1 (q' := q + 1) (l' := l) HMo2.out
                          rwa [show ((q + 1 : Nat) : Int) = (q : Int) + 1 by omega] at this
                        · have h1 := HKS.out
                          have h2 := Hn9.out
                          simp only [remS, List.length_cons] at h1
                          simp only [lenOf]
                          omega
              · have hxI : (x == x) = true := by simp
                have hxJ : (x != x) = false := by simp
                go_upto_region 21 with (fail)
                clear hxI hxJ
                have HTl : Hid (T.length = k) := Lib.hid HO.out.len
                have HBd : Hid ((T.length + 1) * 24 ≤ 140737488355328) := Lib.hid (by have := HTl.out; omega)
                have HBd2 : Hid (((frs Ob).length + 1) * 16 ≤ 140737488355328) := Lib.hid (by rw [frs_length]; have := HOl.out; omega)
                have HNk : Hid (∀ (X : List (Int × Int × Int)), X = T ++ [((j : Int), pl, (0 : Int))] → X.length = k + 1) := Lib.hid (fun X hX => by rw [hX, List.length_append, HTl.out]; rfl)
                obtain ⟨mo, hmo⟩ : ∃ n, Ob.length = n := ⟨_, rfl⟩
                have HMo := Lib.hid hmo
                obtain ⟨mx, hmx⟩ : ∃ n, max m0 (mo + 1) = n := ⟨_, rfl⟩
                have hmx1 : (if m0 < mo + 1 then ((mo : Int) + 1) else (m0 : Int)) = (mx : Int) := by split <;> omega
                have hmx2 : (if (m0 : Int) < (mo : Int) + 1 then ((mo : Int) + 1) else (m0 : Int)) = (mx : Int) := by split <;> omega
                have HMx := Lib.hid hmx
                clear hmx hmo
                go_wp2_with (first
                  | ((with_reducible refine gate_builtin (b := .append) (xs := #[.tmp 98, .tmp 102]) rfl ?_); at_builtin; go_loud (refine Kd.R_append KStep (w0 := w1) w1.heap.size rfl (.tmp 98) (.tmp 102) 26 50 (.agg #[.int .i64 0, .int .i64 0, .int .i64 0]) 24 rfl Tryd.underlying26 infoStep rfl (by decide) (by omega) (.slice A1 n1 c1) T ((j : Int), pl, 0) [.int .i64 (j : Int), .int .i64 pl, .int .i64 0] (fun _ => True) (fun _ => False) rfl rfl (KStep_M _ _ _ _ _ _) (fun _ hk => hk.elim) (fun _ _ => trivial) HB.out.tr HB.out.bel HB.out.bel.size HBd.out ?_); intro v4 w4 ho hb hg hat; (obtain ⟨g4, c4, e4, -⟩ := Kd.R_form ho (by simp); rw [HNk.out _ rfl] at e4; subst e4; have HM4 := Lib.hid (HB.out.setT ho hb hg pl m0); clear ho hb hg hat))
                  | ((with_reducible refine gate_builtin (b := .append) (xs := #[.tmp 104, .tmp 107]) rfl ?_); at_builtin; go_loud (refine Kd.R_append KFr (w0 := w1) w1.heap.size rfl (.tmp 104) (.tmp 107) 160 162 (.agg #[.int .i64 0, .int .i64 0]) 16 rfl Tryd.underlying160 infoFrame rfl (by decide) (by omega) (.slice A3 n3 c3) (frs Ob) ((k : Int), 0) [.int .i64 (k : Int), .int .i64 0] (fun _ => True) (fun _ => False) rfl rfl (KFr_M _ _ _ _ _) (fun _ hk => hk.elim) (fun _ _ => trivial) HM4.out.op HM4.out.bel HM4.out.bel.size HBd2.out ?_); intro v5 w5 ho hb hg hat; (have HM5 := Lib.hid (HM4.out.setO (O' := (k, 0, r) :: Ob) (by rw [frs_cons]; exact ho) hb hg); obtain ⟨g5, c5, e5, -⟩ := HM5.out.open_ HMo.out; subst e5; clear ho hb hg hat)))
                obtain ⟨S, hS⟩ : ∃ S, K.length + remS ((k, 0, r) :: Ob) = S := ⟨_, rfl⟩
                obtain ⟨tgt, htg⟩ : ∃ t, popG (opsD inc64) ((k, 0, r) :: Ob) ⟨pl, T ++ [((j : Int), pl, 0)], K, mx⟩ = t := ⟨_, rfl⟩
                have HNt : Hid (restG (opsD inc64) g.rules rs any nt (k + 1) tgt.1 tgt.2 = res) := Lib.hid (by
                  have := HNx.out
                  rw [HMo.out, HMx.out, htg] at this
                  exact this)
                have HSk : Hid (S ≤ 32 * (k + 1)) := Lib.hid (by
                  have := HTk.out
                  rw [← hS]
                  simp only [remS]
                  omega)
                have HJ0 : Hid (TrInn g.rules tgt S k mx w1 w5 (.slice (some ⟨g4, 0, none⟩) (k + 1) c4) u13 (.slice (some ⟨g5, 0, none⟩) (mo + 1) c5) ((k, 0, r) :: Ob) ⟨pl, T ++ [((j : Int), pl, 0)], K, mx⟩) := Lib.hid
                  ⟨HM5.out.num pl mx, HNk.out _ rfl, hS, StkOk.cons (by have := FrOk.new (G := g.rules) (T := T) (p := pl) (q := 0) HJb.out; rw [HTl.out, HRule.out] at this; exact this) (HSt.out.snoc _), htg, by simp only [List.length_cons]; have := HOl.out; omega, rfl⟩
                clear hS htg HM5 HM4 HB HNx hmx1 hmx2 HBd HBd2 HNk b0 b1 b2 b3
                go_loopw [13, 14, 16] (fun v2 v3 p wr => ∃ (O : Stk) (d : DS), p = .int .i64 d.place ∧ Hid (TrInn g.rules tgt S k mx w1 wr (.slice (some ⟨g4, 0, none⟩) (k + 1) c4) v2 v3 O d)) (fun v2 v3 _ _ => (S - lenOf v2) + lenOf v3)
                case atStart => exact ⟨_, _, rfl, HJ0⟩
                case round =>
                  obtain ⟨O2, ⟨p2, T2, K2, m2⟩, rfl, HJ⟩ := hrel
                  obtain ⟨w6, rfl⟩ : ∃ wo : World, wo = wr := ⟨_, rfl⟩
                  obtain rfl : m2 = mx := HJ.out.dep
                  have b3 := (gr_blk (blk_below HK1.out HJ.out.mem.bel)).2.2.2
                  cases O2 with
                  | nil =>
                    obtain ⟨A6, c6, e6⟩ := Kd.R_slice HJ.out.mem.op
                    rw [show (frs []).length = 0 from rfl] at e6
                    subst e6
                    go_wp2
                    go_roundw
                    case rel => exact ⟨k + 1, [], ⟨p2, T2, K2, m2⟩, by omega, by go_num, rfl, rfl, Lib.hid (HJ.out.out (fun φ q l O' h => by simp at h) HSk.out HNt.out)⟩
                    case measure => simp [intOf]; omega
                  | cons fr O3 =>
                    obtain ⟨φ, q, l⟩ := fr
                    obtain ⟨mo2, hmo2⟩ : ∃ n, O3.length = n := ⟨_, rfl⟩
                    obtain ⟨g6, c6, e6, hc6, f0, f1, ff, hg6⟩ := HJ.out.mem.open_ hmo2
                    subst e6
                    have hmoB : mo2 ≤ 200001 := by have := HJ.out.ol; simp only [List.length_cons] at this; omega
                    obtain ⟨hφ, ⟨hr0, hr1⟩, hq, hl⟩ := HJ.out.stk _ (List.mem_cons_self ..)
                    simp only at hφ hr0 hr1 hq hl
                    obtain ⟨s0, -, -⟩ := st_at HJ.out.mem.tr φ hφ
                    obtain ⟨jn, hjn⟩ : ∃ jn : Nat, (T2.getD φ (0, 0, 0)).1 = (jn : Int) := ⟨(T2.getD φ (0, 0, 0)).1.toNat, by omega⟩
                    simp only [hjn] at s0 hr1 hq hl hr0
                    obtain ⟨ady, y0, B2, c2, r2, e2, p10, p20, hrc2, hr2, HX2⟩ := at_rule HRu.out jn (by omega)
                    obtain rfl := Option.some.inj e2
                    have hrule2 : ruleD g.rules (jn : Int) = (y0, r2) := by unfold ruleD; rw [Int.toNat_natCast]; exact HX2.out
                    rw [hrule2] at hq hl
                    simp only at hq hl
                    have hTk : T2.length = k + 1 := HJ.out.len
                    have hjnl : jn < g.rules.length := by omega
                    have HMo2 := Lib.hid hmo2
                    have HL := Lib.hid hl
                    have Hφ := Lib.hid hφ
                    have hφI : (φ : Int) < (k : Int) + 1 := by omega
                    have hφN : φ < k + 1 := by omega
                    have HK20 := Lib.hid p20
                    have Hr2 := Lib.hid hr2
                    have hq1 : q ≤ r2.length := hq
                    clear hrule2 hjn e2 p10 hr2 hmo2 p20 hl
                    go_upto_region 26 with (fail)
                    obtain ⟨w7, hw7⟩ : ∃ w7, w6.alloc (.cells #[.int .i64 (φ : Int), .int .i64 (q : Int)] 162) = w7 := ⟨_, rfl⟩
                    have h7 : Below w6.heap.size w6 w7 := by rw [← hw7]; exact below_alloc (Below.refl _ _) _
                    have a0 : w7.cell? ⟨w6.heap.size, 0, none⟩ = some (.int .i64 (φ : Int)) := by rw [← hw7]; simp [go_sem]
                    have a1 : w7.cell? ⟨w6.heap.size, 1, none⟩ = some (.int .i64 (q : Int)) := by rw [← hw7]; simp [go_sem]
                    rw [hw7]
                    have HM7 := Lib.hid (HJ.out.mem.below h7)
                    have b3 := (gr_blk (blk_below HK1.out HM7.out.bel)).2.2.2
                    obtain ⟨s0', ⟨us, s2⟩, sf⟩ := st_at HM7.out.tr φ Hφ.out
                    have s0 := (h7.cell (World.block_lt_of_cell? _ _ s0)).trans s0
                    have p20 := (HM7.out.bel.cell (World.block_lt_of_cell? _ _ HK20.out)).trans HK20.out
                    have f1 := (h7.cell (World.block_lt_of_cell? _ _ f1)).trans f1
                    clear hw7 h7 s0' f0 ff
                    go_quiet (fail)
                    rename Nat => nq
                    obtain ⟨w8, hw8⟩ : ∃ w8, w7.drewN nq = w8 := ⟨_, rfl⟩
                    have HM8 : Hid (TrAt w1 w8 (.slice (some ⟨g4, 0, none⟩) (k + 1) c4) u13 (.slice (some ⟨g6, 0, none⟩) (mo2 + 1) c6) ((φ, q, l) :: O3) ⟨p2, T2, K2, m2⟩) := Lib.hid (by rw [← hw8]; exact HM7.out.drewN nq)
                    have a0 : w8.cell? ⟨w6.heap.size, 0, none⟩ = some (.int .i64 (φ : Int)) := by rw [← hw8, World.cell?_drewN]; exact a0
                    have a1 : w8.cell? ⟨w6.heap.size, 1, none⟩ = some (.int .i64 (q : Int)) := by rw [← hw8, World.cell?_drewN]; exact a1
                    have hr2 := Kd.C_below Hr2.out HM8.out.bel
                    rw [hw8]
                    clear hw8 s0 s2 sf p20 f1 b3
                    cases l with
                    | nil =>
                      have hqe : q = r2.length := by have := congrArg List.length HL.out; simp only [List.length_nil, List.length_drop] at this; omega
                      have hqI : ((q : Int) == (r2.length : Int)) = true := by rw [hqe]; simp
                      obtain ⟨-, ⟨us, s2⟩, sf⟩ := st_at HM8.out.tr φ Hφ.out
                      have HM9 : Hid (TrAt w1 (w8.setCell ⟨g4, φ * 3 + 2, none⟩ (.int .i64 p2)) (.slice (some ⟨g4, 0, none⟩) (k + 1) c4) u13 (.slice (some ⟨g6, 0, none⟩) mo2 c6) O3 ((opsD inc64).lv ⟨p2, T2, K2, m2⟩ φ)) := Lib.hid ((HM8.out.pop HMo2.out).leave φ Hφ.out)
                      clear hr2 hqe
                      go_wp2
                      refine ⟨⟨O3, (opsD inc64).lv ⟨p2, T2, K2, m2⟩ φ, rfl, Lib.hid (HJ.out.pop1 HM9.out)⟩, ?_⟩
                      simp only [lenOf]
                      omega
                    | cons y l =>
                      obtain ⟨hq2, hqy⟩ := at_drop HL.out
                      have hq32 : q < 32 := by have := HI.out.short (y0, r2) (by rw [← HX2.out]; exact getD_mem _ _ _ hjnl); simp only at this; omega
                      have hqI : ((q : Int) == (r2.length : Int)) = false := by rw [beq_eq_false_iff_ne]; omega
                      obtain ⟨adq, yy, rfl, hy, HY⟩ := at_scalar hr2 q hq2 0
                      obtain rfl : y = yy := by rw [← HY.out]; exact hqy.symm
                      clear hqy hr2
                      by_cases hneg : y < 0
                      · go_wp2
                        go_roundw
                        case rel => exact ⟨k + 1, (φ, q, y :: l) :: O3, ⟨p2, T2, K2, m2⟩, by omega, by go_num, rfl, rfl, Lib.hid (TrInn.out ⟨HM8.out, HJ.out.len, HJ.out.tok, HJ.out.stk, HJ.out.eq, HJ.out.ol, HJ.out.dep⟩ (fun φ' q' l' O' h => by injection h with h1 h2; injection h1 with h3 h4; injection h4 with h5 h6; exact ⟨y, l, h6.symm, hneg⟩) HSk.out HNt.out)⟩
                        case measure => simp [intOf]; omega
                      · obtain ⟨A9, c9, e9⟩ := Kd.R_slice HM8.out.tk
                        obtain ⟨n9, hn9⟩ : ∃ n, K2.length = n := ⟨_, rfl⟩
                        simp only [hn9] at e9
                        subst e9
                        have HKb : Hid ((K2.length + 1) * 8 ≤ 140737488355328) := Lib.hid (by have := HJ.out.tok; have := HSk.out; simp only at *; omega)
                        have HKS : Hid (K2.length + remS ((φ, q, y :: l) :: O3) = S) := Lib.hid HJ.out.tok
                        have Hn9 := Lib.hid hn9
                        clear hn9
                        go_wp2_with ((with_reducible refine gate_builtin (b := .append) (xs := #[.tmp 155, .tmp 161]) rfl ?_); at_builtin; go_loud (refine Kd.R_append (Kd.int .i64) (w0 := w1) w1.heap.size rfl (.tmp 155) (.tmp 161) 30 3 (.int .i64 0) 8 rfl Tryd.underlying30 infoInt rfl (by decide) (by omega) (.slice A9 n9 c9) K2 y [.int .i64 y] (fun _ => True) (fun _ => False) rfl rfl rfl (fun _ hk => hk.elim) (fun _ _ => trivial) HM8.out.tk HM8.out.bel HM8.out.bel.size HKb.out ?_); intro v10 w10 ho hb hg hat; (obtain ⟨A10, c10, e10⟩ := Kd.R_slice ho; rw [List.length_append, Hn9.out] at e10; subst e10; have HM10 := Lib.hid (HM8.out.setK ho hb hg (inc64 p2) m2); obtain ⟨g11, c11, e11, hc11, t0, t1, tf, -⟩ := HM10.out.open_ HMo2.out; injection e11 with e12 e13 e14; injection e12 with e12; injection e12 with e12; subst e12; subst e14; clear ho hb hg hat t0 e13))
                        refine ⟨⟨(φ, q + 1, l) :: O3, ⟨inc64 p2, T2, K2 ++ [y], m2⟩, rfl, Lib.hid (HJ.out.tok1 hneg ?_)⟩, ?_⟩
                        · have := HM10.out.done1 (q' := q + 1) (l' := l) HMo2.out
                          rwa [show ((q + 1 : Nat) : Int) = (q : Int) + 1 by omega] at this
                        · have h1 := HKS.out
                          have h2 := Hn9.out
                          simp only [remS, List.length_cons] at h1
                          simp only [lenOf]
                          omega
          · have hkp : 0 < k := by omega
            have hkI : ((k : Int) == 0) = false := by rw [beq_eq_false_iff_ne]; omega
            cases O with
            | nil =>
              have HF : Hid (res = none) := Lib.hid (by rw [← HO.out.res]; exact restG_empty HD.out hkp)
              obtain ⟨A6, c6, e6⟩ := Kd.R_slice HO.out.mem.op
              rw [show (frs []).length = 0 from rfl] at e6
              subst e6
              clear hk0
              go_wp2
              ((try simp only [Exit.inBlock, Exit.then]); refine bodyPost_ret (results4_tmp rfl _ _ _) rfl ?_)
              exact treeP_no HF.out (below_next HB1.out HO.out.mem.bel)
            | cons fr O3 =>
              obtain ⟨φ, q, l⟩ := fr
              obtain ⟨x2, l', rfl, hx2⟩ := HO.out.pop φ q l O3 rfl
              obtain ⟨mo2, hmo2⟩ : ∃ n, O3.length = n := ⟨_, rfl⟩
              obtain ⟨g6, c6, e6, hc6, f0, f1, ff, hg6⟩ := HO.out.mem.open_ hmo2
              subst e6
              have hmoB : mo2 ≤ 200001 := by have := HO.out.ol; simp only [List.length_cons] at this; omega
              obtain ⟨hφ, ⟨hr0, hr1⟩, hq, hl⟩ := HO.out.stk _ (List.mem_cons_self ..)
              simp only at hφ hr0 hr1 hq hl
              have hTk : T.length = k := HO.out.len
              obtain ⟨g1, c1, e1, -⟩ := Kd.R_form HO.out.mem.tr (by show 0 < T.length; omega)
              simp only [hTk] at e1
              subst e1
              obtain ⟨s0, -, -⟩ := st_at HO.out.mem.tr φ hφ
              obtain ⟨jn, hjn⟩ : ∃ jn : Nat, (T.getD φ (0, 0, 0)).1 = (jn : Int) := ⟨(T.getD φ (0, 0, 0)).1.toNat, by omega⟩
              simp only [hjn] at s0 hr1 hq hl hr0
              obtain ⟨ady, y0, B2, cc2, r2, e2, p10, p20, hrc2, hr2, HX2⟩ := at_rule HRu.out jn (by omega)
              obtain rfl := Option.some.inj e2
              have hrule2 : ruleD g.rules (jn : Int) = (y0, r2) := by unfold ruleD; rw [Int.toNat_natCast]; exact HX2.out
              rw [hrule2] at hq hl
              simp only at hq hl
              have hjnl : jn < g.rules.length := by omega
              obtain ⟨hq2, hqy⟩ := at_drop hl
              have hq32 : q < 32 := by have := HI.out.short (y0, r2) (by rw [← HX2.out]; exact getD_mem _ _ _ hjnl); simp only at this; omega
              have HMo2 := Lib.hid hmo2
              have hφI : (φ : Int) < (k : Int) := by omega
              have hφN : φ < k := by omega
              have HK20 := Lib.hid p20
              have Hr2 := Lib.hid hr2
              have Hqy := Lib.hid hqy
              have HTk := Lib.hid hTk
              clear hrule2 hjn e2 p10 hr2 hmo2 p20 hl hqy hq hTk hk0 hφ
              go_upto_region 18 with (fail)
              obtain ⟨w7, hw7⟩ : ∃ w7, w2.alloc (.cells #[.int .i64 (φ : Int), .int .i64 (q : Int)] 162) = w7 := ⟨_, rfl⟩
              have h7 : Below w2.heap.size w2 w7 := by rw [← hw7]; exact below_alloc (Below.refl _ _) _
              have a0 : w7.cell? ⟨w2.heap.size, 0, none⟩ = some (.int .i64 (φ : Int)) := by rw [← hw7]; simp [go_sem]
              have a1 : w7.cell? ⟨w2.heap.size, 1, none⟩ = some (.int .i64 (q : Int)) := by rw [← hw7]; simp [go_sem]
              rw [hw7]
              have HM7 := Lib.hid (HO.out.mem.below h7)
              have b3 := (gr_blk (blk_below HK1.out HM7.out.bel)).2.2.2
              have s0 := (h7.cell (World.block_lt_of_cell? _ _ s0)).trans s0
              have p20 := (HM7.out.bel.cell (World.block_lt_of_cell? _ _ HK20.out)).trans HK20.out
              have k1 := (HK2.out _ HM7.out.bel).1
              obtain ⟨adq, yy, rfl, hy, HY⟩ := at_scalar (Kd.C_below Hr2.out HM7.out.bel) q hq2 0
              obtain rfl : x2 = yy := by rw [← HY.out]; exact Hqy.out.symm
              clear hw7 h7 f0 f1 ff b0 b1 b2 hn
              by_cases hm : x2 = -1 - x
              · have hcI : (x2 == -1 - x) = true := by rw [hm]; simp
                have hcJ : (x2 != -1 - x) = false := by rw [hm]; simp
                have HNx : Hid (restG (opsD inc64) g.rules rs any nt (k + 1) (popG (opsD inc64) ((k, 0, r) :: (φ, q + 1, l') :: O3) ⟨pl, T ++ [((j : Int), pl, 0)], K, max m0 (((φ, q + 1, l') :: O3 : Stk).length + 1)⟩).1 (popG (opsD inc64) ((k, 0, r) :: (φ, q + 1, l') :: O3) ⟨pl, T ++ [((j : Int), pl, 0)], K, max m0 (((φ, q + 1, l') :: O3 : Stk).length + 1)⟩).2 = res) := Lib.hid (by
                  rw [← HO.out.res]
                  have := restG_next (o := opsD inc64) (any := any) (nt := nt) (d := ⟨pl, T, K, m0⟩) (φ := φ) (q := q) (x := x2) (r := l') (O := O3) HD.out hkp HJb.out (by rw [HRule.out]; show ¬ x ≠ -1 - x2; omega)
                  rw [HRule.out] at this
                  exact this.symm)
                have HSt : Hid (StkOk g.rules T ((φ, q + 1, l') :: O3)) := Lib.hid HO.out.stk.next
                have HTk2 : Hid (K.length + remS ((φ, q + 1, l') :: O3) ≤ 32 * k) := Lib.hid (by have := HO.out.tok; simp only [remS, List.length_cons] at this ⊢; omega)
                have HOl : Hid (((φ, q + 1, l') :: O3 : Stk).length ≤ k) := Lib.hid (by have := HO.out.ol; simp only [List.length_cons] at this ⊢; exact this)
                clear hm
                go_quiet (fail)
                rename Nat => nq
                obtain ⟨w8, hw8⟩ : ∃ w8, w7.drewN nq = w8 := ⟨_, rfl⟩
                have HM8 : Hid (TrAt w1 w8 (.slice (some ⟨g1, 0, none⟩) k c1) u13 (.slice (some ⟨g6, 0, none⟩) (mo2 + 1) c6) ((φ, q, x2 :: l') :: O3) ⟨pl, T, K, m0⟩) := Lib.hid (by rw [← hw8]; exact HM7.out.drewN nq)
                obtain ⟨g11, c11, e11, hc11, t0, t1, tf, -⟩ := HM8.out.open_ HMo2.out
                injection e11 with e12 e13 e14
                injection e12 with e12
                injection e12 with e12
                subst e12
                subst e14
                rw [hw8]
                clear hw8 a0 a1 b3 s0 p20 hy t0 e13 hcI hcJ k1
                go_upto_region 21 with (fail)
                obtain ⟨w9, hw9⟩ : ∃ w9, w8.setCell ⟨g6, mo2 * 2 + 1, none⟩ (.int .i64 ((q : Int) + 1)) = w9 := ⟨_, rfl⟩
                have HB : Hid (TrAt w1 w9 (.slice (some ⟨g1, 0, none⟩) k c1) u13 (.slice (some ⟨g6, 0, none⟩) (mo2 + 1) c6) ((φ, q + 1, l') :: O3) ⟨pl, T, K, m0⟩) := Lib.hid (by
                  rw [← hw9]
                  have := HM8.out.done1 (q' := q + 1) (l' := l') HMo2.out
                  rwa [show ((q + 1 : Nat) : Int) = (q : Int) + 1 by omega] at this)
                rw [hw9]
                have HTk := HTk2
                obtain ⟨Ob, hOb⟩ : ∃ Ob : Stk, ((φ, q + 1, l') :: O3 : Stk) = Ob := ⟨_, rfl⟩
                rw [hOb] at HNx HB HSt HTk HOl
                clear hw9 hOb tf t1 HTk2
                have b0 := True.intro
                have b1 := True.intro
                have b2 := True.intro
                have b3 := True.intro
                have HTl : Hid (T.length = k) := Lib.hid HO.out.len
                have HBd : Hid ((T.length + 1) * 24 ≤ 140737488355328) := Lib.hid (by have := HTl.out; omega)
                have HBd2 : Hid (((frs Ob).length + 1) * 16 ≤ 140737488355328) := Lib.hid (by rw [frs_length]; have := HOl.out; omega)
                have HNk : Hid (∀ (X : List (Int × Int × Int)), X = T ++ [((j : Int), pl, (0 : Int))] → X.length = k + 1) := Lib.hid (fun X hX => by rw [hX, List.length_append, HTl.out]; rfl)
                obtain ⟨mo, hmo⟩ : ∃ n, Ob.length = n := ⟨_, rfl⟩
                have HMo := Lib.hid hmo
                obtain ⟨mx, hmx⟩ : ∃ n, max m0 (mo + 1) = n := ⟨_, rfl⟩
                have hmx1 : (if m0 < mo + 1 then ((mo : Int) + 1) else (m0 : Int)) = (mx : Int) := by split <;> omega
                have hmx2 : (if (m0 : Int) < (mo : Int) + 1 then ((mo : Int) + 1) else (m0 : Int)) = (mx : Int) := by split <;> omega
                have HMx := Lib.hid hmx
                clear hmx hmo
                go_wp2_with (first
                  | ((with_reducible refine gate_builtin (b := .append) (xs := #[.tmp 98, .tmp 102]) rfl ?_); at_builtin; go_loud (refine Kd.R_append KStep (w0 := w1) w1.heap.size rfl (.tmp 98) (.tmp 102) 26 50 (.agg #[.int .i64 0, .int .i64 0, .int .i64 0]) 24 rfl Tryd.underlying26 infoStep rfl (by decide) (by omega) (.slice (some ⟨g1, 0, none⟩) k c1) T ((j : Int), pl, 0) [.int .i64 (j : Int), .int .i64 pl, .int .i64 0] (fun _ => True) (fun _ => False) rfl rfl (KStep_M _ _ _ _ _ _) (fun _ hk => hk.elim) (fun _ _ => trivial) HB.out.tr HB.out.bel HB.out.bel.size HBd.out ?_); intro v4 w4 ho hb hg hat; (obtain ⟨g4, c4, e4, -⟩ := Kd.R_form ho (by simp); rw [HNk.out _ rfl] at e4; subst e4; have HM4 := Lib.hid (HB.out.setT ho hb hg pl m0); clear ho hb hg hat))
                  | ((with_reducible refine gate_builtin (b := .append) (xs := #[.tmp 104, .tmp 107]) rfl ?_); at_builtin; go_loud (refine Kd.R_append KFr (w0 := w1) w1.heap.size rfl (.tmp 104) (.tmp 107) 160 162 (.agg #[.int .i64 0, .int .i64 0]) 16 rfl Tryd.underlying160 infoFrame rfl (by decide) (by omega) (.slice (some ⟨g6, 0, none⟩) (mo2 + 1) c6) (frs Ob) ((k : Int), 0) [.int .i64 (k : Int), .int .i64 0] (fun _ => True) (fun _ => False) rfl rfl (KFr_M _ _ _ _ _) (fun _ hk => hk.elim) (fun _ _ => trivial) HM4.out.op HM4.out.bel HM4.out.bel.size HBd2.out ?_); intro v5 w5 ho hb hg hat; (have HM5 := Lib.hid (HM4.out.setO (O' := (k, 0, r) :: Ob) (by rw [frs_cons]; exact ho) hb hg); obtain ⟨g5, c5, e5, -⟩ := HM5.out.open_ HMo.out; subst e5; clear ho hb hg hat)))
                obtain ⟨S, hS⟩ : ∃ S, K.length + remS ((k, 0, r) :: Ob) = S := ⟨_, rfl⟩
                obtain ⟨tgt, htg⟩ : ∃ t, popG (opsD inc64) ((k, 0, r) :: Ob) ⟨pl, T ++ [((j : Int), pl, 0)], K, mx⟩ = t := ⟨_, rfl⟩
                have HNt : Hid (restG (opsD inc64) g.rules rs any nt (k + 1) tgt.1 tgt.2 = res) := Lib.hid (by
                  have := HNx.out
                  rw [HMo.out, HMx.out, htg] at this
                  exact this)
                have HSk : Hid (S ≤ 32 * (k + 1)) := Lib.hid (by
                  have := HTk.out
                  rw [← hS]
                  simp only [remS]
                  omega)
                have HJ0 : Hid (TrInn g.rules tgt S k mx w1 w5 (.slice (some ⟨g4, 0, none⟩) (k + 1) c4) u13 (.slice (some ⟨g5, 0, none⟩) (mo + 1) c5) ((k, 0, r) :: Ob) ⟨pl, T ++ [((j : Int), pl, 0)], K, mx⟩) := Lib.hid
                  ⟨HM5.out.num pl mx, HNk.out _ rfl, hS, StkOk.cons (by have := FrOk.new (G := g.rules) (T := T) (p := pl) (q := 0) HJb.out; rw [HTl.out, HRule.out] at this; exact this) (HSt.out.snoc _), htg, by simp only [List.length_cons]; have := HOl.out; omega, rfl⟩
                clear hS htg HM5 HM4 HB HNx hmx1 hmx2 HBd HBd2 HNk b0 b1 b2 b3
                go_loopw [13, 14, 16] (fun v2 v3 p wr => ∃ (O : Stk) (d : DS), p = .int .i64 d.place ∧ Hid (TrInn g.rules tgt S k mx w1 wr (.slice (some ⟨g4, 0, none⟩) (k + 1) c4) v2 v3 O d)) (fun v2 v3 _ _ => (S - lenOf v2) + lenOf v3)
                case atStart => exact ⟨_, _, rfl, HJ0⟩
                case round =>
                  obtain ⟨O2, ⟨p2, T2, K2, m2⟩, rfl, HJ⟩ := hrel
                  obtain ⟨w6, rfl⟩ : ∃ wo : World, wo = wr := ⟨_, rfl⟩
                  obtain rfl : m2 = mx := HJ.out.dep
                  have b3 := (gr_blk (blk_below HK1.out HJ.out.mem.bel)).2.2.2
                  cases O2 with
                  | nil =>
                    obtain ⟨A6, c6, e6⟩ := Kd.R_slice HJ.out.mem.op
                    rw [show (frs []).length = 0 from rfl] at e6
                    subst e6
                    go_wp2
                    go_roundw
                    case rel => exact ⟨k + 1, [], ⟨p2, T2, K2, m2⟩, by omega, by go_num, rfl, rfl, Lib.hid (HJ.out.out (fun φ q l O' h => by simp at h) HSk.out HNt.out)⟩
                    case measure => simp [intOf]; omega
                  | cons fr O3 =>
                    obtain ⟨φ, q, l⟩ := fr
                    obtain ⟨mo2, hmo2⟩ : ∃ n, O3.length = n := ⟨_, rfl⟩
                    obtain ⟨g6, c6, e6, hc6, f0, f1, ff, hg6⟩ := HJ.out.mem.open_ hmo2
                    subst e6
                    have hmoB : mo2 ≤ 200001 := by have := HJ.out.ol; simp only [List.length_cons] at this; omega
                    obtain ⟨hφ, ⟨hr0, hr1⟩, hq, hl⟩ := HJ.out.stk _ (List.mem_cons_self ..)
                    simp only at hφ hr0 hr1 hq hl
                    obtain ⟨s0, -, -⟩ := st_at HJ.out.mem.tr φ hφ
                    obtain ⟨jn, hjn⟩ : ∃ jn : Nat, (T2.getD φ (0, 0, 0)).1 = (jn : Int) := ⟨(T2.getD φ (0, 0, 0)).1.toNat, by omega⟩
                    simp only [hjn] at s0 hr1 hq hl hr0
                    obtain ⟨ady, y0, B2, c2, r2, e2, p10, p20, hrc2, hr2, HX2⟩ := at_rule HRu.out jn (by omega)
                    obtain rfl := Option.some.inj e2
                    have hrule2 : ruleD g.rules (jn : Int) = (y0, r2) := by unfold ruleD; rw [Int.toNat_natCast]; exact HX2.out
                    rw [hrule2] at hq hl
                    simp only at hq hl
                    have hTk : T2.length = k + 1 := HJ.out.len
                    have hjnl : jn < g.rules.length := by omega
                    have HMo2 := Lib.hid hmo2
                    have HL := Lib.hid hl
                    have Hφ := Lib.hid hφ
                    have hφI : (φ : Int) < (k : Int) + 1 := by omega
                    have hφN : φ < k + 1 := by omega
                    have HK20 := Lib.hid p20
                    have Hr2 := Lib.hid hr2
                    have hq1 : q ≤ r2.length := hq
                    clear hrule2 hjn e2 p10 hr2 hmo2 p20 hl
                    go_upto_region 26 with (fail)
                    obtain ⟨w7, hw7⟩ : ∃ w7, w6.alloc (.cells #[.int .i64 (φ : Int), .int .i64 (q : Int)] 162) = w7 := ⟨_, rfl⟩
                    have h7 : Below w6.heap.size w6 w7 := by rw [← hw7]; exact below_alloc (Below.refl _ _) _
                    have a0 : w7.cell? ⟨w6.heap.size, 0, none⟩ = some (.int .i64 (φ : Int)) := by rw [← hw7]; simp [go_sem]
                    have a1 : w7.cell? ⟨w6.heap.size, 1, none⟩ = some (.int .i64 (q : Int)) := by rw [← hw7]; simp [go_sem]
                    rw [hw7]
                    have HM7 := Lib.hid (HJ.out.mem.below h7)
                    have b3 := (gr_blk (blk_below HK1.out HM7.out.bel)).2.2.2
                    obtain ⟨s0', ⟨us, s2⟩, sf⟩ := st_at HM7.out.tr φ Hφ.out
                    have s0 := (h7.cell (World.block_lt_of_cell? _ _ s0)).trans s0
                    have p20 := (HM7.out.bel.cell (World.block_lt_of_cell? _ _ HK20.out)).trans HK20.out
                    have f1 := (h7.cell (World.block_lt_of_cell? _ _ f1)).trans f1
                    clear hw7 h7 s0' f0 ff
                    go_quiet (fail)
                    rename Nat => nq
                    obtain ⟨w8, hw8⟩ : ∃ w8, w7.drewN nq = w8 := ⟨_, rfl⟩
                    have HM8 : Hid (TrAt w1 w8 (.slice (some ⟨g4, 0, none⟩) (k + 1) c4) u13 (.slice (some ⟨g6, 0, none⟩) (mo2 + 1) c6) ((φ, q, l) :: O3) ⟨p2, T2, K2, m2⟩) := Lib.hid (by rw [← hw8]; exact HM7.out.drewN nq)
                    have a0 : w8.cell? ⟨w6.heap.size, 0, none⟩ = some (.int .i64 (φ : Int)) := by rw [← hw8, World.cell?_drewN]; exact a0
                    have a1 : w8.cell? ⟨w6.heap.size, 1, none⟩ = some (.int .i64 (q : Int)) := by rw [← hw8, World.cell?_drewN]; exact a1
                    have hr2 := Kd.C_below Hr2.out HM8.out.bel
                    rw [hw8]
                    clear hw8 s0 s2 sf p20 f1 b3
                    cases l with
                    | nil =>
                      have hqe : q = r2.length := by have := congrArg List.length HL.out; simp only [List.length_nil, List.length_drop] at this; omega
                      have hqI : ((q : Int) == (r2.length : Int)) = true := by rw [hqe]; simp
                      obtain ⟨-, ⟨us, s2⟩, sf⟩ := st_at HM8.out.tr φ Hφ.out
                      have HM9 : Hid (TrAt w1 (w8.setCell ⟨g4, φ * 3 + 2, none⟩ (.int .i64 p2)) (.slice (some ⟨g4, 0, none⟩) (k + 1) c4) u13 (.slice (some ⟨g6, 0, none⟩) mo2 c6) O3 ((opsD inc64).lv ⟨p2, T2, K2, m2⟩ φ)) := Lib.hid ((HM8.out.pop HMo2.out).leave φ Hφ.out)
                      clear hr2 hqe
                      go_wp2
                      refine ⟨⟨O3, (opsD inc64).lv ⟨p2, T2, K2, m2⟩ φ, rfl, Lib.hid (HJ.out.pop1 HM9.out)⟩, ?_⟩
                      simp only [lenOf]
                      omega
                    | cons y l =>
                      obtain ⟨hq2, hqy⟩ := at_drop HL.out
                      have hq32 : q < 32 := by have := HI.out.short (y0, r2) (by rw [← HX2.out]; exact getD_mem _ _ _ hjnl); simp only at this; omega
                      have hqI : ((q : Int) == (r2.length : Int)) = false := by rw [beq_eq_false_iff_ne]; omega
                      obtain ⟨adq, yy, rfl, hy, HY⟩ := at_scalar hr2 q hq2 0
                      obtain rfl : y = yy := by rw [← HY.out]; exact hqy.symm
                      clear hqy hr2
                      by_cases hneg : y < 0
                      · go_wp2
                        go_roundw
                        case rel => exact ⟨k + 1, (φ, q, y :: l) :: O3, ⟨p2, T2, K2, m2⟩, by omega, by go_num, rfl, rfl, Lib.hid (TrInn.out ⟨HM8.out, HJ.out.len, HJ.out.tok, HJ.out.stk, HJ.out.eq, HJ.out.ol, HJ.out.dep⟩ (fun φ' q' l' O' h => by injection h with h1 h2; injection h1 with h3 h4; injection h4 with h5 h6; exact ⟨y, l, h6.symm, hneg⟩) HSk.out HNt.out)⟩
                        case measure => simp [intOf]; omega
                      · obtain ⟨A9, c9, e9⟩ := Kd.R_slice HM8.out.tk
                        obtain ⟨n9, hn9⟩ : ∃ n, K2.length = n := ⟨_, rfl⟩
                        simp only [hn9] at e9
                        subst e9
                        have HKb : Hid ((K2.length + 1) * 8 ≤ 140737488355328) := Lib.hid (by have := HJ.out.tok; have := HSk.out; simp only at *; omega)
                        have HKS : Hid (K2.length + remS ((φ, q, y :: l) :: O3) = S) := Lib.hid HJ.out.tok
                        have Hn9 := Lib.hid hn9
                        clear hn9
                        go_wp2_with ((with_reducible refine gate_builtin (b := .append) (xs := #[.tmp 155, .tmp 161]) rfl ?_); at_builtin; go_loud (refine Kd.R_append (Kd.int .i64) (w0 := w1) w1.heap.size rfl (.tmp 155) (.tmp 161) 30 3 (.int .i64 0) 8 rfl Tryd.underlying30 infoInt rfl (by decide) (by omega) (.slice A9 n9 c9) K2 y [.int .i64 y] (fun _ => True) (fun _ => False) rfl rfl rfl (fun _ hk => hk.elim) (fun _ _ => trivial) HM8.out.tk HM8.out.bel HM8.out.bel.size HKb.out ?_); intro v10 w10 ho hb hg hat; (obtain ⟨A10, c10, e10⟩ := Kd.R_slice ho; rw [List.length_append, Hn9.out] at e10; subst e10; have HM10 := Lib.hid (HM8.out.setK ho hb hg (inc64 p2) m2); obtain ⟨g11, c11, e11, hc11, t0, t1, tf, -⟩ := HM10.out.open_ HMo2.out; injection e11 with e12 e13 e14; injection e12 with e12; injection e12 with e12; subst e12; subst e14; clear ho hb hg hat t0 e13))
                        refine ⟨⟨(φ, q + 1, l) :: O3, ⟨inc64 p2, T2, K2 ++ [y], m2⟩, rfl, Lib.hid (HJ.out.tok1 hneg ?_)⟩, ?_⟩
                        · have := HM10.out.done1 (q' := q + 1) (l' := l) HMo2.out
                          rwa [show ((q + 1 : Nat) : Int) = (q : Int) + 1 by omega] at this
                        · have h1 := HKS.out
                          have h2 := Hn9.out
                          simp only [remS, List.length_cons] at h1
                          simp only [lenOf]
                          omega
              · have hcI : (x2 == -1 - x) = false := beq_eq_false_iff_ne.2 hm
                have hcJ : (x2 != -1 - x) = true := by simp [hm]
                have HF : Hid (res = none) := Lib.hid (by rw [← HO.out.res]; exact restG_no HD.out hkp HJb.out (by rw [HRule.out]; show x ≠ -1 - x2; omega))
                go_quiet (fail)
                go_wp2
                ((try simp only [Exit.inBlock, Exit.then]); refine bodyPost_ret (results4_tmp rfl _ _ _) rfl ?_)
                exact treeP_no HF.out (below_next HB1.out (pw_below_drewN HM7.out.bel _))
    · have hkr : k = rs.length := by omega
      by_cases hd : 0 < k ∧ O.length = 0
      · have HF : Hid (res = some ⟨pl, T, K, m0⟩) := Lib.hid (by rw [← HO.out.res, restG_end (by omega), if_pos hd])
        obtain ⟨A6, c6, e6⟩ := Kd.R_slice HO.out.mem.op
        rw [frs_length, hd.2] at e6
        subst e6
        have hrp : 0 < rs.length := by omega
        have hrI : decide ((rs.length : Int) > 0) = true := decide_eq_true (by omega)
        have hrN : decide (0 < rs.length) = true := decide_eq_true hrp
        clear hd hkr
        go_wp2
        ((try simp only [Exit.inBlock, Exit.then]); refine bodyPost_ret (results4_tmp rfl _ _ _) rfl ?_)
        exact treeP_yes HF.out (below_next HB1.out HO.out.mem.bel) (Kd.R_lower HO.out.mem.tr HB1.out.size) (Kd.R_lower HO.out.mem.tk HB1.out.size)
      · have HF : Hid (res = none) := Lib.hid (by rw [← HO.out.res, restG_end (by omega), if_neg hd])
        obtain ⟨A6, c6, e6⟩ := Kd.R_slice HO.out.mem.op
        rw [frs_length] at e6
        obtain ⟨n6, hn6⟩ : ∃ n, O.length = n := ⟨_, rfl⟩
        rw [hn6] at e6 hd
        subst e6
        by_cases hrp : 0 < rs.length
        · have hrI : decide ((rs.length : Int) > 0) = true := decide_eq_true (by omega)
          have hrN : decide (0 < rs.length) = true := decide_eq_true hrp
          have hnI : ((n6 : Int) == 0) = false := by rw [beq_eq_false_iff_ne]; omega
          clear hd hkr
          go_wp2
          ((try simp only [Exit.inBlock, Exit.then]); refine bodyPost_ret (results4_tmp rfl _ _ _) rfl ?_)
          exact treeP_no HF.out (below_next HB1.out HO.out.mem.bel)
        · have hrI : decide ((rs.length : Int) > 0) = false := decide_eq_false (by omega)
          have hrN : decide (0 < rs.length) = false := decide_eq_false hrp
          clear hd hkr
          go_wp2
          ((try simp only [Exit.inBlock, Exit.then]); refine bodyPost_ret (results4_tmp rfl _ _ _) rfl ?_)
          exact treeP_no HF.out (below_next HB1.out HO.out.mem.bel)
end Go.Proofs.YtapgglmdnggopaaDoor.Hand
/- Contracts: the document's Known (dovetailref18); deriv.Frontier, Rules, Depth. -/
namespace Go.Proofs.YtapgglmdnggopaaDoor.Hand
open Go.RowKit Go.Proofs.YtapgglmdnggopaaDoorW.PrintWords Go.Proofs.YtapgglmdnggopaaDoorW.PrintMore Go.Proofs.YtapgglmdnggopaaDoor.Math

/-- A known tree's tokens, rules, depth; of none: nothing. -/
noncomputable def knownD (g : Gr) (t : List (Int × Int × Int)) : List Int × List Int × Nat :=
  if (knownE g t).1 = 0 then (match treeD g t with | some d => (d.tokens, t.map (·.1), d.depth) | none => ([], [], 0)) else ([], [], 0)
theorem knownD_no {g : Gr} {t : List (Int × Int × Int)} (h : (knownE g t).1 ≠ 0) : knownD g t = ([], [], 0) := by unfold knownD; rw [if_neg h]
theorem knownD_yes {g : Gr} {t : List (Int × Int × Int)} {d : DS} (h : knownE g t = (0, -1)) (hd : treeD g t = some d) : knownD g t = (d.tokens, t.map (·.1), d.depth) := by unfold knownD; rw [h, if_pos rfl, hd]
/-- What the document's Known answers. -/
def RKnownP (w : World) (g : Gr) (t : List (Int × Int × Int)) (e : Ending) (w' : World) : Prop :=
  ∃ v1 v2, e = .returned (.tuple #[v1, v2, .int .i64 ((knownD g t).2.2 : Nat), .int .i64 ((knownE g t).1 : Nat), .int .i64 (knownE g t).2]) ∧ (Kd.int .i64).R 3 w' w.heap.size (fun _ => True) v1 (knownD g t).1 ∧ (Kd.int .i64).R 3 w' w.heap.size (fun _ => True) v2 (knownD g t).2.1 ∧ Below w.heap.size w w'
theorem rknownP_no {w w' : World} {g : Gr} {t : List (Int × Int × Int)} {k : Nat} {r : Int} (h : knownE g t = (k, r)) (hk : k ≠ 0) (hb : Below w.heap.size w w') : RKnownP w g t (.returned (.tuple #[.slice none 0 0, .slice none 0 0, .int .i64 0, .int .i64 (k : Nat), .int .i64 r])) w' := by
  have hd := knownD_no (g := g) (t := t) (by rw [h]; exact hk)
  exact ⟨_, _, by rw [hd, h]; rfl, by rw [hd]; exact Kd.R_nil _ _ _ _ _, by rw [hd]; exact Kd.R_nil _ _ _ _ _, hb⟩
set_option maxHeartbeats 4000000 in
set_option maxRecDepth 20000 in
theorem rknown_calls (v : Value) (g : Gr) (tA : Option Addr) (tc : Nat) (t : List (Int × Int × Int)) (w : World) (A : Nat → Addr) (hE : Errs w A) (hv : GramAt w v g) (ht : KStep.C w tA t.length t) (htc : t.length ≤ tc) :
    Calls Tryd.prog 63 #[v, .slice tA t.length tc] w (RKnownP w g t) := by
  have HV := Lib.hid hv
  obtain ⟨AT, cT, AN, cN, AR, cR, rfl, q1, q2, q3, q4, q5, q6⟩ := hv
  have l1 := q4.2.1
  have l2 := q5.2.1
  have l3 := q6.2.1
  have l4 := ht.2.1
  obtain ⟨w1, hw1⟩ : ∃ w1, w.alloc (.cells #[.slice AT g.terms.length cT, .slice AN g.nonterms.length cN, .int .i64 g.ax, .slice AR g.rules.length cR] 25) = w1 := ⟨_, rfl⟩
  have hb1 : Below w.heap.size w w1 := by rw [← hw1]; exact below_alloc (Below.refl _ _) _
  have hk1 : w1.heap[w.heap.size]? = some (.cells #[.slice AT g.terms.length cT, .slice AN g.nonterms.length cN, .int .i64 g.ax, .slice AR g.rules.length cR] 25 (0, 0)) := by rw [← hw1]; exact heap_alloc_new w _
  obtain ⟨c0, c1, c2, c3⟩ := gr_blk hk1
  have HB1 := Lib.hid hb1
  have HK1 := Lib.hid hk1
  have HE := Lib.hid (hE.below hb1)
  have HC := Lib.hid (rmay_calls _ g t.length w1 (HV.out.below hb1))
  have HT := Lib.hid (Kd.C_below ht hb1)
  have HR := Lib.hid (Kd.C_below q6 hb1)
  clear hb1 hk1 hE q4 q5 q6 ht
  by_cases h0 : (dmayN g t.length).1 = 0
  · have hm := dmayN_zero h0
    rw [hm.eq] at HC
    have HM := Lib.hid hm
    have h131 := hm.len
    clear hm
    by_cases h1 : t = [] ∨ (t.getD 0 (0, 0, 0)).2.1 < 0 ∨ (t.getD 0 (0, 0, 0)).2.2 < (t.getD 0 (0, 0, 0)).2.1
    · have H : Hid (knownE g t = (11, -1)) := Lib.hid (by unfold knownE; rw [if_neg (by simp [h0]), if_pos h1])
      by_cases hnil : t = []
      · subst hnil
        clear h1 h0
        go_enter Tryd.func63, Tryd.ntmps63
        go_upto_region 4 with (go_at_call 80; refine HC.out.mono ?_; rintro e w2 ⟨rfl, hb2⟩; have HB2 := Lib.hid hb2; clear hb2)
        go_quiet (fail)
        go_wp2
        ((try simp only [Exit.inBlock, Exit.then]); refine bodyPost_ret (results5_tmp rfl _ _ _) rfl ?_)
        exact rknownP_no H.out (by decide) (below_next HB1.out (pw_below_drewN HB2.out _))
      · have hpos : 0 < t.length := List.length_pos_iff.2 hnil
        obtain ⟨ta, x0, y0, z0, rfl, k0, k1, k2, HX⟩ := at_step HT.out 0 hpos
        rw [HX.out] at h1
        simp only [Nat.zero_mul, addr_zero] at k0 k1 k2
        have hl0 : ((t.length : Int) == 0) = false := by rw [beq_eq_false_iff_ne]; omega
        by_cases hy : y0 < 0
        · have hy0 : decide (y0 < 0) = true := decide_eq_true hy
          clear h0 h1 hnil k0
          go_enter Tryd.func63, Tryd.ntmps63
          go_upto_region 4 with (go_at_call 80; refine HC.out.mono ?_; rintro e w2 ⟨rfl, hb2⟩; have HB2 := Lib.hid hb2; clear hb2; have j1 := (HB2.out.cell (World.block_lt_of_cell? _ _ k1)).trans k1; have j2 := (HB2.out.cell (World.block_lt_of_cell? _ _ k2)).trans k2)
          go_quiet (fail)
          go_wp2
          ((try simp only [Exit.inBlock, Exit.then]); refine bodyPost_ret (results5_tmp rfl _ _ _) rfl ?_)
          exact rknownP_no H.out (by decide) (below_next HB1.out (pw_below_drewN HB2.out _))
        · have hz : z0 < y0 := by rcases h1 with h | h | h; exact absurd h hnil; exact absurd h hy; exact h
          have hy0 : decide (y0 < 0) = false := decide_eq_false hy
          have hz0 : decide (z0 < y0) = true := decide_eq_true hz
          clear h0 h1 hnil k0
          go_enter Tryd.func63, Tryd.ntmps63
          go_upto_region 4 with (go_at_call 80; refine HC.out.mono ?_; rintro e w2 ⟨rfl, hb2⟩; have HB2 := Lib.hid hb2; clear hb2; have j1 := (HB2.out.cell (World.block_lt_of_cell? _ _ k1)).trans k1; have j2 := (HB2.out.cell (World.block_lt_of_cell? _ _ k2)).trans k2)
          go_quiet (fail)
          go_wp2
          ((try simp only [Exit.inBlock, Exit.then]); refine bodyPost_ret (results5_tmp rfl _ _ _) rfl ?_)
          exact rknownP_no H.out (by decide) (below_next HB1.out (pw_below_drewN HB2.out _))
    · obtain ⟨hne, hp0, hp1⟩ : t ≠ [] ∧ ¬ (t.getD 0 (0, 0, 0)).2.1 < 0 ∧ ¬ (t.getD 0 (0, 0, 0)).2.2 < (t.getD 0 (0, 0, 0)).2.1 := ⟨fun h => h1 (.inl h), fun h => h1 (.inr (.inl h)), fun h => h1 (.inr (.inr h))⟩
      have hpos : 0 < t.length := List.length_pos_iff.2 hne
      have HK : Hid (knownE g t = match treeD g t with | none => (11, -1) | some d => if d.tree = t then (0, -1) else (11, -1)) := Lib.hid (by unfold knownE; rw [if_neg (by simp [h0]), if_neg h1]; try rfl)
      obtain ⟨ta, x0, y0, z0, rfl, k0, k1, k2, HX⟩ := at_step HT.out 0 hpos
      rw [HX.out] at hp0 hp1
      simp only [Nat.zero_mul, addr_zero] at k0 k1 k2
      clear h0 h1 hne k0
      have hl0 : ((t.length : Int) == 0) = false := by rw [beq_eq_false_iff_ne]; omega
      have hy0 : decide (y0 < 0) = false := decide_eq_false hp0
      have hz0 : decide (z0 < y0) = false := decide_eq_false hp1
      go_enter Tryd.func63, Tryd.ntmps63
      go_upto_region 4 with (go_at_call 80; refine HC.out.mono ?_; rintro e w2 ⟨rfl, hb2⟩; have HB2 := Lib.hid hb2; clear hb2; have j1 := (HB2.out.cell (World.block_lt_of_cell? _ _ k1)).trans k1; have j2 := (HB2.out.cell (World.block_lt_of_cell? _ _ k2)).trans k2)
      go_quiet (fail)
      rename Nat => q1'
      obtain ⟨w3, hw3⟩ : ∃ w3, w2.drewN q1' = w3 := ⟨_, rfl⟩
      have hb3 : Below w1.heap.size w1 w3 := by rw [← hw3]; exact pw_below_drewN HB2.out _
      have HB3 := Lib.hid hb3
      rw [hw3]
      clear hw3 hb3 j1 j2 c0 c1 c2 c3 HC k1 k2
      go_wp2
      go_loopw [11, 12] (fun u i wr => ∃ (j : Nat), j ≤ t.length ∧ i = .int .i64 (j : Int) ∧ Hid (IRow w3 u ((t.take j).map (·.1)) wr)) (fun _ i _ => t.length - (intOf i).toNat)
      case atStart => exact ⟨0, by omega, rfl, Lib.hid ⟨by simpa using Kd.R_nil _ _ _ _ _, Below.refl _ _⟩⟩
      case round =>
        obtain ⟨j, hj, rfl, HI⟩ := hrel
        obtain ⟨w4, rfl⟩ : ∃ wo : World, wo = wr := ⟨_, rfl⟩
        obtain ⟨Au, cu, eu⟩ := Kd.R_slice HI.out.own
        obtain ⟨nu, hnu⟩ : ∃ n, ((t.take j).map (·.1)).length = n := ⟨_, rfl⟩
        rw [hnu] at eu
        subst eu
        have HNu := Lib.hid hnu
        clear hnu
        by_cases hlt : j < t.length
        · obtain ⟨tb, x, y, z, e, m0, m1, m2, HY⟩ := at_step (Kd.C_below HT.out (below_next HB3.out HI.out.bel)) j hlt
          obtain rfl := Option.some.inj e
          have HBd : Hid ((((t.take j).map (·.1)).length + 1) * 8 ≤ 140737488355328) := Lib.hid (by rw [List.length_map, List.length_take]; omega)
          go_wp2_with ((with_reducible refine gate_builtin (b := .append) (xs := #[.tmp 56, .tmp 62]) rfl ?_); at_builtin; go_loud (refine Kd.R_append (Kd.int .i64) (w0 := w3) w3.heap.size rfl (.tmp 56) (.tmp 62) 30 3 (.int .i64 0) 8 rfl Tryd.underlying30 infoInt rfl (by decide) (by omega) (.slice Au nu cu) ((t.take j).map (·.1)) x [.int .i64 x] (fun _ => True) (fun _ => False) rfl rfl rfl (fun _ hk => hk.elim) (fun _ _ => trivial) HI.out.own HI.out.bel HI.out.bel.size HBd.out ?_); intro v6 w6 ho hb hg hat; (have H6 : Hid (IRow w3 v6 ((t.take j).map (·.1) ++ [x]) w6) := Lib.hid ⟨ho, hb⟩; clear ho hb hg hat))
          go_roundw
          case rel => exact ⟨j + 1, by omega, by go_num, Lib.hid (by rw [take_snocD t j (0, 0, 0) hlt, HY.out, List.map_append]; exact H6.out)⟩
          case measure => simp [intOf]; omega
        · have hjt : (t.take j).map (·.1) = t.map (·.1) := by rw [List.take_of_length_le (by omega)]
          have hnu : nu = t.length := by rw [← HNu.out, hjt, List.length_map]
          subst hnu
          have hr6 := HI.out
          rw [hjt] at hr6
          have HR6 := Lib.hid hr6
          obtain ⟨hn6, hc6, hC6⟩ := Kd.R_reads' hr6.own
          have hlm : (t.map (·.1)).length = t.length := by simp
          have hB4 : Below w1.heap.size w1 w4 := below_next HB3.out hr6.bel
          have hWi : WkIn w4 g AR (t.map (·.1)) Au A := HM.out.walk (HE.out.below hB4) (Kd.C_below HR.out hB4) hC6 (by rw [hlm]; omega)
          have hS : ∀ W, Below w4.heap.size w4 W → W.cell? ⟨w.heap.size, 0, none⟩ = some (.slice AT g.terms.length cT) ∧ W.cell? ⟨w.heap.size, 1, none⟩ = some (.slice AN g.nonterms.length cN) ∧ W.cell? ⟨w.heap.size, 2, none⟩ = some (.int .i64 g.ax) ∧ W.cell? ⟨w.heap.size, 3, none⟩ = some (.slice AR g.rules.length cR) ∧ W.cell? ⟨ta.block, ta.off + 1, none⟩ = some (.int .i64 y0) := fun W hW => by
            have hb := below_next hB4 hW
            obtain ⟨b0, b1, b2, b3⟩ := gr_blk (blk_below HK1.out hb)
            refine ⟨b0, b1, b2, b3, ?_⟩
            obtain ⟨tb, x', y', z', e, m0, m1, m2, HY⟩ := at_step (Kd.C_below HT.out hb) 0 hpos
            obtain rfl := Option.some.inj e
            simp only [Nat.zero_mul, addr_zero] at m1
            rw [HX.out] at HY
            have e2 := HY.out
            simp only [Prod.mk.injEq] at e2
            rw [e2.2.1]
            exact m1
          have HS := Lib.hid hS
          obtain ⟨res, hres⟩ : ∃ r, treeD g t = r := ⟨_, rfl⟩
          rw [hres] at HK
          have hWk : ∀ W, Below w4.heap.size w4 W → Calls Tryd.prog 81 #[.agg #[.slice AT g.terms.length cT, .slice AN g.nonterms.length cN, .int .i64 g.ax, .slice AR g.rules.length cR], .slice Au t.length cu, .int .i64 (-1), .int .i64 y0] W (TreeP W res) := fun W hW => by
            have := rtree_calls g AT AN AR Au cT cN cR cu (t.map (·.1)) true 0 y0 (-1) (.inl ⟨by decide, rfl⟩) W A ⟨hWi.err.below hW, Kd.C_below hWi.rules hW, Kd.C_below hWi.row hW, hWi.len, hWi.short, hWi.syms, hWi.ne, hWi.few⟩ (fun r hr => HM.out.lefts r hr) (by rw [hlm]; exact hc6)
            rw [hlm] at this
            rw [← hres]
            unfold treeD grownD
            rw [HX.out]
            exact this
          have HWk := Lib.hid hWk
          have HB4 := Lib.hid hB4
          have HRes := Lib.hid hres
          obtain ⟨s0, s1, s2, s3, s4⟩ := hS w4 (Below.refl _ _)
          clear hjt hr6 hn6 hC6 hlm hB4 hWi hS hWk hres HI
          cases res with
          | none =>
            have HF : Hid (knownE g t = (11, -1)) := Lib.hid HK.out
            go_upto_region 11 with (fail)
            go_region_held3 (fun w' => w'.cell? ⟨w.heap.size, 0, none⟩ = some (.slice AT g.terms.length cT) ∧ w'.cell? ⟨w.heap.size, 1, none⟩ = some (.slice AN g.nonterms.length cN) ∧ w'.cell? ⟨w.heap.size, 2, none⟩ = some (.int .i64 g.ax) ∧ w'.cell? ⟨w.heap.size, 3, none⟩ = some (.slice AR g.rules.length cR) ∧ w'.cell? ⟨ta.block, ta.off + 1, none⟩ = some (.int .i64 y0))
              (first
                | exact D1.out
                | exact HS.out _ (below_drew (Below.refl _ _))
                | exact HS.out _ (Below.refl _ _))
              ((go_at_call 81; refine (HWk.out _ (by first | exact below_drew (Below.refl _ _) | exact Below.refl _ _)).mono ?_; rintro e w7 ⟨v1, v2, dp, ok, rfl, hb7, hno, -⟩; obtain rfl := hno rfl; have HB7 : Hid (Below w4.heap.size w4 w7) := Lib.hid (by first | exact below_next (below_drew (Below.refl _ _)) hb7 | exact below_next (Below.refl _ _) hb7); have D1 := Lib.hid (HS.out _ HB7.out); clear hb7 hno))
            go_wp2
            ((try simp only [Exit.inBlock, Exit.then]); refine bodyPost_ret (results5_tmp rfl _ _ _) rfl ?_)
            exact rknownP_no HF.out (by decide) (below_next HB1.out (below_next HB4.out HB7.out))
          | some d =>
            have hdl : d.tree.length = t.length := by
              have h := HRes.out
              unfold treeD grownD at h
              have := congrArg List.length (walk_rules h)
              simpa using this
            have HDl := Lib.hid hdl
            clear hdl
            go_upto_region 11 with (fail)
            go_region_held3 (fun w' => w'.cell? ⟨w.heap.size, 0, none⟩ = some (.slice AT g.terms.length cT) ∧ w'.cell? ⟨w.heap.size, 1, none⟩ = some (.slice AN g.nonterms.length cN) ∧ w'.cell? ⟨w.heap.size, 2, none⟩ = some (.int .i64 g.ax) ∧ w'.cell? ⟨w.heap.size, 3, none⟩ = some (.slice AR g.rules.length cR) ∧ w'.cell? ⟨ta.block, ta.off + 1, none⟩ = some (.int .i64 y0))
              (first
                | exact D1.out
                | exact HS.out _ (below_drew (Below.refl _ _))
                | exact HS.out _ (Below.refl _ _))
              ((go_at_call 81; refine (HWk.out _ (by first | exact below_drew (Below.refl _ _) | exact Below.refl _ _)).mono ?_; rintro e w7 ⟨v1, v2, dp, ok, rfl, hb7, -, hyes⟩; obtain ⟨rfl, hy1, hy2, rfl⟩ := hyes d rfl; have HB7 : Hid (Below w4.heap.size w4 w7) := Lib.hid (by first | exact below_next (below_drew (Below.refl _ _)) hb7 | exact below_next (Below.refl _ _) hb7); have HY1 := Lib.hid hy1; have HY2 := Lib.hid (Kd.R_lower hy2 (by have := HB1.out.size; have := HB4.out.size; first | omega | (rw [World.size_drew]; omega) : w.heap.size ≤ _)); have D1 := Lib.hid (HS.out _ HB7.out); clear hb7 hyes hy1 hy2))
            obtain ⟨A8, c8, e8⟩ := Kd.R_slice HY1.out
            rw [HDl.out] at e8
            subst e8
            have HC8 : Hid (KStep.C w7 A8 d.tree.length d.tree) := Lib.hid (by have := (Kd.R_reads' HY1.out).2.2; exact this)
            have HT7 := Lib.hid (Kd.C_below HT.out (below_next HB4.out HB7.out))
            have HB17 := Lib.hid (below_next HB1.out (below_next HB4.out HB7.out))
            have HR67 : Hid ((Kd.int .i64).R 3 w7 w.heap.size (fun _ => True) (.slice Au t.length cu) (t.map (·.1))) := Lib.hid (Kd.R_lower (Kd.R_below HR6.out.own HB7.out) (by have := HB1.out.size; have := HB3.out.size; omega))
            clear s0 s1 s2 s3 s4
            go_wp2
            go_loopw [17] (fun i wr => ∃ (j n : Nat), j ≤ t.length ∧ i = .int .i64 (j : Int) ∧ wr = w7.drewN n ∧ Hid (t.take j = d.tree.take j)) (fun i _ => t.length - (intOf i).toNat)
            case atStart => exact ⟨0, 0, by omega, rfl, rfl, Lib.hid (by simp)⟩
            case round =>
              obtain ⟨j, n, hj, rfl, rfl, HTk⟩ := hrel
              by_cases hlt : j < t.length
              · obtain ⟨tb, x, y, z, e, hx, hy, hz, HX⟩ := at_step HT7.out j hlt
                obtain rfl := Option.some.inj e
                have hltd : j < d.tree.length := by rw [HDl.out]; exact hlt
                obtain ⟨ad2, x2, y2, z2, rfl, hx2, hy2, hz2, HX2⟩ := at_step HC8.out j hltd
                by_cases e : (x, y, z) = (x2, y2, z2)
                · cases e
                  have HQe := fun (W : World) => eqnS x y z x y z W
                  rw [show (x == x && (y == y && z == z)) = true by simp] at HQe
                  go_wp2
                  go_quiet (fail)
                  go_wp2
                  go_roundw
                  case rel => exact ⟨j + 1, _, by omega, by go_num, rfl, Lib.hid (by rw [take_snocD t j (0, 0, 0) hlt, take_snocD d.tree j (0, 0, 0) hltd, HTk.out, HX.out, HX2.out])⟩
                  case measure => simp [intOf]; omega
                · have HF : Hid (knownE g t = (11, -1)) := Lib.hid (by rw [HK.out]; exact if_neg (fun h => e (by rw [← HX.out, ← HX2.out, h])))
                  have hcase : (x == x2 && (y == y2 && z == z2)) = false := by
                    rw [Bool.eq_false_iff]
                    intro h
                    simp at h
                    exact e (by rw [h.1, h.2.1, h.2.2])
                  have HQe := fun (W : World) => eqnS x y z x2 y2 z2 W
                  rw [hcase] at HQe
                  clear e hcase
                  go_wp2
                  go_quiet (fail)
                  go_wp2
                  ((try simp only [Exit.inBlock, Exit.then]); refine bodyPost_ret (results5_tmp rfl _ _ _) rfl ?_)
                  exact rknownP_no HF.out (by decide) (by first | exact pw_below_drewN HB17.out _ | exact pw_below_drewN (pw_below_drewN HB17.out _) _)
              · have hte : d.tree = t := by
                  have := HTk.out
                  rw [List.take_of_length_le (by omega), List.take_of_length_le (by rw [HDl.out]; omega)] at this
                  exact this.symm
                have HF : Hid (knownE g t = (0, -1)) := Lib.hid (by rw [HK.out]; exact if_pos hte)
                have HD : Hid (knownD g t = (d.tokens, t.map (·.1), d.depth)) := Lib.hid (knownD_yes HF.out HRes.out)
                clear hte
                go_wp2
                ((try simp only [Exit.inBlock, Exit.then]); refine bodyPost_ret (results5_tmp rfl _ _ _) rfl ?_)
                exact ⟨_, _, by rw [HD.out, HF.out]; rfl, by rw [HD.out]; exact Kd.R_drewN HY2.out _, by rw [HD.out]; exact Kd.R_drewN HR67.out _, pw_below_drewN HB17.out _⟩
  · have H : Hid (knownE g t = dmayN g t.length) := Lib.hid (by unfold knownE; rw [if_pos h0])
    have HN := Lib.hid h0
    have h0I : (((dmayN g t.length).1 : Int) == 0) = false := by rw [beq_eq_false_iff_ne]; omega
    clear h0
    go_enter Tryd.func63, Tryd.ntmps63
    go_wp2_with (go_at_call 80; refine HC.out.mono ?_; rintro e w2 ⟨rfl, hb2⟩; have HB2 := Lib.hid hb2; clear hb2)
    ((try simp only [Exit.inBlock, Exit.then]); refine bodyPost_ret (results5_tmp rfl _ _ _) rfl ?_)
    exact rknownP_no H.out HN.out (below_next HB1.out HB2.out)
set_option maxHeartbeats 2000000 in
theorem frontier_calls (v : Value) (g : Gr) (tA : Option Addr) (tc : Nat) (t : List (Int × Int × Int)) (w : World) (A : Nat → Addr) (hE : Errs w A) (hv : GramAt w v g) (ht : KStep.C w tA t.length t) (htc : t.length ≤ tc) :
    Calls Tryd.prog 37 #[v, .slice tA t.length tc] w fun e w' => ∃ v1 u, e = .returned (.tuple #[v1, u]) ∧ (Kd.int .i64).R 3 w' w.heap.size (fun _ => True) v1 (knownD g t).1 ∧ ErrV w' A u (knownE g t).1 (knownE g t).2 ∧ Below w.heap.size w w' := by
  have HV := Lib.hid hv
  obtain ⟨AT, cT, AN, cN, AR, cR, rfl, q1, q2, q3, q4, q5, q6⟩ := hv
  obtain ⟨w1, hw1⟩ : ∃ w1, w.alloc (.cells #[.slice AT g.terms.length cT, .slice AN g.nonterms.length cN, .int .i64 g.ax, .slice AR g.rules.length cR] 25) = w1 := ⟨_, rfl⟩
  have hb1 : Below w.heap.size w w1 := by rw [← hw1]; exact below_alloc (Below.refl _ _) _
  have hk1 : w1.heap[w.heap.size]? = some (.cells #[.slice AT g.terms.length cT, .slice AN g.nonterms.length cN, .int .i64 g.ax, .slice AR g.rules.length cR] 25 (0, 0)) := by rw [← hw1]; exact heap_alloc_new w _
  obtain ⟨c0, c1, c2, c3⟩ := gr_blk hk1
  have HB1 := Lib.hid hb1
  have hkc := known_calls _ g tA tc t w1 A (hE.below hb1) (HV.out.below hb1) (Kd.C_below ht hb1) htc
  have HKc := Lib.hid hkc
  clear hb1 hk1 hE q4 q5 q6 ht hkc
  by_cases h0 : knownE g t = (0, -1)
  · have HK2 : Hid (Calls Tryd.prog 69 _ w1 fun e w' => ∃ b gt gn gr ax A4 n4 c4 i d A7 c7 A8 n8 c8, treeD g t = some d ∧ d.tree = t ∧ e = .returned (.tuple #[.pointer (some ⟨b, 0, none⟩), .nilIface]) ∧ WkAt w1 w' b gt gn gr ax (.slice A4 n4 c4) i d (.slice A7 t.length c7) (.slice A8 n8 c8) ∧ (Kd.int .i64).R 3 w' w1.heap.size (fun _ => True) (.slice A4 n4 c4) (t.map (·.1))) := Lib.hid (HKc.out.mono (by
      rintro e w' (⟨b, gt, gn, gr, ax, rv, i, d, vt, vk, -, h2, h3, h4, h5, h6⟩ | ⟨u, h1, -⟩)
      · obtain ⟨A4, c4, e4⟩ := Kd.R_slice h6
        obtain ⟨A7, c7, e7⟩ := Kd.R_slice h5.tr
        obtain ⟨A8, c8, e8⟩ := Kd.R_slice h5.tk
        rw [h3] at e7
        subst e4 e7 e8
        exact ⟨b, gt, gn, gr, ax, A4, _, c4, i, d, A7, c7, A8, _, c8, h2, h3, h4, h5, h6⟩
      · rw [h0] at h1; exact absurd rfl h1))
    have H0 := Lib.hid h0
    clear h0 HKc
    go_enter Tryd.func37, Tryd.ntmps37
    go_wp2_with (go_at_call 69; refine HK2.out.mono ?_; rintro e w2 ⟨b, gt, gn, gr, ax, A4, n4, c4, i, d, A7, c7, A8, n8, c8, hd, hdt, rfl, hw, h6⟩; have HD := Lib.hid (knownD_yes H0.out hd); have HW := Lib.hid hw; have H6 := Lib.hid (Kd.R_lower h6 HB1.out.size); have kk := hw.c8 rfl; clear hd hdt hw h6)
    go_ret2
    exact ⟨_, _, rfl, by rw [HD.out]; exact Kd.R_lower (Kd.R_mono HW.out.tk (fun _ _ => trivial)) HB1.out.size, by rw [H0.out]; exact .none, below_next HB1.out HW.out.bel⟩
  · have HK2 : Hid (Calls Tryd.prog 69 _ w1 fun e w' => ∃ t1 x, (knownE g t).1 ≠ 0 ∧ e = .returned (.tuple #[.pointer none, .iface t1 x]) ∧ ErrV w' A (.iface t1 x) (knownE g t).1 (knownE g t).2 ∧ Below w1.heap.size w1 w') := Lib.hid (HKc.out.mono (by
      rintro e w' (⟨b, gt, gn, gr, ax, rv, i, d, vt, vk, h1, -⟩ | ⟨u, h1, h2, h3, h4⟩)
      · exact absurd h1 h0
      · rcases h3.nil_iff with ⟨h, _⟩ | ⟨_, t1, x, rfl⟩
        · exact absurd h h1
        · exact ⟨t1, x, h1, h2, h3, h4⟩))
    clear h0 HKc
    go_enter Tryd.func37, Tryd.ntmps37
    go_wp2_with (go_at_call 69; refine HK2.out.mono ?_; rintro e w2 ⟨t1, x, hne, rfl, hu, hb2⟩; have HNe := Lib.hid hne; have HU := Lib.hid hu; have HB2 := Lib.hid hb2; clear hne hu hb2)
    go_ret2
    exact ⟨_, _, rfl, by rw [knownD_no HNe.out]; exact Kd.R_nil _ _ _ _ _, HU.out, below_next HB1.out HB2.out⟩
set_option maxHeartbeats 2000000 in
theorem drules_calls (v : Value) (g : Gr) (tA : Option Addr) (tc : Nat) (t : List (Int × Int × Int)) (w : World) (A : Nat → Addr) (hE : Errs w A) (hv : GramAt w v g) (ht : KStep.C w tA t.length t) (htc : t.length ≤ tc) :
    Calls Tryd.prog 54 #[v, .slice tA t.length tc] w fun e w' => ∃ v1 u, e = .returned (.tuple #[v1, u]) ∧ (Kd.int .i64).R 3 w' w.heap.size (fun _ => True) v1 (knownD g t).2.1 ∧ ErrV w' A u (knownE g t).1 (knownE g t).2 ∧ Below w.heap.size w w' := by
  have HV := Lib.hid hv
  obtain ⟨AT, cT, AN, cN, AR, cR, rfl, q1, q2, q3, q4, q5, q6⟩ := hv
  obtain ⟨w1, hw1⟩ : ∃ w1, w.alloc (.cells #[.slice AT g.terms.length cT, .slice AN g.nonterms.length cN, .int .i64 g.ax, .slice AR g.rules.length cR] 25) = w1 := ⟨_, rfl⟩
  have hb1 : Below w.heap.size w w1 := by rw [← hw1]; exact below_alloc (Below.refl _ _) _
  have hk1 : w1.heap[w.heap.size]? = some (.cells #[.slice AT g.terms.length cT, .slice AN g.nonterms.length cN, .int .i64 g.ax, .slice AR g.rules.length cR] 25 (0, 0)) := by rw [← hw1]; exact heap_alloc_new w _
  obtain ⟨c0, c1, c2, c3⟩ := gr_blk hk1
  have HB1 := Lib.hid hb1
  have hkc := known_calls _ g tA tc t w1 A (hE.below hb1) (HV.out.below hb1) (Kd.C_below ht hb1) htc
  have HKc := Lib.hid hkc
  clear hb1 hk1 hE q4 q5 q6 ht hkc
  by_cases h0 : knownE g t = (0, -1)
  · have HK2 : Hid (Calls Tryd.prog 69 _ w1 fun e w' => ∃ b gt gn gr ax A4 n4 c4 i d A7 c7 A8 n8 c8, treeD g t = some d ∧ d.tree = t ∧ e = .returned (.tuple #[.pointer (some ⟨b, 0, none⟩), .nilIface]) ∧ WkAt w1 w' b gt gn gr ax (.slice A4 n4 c4) i d (.slice A7 t.length c7) (.slice A8 n8 c8) ∧ (Kd.int .i64).R 3 w' w1.heap.size (fun _ => True) (.slice A4 n4 c4) (t.map (·.1))) := Lib.hid (HKc.out.mono (by
      rintro e w' (⟨b, gt, gn, gr, ax, rv, i, d, vt, vk, -, h2, h3, h4, h5, h6⟩ | ⟨u, h1, -⟩)
      · obtain ⟨A4, c4, e4⟩ := Kd.R_slice h6
        obtain ⟨A7, c7, e7⟩ := Kd.R_slice h5.tr
        obtain ⟨A8, c8, e8⟩ := Kd.R_slice h5.tk
        rw [h3] at e7
        subst e4 e7 e8
        exact ⟨b, gt, gn, gr, ax, A4, _, c4, i, d, A7, c7, A8, _, c8, h2, h3, h4, h5, h6⟩
      · rw [h0] at h1; exact absurd rfl h1))
    have H0 := Lib.hid h0
    clear h0 HKc
    go_enter Tryd.func54, Tryd.ntmps54
    go_wp2_with (go_at_call 69; refine HK2.out.mono ?_; rintro e w2 ⟨b, gt, gn, gr, ax, A4, n4, c4, i, d, A7, c7, A8, n8, c8, hd, hdt, rfl, hw, h6⟩; have HD := Lib.hid (knownD_yes H0.out hd); have HW := Lib.hid hw; have H6 := Lib.hid (Kd.R_lower h6 HB1.out.size); have kk := hw.c4 rfl; clear hd hdt hw h6)
    go_ret2
    exact ⟨_, _, rfl, by rw [HD.out]; exact H6.out, by rw [H0.out]; exact .none, below_next HB1.out HW.out.bel⟩
  · have HK2 : Hid (Calls Tryd.prog 69 _ w1 fun e w' => ∃ t1 x, (knownE g t).1 ≠ 0 ∧ e = .returned (.tuple #[.pointer none, .iface t1 x]) ∧ ErrV w' A (.iface t1 x) (knownE g t).1 (knownE g t).2 ∧ Below w1.heap.size w1 w') := Lib.hid (HKc.out.mono (by
      rintro e w' (⟨b, gt, gn, gr, ax, rv, i, d, vt, vk, h1, -⟩ | ⟨u, h1, h2, h3, h4⟩)
      · exact absurd h1 h0
      · rcases h3.nil_iff with ⟨h, _⟩ | ⟨_, t1, x, rfl⟩
        · exact absurd h h1
        · exact ⟨t1, x, h1, h2, h3, h4⟩))
    clear h0 HKc
    go_enter Tryd.func54, Tryd.ntmps54
    go_wp2_with (go_at_call 69; refine HK2.out.mono ?_; rintro e w2 ⟨t1, x, hne, rfl, hu, hb2⟩; have HNe := Lib.hid hne; have HU := Lib.hid hu; have HB2 := Lib.hid hb2; clear hne hu hb2)
    go_ret2
    exact ⟨_, _, rfl, by rw [knownD_no HNe.out]; exact Kd.R_nil _ _ _ _ _, HU.out, below_next HB1.out HB2.out⟩
set_option maxHeartbeats 2000000 in
theorem ddepth_calls (v : Value) (g : Gr) (tA : Option Addr) (tc : Nat) (t : List (Int × Int × Int)) (w : World) (A : Nat → Addr) (hE : Errs w A) (hv : GramAt w v g) (ht : KStep.C w tA t.length t) (htc : t.length ≤ tc) :
    Calls Tryd.prog 49 #[v, .slice tA t.length tc] w fun e w' => ∃ v1 u, e = .returned (.tuple #[v1, u]) ∧ v1 = .int .i64 ((knownD g t).2.2 : Nat) ∧ ErrV w' A u (knownE g t).1 (knownE g t).2 ∧ Below w.heap.size w w' := by
  have HV := Lib.hid hv
  obtain ⟨AT, cT, AN, cN, AR, cR, rfl, q1, q2, q3, q4, q5, q6⟩ := hv
  obtain ⟨w1, hw1⟩ : ∃ w1, w.alloc (.cells #[.slice AT g.terms.length cT, .slice AN g.nonterms.length cN, .int .i64 g.ax, .slice AR g.rules.length cR] 25) = w1 := ⟨_, rfl⟩
  have hb1 : Below w.heap.size w w1 := by rw [← hw1]; exact below_alloc (Below.refl _ _) _
  have hk1 : w1.heap[w.heap.size]? = some (.cells #[.slice AT g.terms.length cT, .slice AN g.nonterms.length cN, .int .i64 g.ax, .slice AR g.rules.length cR] 25 (0, 0)) := by rw [← hw1]; exact heap_alloc_new w _
  obtain ⟨c0, c1, c2, c3⟩ := gr_blk hk1
  have HB1 := Lib.hid hb1
  have hkc := known_calls _ g tA tc t w1 A (hE.below hb1) (HV.out.below hb1) (Kd.C_below ht hb1) htc
  have HKc := Lib.hid hkc
  clear hb1 hk1 hE q4 q5 q6 ht hkc
  by_cases h0 : knownE g t = (0, -1)
  · have HK2 : Hid (Calls Tryd.prog 69 _ w1 fun e w' => ∃ b gt gn gr ax A4 n4 c4 i d A7 c7 A8 n8 c8, treeD g t = some d ∧ d.tree = t ∧ e = .returned (.tuple #[.pointer (some ⟨b, 0, none⟩), .nilIface]) ∧ WkAt w1 w' b gt gn gr ax (.slice A4 n4 c4) i d (.slice A7 t.length c7) (.slice A8 n8 c8) ∧ (Kd.int .i64).R 3 w' w1.heap.size (fun _ => True) (.slice A4 n4 c4) (t.map (·.1))) := Lib.hid (HKc.out.mono (by
      rintro e w' (⟨b, gt, gn, gr, ax, rv, i, d, vt, vk, -, h2, h3, h4, h5, h6⟩ | ⟨u, h1, -⟩)
      · obtain ⟨A4, c4, e4⟩ := Kd.R_slice h6
        obtain ⟨A7, c7, e7⟩ := Kd.R_slice h5.tr
        obtain ⟨A8, c8, e8⟩ := Kd.R_slice h5.tk
        rw [h3] at e7
        subst e4 e7 e8
        exact ⟨b, gt, gn, gr, ax, A4, _, c4, i, d, A7, c7, A8, _, c8, h2, h3, h4, h5, h6⟩
      · rw [h0] at h1; exact absurd rfl h1))
    have H0 := Lib.hid h0
    clear h0 HKc
    go_enter Tryd.func49, Tryd.ntmps49
    go_wp2_with (go_at_call 69; refine HK2.out.mono ?_; rintro e w2 ⟨b, gt, gn, gr, ax, A4, n4, c4, i, d, A7, c7, A8, n8, c8, hd, hdt, rfl, hw, h6⟩; have HD := Lib.hid (knownD_yes H0.out hd); have HW := Lib.hid hw; have H6 := Lib.hid (Kd.R_lower h6 HB1.out.size); have kk := hw.c9; clear hd hdt hw h6)
    go_ret2
    exact ⟨_, _, rfl, by rw [HD.out]; exact rfl, by rw [H0.out]; exact .none, below_next HB1.out HW.out.bel⟩
  · have HK2 : Hid (Calls Tryd.prog 69 _ w1 fun e w' => ∃ t1 x, (knownE g t).1 ≠ 0 ∧ e = .returned (.tuple #[.pointer none, .iface t1 x]) ∧ ErrV w' A (.iface t1 x) (knownE g t).1 (knownE g t).2 ∧ Below w1.heap.size w1 w') := Lib.hid (HKc.out.mono (by
      rintro e w' (⟨b, gt, gn, gr, ax, rv, i, d, vt, vk, h1, -⟩ | ⟨u, h1, h2, h3, h4⟩)
      · exact absurd h1 h0
      · rcases h3.nil_iff with ⟨h, _⟩ | ⟨_, t1, x, rfl⟩
        · exact absurd h h1
        · exact ⟨t1, x, h1, h2, h3, h4⟩))
    clear h0 HKc
    go_enter Tryd.func49, Tryd.ntmps49
    go_wp2_with (go_at_call 69; refine HK2.out.mono ?_; rintro e w2 ⟨t1, x, hne, rfl, hu, hb2⟩; have HNe := Lib.hid hne; have HU := Lib.hid hu; have HB2 := Lib.hid hb2; clear hne hu hb2)
    go_ret2
    exact ⟨_, _, rfl, by rw [knownD_no HNe.out]; exact rfl, HU.out, below_next HB1.out HB2.out⟩
end Go.Proofs.YtapgglmdnggopaaDoor.Hand
