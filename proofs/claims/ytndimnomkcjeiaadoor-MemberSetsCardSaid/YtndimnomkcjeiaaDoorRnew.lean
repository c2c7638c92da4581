/- Contract of dovetailref24.New: the chart is made, then filled. -/
import Derived.Test.YtndimnomkcjeiaaDoorRpre
import Derived.Test.YtndimnomkcjeiaaDoorRight
import Derived.Test.YtndimnomkcjeiaaDoorMemC
import Derived.Deep.RegionHeld3
import Derived.StillTailTactics
namespace Go.Proofs.YtndimnomkcjeiaaDoor.Hand
open Go.RowKit Go.Proofs.YtndimnomkcjeiaaDoorW.PrintWords Go.Proofs.YtndimnomkcjeiaaDoorW.PrintMore Go.Proofs.YtndimnomkcjeiaaDoor.Math

theorem six_step {a0 a1 a2 a3 a4 a5 : Addr} {v0 v1 v2 v3 v4 v5 : Value} {w3 W w' : World} (h : W.cell? a0 = some v0 ∧ W.cell? a1 = some v1 ∧ W.cell? a2 = some v2 ∧ W.cell? a3 = some v3 ∧ W.cell? a4 = some v4 ∧ W.cell? a5 = some v5 ∧ Aside0 (Below w3.heap.size w3 W)) (hb : Below W.heap.size W w') :
    w'.cell? a0 = some v0 ∧ w'.cell? a1 = some v1 ∧ w'.cell? a2 = some v2 ∧ w'.cell? a3 = some v3 ∧ w'.cell? a4 = some v4 ∧ w'.cell? a5 = some v5 ∧ Aside0 (Below w3.heap.size w3 w') := by
  obtain ⟨h0, h1, h2, h3, h4, h5, h6⟩ := h
  exact ⟨(hb.cell (World.block_lt_of_cell? _ _ h0)).trans h0, (hb.cell (World.block_lt_of_cell? _ _ h1)).trans h1, (hb.cell (World.block_lt_of_cell? _ _ h2)).trans h2, (hb.cell (World.block_lt_of_cell? _ _ h3)).trans h3, (hb.cell (World.block_lt_of_cell? _ _ h4)).trans h4, (hb.cell (World.block_lt_of_cell? _ _ h5)).trans h5, ⟨below_next h6.out hb⟩⟩
/-- The document's chart, right at the parts that P names. -/
def RIs (w0 : World) (R : List (Int × List Int)) (tk : List Int) (N b O cO : Nat) (P cP : Nat → Nat) (Q : Nat → Nat → Nat) (D : Nat → Nat → Prop) (w : World) : Prop :=
  ∃ T, RChart w0 tk N b O cO P cP Q T w ∧ Sound R tk tk.length N T ∧ ∀ a c, D a c → Full1 R tk N T a c
theorem RIs.imp {w0 w : World} {R : List (Int × List Int)} {tk : List Int} {N b O cO : Nat} {P cP : Nat → Nat} {Q : Nat → Nat → Nat} {D D' : Nat → Nat → Prop} (h : RIs w0 R tk N b O cO P cP Q D w) (hp : ∀ a c, D' a c → D a c) : RIs w0 R tk N b O cO P cP Q D' w := by
  obtain ⟨Tn, h1, h2, h3⟩ := h
  exact ⟨Tn, h1, h2, fun a c h => h3 a c (hp a c h)⟩
/-- A part that is filled till nothing is new is right. -/
theorem RIs.filled {w0 w : World} {R : List (Int × List Int)} {tk : List Int} {t N b O cO : Nat} {P cP : Nat → Nat} {Q : Nat → Nat → Nat} {D : Nat → Nat → Prop} {Tn Tm : Nat → Nat → Nat → Bool} (hRI : RulesIn t N R) {i j : Nat} (hj : j ≤ tk.length) (hD : ∀ a c, D a c → Full1 R tk N Tn a c) (hP : ∀ i' j', i ≤ i' → i' ≤ j' → j' ≤ j → ¬ (i' = i ∧ j' = j) → D i' j')
    (k1 : RChart w0 tk N b O cO P cP Q Tm w) (k2 : Sound R tk tk.length N Tm) (k3 : ∀ a c, ¬ (a = i ∧ c = j) → Tm a c = Tn a c) (k4 : ∀ r ∈ R, Tm i j r.1.toNat = true ∨ ¬ Cut Tm tk r.2 i j) : RIs w0 R tk N b O cO P cP Q (fun a c => D a c ∨ (a = i ∧ c = j)) w := by
  have hkeep : ∀ a c, ¬ (a = i ∧ c = j) → Full1 R tk N Tn a c → Full1 R tk N Tm a c := by
    intro a c hne hf k hk hd
    rw [k3 a c hne]
    exact hf k hk hd
  refine ⟨Tm, k1, k2, ?_⟩
  intro a c hac
  by_cases e : a = i ∧ c = j
  · obtain ⟨rfl, rfl⟩ := e
    exact fixed_full hj (fun r hr => hRI.left hr) (fun i' j' q1 q2 q3 q4 => hkeep i' j' q4 (hD i' j' (hP i' j' q1 q2 q3 q4))) k4
  · exact hkeep a c e (hD a c (hac.resolve_right e))
set_option maxHeartbeats 1600000 in
set_option maxRecDepth 100000 in
theorem rnew_calls (v : Value) (g : Gr) (At : Option Addr) (ct : Nat) (tk : List Int) (w : World) (hv : GramAt w v g) (hlc : tk.length ≤ ct) (hr : Kd.C (Kd.int .i64) w At tk.length tk) (hok : (mayN g tk).1 = 0) :
    Calls Tryd.prog 34 #[v, .slice At tk.length ct] w fun e w' => ∃ w1 b O cO P cP Q T, e = .returned (.pointer (some ⟨b, 0, none⟩)) ∧ Below w.heap.size w w1 ∧ RChart w1 tk g.nonterms.length b O cO P cP Q T w' ∧ Exact g.rules tk tk.length g.nonterms.length T := by
  have HV := Lib.hid hv
  obtain ⟨AT, cT, AN, cN, AR, cR, rfl, q1, q2, q3, q4, q5, q6⟩ := hv
  have hok2 : (checkN g).1 = 0 ∧ tk.length ≤ 40 := by
    unfold mayN at hok
    split at hok
    · rename_i h; exact absurd hok h
    · rename_i h
      split at hok
      · cases hok
      · exact ⟨by omega, by omega⟩
  obtain ⟨hc0, hn⟩ := hok2
  obtain ⟨z1, z2, z3, z4, z5, z6, z7⟩ := checkN_zero hc0
  have HZ : Hid (RulesIn g.terms.length g.nonterms.length g.rules) := Lib.hid z7
  clear z3 z4 z7 hc0 hok
  have hlen := hr.2.1
  have l2 := q5.2.1
  have l3 := q6.2.1
  obtain ⟨w1, hw1⟩ : ∃ w1, w.alloc (.cells #[.slice AT g.terms.length cT, .slice AN g.nonterms.length cN, .int .i64 g.ax, .slice AR g.rules.length cR] 25) = w1 := ⟨_, rfl⟩
  have hb1 : Below w.heap.size w w1 := by rw [← hw1]; exact below_alloc (Below.refl _ _) _
  have hk1 : w1.heap[w.heap.size]? = some (.cells #[.slice AT g.terms.length cT, .slice AN g.nonterms.length cN, .int .i64 g.ax, .slice AR g.rules.length cR] 25 (0, 0)) := by rw [← hw1]; exact heap_alloc_new w _
  obtain ⟨c0, c1, c2, c3⟩ := blk_cells2 hk1
  have HB1 := Lib.hid hb1
  have HK1 := Lib.hid hk1
  have HR := Lib.hid q6
  have HT := Lib.hid hr
  clear hb1 hk1 q4 q5 q6 hr
  have hmk : ∀ W : World, (Instr.makeSlice 73 (.int .i64 ((g.nonterms.length : Nat) : Int)) (.int .i64 ((g.nonterms.length : Nat) : Int))).run Tryd.prog W = .ok (.slice (some ⟨W.heap.size, 0, none⟩) g.nonterms.length g.nonterms.length) (W.alloc (.cells (madeCells #[.bool false] g.nonterms.length) 4)) :=
    print_make_of (P := Tryd.prog) 73 4 (.bool false) 1 rfl infoBool rfl (by decide) g.nonterms.length (by omega)
  go_enter Tryd.func34, Tryd.ntmps34
  go_wp2
  obtain ⟨b, hb⟩ : ∃ b, b = w.heap.size + 1 := ⟨_, rfl⟩
  have hs1 : w1.heap.size = b := by rw [← hw1, hb]; exact World.size_alloc _ _
  first | rw [← hb] | rw [hs1]
  obtain ⟨w2, hw2⟩ : ∃ w2, w1.alloc (.cells #[.slice AT g.terms.length cT, .slice AN g.nonterms.length cN, .int .i64 g.ax, .slice AR g.rules.length cR, .slice At tk.length ct, .slice none 0 0] 77) = w2 := ⟨_, rfl⟩
  have HP : Aside0 (PreR w1 tk g.nonterms.length b (.slice none 0 0) [] (fun _ _ => 0) w2) := by
    have hcell : ∀ i, w2.cell? ⟨b, i, none⟩ = (#[.slice AT g.terms.length cT, .slice AN g.nonterms.length cN, .int .i64 g.ax, .slice AR g.rules.length cR, .slice At tk.length ct, .slice none 0 0] : Array Value)[i]? := fun i => by rw [← hw2, ← hs1]; exact World.cell?_alloc_new _ _ _ _
    exact ⟨⟨by rw [← hw2]; exact below_alloc (Below.refl _ _) _, ⟨At, ct, hlc, Kd.C_below HT.out HB1.out, hcell 4⟩, hcell 5, by rw [← hw2, ← hs1]; simp [go_sem], Kd.R_nil _ _ _ _ _, fun i j h => absurd h (Nat.not_lt_zero _), fun i h => absurd h (Nat.not_lt_zero _), fun i j h => absurd h (Nat.not_lt_zero _), Nat.le_of_eq hs1, fun i h => absurd h (Nat.not_lt_zero _), fun i j h => absurd h (Nat.not_lt_zero _), fun i j i' j' h => absurd h (Nat.not_lt_zero _)⟩⟩
  rw [hw2]
  have HG0 := Lib.hid (show ∀ wr, Below w1.heap.size w1 wr → wr.heap[w.heap.size]? = some (.cells #[.slice AT g.terms.length cT, .slice AN g.nonterms.length cN, .int .i64 g.ax, .slice AR g.rules.length cR] 25 (0, 0)) from fun wr h => gblk_keep' HK1.out h)
  have HB0 := Lib.hid hb
  clear hw2 hw1 c0 c1 c2 c3 hb hs1
  go_loopw [7] (fun x wr => ∃ (v : Value) (ps : List (Nat × Nat)) (Q : Nat → Nat → Nat), ps.length ≤ tk.length + 1 ∧ x = .int .i64 ps.length ∧ Aside0 (PreR w1 tk g.nonterms.length b v ps Q wr)) (fun x _ => tk.length + 1 - (intOf x).toNat)
  case atStart => exact ⟨_, [], _, by simp, rfl, HP⟩
  case round =>
    obtain ⟨v, ps, Q, hk, rfl, HQ⟩ := hrel
    obtain ⟨wo, rfl⟩ : ∃ wo : World, wo = wr := ⟨_, rfl⟩
    obtain ⟨k, hkk⟩ : ∃ k, ps.length = k := ⟨_, rfl⟩
    rw [hkk] at hk ⊢
    have HK := Lib.hid hkk
    clear hkk
    by_cases hlt : k ≤ tk.length
    · go_wp2
      go_loopw [8, 9] (fun y x wr => ∃ (u : Value) (qs : List Nat), u = y ∧ qs.length ≤ tk.length + 1 ∧ x = .int .i64 qs.length ∧ Aside0 (InR wo g.nonterms.length u qs wr)) (fun _ x _ => tk.length + 1 - (intOf x).toNat)
      case atStart => exact ⟨_, [], rfl, by simp, rfl, ⟨⟨Below.refl _ _, Kd.R_nil _ _ _ _ _, fun j h => absurd h (Nat.not_lt_zero _), fun j j' h => absurd h (Nat.not_lt_zero _)⟩⟩⟩
      case round =>
        obtain ⟨u, qs, rfl, hj, rfl, HI⟩ := hrel
        obtain ⟨f0, f1, f2, f3⟩ := blk_cells2 (HG0.out _ (below_next HQ.out.bel HI.out.bel))
        by_cases hjt : qs.length ≤ tk.length
        · obtain ⟨l, hll⟩ : ∃ l, qs.length = l := ⟨_, rfl⟩
          rw [hll] at hj hjt ⊢
          have HL := Lib.hid hll
          clear hll
          obtain ⟨w3, hw3⟩ : ∃ w3, wr.alloc (.cells (madeCells #[.bool false] g.nonterms.length) 4) = w3 := ⟨_, rfl⟩
          have hmw : (Instr.makeSlice 73 (.int .i64 ((g.nonterms.length : Nat) : Int)) (.int .i64 ((g.nonterms.length : Nat) : Int))).run Tryd.prog wr = .ok (.slice (some ⟨wr.heap.size, 0, none⟩) g.nonterms.length g.nonterms.length) w3 := by rw [← hw3]; exact hmk wr
          have hb3 : Below wr.heap.size wr w3 := by rw [← hw3]; exact below_alloc (Below.refl _ _) _
          have HRow3 := Aside0.mk (show Row w3 wr.heap.size g.nonterms.length (fun _ => .bool false) by rw [← hw3]; exact Row.made wr _ _ _)
          have HO := Aside0.mk (Kd.R_below HI.out.own hb3)
          have HBi := Aside0.mk (below_next HI.out.bel hb3)
          have HB3 := Aside0.mk hb3
          clear hmk hw3 hb3
          go_wp2_with (first
            | ((with_reducible refine gate_builtin (b := .append) (xs := #[.tmp 31, .tmp 36]) rfl ?_); at_builtin; go_loud (refine Kd.R_append (KQ g.nonterms.length) (w0 := wo) wo.heap.size rfl (.tmp 31) (.tmp 36) 74 73 (.slice none 0 0) 24 rfl Tryd.underlying74 infoSB rfl (KQ_sz g.nonterms.length) (by omega) u qs wr.heap.size [.slice (some ⟨wr.heap.size, 0, none⟩) g.nonterms.length g.nonterms.length] (fun _ => True) (fun _ => False) rfl rfl rfl (fun _ hk => hk.elim) (fun _ _ => trivial) HO.out HBi.out HBi.out.size (by have := HL.out; omega) ?_); intro u1 w5 ho hb hg hat; (have HO5 := Aside0.mk ho; have HB5 := Aside0.mk hb; have HG5 := Aside0.mk hg; have HA5 := Aside0.mk hat; clear ho hb hg hat)))
          go_roundw
          case rel => exact ⟨u1, qs ++ [wr.heap.size], rfl, by rw [List.length_append, List.length_singleton, HL.out]; omega, by rw [List.length_append, List.length_singleton, HL.out]; go_num, ⟨HI.out.step HB3.out HRow3.out HO5.out HB5.out HG5.out HA5.out⟩⟩
          case measure => simp [intOf]; omega
        · have HQL : Hid (qs.length = tk.length + 1) := Lib.hid (by omega)
          obtain ⟨P, cap, rfl, d1, d2, d3, -, -⟩ := HI.out.done HQL.out
          have HQr := Aside0.mk (HQ.out.below HI.out.bel)
          have hd5 := HQr.out.head
          have hblt : b < wr.heap.size := World.block_lt_of_cell? wr _ hd5
          have hvb : some b ≠ v.ownBlock := fun e => HQr.out.own.1 b e.symm rfl
          have HF : Hid (∀ k, wr.heap.size ≤ k → k ≠ b) := Lib.hid (fun k hk => by omega)
          have HV2 := Lib.hid (And.intro hblt hvb)
          clear hblt hvb d1 d2 d3
          go_wp2_with (first
            | ((with_reducible refine gate_builtin (b := .append) (xs := #[.tmp 42, .tmp 44]) rfl ?_); at_builtin; go_loud (refine Kd.R_append (KP (tk.length + 1)) (w0 := w1) w1.heap.size rfl (.tmp 42) (.tmp 44) 75 74 (.slice none 0 0) 24 rfl Tryd.underlying75 infoSSB rfl (KP_sz (tk.length + 1)) (by omega) v ps (P, cap) [.slice (some ⟨P, 0, none⟩) (tk.length + 1) cap] (fun k => k ≠ b) (fun _ => False) rfl rfl rfl (fun _ hk => hk.elim) HF.out HQr.out.own HQr.out.bel HQr.out.bel.size (by have := HK.out; omega) ?_); intro v1 w5 ho hb hg hat; (obtain ⟨A9, c9, e9⟩ := Kd.R_slice ho; obtain ⟨L9, hL9⟩ : ∃ L : Nat, (ps ++ [(P, cap)]).length = L := ⟨_, rfl⟩; rw [hL9] at e9; subst e9; have HL9 := Lib.hid hL9; clear hL9; have HO5 := Aside0.mk ho; have HB5 := Aside0.mk hb; have HG5 := Aside0.mk hg; have HA5 := Aside0.mk hat; have c5 : w5.cell? ⟨b, 5, none⟩ = some v := (World.cell?_of_block (hg.block b HV2.out.1 HV2.out.2)).trans hd5; have f5 : w5.frozen? ⟨b, 5, none⟩ = false := (World.frozen?_of_block (hg.block b HV2.out.1 HV2.out.2)).trans HQr.out.frz; clear ho hb hg hat hd5)))
          go_roundw
          case rel => exact ⟨_, ps ++ [(P, cap)], _, by rw [List.length_append, List.length_singleton, HK.out]; omega, by rw [List.length_append, List.length_singleton, HK.out]; go_num, ⟨HQ.out.step HI.out HQL.out rfl HO5.out HB5.out HG5.out HA5.out⟩⟩
          case measure => simp [intOf]; omega
    · have hkn : Hid (ps.length = tk.length + 1) := Lib.hid (by have := HK.out; omega)
      obtain ⟨O, cO, P, cP, hRC⟩ := HQ.out.done hkn.out
      have HC0 : Aside0 (RIs w1 g.rules tk g.nonterms.length b O cO P cP Q (fun _ _ => False) wo) := ⟨(fun _ _ _ => false), hRC, (fun i j k _ _ _ h => by cases h), fun a c h => h.elim⟩
      clear hRC hmk
      go_wp2
      clear hk hlt
      go_loopw [10] (fun x wr => ∃ l : Nat, l ≤ tk.length + 1 ∧ x = .int .i64 l ∧ Aside0 (RIs w1 g.rules tk g.nonterms.length b O cO P cP Q (fun a c => a ≤ c ∧ c ≤ tk.length ∧ c - a < l) wr)) (fun x _ => tk.length + 1 - (intOf x).toNat)
      case atStart => exact ⟨0, by omega, rfl, ⟨HC0.out.imp (fun a c h => by omega)⟩⟩
      case round =>
        obtain ⟨l, hl, rfl, HC⟩ := hrel
        by_cases hll : l ≤ tk.length
        · go_wp2
          go_loopw [11] (fun x wr => ∃ i : Nat, i + l ≤ tk.length + 1 ∧ x = .int .i64 i ∧ Aside0 (RIs w1 g.rules tk g.nonterms.length b O cO P cP Q (fun a c => a ≤ c ∧ c ≤ tk.length ∧ (c - a < l ∨ c - a = l ∧ a < i)) wr)) (fun x _ => tk.length + 1 - (intOf x).toNat)
          case atStart => exact ⟨0, by omega, rfl, ⟨HC.out.imp (fun a c h => by omega)⟩⟩
          case round =>
            obtain ⟨i, hi, rfl, HC5⟩ := hrel
            obtain ⟨w5, rfl⟩ : ∃ w5 : World, w5 = wr := ⟨_, rfl⟩
            by_cases hil : i + l ≤ tk.length
            · obtain ⟨Tn, hC, hS, hF⟩ := HC5.out
              obtain ⟨j, hj⟩ : ∃ j : Nat, j = i + l := ⟨_, rfl⟩
              have HJ := Lib.hid hj
              have hij : i ≤ j := by omega
              have hjn : j ≤ tk.length := by omega
              have HC6 := Aside0.mk hC
              have HS6 := Aside0.mk hS
              have HF6 := Aside0.mk hF
              clear hj hC hS hF
              go_wp2
              go_loopg [12] (2 * miss g.nonterms.length (Tn i j) + 1) (fun m v wr => ∃ (again : Bool) (Tm : Nat → Nat → Nat → Bool), v = .bool again ∧ Aside0 (RChart w1 tk g.nonterms.length b O cO P cP Q Tm wr) ∧ Aside0 (Sound g.rules tk tk.length g.nonterms.length Tm) ∧ Aside0 (∀ a c, ¬ (a = i ∧ c = j) → Tm a c = Tn a c) ∧ Aside0 (again = false → ∀ r ∈ g.rules, Tm i j r.1.toNat = true ∨ ¬ Cut Tm tk r.2 i j) ∧ Aside0 (m = 2 * miss g.nonterms.length (Tm i j) + (if again then 1 else 0)))
              case atStart => exact ⟨true, Tn, rfl, HC6, HS6, ⟨fun _ _ _ => rfl⟩, ⟨fun h => by cases h⟩, ⟨rfl⟩⟩
              case round =>
                obtain ⟨again, Tm, rfl, HC, HS1, HO, HX, HM⟩ := hrel
                cases again
                · have HC7 : Aside0 (RIs w1 g.rules tk g.nonterms.length b O cO P cP Q _ wr) := ⟨RIs.filled HZ.out hjn HF6.out (fun i' j' h1 h2 h3 h4 => by have := HJ.out; omega) HC.out HS1.out HO.out (HX.out rfl)⟩
                  go_wp2
                  go_roundw
                  case rel => exact ⟨i + 1, by omega, by go_num, ⟨HC7.out.imp (fun a c h => by have := HJ.out; omega)⟩⟩
                  case measure => simp [intOf]; omega
                · go_wp2
                  go_loopw [12, 13] (fun v x wr => ∃ (ag : Bool) (k : Nat) (Tk : Nat → Nat → Nat → Bool), k ≤ g.rules.length ∧ v = .bool ag ∧ x = .int .i64 k ∧ Aside0 (RChart w1 tk g.nonterms.length b O cO P cP Q Tk wr) ∧ Aside0 (Sound g.rules tk tk.length g.nonterms.length Tk) ∧ Aside0 (∀ a c, ¬ (a = i ∧ c = j) → Tk a c = Tn a c) ∧ Aside0 (ag = false → ∀ k', k' < k → Tk i j (g.rules.getD k' (0, [])).1.toNat = true ∨ ¬ Cut Tk tk (g.rules.getD k' (0, [])).2 i j) ∧ Aside0 (miss g.nonterms.length (Tk i j) + (if ag then 1 else 0) ≤ miss g.nonterms.length (Tm i j))) (fun _ x _ => g.rules.length - (intOf x).toNat)
                  case atStart => exact ⟨false, 0, Tm, by omega, rfl, rfl, HC, HS1, HO, ⟨fun _ k' h => by omega⟩, ⟨by simp⟩⟩
                  case round =>
                    obtain ⟨ag, k, Tk, hk, rfl, rfl, HC2, HS2, HO2, HX2, HM2⟩ := hrel
                    obtain ⟨f0, f1, f2, f3⟩ := blk_cells2 (HG0.out _ HC2.out.bel)
                    by_cases hlt : k < g.rules.length
                    · obtain ⟨ad, x, B, c, r, rfl, k1, k2, hrc, hr, HD⟩ := at_rule (Kd.C_below HR.out (below_next HB1.out HC2.out.bel)) k hlt
                      have hRr : Hid ((x, r) ∈ g.rules) := Lib.hid (by rw [← HD.out]; exact getD_mem g.rules k _ hlt)
                      have hx0 : 0 ≤ x := (HZ.out.left hRr.out).1
                      have hxN : x < g.nonterms.length := (HZ.out.left hRr.out).2
                      obtain ⟨w3, hw3⟩ : ∃ w3, wr.alloc (.cells #[.int .i64 x, .slice B r.length c] 51) = w3 := ⟨_, rfl⟩
                      have hb3 : Below wr.heap.size wr w3 := by rw [← hw3]; exact below_alloc (Below.refl _ _) _
                      have r0 : w3.cell? ⟨wr.heap.size, 0, none⟩ = some (.int .i64 x) := by rw [← hw3]; simp [go_sem]
                      have r1 : w3.cell? ⟨wr.heap.size, 1, none⟩ = some (.slice B r.length c) := by rw [← hw3]; simp [go_sem]
                      have HC3 := Aside0.mk (HC2.out.below hb3)
                      have HB3 := Lib.hid hb3
                      have HR3 := Lib.hid (Kd.C_below hr hb3)
                      clear hr hb3
                      have p1 := HC3.out.head
                      have p2 := HC3.out.out i (by omega)
                      have p3 := HC3.out.mid i j (by omega) hjn
                      have hp4 := (HC3.out.leaf i j (by omega) hjn).cell x.toNat (by omega)
                      have hp5 := (HC3.out.leaf i j (by omega) hjn).free x.toNat
                      have hcO := HC3.out.cO1
                      have hcP := HC3.out.cP1 i (by omega)
                      obtain ⟨n1, hn1⟩ : ∃ n1 : Nat, n1 = tk.length + 1 := ⟨_, rfl⟩
                      have hji : IntKind.i64.wrap ((i : Int) + l) = (j : Int) := by have := HJ.out; rw [Go.IntWalk.i64_in _ (by omega)]; omega
                      have hi1 : (0 : Int) ≤ (i : Int) := by omega
                      have hi2 : (i : Int) < (n1 : Int) := by omega
                      have hd1 : (0 : Int) ≤ (j : Int) := by omega
                      have hd2 : (j : Int) < (n1 : Int) := by omega
                      rw [← hn1] at p1 p2 hcO hcP
                      have HN1 := Lib.hid hn1
                      clear hn1
                      have HCut := Lib.hid (fun (W : World) (hW : Below w3.heap.size w3 W) => rccut_calls (HC3.out.below hW) (by omega) hn B c r (Kd.C_below HR3.out hW) (fun s hs => by have := HZ.out.sym hRr.out hs; omega) i j hij hjn)
                      cases hhas : Tk i j x.toNat
                      · rw [hhas] at hp4
                        cases hcut : tb (Cut Tk tk r i j)
                        · rw [hcut] at HCut
                          go_wp2_with fail
                          go_region_held3 (fun w' => w'.cell? ⟨b, 5, none⟩ = some (.slice (some ⟨O, 0, none⟩) n1 cO) ∧ w'.cell? ⟨O, i, none⟩ = some (.slice (some ⟨P i, 0, none⟩) n1 (cP i)) ∧ w'.cell? ⟨P i, j, none⟩ = some (.slice (some ⟨Q i j, 0, none⟩) g.nonterms.length g.nonterms.length) ∧ w'.cell? ⟨Q i j, x.toNat, none⟩ = some (.bool false) ∧ w'.cell? ⟨wr.heap.size, 0, none⟩ = some (.int .i64 x) ∧ w'.cell? ⟨wr.heap.size, 1, none⟩ = some (.slice B r.length c) ∧ Aside0 (Below w3.heap.size w3 w'))
                            (first
                              | (refine ⟨?_, ?_, ?_, ?_, ?_, ?_, ⟨below_drew1 (Below.refl _ _)⟩⟩ <;> assumption)
                              | exact six_step hS.out hb.out
                              | (refine ⟨?_, ?_, ?_, ?_, ?_, ?_, ⟨pw_below_drewN (Below.refl _ _) _⟩⟩ <;> (rw [World.cell?_drewN]; assumption)))
                            (first
                              | (go_at_call 46; have hS := Aside0.mk (by assumption : _ ∧ _ ∧ _ ∧ _ ∧ _ ∧ _ ∧ Aside0 (Below w3.heap.size w3 _)); refine (HCut.out _ hS.out.2.2.2.2.2.2.out).mono ?_; rintro e w4 ⟨rfl, hb4⟩; have hb := Aside0.mk hb4; have HB4 := Aside0.mk (below_next hS.out.2.2.2.2.2.2.out hb4); clear hb4))
                          go_wp2
                          go_roundw
                          case rel => exact ⟨ag, k + 1, Tk, by omega, rfl, by go_num, ⟨HC3.out.below HB4.out⟩, HS2, HO2, ⟨fun h k' hk' => by
                            rcases Nat.lt_or_ge k' k with h' | h'
                            · exact HX2.out h k' h'
                            · obtain rfl : k' = k := by omega
                              rw [HD.out]; exact .inr (fun h => by rw [tb_yes h] at hcut; cases hcut)⟩, HM2⟩
                          case measure => simp [intOf]; omega
                        · rw [hcut] at HCut
                          go_wp2_with fail
                          go_region_held3 (fun w' => w'.cell? ⟨b, 5, none⟩ = some (.slice (some ⟨O, 0, none⟩) n1 cO) ∧ w'.cell? ⟨O, i, none⟩ = some (.slice (some ⟨P i, 0, none⟩) n1 (cP i)) ∧ w'.cell? ⟨P i, j, none⟩ = some (.slice (some ⟨Q i j, 0, none⟩) g.nonterms.length g.nonterms.length) ∧ w'.cell? ⟨Q i j, x.toNat, none⟩ = some (.bool false) ∧ w'.cell? ⟨wr.heap.size, 0, none⟩ = some (.int .i64 x) ∧ w'.cell? ⟨wr.heap.size, 1, none⟩ = some (.slice B r.length c) ∧ Aside0 (Below w3.heap.size w3 w'))
                            (first
                              | (refine ⟨?_, ?_, ?_, ?_, ?_, ?_, ⟨below_drew1 (Below.refl _ _)⟩⟩ <;> assumption)
                              | exact six_step hS.out hb.out
                              | (refine ⟨?_, ?_, ?_, ?_, ?_, ?_, ⟨pw_below_drewN (Below.refl _ _) _⟩⟩ <;> (rw [World.cell?_drewN]; assumption)))
                            (first
                              | (go_at_call 46; have hS := Aside0.mk (by assumption : _ ∧ _ ∧ _ ∧ _ ∧ _ ∧ _ ∧ Aside0 (Below w3.heap.size w3 _)); refine (HCut.out _ hS.out.2.2.2.2.2.2.out).mono ?_; rintro e w4 ⟨rfl, hb4⟩; have hb := Aside0.mk hb4; have HB4 := Aside0.mk (below_next hS.out.2.2.2.2.2.2.out hb4); clear hb4))
                          have q5 : w4.frozen? ⟨Q i j, x.toNat, none⟩ = false := (HB4.out.frozen (p := ⟨Q i j, x.toNat, none⟩) (World.block_lt_of_cell? _ _ hp4)).trans hp5
                          have hcutH := Lib.hid hcut
                          have hhasH := Lib.hid hhas
                          clear hcut hhas p1 p2 p3 hp4 hp5 r0 r1 k1 k2 hw3
                          obtain ⟨s1, s2, s3, s4, s5, s6, -⟩ := six_step hS.out hb.out
                          clear hS hb
                          go_wp2_with fail
                          go_still_tail 15, (by kernel_rfl)
                          repeat still_step
                          try refine wpStill_nil ?_
                          change wpList _ _ _ _ _ w4.drew
                          obtain ⟨w6, hw6⟩ : ∃ w6, w4.drew = w6 := ⟨_, rfl⟩
                          have hb6 : Below w3.heap.size w3 w6 := by rw [← hw6]; exact HB4.out.drew
                          have t3 : w6.cell? ⟨Q i j, x.toNat, none⟩ = some (.bool false) := by rw [← hw6]; exact s4
                          have t4 : w6.frozen? ⟨Q i j, x.toNat, none⟩ = false := by rw [← hw6]; exact q5
                          have HC6' := Aside0.mk (HC3.out.below hb6)
                          rw [hw6]
                          clear hw6 hb6 s1 s2 s3 s4 s5 s6 q5
                          go_wp2
                          go_roundw
                          case rel =>
                            refine ⟨true, k + 1, upd Tk i j x.toNat, by omega, rfl, by go_num, ⟨?_⟩, ⟨?_⟩, ⟨?_⟩, ⟨fun h => by cases h⟩, ⟨?_⟩⟩
                            · exact HC6'.out.put i j x.toNat (by omega) hjn (by omega)
                            · exact HS2.out.upd ⟨(x, r), hRr.out, (Int.toNat_of_nonneg hx0).symm, Cut_sound HS2.out (fun s hs => (HZ.out.sym hRr.out hs).1) hjn (tb_iff.1 hcutH.out)⟩
                            · intro a c h
                              refine Eq.trans ?_ (HO2.out a c h)
                              funext y
                              exact upd_other (fun e => h e)
                            · have := miss_upd (N := g.nonterms.length) (T := Tk) (i := i) (j := j) (k := x.toNat) (by omega) hhasH.out
                              have h2 := HM2.out
                              simp only [if_true]
                              omega
                          case measure => simp [intOf]; omega
                      · rw [hhas] at hp4
                        go_wp2_with fail
                        go_quiet (fail)
                        go_wp2
                        go_roundw
                        case rel => exact ⟨ag, k + 1, Tk, by omega, rfl, by go_num, ⟨HC3.out.below (by first | exact pw_below_drewN (Below.refl _ _) _ | exact (pw_below_drewN (Below.refl _ _) _).drew)⟩, HS2, HO2, ⟨fun h k' hk' => by
                          rcases Nat.lt_or_ge k' k with h' | h'
                          · exact HX2.out h k' h'
                          · obtain rfl : k' = k := by omega
                            rw [HD.out]; exact .inl hhas⟩, HM2⟩
                        case measure => simp [intOf]; omega
                    · go_wp2
                      go_roundg (2 * miss g.nonterms.length (Tk i j) + (if ag then 1 else 0))
                      case rel => exact ⟨ag, Tk, rfl, HC2, HS2, HO2, ⟨fun h r hr => by
                        obtain ⟨k', hk', rfl⟩ := List.getElem_of_mem hr
                        have := HX2.out h k' (by omega)
                        rwa [List.getD_eq_getElem?_getD, List.getElem?_eq_getElem hk', Option.getD_some] at this⟩, ⟨rfl⟩⟩
                      case measure => have h1 := HM2.out; have h2 := HM.out; simp at h2; cases ag <;> simp at h1 ⊢ <;> omega
            · go_wp2
              go_roundw
              case rel => exact ⟨l + 1, by omega, by go_num, ⟨HC5.out.imp (fun a c h => by omega)⟩⟩
              case measure => simp [intOf]; omega
        · go_wp2
          go_ret
          obtain ⟨T, t1, t2, t3⟩ := HC.out
          exact ⟨w1, b, O, cO, P, cP, Q, T, rfl, HB1.out, t1, fun i j k h1 h2 h3 => ⟨t2 i j k h1 h2 h3, t3 i j ⟨h1, h2, by omega⟩ k h3⟩⟩
end Go.Proofs.YtndimnomkcjeiaaDoor.Hand
