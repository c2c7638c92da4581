/- Contracts of package member: the chart is filled. -/
import Derived.Test.YtndimnomkcjeiaaDoorMem
import Derived.Deep.RegionHeld3
import Derived.StillTailTactics
namespace Go.Proofs.YtndimnomkcjeiaaDoor.Hand
open Go.RowKit Go.Proofs.YtndimnomkcjeiaaDoorW.PrintWords Go.Proofs.YtndimnomkcjeiaaDoorW.PrintMore Go.Proofs.YtndimnomkcjeiaaDoor.Math

theorem tab_put {Tn : Nat → Nat → Nat} {N : Nat} (hl : ∀ i j, Tn i j < 2 ^ N) (hN : N ≤ 60) {i j k : Nat} (hk : k < N) : (∀ a c, (if a = i ∧ c = j then withN (Tn i j) k else Tn a c) < 2 ^ N) ∧ tabOf (fun a c => if a = i ∧ c = j then withN (Tn i j) k else Tn a c) = upd (tabOf Tn) i j k := by
  have hin : inR (k : Int) = true := (inR_iff _).2 (by omega)
  constructor
  · intro a c
    split
    · refine Nat.or_lt_two_pow (hl i j) ?_
      rw [bitN, hin]
      exact Nat.pow_lt_pow_right (by decide) (by simpa using hk)
    · exact hl a c
  · funext a c x
    unfold tabOf upd
    by_cases e : a = i ∧ c = j
    · obtain ⟨rfl, rfl⟩ := e
      by_cases e2 : x = k
      · subst e2
        simp only [and_self, if_true, hasN, withN, Nat.testBit_or, Int.toNat_natCast]
        have := bitN_test (x : Int) x
        simp only [hin, Int.toNat_natCast, decide_true, Bool.and_self] at this
        rw [this, hin]; simp
      · simp only [and_self, true_and, if_true, e2, if_false, hasN, withN, Nat.testBit_or, Int.toNat_natCast]
        have := bitN_test (k : Int) x
        simp only [hin, Int.toNat_natCast, Bool.true_and] at this
        rw [this, decide_eq_false (fun h => e2 h.symm), Bool.or_false]
    · simp only [e, if_false]
      rw [if_neg (fun h => e ⟨h.1, h.2.1⟩)]
theorem five_step {a0 a1 a2 a3 a4 : Addr} {v0 v1 v2 v3 v4 : Value} {w3 W w' : World} (h : W.cell? a0 = some v0 ∧ W.cell? a1 = some v1 ∧ W.cell? a2 = some v2 ∧ W.cell? a3 = some v3 ∧ W.cell? a4 = some v4 ∧ Aside0 (Below w3.heap.size w3 W)) (hb : Below W.heap.size W w') :
    w'.cell? a0 = some v0 ∧ w'.cell? a1 = some v1 ∧ w'.cell? a2 = some v2 ∧ w'.cell? a3 = some v3 ∧ w'.cell? a4 = some v4 ∧ Aside0 (Below w3.heap.size w3 w') := by
  obtain ⟨h0, h1, h2, h3, h4, h5⟩ := h
  exact ⟨(hb.cell (World.block_lt_of_cell? _ _ h0)).trans h0, (hb.cell (World.block_lt_of_cell? _ _ h1)).trans h1, (hb.cell (World.block_lt_of_cell? _ _ h2)).trans h2, (hb.cell (World.block_lt_of_cell? _ _ h3)).trans h3, (hb.cell (World.block_lt_of_cell? _ _ h4)).trans h4, ⟨below_next h5.out hb⟩⟩
theorem six_drew {p0 p1 p2 p3 p4 : Prop} {w3 W : World} (_h : Aside0 (p0 ∧ p1 ∧ p2 ∧ p3 ∧ p4 ∧ Aside0 (Below w3.heap.size w3 W))) (n : Nat) : Below W.heap.size W (W.drewN n) := pw_below_drewN (Below.refl _ _) n
theorem six_drew' {p1 p2 p3 p4 : Prop} {a0 : Addr} {v0 : Value} {W : World} (_h : Aside0 (W.cell? a0 = some v0 ∧ p1 ∧ p2 ∧ p3 ∧ p4 ∧ True)) (n : Nat) : Below W.heap.size W (W.drewN n) := pw_below_drewN (Below.refl _ _) n
theorem five_step' {a0 a1 a2 a3 a4 : Addr} {v0 v1 v2 v3 v4 : Value} {W w' : World} (h : W.cell? a0 = some v0 ∧ W.cell? a1 = some v1 ∧ W.cell? a2 = some v2 ∧ W.cell? a3 = some v3 ∧ W.cell? a4 = some v4 ∧ True) (hb : Below W.heap.size W w') :
    w'.cell? a0 = some v0 ∧ w'.cell? a1 = some v1 ∧ w'.cell? a2 = some v2 ∧ w'.cell? a3 = some v3 ∧ w'.cell? a4 = some v4 ∧ True := by
  obtain ⟨h0, h1, h2, h3, h4, h5⟩ := h
  exact ⟨(hb.cell (World.block_lt_of_cell? _ _ h0)).trans h0, (hb.cell (World.block_lt_of_cell? _ _ h1)).trans h1, (hb.cell (World.block_lt_of_cell? _ _ h2)).trans h2, (hb.cell (World.block_lt_of_cell? _ _ h3)).trans h3, (hb.cell (World.block_lt_of_cell? _ _ h4)).trans h4, trivial⟩
def FillPost (w0 : World) (R : List (Int × List Int)) (tk : List Int) (N b O : Nat) (Bs : Nat → Nat) (Tn : Nat → Nat → Nat) (i j : Nat) (w' : World) : Prop :=
  ∃ Tn', Chart w0 R tk N b O Bs Tn' w' ∧ Sound R tk tk.length N (tabOf Tn') ∧ (∀ a c, ¬ (a = i ∧ c = j) → Tn' a c = Tn a c) ∧ (∀ r ∈ R, tabOf Tn' i j r.1.toNat = true ∨ ¬ Cut (tabOf Tn') tk r.2 i j)
set_option maxHeartbeats 1600000 in
set_option maxRecDepth 20000 in
theorem cfill_calls {w0 w : World} {R : List (Int × List Int)} {tk : List Int} {t N b O : Nat} {Bs : Nat → Nat} {Tn : Nat → Nat → Nat} (h : Chart w0 R tk N b O Bs Tn w) (hN : N ≤ 60) (ht : t ≤ 60) (hn : tk.length ≤ 40) (hRI : RulesIn t N R) (i j : Nat) (hij : i ≤ j) (hj : j ≤ tk.length) (hS : Sound R tk tk.length N (tabOf Tn)) :
    Calls Tryd.prog 44 #[.pointer (some ⟨b, 0, none⟩), .int .i64 i, .int .i64 j] w fun e w' => e = .returned (.tuple #[]) ∧ FillPost w0 R tk N b O Bs Tn i j w' := by
  have HH := Aside0.mk h
  have HS := Aside0.mk hS
  have HRI := Lib.hid hRI
  clear h hS hRI
  go_enter Tryd.func44, Tryd.ntmps44
  go_wp2
  go_loopg [6] (2 * miss N (tabOf Tn i j) + 1) (fun m v wr => ∃ (again : Bool) (Tm : Nat → Nat → Nat), v = .bool again ∧ Aside0 (Chart w0 R tk N b O Bs Tm wr) ∧ Aside0 (Sound R tk tk.length N (tabOf Tm)) ∧ Aside0 (∀ a c, ¬ (a = i ∧ c = j) → Tm a c = Tn a c) ∧ Aside0 (again = false → ∀ r ∈ R, tabOf Tm i j r.1.toNat = true ∨ ¬ Cut (tabOf Tm) tk r.2 i j) ∧ Aside0 (m = 2 * miss N (tabOf Tm i j) + (if again then 1 else 0)))
  case atStart => exact ⟨true, Tn, rfl, HH, HS, ⟨fun _ _ _ => rfl⟩, ⟨fun h => by cases h⟩, ⟨rfl⟩⟩
  case round =>
    obtain ⟨again, Tm, rfl, HC, HS1, HO, HX, HM⟩ := hrel
    cases again
    · go_wp2
      go_end0
      exact ⟨rfl, Tm, HC.out, HS1.out, HO.out, HX.out trivial⟩
    · obtain ⟨AR, cR, q1, q2, q3⟩ := HC.out.rules
      have hlr := q2.2.1
      have HQ := Lib.hid q2
      clear q2
      go_wp2
      clear q3
      go_loopw [6, 16] (fun v x wr => ∃ (ag : Bool) (k : Nat) (Tk : Nat → Nat → Nat), k ≤ R.length ∧ v = .bool ag ∧ x = .int .i64 k ∧ Aside0 (Chart w0 R tk N b O Bs Tk wr) ∧ Aside0 (Sound R tk tk.length N (tabOf Tk)) ∧ Aside0 (∀ a c, ¬ (a = i ∧ c = j) → Tk a c = Tn a c) ∧ Aside0 (ag = false → ∀ k', k' < k → tabOf Tk i j (R.getD k' (0, [])).1.toNat = true ∨ ¬ Cut (tabOf Tk) tk (R.getD k' (0, [])).2 i j) ∧ Aside0 (miss N (tabOf Tk i j) + (if ag then 1 else 0) ≤ miss N (tabOf Tm i j))) (fun _ x _ => R.length - (intOf x).toNat)
      case atStart => exact ⟨false, 0, Tm, by omega, rfl, rfl, HC, HS1, HO, ⟨fun _ k' h => by omega⟩, ⟨by simp⟩⟩
      case round =>
        obtain ⟨ag, k, Tk, hk, rfl, rfl, HC2, HS2, HO2, HX2, HM2⟩ := hrel
        obtain ⟨wo, rfl⟩ : ∃ wo : World, wo = wr := ⟨_, rfl⟩
        by_cases hlt : k < R.length
        · obtain ⟨ad, x, B, c, r, rfl, k1, k2, hrc, hr, HD⟩ := at_rule (Kd.C_below HQ.out HC2.out.bel) k hlt
          have hRr : Hid ((x, r) ∈ R) := Lib.hid (by rw [← HD.out]; exact getD_mem R k _ hlt)
          have hx0 : 0 ≤ x := (HRI.out.left hRr.out).1
          have hxN : x < N := (HRI.out.left hRr.out).2
          obtain ⟨w3, hw3⟩ : ∃ w3, wo.alloc (.cells #[.int .i64 x, .slice B r.length c] 51) = w3 := ⟨_, rfl⟩
          have hb3 : Below wo.heap.size wo w3 := by rw [← hw3]; exact below_alloc (Below.refl _ _) _
          have r0 : w3.cell? ⟨wo.heap.size, 0, none⟩ = some (.int .i64 x) := by rw [← hw3]; simp [go_sem]
          have r1 : w3.cell? ⟨wo.heap.size, 1, none⟩ = some (.slice B r.length c) := by rw [← hw3]; simp [go_sem]
          have HC3 := Aside0.mk (HC2.out.below hb3)
          have HB3 := Lib.hid hb3
          have HR3 := Lib.hid (Kd.C_below hr hb3)
          clear hr hb3
          obtain ⟨p1', p2', p3', p4'⟩ := HC3.out.part i j hij hj
          obtain ⟨d, hd⟩ : ∃ d : Nat, d = j - i := ⟨_, rfl⟩
          obtain ⟨n1, hn1⟩ : ∃ n1 : Nat, n1 = tk.length + 1 := ⟨_, rfl⟩
          obtain ⟨m1, hm1⟩ : ∃ m1 : Nat, m1 = tk.length - i + 1 := ⟨_, rfl⟩
          have hji : IntKind.i64.wrap ((j : Int) - i) = (d : Int) := by rw [Go.IntWalk.i64_in _ (by omega)]; omega
          have hi1 : (0 : Int) ≤ (i : Int) := by omega
          have hi2 : (i : Int) < (n1 : Int) := by omega
          have hd1 : (0 : Int) ≤ (d : Int) := by omega
          have hd2 : (d : Int) < (m1 : Int) := by omega
          rw [← hd] at p3' p4'
          rw [← hm1] at p2'
          rw [← hn1] at p1'
          have HD3 := Lib.hid hd
          clear hd hn1 hm1
          have h18 : Tk i j < 18446744073709551616 := Nat.lt_of_lt_of_le (HC3.out.lim i j) (Nat.le_trans (Nat.pow_le_pow_right (by decide) hN) (by decide))
          have HHas := Lib.hid (fun W => has_calls (Tk i j) h18 x W)
          have HCut := Lib.hid (fun (W : World) (hW : Below w3.heap.size w3 W) => ccut_calls (HC3.out.below hW) hN hn B c r (Kd.C_below HR3.out hW) (fun s hs => by have := HRI.out.sym hRr.out hs; omega) i j hij hj)
          have HT : Hid (tabOf Tk i j x.toNat = hasN (Tk i j) x) := Lib.hid (by unfold tabOf; rw [Int.toNat_of_nonneg hx0])
          have H18 := Lib.hid h18
          clear h18
          cases hhas : hasN (Tk i j) x
          · rw [hhas] at HHas HT
            cases hcut : tb (Cut (tabOf Tk) tk r i j)
            · rw [hcut] at HCut
              go_wp2_with fail
              go_region_held3 (fun w' => w'.cell? ⟨b, 5, none⟩ = some (.slice (some ⟨O, 0, none⟩) n1 n1) ∧ w'.cell? ⟨O, i, none⟩ = some (.slice (some ⟨Bs i, 0, none⟩) m1 m1) ∧ w'.cell? ⟨Bs i, d, none⟩ = some (.int .u64 (Tk i j : Nat)) ∧ w'.cell? ⟨wo.heap.size, 0, none⟩ = some (.int .i64 x) ∧ w'.cell? ⟨wo.heap.size, 1, none⟩ = some (.slice B r.length c) ∧ Aside0 (Below w3.heap.size w3 w'))
                (first
                  | (refine ⟨?_, ?_, ?_, ?_, ?_, ⟨below_drew1 (Below.refl _ _)⟩⟩ <;> assumption)
                  | exact five_step hS.out hb.out
                  | (refine ⟨?_, ?_, ?_, ?_, ?_, ⟨pw_below_drewN (Below.refl _ _) _⟩⟩ <;> (rw [World.cell?_drewN]; assumption)))
                (first
                  | (go_at_call 38; have hS := Aside0.mk (by assumption : _ ∧ _ ∧ _ ∧ _ ∧ _ ∧ Aside0 (Below w3.heap.size w3 _)); refine (HHas.out _).mono ?_; rintro e w' ⟨rfl, n, rfl⟩; have hb := Aside0.mk (six_drew hS n))
                  | (go_at_call 57; have hS := Aside0.mk (by assumption : _ ∧ _ ∧ _ ∧ _ ∧ _ ∧ Aside0 (Below w3.heap.size w3 _)); refine (HCut.out _ hS.out.2.2.2.2.2.out).mono ?_; rintro e w4 ⟨rfl, hb4⟩; have hb := Aside0.mk hb4; have HB4 := Aside0.mk (below_next hS.out.2.2.2.2.2.out hb4); clear hb4))
              go_wp2
              go_roundw
              case rel => exact ⟨ag, k + 1, Tk, by omega, rfl, by go_num, ⟨HC3.out.below HB4.out⟩, HS2, HO2, ⟨fun h k' hk' => by
                rcases Nat.lt_or_ge k' k with h' | h'
                · exact HX2.out h k' h'
                · obtain rfl : k' = k := by omega
                  rw [HD.out]; exact .inr (fun h => by rw [tb_yes h] at hcut; cases hcut)⟩, HM2⟩
              case measure => simp [intOf]; omega
            · rw [hcut] at HCut
              have HWith := Lib.hid (fun W => with_calls (Tk i j) H18.out x W)
              go_wp2_with fail
              go_region_held3 (fun w' => w'.cell? ⟨b, 5, none⟩ = some (.slice (some ⟨O, 0, none⟩) n1 n1) ∧ w'.cell? ⟨O, i, none⟩ = some (.slice (some ⟨Bs i, 0, none⟩) m1 m1) ∧ w'.cell? ⟨Bs i, d, none⟩ = some (.int .u64 (Tk i j : Nat)) ∧ w'.cell? ⟨wo.heap.size, 0, none⟩ = some (.int .i64 x) ∧ w'.cell? ⟨wo.heap.size, 1, none⟩ = some (.slice B r.length c) ∧ Aside0 (Below w3.heap.size w3 w'))
                (first
                  | (refine ⟨?_, ?_, ?_, ?_, ?_, ⟨below_drew1 (Below.refl _ _)⟩⟩ <;> assumption)
                  | exact five_step hS.out hb.out
                  | (refine ⟨?_, ?_, ?_, ?_, ?_, ⟨pw_below_drewN (Below.refl _ _) _⟩⟩ <;> (rw [World.cell?_drewN]; assumption)))
                (first
                  | (go_at_call 38; have hS := Aside0.mk (by assumption : _ ∧ _ ∧ _ ∧ _ ∧ _ ∧ Aside0 (Below w3.heap.size w3 _)); refine (HHas.out _).mono ?_; rintro e w' ⟨rfl, n, rfl⟩; have hb := Aside0.mk (six_drew hS n))
                  | (go_at_call 57; have hS := Aside0.mk (by assumption : _ ∧ _ ∧ _ ∧ _ ∧ _ ∧ Aside0 (Below w3.heap.size w3 _)); refine (HCut.out _ hS.out.2.2.2.2.2.out).mono ?_; rintro e w4 ⟨rfl, hb4⟩; have hb := Aside0.mk hb4; have HB4 := Aside0.mk (below_next hS.out.2.2.2.2.2.out hb4); clear hb4))
              have p4 : w4.frozen? ⟨Bs i, d, none⟩ = false := by
                have h5 := HB4.out.frozen (p := ⟨Bs i, d, none⟩) (World.block_lt_of_cell? _ _ p3')
                exact h5.trans p4'
              have hcutH := Lib.hid hcut
              clear hcut hhas p1' p2' p3' p4' r0 r1 k1 k2 hw3
              obtain ⟨s1, s2, s3, s4, s5, -⟩ := five_step hS.out hb.out
              clear hS hb
              go_wp2_with fail
              go_still_tail 26, (by kernel_rfl)
              still_call (with_still (Tk i j) H18.out x _)
              repeat still_step
              refine wpStill_nil ?_
              change wpList _ _ _ _ _ w4.drew
              obtain ⟨w5, hw5⟩ : ∃ w5, w4.drew = w5 := ⟨_, rfl⟩
              have hb5 : Below w3.heap.size w3 w5 := by rw [← hw5]; exact HB4.out.drew
              have t3 : w5.cell? ⟨Bs i, d, none⟩ = some (.int .u64 (Tk i j : Nat)) := by rw [← hw5]; exact s3
              have t4 : w5.frozen? ⟨Bs i, d, none⟩ = false := by rw [← hw5]; exact p4
              have HC5 := Aside0.mk (HC3.out.below hb5)
              rw [hw5]
              clear hw5 hb5 s1 s2 s3 s4 s5 p4
              go_wp2
              go_roundw
              case rel =>
                have hxx : ((x.toNat : Nat) : Int) = x := Int.toNat_of_nonneg hx0
                obtain ⟨z1, z2⟩ := tab_put (i := i) (j := j) (k := x.toNat) HC3.out.lim hN (by omega)
                rw [hxx] at z1 z2
                have hcutT := tb_iff.1 hcutH.out
                refine ⟨true, k + 1, fun a c => if a = i ∧ c = j then withN (Tk i j) x else Tk a c, by omega, rfl, by go_num, ⟨?_⟩, ⟨?_⟩, ⟨?_⟩, ⟨fun h => by cases h⟩, ⟨?_⟩⟩
                · have hz := z1 i j
                  rw [if_pos ⟨rfl, rfl⟩] at hz
                  have := HC5.out.put i j hij hj (withN (Tk i j) x) hz
                  rwa [← HD3.out] at this
                · rw [z2]
                  exact HS2.out.upd ⟨(x, r), hRr.out, hxx.symm, Cut_sound HS2.out (fun s hs => (HRI.out.sym hRr.out hs).1) hj hcutT⟩
                · intro a c h
                  show (if a = i ∧ c = j then withN (Tk i j) x else Tk a c) = Tn a c
                  rw [if_neg h]; exact HO2.out a c h
                · rw [z2]
                  have := miss_upd (N := N) (T := tabOf Tk) (i := i) (j := j) (k := x.toNat) (by omega) HT.out
                  have h2 := HM2.out
                  simp only [if_true]
                  omega
              case measure => simp [intOf]; omega
          · rw [hhas] at HHas HT
            go_wp2_with fail
            go_quiet ((go_at_call 38; exact Calls.quiet_of (HHas.out _)))
            go_wp2
            go_roundw
            case rel => exact ⟨ag, k + 1, Tk, by omega, rfl, by go_num, ⟨HC3.out.below (by first | exact pw_below_drewN (Below.refl _ _) _ | exact (pw_below_drewN (Below.refl _ _) _).drew)⟩, HS2, HO2, ⟨fun h k' hk' => by
              rcases Nat.lt_or_ge k' k with h' | h'
              · exact HX2.out h k' h'
              · obtain rfl : k' = k := by omega
                rw [HD.out]; exact .inl HT.out⟩, HM2⟩
            case measure => simp [intOf]; omega
        · go_wp2
          go_roundg (2 * miss N (tabOf Tk i j) + (if ag then 1 else 0))
          case rel => exact ⟨ag, Tk, rfl, HC2, HS2, HO2, ⟨fun h r hr => by
            obtain ⟨k', hk', rfl⟩ := List.getElem_of_mem hr
            have := HX2.out h k' (by omega)
            rwa [List.getD_eq_getElem?_getD, List.getElem?_eq_getElem hk', Option.getD_some] at this⟩, ⟨rfl⟩⟩
          case measure => have h1 := HM2.out; have h2 := HM.out; simp at h2; cases ag <;> simp at h1 ⊢ <;> omega
end Go.Proofs.YtndimnomkcjeiaaDoor.Hand
