/- The texts that the statement's proof stands on, part 4: XKn XLaid XMown. -/
import Derived.Test.YtndimnomkcjeiaaDoorZMemberOwn3
import Derived.Test.YtndimnomkcjeiaaDoorRows
import Derived.Stop.LaidErr
import Derived.LaidSub
import Derived.LaidMore
import Derived.Stop.Joined
import Derived.MakeChecks
/- Chapter 24's own known: the document's grammars, its answers. -/
namespace Go.Proofs.YtndimnomkcjeiaaDoor.Hand
open Go.RowKit Go.Proofs.YtndimnomkcjeiaaDoorW.PrintWords Go.Proofs.YtndimnomkcjeiaaDoorW.PrintMore Go.Proofs.YtndimnomkcjeiaaDoor.Math

set_option maxHeartbeats 2000000 in
set_option maxRecDepth 20000 in
theorem known_calls (w : World) (A : Nat → Addr) (hE : ErrsW w A) :
    Calls Tryd.prog 22 #[] w fun e w' => e = .returned (.bool true) ∧ Below w.heap.size w w' := by
  obtain ⟨hg, hb, hk, hs⟩ := litG_is w gA (by decide) (by decide) (by decide) (by decide)
  have hg1 : GramAt (litG w gA) (.agg #[.slice (some ⟨w.heap.size, 0, none⟩) 1 1, .slice (some ⟨w.heap.size + 1, 0, none⟩) 1 1, .int .i64 0, .slice (some ⟨w.heap.size + 1 + 1 + 1 + 1, 0, none⟩) 2 2]) gA := hg
  have hk1 : (litG w gA).heap[w.heap.size + 1 + 1 + 1 + 1 + 1]? = some (.cells #[.slice (some ⟨w.heap.size, 0, none⟩) 1 1, .slice (some ⟨w.heap.size + 1, 0, none⟩) 1 1, .int .i64 0, .slice (some ⟨w.heap.size + 1 + 1 + 1 + 1, 0, none⟩) 2 2] 25 (0, 0)) := hk
  have HBA := Lib.hid hb
  have HEA := Lib.hid (hE.below hb)
  clear hE hg hb hk hs
  go_enter Tryd.func22, Tryd.ntmps22
  go_upto_region 2 with fail
  change Code.wp _ _ _ _ (litG w gA)
  obtain ⟨w1, hw1⟩ : ∃ w1, litG w gA = w1 := ⟨_, rfl⟩
  rw [hw1] at hg1 hk1 HBA HEA ⊢
  obtain ⟨b5, e5⟩ : ∃ b, w.heap.size + 1 + 1 + 1 + 1 + 1 = b := ⟨_, rfl⟩
  obtain ⟨b4, e4⟩ : ∃ b, w.heap.size + 1 + 1 + 1 + 1 = b := ⟨_, rfl⟩
  rw [e5] at hk1 ⊢
  rw [e4] at hg1 hk1 ⊢
  obtain ⟨b1, e1⟩ : ∃ b, w.heap.size + 1 = b := ⟨_, rfl⟩
  rw [e1] at hg1 hk1 ⊢
  obtain ⟨c0, c1, c2, c3⟩ := blk_cells2 hk1
  have HGA := Lib.hid hg1
  have HKA := Lib.hid hk1
  clear hw1 e5 e4 e1 hg1 hk1
  have HC1 := Lib.hid (fun (W : World) (hW : Below w1.heap.size w1 W) => count_calls _ gA (some ⟨W.heap.size, 0, none⟩) 4 [0, 0, 0, 0] (W.alloc (.cells #[.int .i64 0, .int .i64 0, .int .i64 0, .int .i64 0] 3)) A (HEA.out.below (below_alloc hW _)) (HGA.out.below (below_alloc hW _)) (by decide) (litC (enc := Value.int .i64) (fun _ => rfl) [0, 0, 0, 0] W 3 (by decide)))
  have HC2 := Lib.hid (fun (W : World) (hW : Below w1.heap.size w1 W) => count_calls _ gA none 0 [] W A (HEA.out.below hW) (HGA.out.below hW) (by decide) ⟨rfl, by decide, fun h => absurd h (by decide)⟩)
  unfold CntRes at HC1 HC2
  rw [gA_cnt4.1, gA_cnt4.2, gA_may4] at HC1
  rw [gA_cnt0.1, gA_cnt0.2, gA_may0] at HC2
  go_upto_region 4 with (first
    | (go_at_call 23; refine (HC2.out w2 HB2.out).mono ?_; rintro e w3 ⟨u3, r3, rfl, hu3, hb3⟩; obtain rfl := hu3.nil_of rfl; have HB3 := Lib.hid (below_next HB2.out hb3); clear d0 d1 d2 d3 hu3 hb3)
    | (go_at_call 23; refine (HC1.out w1 (Below.refl _ _)).mono ?_; rintro e w2 ⟨u2, r2, rfl, hu2, hb2⟩; obtain rfl := hu2.nil_of rfl; have HB2 := Lib.hid (below_next (below_alloc (Below.refl _ _) _) hb2); obtain ⟨d0, d1, d2, d3⟩ := blk_cells2 (gblk_keep' HKA.out HB2.out); clear c0 c1 c2 c3 hu2 hb2))
  obtain ⟨hg, hb, hk, hs⟩ := litG_is w3 gB (by decide) (by decide) (by decide) (by decide)
  have hg1 : GramAt (litG w3 gB) (.agg #[.slice (some ⟨w3.heap.size, 0, none⟩) 2 2, .slice (some ⟨w3.heap.size + 1, 0, none⟩) 2 2, .int .i64 0, .slice (some ⟨w3.heap.size + 1 + 1 + 1 + 1 + 1 + 1, 0, none⟩) 5 5]) gB := hg
  have hk1 : (litG w3 gB).heap[w3.heap.size + 1 + 1 + 1 + 1 + 1 + 1 + 1]? = some (.cells #[.slice (some ⟨w3.heap.size, 0, none⟩) 2 2, .slice (some ⟨w3.heap.size + 1, 0, none⟩) 2 2, .int .i64 0, .slice (some ⟨w3.heap.size + 1 + 1 + 1 + 1 + 1 + 1, 0, none⟩) 5 5] 25 (0, 0)) := hk
  have HBB := Lib.hid (below_next HB3.out hb)
  have HEB := Lib.hid (HEA.out.below HBB.out)
  clear hg hb hk hs
  go_upto_region 5 with fail
  change Code.wp _ _ _ _ (litG w3 gB)
  obtain ⟨w4, hw4⟩ : ∃ w1, litG w3 gB = w1 := ⟨_, rfl⟩
  rw [hw4] at hg1 hk1 HBB HEB ⊢
  obtain ⟨b7, e7⟩ : ∃ b, w3.heap.size + 1 + 1 + 1 + 1 + 1 + 1 + 1 = b := ⟨_, rfl⟩
  obtain ⟨b6, e6⟩ : ∃ b, w3.heap.size + 1 + 1 + 1 + 1 + 1 + 1 = b := ⟨_, rfl⟩
  rw [e7] at hk1 ⊢
  rw [e6] at hg1 hk1 ⊢
  obtain ⟨b1', e1⟩ : ∃ b, w3.heap.size + 1 = b := ⟨_, rfl⟩
  rw [e1] at hg1 hk1 ⊢
  obtain ⟨c0, c1, c2, c3⟩ := blk_cells2 hk1
  have HGB := Lib.hid hg1
  have HKB := Lib.hid hk1
  clear hw4 e7 e6 e1 hg1 hk1
  have HC3 := Lib.hid (fun (W : World) (hW : Below w4.heap.size w4 W) => count_calls _ gB (some ⟨W.heap.size, 0, none⟩) 1 [1] (W.alloc (.cells #[.int .i64 1] 3)) A (HEB.out.below (below_alloc hW _)) (HGB.out.below (below_alloc hW _)) (by decide) (litC (enc := Value.int .i64) (fun _ => rfl) [1] W 3 (by decide)))
  have HC4 := Lib.hid (fun (W : World) (hW : Below w4.heap.size w4 W) => mderives_calls _ gB (some ⟨W.heap.size, 0, none⟩) 3 [0, 0, 1] (W.alloc (.cells #[.int .i64 0, .int .i64 0, .int .i64 1] 3)) A (HEB.out.below (below_alloc hW _)) (HGB.out.below (below_alloc hW _)) (by decide) (litC (enc := Value.int .i64) (fun _ => rfl) [0, 0, 1] W 3 (by decide)))
  unfold CntRes at HC3
  rw [gB_cnt1.1, gB_cnt1.2, gB_may1] at HC3
  rw [show gB.ax = 0 from rfl, gB_from3.1, gB_from3.2] at HC4
  go_wp2_with (first
    | (go_at_call 18; refine (HC4.out w5 HB5.out).mono ?_; rintro e w6 ⟨u6, r6, rfl, hu6, hb6⟩; obtain rfl := hu6.nil_of rfl; have HB6 := Lib.hid (below_next (below_alloc HB5.out _) hb6); clear d0 d1 d2 d3 hu6 hb6)
    | (go_at_call 23; refine (HC3.out w4 (Below.refl _ _)).mono ?_; rintro e w5 ⟨u5, r5, rfl, hu5, hb5⟩; obtain rfl := hu5.nil_of rfl; have HB5 := Lib.hid (below_next (below_alloc (Below.refl _ _) _) hb5); obtain ⟨d0, d1, d2, d3⟩ := blk_cells2 (gblk_keep' HKB.out HB5.out); clear c0 c1 c2 c3 hu5 hb5))
  go_ret
  exact ⟨rfl, below_next HBA.out (below_next HBB.out HB6.out)⟩
end Go.Proofs.YtndimnomkcjeiaaDoor.Hand
/- The package's errors, as the row lists them: each variable holds a pointer of its own. -/
namespace Go.Proofs.YtndimnomkcjeiaaDoor.Hand
open Go.ChangeShapes
open Go.RowKit Go.Proofs.YtndimnomkcjeiaaDoorW.PrintWords Go.Proofs.YtndimnomkcjeiaaDoorW.PrintMore Go.Proofs.YtndimnomkcjeiaaDoor.Math

theorem laid_list {P : Program} {W : World} {nm : String} {ti tp te ts : TypeId} {ms : Array (String × TypeId)} {f : Field}
    (hi : P.underlying ti = some (.interface ms)) (hrow : ∀ u, P.typeName? 3 u = some nm → u = tp)
    (hp : P.underlying tp = some (.pointer te)) (he : P.underlying te = some (.struct #[f])) (hft : f.type = ts) (hfo : f.offset = 0) (hs : P.underlying ts = some .string) (hc : P.cellsOf te = 1) (hcs : P.cellsOf ts = 1) :
    ∀ (l : List (String × DataW Unit)) (ps : List MemPlace), DataW.LaidVars P W l ps → ps.Nodup →
      (∀ b off, MemPlace.cell b off ∈ ps → (∃ c t, W.heap[b]? = some (.cells c t (0, 0))) ∧ ∀ u v, W.cell? ⟨b, off, none⟩ = some (.iface u v) → Value.okWide P W .any 0 u v) →
      (∀ x ∈ l, (∃ text, x.2 = .iface nm (.ptr (.agg [.lit (.string text)]))) ∧ ∃ g, P.globalNamed x.1 = some g ∧ (P.globals[g]?).map (·.type) = some ti) →
      ∃ As : List Addr, As.length = l.length ∧ (∀ a ∈ As, MemPlace.cell a.block a.off ∈ ps) ∧ As.Nodup ∧ ∀ (i : Nat) (x : String × DataW Unit) (a : Addr), l[i]? = some x → As[i]? = some a → ∀ g, P.globalNamed x.1 = some g → W.cell? ⟨g, 0, none⟩ = some (.iface tp (.pointer (some a)))
  | [], ps, _, _, _, _ => ⟨[], rfl, fun a h => absurd h (List.not_mem_nil), List.nodup_nil, fun i x a h => by rw [List.getElem?_nil] at h; cases h⟩
  | (n, d) :: r, ps, h, hnd, hrows, hall => by
    obtain ⟨g, t, cs, fuel, p, q, hg, ht, hv, hd, hr, rfl⟩ := h
    obtain ⟨⟨text, hd2⟩, g2, hg2, ht2⟩ := hall (n, d) (List.mem_cons_self ..)
    simp only at hd2 hg2
    subst hd2
    obtain rfl := Option.some.inj (hg.symm.trans hg2)
    obtain rfl := Option.some.inj (ht.symm.trans ht2)
    obtain ⟨l0⟩ := cs
    have ok0 : ∀ u v, l0 = [.iface u v] → Value.okWide P W .any 0 u v := fun u v e => by
      subst e
      exact (hrows g 0 (by simp [MemPlace.row])).2 u v (by simpa using World.var?_cell hg hv 0)
    obtain ⟨a0, s0, rfl, hc0, hs0, hz0, rfl⟩ := errorString_of_trod hi hrow hp he hft hfo hs hc hcs hd ok0
    have hq : q.Nodup := (List.nodup_append.1 hnd).2.1
    obtain ⟨As, k1, k2, k3, k4⟩ := laid_list hi hrow hp he hft hfo hs hc hcs r q hr hq (fun b off hm => hrows b off (List.mem_append_right _ hm)) (fun x hx => hall x (List.mem_cons_of_mem _ hx))
    have hcell : W.cell? ⟨g, 0, none⟩ = some (.iface tp (.pointer (some a0))) := by simpa using World.var?_cell hg hv 0
    refine ⟨a0 :: As, by simp [k1], ?_, ?_, ?_⟩
    · intro a ha
      rcases List.mem_cons.1 ha with rfl | ha
      · exact List.mem_append_left _ (List.mem_append_right _ (by simp [MemPlace.row]))
      · exact List.mem_append_right _ (k2 a ha)
    · refine List.nodup_cons.2 ⟨fun hm => ?_, k3⟩
      exact (List.nodup_append.1 hnd).2.2 _ (List.mem_append_right _ (by simp [MemPlace.row] : MemPlace.cell a0.block a0.off ∈ MemPlace.row a0 1)) _ (k2 a0 hm) rfl
    · intro i x a hx ha g' hg'
      cases i with
      | zero =>
        simp only [List.getElem?_cons_zero, Option.some.injEq] at hx ha
        subst hx ha
        obtain rfl := Option.some.inj (hg.symm.trans hg')
        exact hcell
      | succ i =>
        simp only [List.getElem?_cons_succ] at hx ha
        exact k4 i x a hx ha g' hg'
theorem star_err : "*" ++ "errors.errorString" = "*errors.errorString" := by decide
theorem laid_errs {l : List (String × DataW Unit)} {W : World} (h : laidMetH Tryd.prog l W) (hp : (l.all fun x => x.2.handleName?.isNone) = true)
    (hall : ∀ x ∈ l, (∃ text, x.2 = .iface "*errors.errorString" (.ptr (.agg [.lit (.string text)]))) ∧ ∃ g, Tryd.prog.globalNamed x.1 = some g ∧ (Tryd.prog.globals[g]?).map (·.type) = some 31)
    (hn : l.map (fun x => Tryd.prog.globalNamed x.1) = GE.map some) : ∃ A, Errs W A := by
  rw [MakeChecks.laidMetH_plain _ _ _ hp] at h
  obtain ⟨ps, hv, hnd, hrows⟩ := h
  obtain ⟨As, k1, k2, k3, k4⟩ := laid_list Tryd.underlying31 (tp := 143) (fun u hu => typeName_ptr_named (nm := "errors.errorString") (by rw [star_err]; kernel_rfl) (by kernel_rfl) (by decide) u (by rw [star_err]; exact hu)) Tryd.underlying143 Tryd.underlying169 rfl rfl Tryd.underlying9 (by kernel_rfl) (by kernel_rfl) l ps hv hnd hrows hall
  have hl : l.length = 15 := by have := congrArg List.length hn; simpa [GE] using this
  have hget : ∀ i, i < 15 → ∃ a, As[i]? = some a ∧ As.getD i ⟨0, 0, none⟩ = a := fun i hi => ⟨As[i]'(by omega), List.getElem?_eq_getElem _, by simp [List.getD, List.getElem?_eq_getElem (show i < As.length by omega)]⟩
  refine ⟨fun i => As.getD i ⟨0, 0, none⟩, ⟨fun i hi => ?_, fun i hi => ?_, fun i j hi hj e => ?_⟩⟩
  · obtain ⟨a, e1, e2⟩ := hget i hi
    have hx : l[i]? = some l[i] := List.getElem?_eq_getElem _
    have hg : Tryd.prog.globalNamed (l[i]'(by omega)).1 = some (GE.getD i 0) := by
      have := congrArg (fun z => z[i]?) hn
      simp only [List.getElem?_map, hx, Option.map_some] at this
      have h2 : GE[i]? = some (GE.getD i 0) := by
        have hi2 : i < GE.length := by simpa [GE] using hi
        simp [List.getD, List.getElem?_eq_getElem hi2]
      rw [h2] at this
      simpa using this
    show W.cell? _ = some (.iface _ (.pointer (some (As.getD i _))))
    rw [e2]
    exact k4 i _ a hx e1 _ hg
  · obtain ⟨a, e1, e2⟩ := hget i hi
    show ∃ c t, W.heap[(As.getD i _).block]? = _
    rw [e2]
    exact (hrows a.block a.off (k2 a (List.mem_of_getElem? e1))).1
  · obtain ⟨a, e1, e2⟩ := hget i hi
    obtain ⟨b, e3, e4⟩ := hget j hj
    have e : As.getD i _ = As.getD j _ := e
    rw [e2, e4] at e
    subst e
    exact (List.getElem?_inj (show i < As.length by omega) k3).1 (e1.trans e3.symm)
/-- Is it the datum of an error of errors.New? -/
def sentB (d : DataW Unit) : Bool := match d with | .iface nm (.ptr (.agg [.lit (.string _)])) => nm == "*errors.errorString" | _ => false
theorem sentB_spec {d : DataW Unit} (h : sentB d = true) : ∃ text, d = .iface "*errors.errorString" (.ptr (.agg [.lit (.string text)])) := by
  unfold sentB at h
  split at h
  · rename_i nm text
    exact ⟨text, by rw [beq_iff_eq.1 h]⟩
  · cases h
theorem laid_errs' {l : List (String × DataW Unit)} {W : World} (h : laidMetH Tryd.prog l W) (hp : (l.all fun x => x.2.handleName?.isNone) = true)
    (hall : (l.all fun x => sentB x.2 && (((Tryd.prog.globalNamed x.1).bind fun g => (Tryd.prog.globals[g]?).map (·.type)) == some 31)) = true)
    (hn : l.map (fun x => Tryd.prog.globalNamed x.1) = GE.map some) : ∃ A, Errs W A := by
  refine laid_errs h hp (fun x hx => ?_) hn
  have h1 := List.all_eq_true.1 hall x hx
  rw [Bool.and_eq_true, beq_iff_eq] at h1
  obtain ⟨g, hg, ht⟩ := Option.bind_eq_some_iff.1 h1.2
  exact ⟨sentB_spec h1.1, g, hg, ht⟩
/-- The same where the row lists but some of the errors. -/
theorem laid_errsW {l : List (String × DataW Unit)} {W : World} (h : laidMetH Tryd.prog l W) (hp : (l.all fun x => x.2.handleName?.isNone) = true)
    (hall0 : (l.all fun x => sentB x.2 && (((Tryd.prog.globalNamed x.1).bind fun g => (Tryd.prog.globals[g]?).map (·.type)) == some 31)) = true)
    (hn : l.map (fun x => Tryd.prog.globalNamed x.1) = EW.map (fun i => some (GE.getD i 0))) : ∃ A, ErrsW W A := by
  have hall : ∀ x ∈ l, (∃ text, x.2 = .iface "*errors.errorString" (.ptr (.agg [.lit (.string text)]))) ∧ ∃ g, Tryd.prog.globalNamed x.1 = some g ∧ (Tryd.prog.globals[g]?).map (·.type) = some 31 := fun x hx => by
    have h1 := List.all_eq_true.1 hall0 x hx
    rw [Bool.and_eq_true, beq_iff_eq] at h1
    obtain ⟨g, hg, ht⟩ := Option.bind_eq_some_iff.1 h1.2
    exact ⟨sentB_spec h1.1, g, hg, ht⟩
  rw [MakeChecks.laidMetH_plain _ _ _ hp] at h
  obtain ⟨ps, hv, hnd, hrows⟩ := h
  obtain ⟨As, k1, _, _, k4⟩ := laid_list Tryd.underlying31 (tp := 143) (fun u hu => typeName_ptr_named (nm := "errors.errorString") (by rw [star_err]; kernel_rfl) (by kernel_rfl) (by decide) u (by rw [star_err]; exact hu)) Tryd.underlying143 Tryd.underlying169 rfl rfl Tryd.underlying9 (by kernel_rfl) (by kernel_rfl) l ps hv hnd hrows hall
  have hl : l.length = EW.length := by have := congrArg List.length hn; simpa using this
  refine ⟨fun i => As.getD (EW.idxOf i) ⟨0, 0, none⟩, ⟨fun i hi => ?_⟩⟩
  have hj : EW.idxOf i < EW.length := List.idxOf_lt_length_of_mem hi
  have hge : EW[EW.idxOf i]? = some i := by rw [List.getElem?_eq_getElem hj, List.getElem_idxOf]
  have ha : As[EW.idxOf i]? = some (As[EW.idxOf i]'(by omega)) := List.getElem?_eq_getElem _
  have hx : l[EW.idxOf i]? = some (l[EW.idxOf i]'(by omega)) := List.getElem?_eq_getElem _
  have hg : Tryd.prog.globalNamed (l[EW.idxOf i]'(by omega)).1 = some (GE.getD i 0) := by
    have := congrArg (fun z => z[EW.idxOf i]?) hn
    simp only [List.getElem?_map, hx, hge, Option.map_some] at this
    simpa using this
  show W.cell? _ = some (.iface _ (.pointer (some (As.getD _ _))))
  rw [show As.getD (EW.idxOf i) ⟨0, 0, none⟩ = As[EW.idxOf i]'(by omega) by rw [List.getD_eq_getElem?_getD, ha]; rfl]
  exact k4 _ _ _ hx ha _ hg
end Go.Proofs.YtndimnomkcjeiaaDoor.Hand
/- MemberOwn: what Sets answers is new memory. -/
namespace Go.Proofs.YtndimnomkcjeiaaDoor.Hand
open Go.RowKit Go.Proofs.YtndimnomkcjeiaaDoorW.PrintWords Go.Proofs.YtndimnomkcjeiaaDoorW.PrintMore Go.Proofs.YtndimnomkcjeiaaDoor.Math

theorem may_okNo {g : Gr} {tk : List Int} (hok : (mayN g tk).1 = 0) : (checkN g).1 = 0 ∧ tk.length ≤ 40 := by
  unfold mayN at hok
  split at hok
  · rename_i h; exact absurd hok h
  · rename_i h
    split at hok
    · cases hok
    · exact ⟨by omega, by omega⟩
def setHd (n : Nat) (Bs : Nat → Nat) (i : Nat) : Hd := ⟨some ⟨Bs i, 0, none⟩, n - i + 1, n - i + 1⟩
def setHds (n : Nat) (Bs : Nat → Nat) : List Hd := (List.range (n + 1)).map (setHd n Bs)
theorem setHds_len (n : Nat) (Bs : Nat → Nat) : (setHds n Bs).length = n + 1 := by simp [setHds]
theorem SetsAt.heads {w0 w : World} {g : Gr} {tk : List Int} {O : Nat} {Bs : Nat → Nat} {Tn : Nat → Nat → Nat} (h : SetsAt w0 g tk O Bs Tn w) (hn : tk.length ≤ 40) : KH.C w (some ⟨O, 0, none⟩) (tk.length + 1) (setHds tk.length Bs) :=
  Row.C_heads (f := setHd tk.length Bs) h.out (by omega)
/-- Both answers' lists, one behind the other, share nothing. -/
theorem sets_pre {w4 w5 w6 w8 : World} {g : Gr} {tk : List Int} {O O2 : Nat} {Bs Bs2 : Nat → Nat} {Tn Tn2 : Nat → Nat → Nat} {A : Option Addr} {n c : Nat} (hn : tk.length ≤ 40) (h5 : SetsAt w4 g tk O Bs Tn w5) (h6 : SetsAt w5 g tk O2 Bs2 Tn2 w6)
    (hR : KH.R 40 w8 w6.heap.size (fun _ => True) (.slice A n c) (setHds tk.length Bs ++ setHds tk.length Bs2)) (hb : Below w6.heap.size w6 w8) : n = (setHds tk.length Bs ++ setHds tk.length Bs2).length ∧ ApPre w8 A (setHds tk.length Bs ++ setHds tk.length Bs2) := by
  obtain ⟨e1, e2, e3⟩ := Kd.R_reads' hR
  refine ⟨e1, ?_⟩
  have hl : (setHds tk.length Bs ++ setHds tk.length Bs2).length = 2 * (tk.length + 1) := by rw [List.length_append, setHds_len, setHds_len]; omega
  have r1 : ∀ i, i ≤ tk.length → Bs i < w5.heap.size := fun i hi => (h5.inn i hi).lt
  have r2 : ∀ i, i ≤ tk.length → w5.heap.size ≤ Bs2 i ∧ Bs2 i < w6.heap.size := fun i hi => ⟨(h6.hB i hi).1, (h6.inn i hi).lt⟩
  have hs := h6.bel.size
  refine apPre_of (m := 2 * (tk.length + 1)) (fun j => if j < tk.length + 1 then Bs j else Bs2 (j - (tk.length + 1))) (fun j => if j < tk.length + 1 then tk.length - j + 1 else tk.length - (j - (tk.length + 1)) + 1) hl (by omega) (fun j hj => ?_) (fun j hj => ?_) ?_ (fun j hj => ?_) (fun i j hi hj e => ?_) (fun ad j ha hj e => ?_)
  · rw [hdD_append, setHds_len]
    by_cases h : j < tk.length + 1
    · rw [if_pos h, if_pos h, if_pos h]
      exact hdD_map _ _ h
    · rw [if_neg h, if_neg h, if_neg h]
      exact hdD_map _ _ (by omega)
  · have h1 : tk.length - j + 1 ≤ 1000000000000 := by omega
    have h2 : tk.length - (j - (tk.length + 1)) + 1 ≤ 1000000000000 := by omega
    show (if j < tk.length + 1 then tk.length - j + 1 else tk.length - (j - (tk.length + 1)) + 1) ≤ _
    split
    · exact h1
    · exact h2
  · exact e3
  · by_cases h : j < tk.length + 1
    · rw [if_pos h, if_pos h]
      exact ⟨_, (((h5.inn j (by omega)).below h6.bel).below hb)⟩
    · rw [if_neg h, if_neg h]
      exact ⟨_, ((h6.inn (j - (tk.length + 1)) (by omega)).below hb)⟩
  · by_cases h : i < tk.length + 1 <;> by_cases h' : j < tk.length + 1
    · simp only [if_pos h, if_pos h'] at e
      exact h5.inj i j (by omega) (by omega) e
    · simp only [if_pos h, if_neg h'] at e
      have := r1 i (by omega); have := r2 (j - (tk.length + 1)) (by omega); omega
    · simp only [if_neg h, if_pos h'] at e
      have := r1 j (by omega); have := r2 (i - (tk.length + 1)) (by omega); omega
    · simp only [if_neg h, if_neg h'] at e
      have := h6.inj (i - (tk.length + 1)) (j - (tk.length + 1)) (by omega) (by omega) e
      omega
  · have hbd := (Kd.R_bound hR).1 ad.block (by rw [ha]; rfl)
    have hlt : (if j < tk.length + 1 then Bs j else Bs2 (j - (tk.length + 1))) < w6.heap.size := by
      split
      · have := r1 j (by omega); omega
      · exact (r2 _ (by omega)).2
    have e' : (if j < tk.length + 1 then Bs j else Bs2 (j - (tk.length + 1))) = ad.block := e
    have := hbd.2.1
    omega
theorem ApS_le {n : Nat} {Bs Bs2 : Nat → Nat} {B : Nat} (h1 : ∀ i, i ≤ n → B ≤ Bs i) (h2 : ∀ i, i ≤ n → B ≤ Bs2 i) {k : Nat} (hk : ApS (setHds n Bs ++ setHds n Bs2) k) : ∃ i, i ≤ n ∧ (k = Bs i ∨ k = Bs2 i) := by
  obtain ⟨j, hj, e⟩ := hk
  rw [List.length_append, setHds_len, setHds_len] at hj
  rw [hdD_append, setHds_len] at e
  by_cases h : j < n + 1
  · rw [if_pos h, show hdD (setHds n Bs) j = setHd n Bs j from hdD_map _ _ h] at e
    exact ⟨j, by omega, .inl (by simpa [Hd.blk, setHd] using e.symm)⟩
  · rw [if_neg h, show hdD (setHds n Bs2) (j - (n + 1)) = setHd n Bs2 (j - (n + 1)) from hdD_map _ _ (by omega)] at e
    exact ⟨j - (n + 1), by omega, .inr (by simpa [Hd.blk, setHd] using e.symm)⟩
def PNil (v : Value) : Prop := v = .slice none 0 0
def POne (v : Value) : Prop := ∃ A, v = .slice A 1 1
/-- Both rows of lists stay. -/
theorem own_rows {w4 w5 w6 w8 w9 : World} {g : Gr} {tk : List Int} {O O2 : Nat} {Bs Bs2 : Nat → Nat} {Tn Tn2 : Nat → Nat → Nat} (h5 : SetsAt w4 g tk O Bs Tn w5) (h6 : SetsAt w5 g tk O2 Bs2 Tn2 w6) (hn : tk.length ≤ 40)
    (hb : Below w6.heap.size w6 w8) (hc : Chg (ApS (setHds tk.length Bs ++ setHds tk.length Bs2)) w8 w9) : HdOk w9 ⟨some ⟨O, 0, none⟩, tk.length + 1, tk.length + 1⟩ ∧ HdOk w9 ⟨some ⟨O2, 0, none⟩, tk.length + 1, tk.length + 1⟩ ∧ O ≠ O2 ∧ O2 < w9.heap.size ∧ Below w4.heap.size w4 w9 := by
  have r1 : ∀ i, i ≤ tk.length → Bs i < w5.heap.size ∧ w4.heap.size ≤ Bs i ∧ Bs i ≠ O := fun i hi => ⟨(h5.inn i hi).lt, h5.hB i hi⟩
  have r2 : ∀ i, i ≤ tk.length → w5.heap.size ≤ Bs2 i ∧ Bs2 i ≠ O2 := fun i hi => h6.hB i hi
  have hs5 := h5.bel.size
  have hs6 := h6.bel.size
  have hO := h5.out.lt
  have hO2 := h6.out.lt
  have hO2' := h6.hO
  have k1 : w9.heap[O]? = w8.heap[O]? := hc.block O (by have := hb.size; omega) (fun q => by
    obtain ⟨i, hi, e⟩ := ApS_le (n := tk.length) (B := 0) (fun _ _ => Nat.zero_le _) (fun _ _ => Nat.zero_le _) q
    have := r1 i hi; have := r2 i hi; omega)
  have k2 : w9.heap[O2]? = w8.heap[O2]? := hc.block O2 (by have := hb.size; omega) (fun q => by
    obtain ⟨i, hi, e⟩ := ApS_le (n := tk.length) (B := 0) (fun _ _ => Nat.zero_le _) (fun _ _ => Nat.zero_le _) q
    have := r1 i hi; have := r2 i hi; omega)
  have hs8 := hb.size
  have hs9 := hc.size
  refine ⟨(((h5.out.below h6.bel).below hb).block k1 hc.size).hdOk (by omega), ((h6.out.below hb).block k2 hc.size).hdOk (by omega), by omega, by omega, ?_⟩
  refine (below_next (below_next h5.bel h6.bel) hb).trans (hc.below (by omega) (fun k hk q => ?_))
  obtain ⟨i, hi, e⟩ := ApS_le (n := tk.length) (B := 0) (fun _ _ => Nat.zero_le _) (fun _ _ => Nat.zero_le _) q
  have := r1 i hi; have := r2 i hi; omega
theorem HdOk.lit {w : World} {l : Hd} (hh : HdOk w l) (h : l.ad ≠ none) : ∃ g o, l = ⟨some ⟨g, o, none⟩, l.n, l.c⟩ := by
  rcases hh with ⟨h1, _⟩ | ⟨g, o, h1, _⟩
  · exact absurd h1 h
  · obtain ⟨a, n, c⟩ := l
    simp only at h1
    subst h1
    exact ⟨g, o, rfl⟩
set_option maxHeartbeats 1600000 in
set_option maxRecDepth 100000 in
theorem memberOwn_walk {w : World} (g : Gr) (v : Value) (hg : GramAt w v g ∧ GramB g) (At : Option Addr) (ct : Nat) (tk : List Int)
    (ht : Kd.C (Kd.int .i64) w At tk.length tk ∧ tk.length * 8 ≤ 140737488351232 ∧ tk.length ≤ ct ∧ ∀ x ∈ tk, (Lit.int .i64 x).wf = true) (hE : ∃ A, ErrsW w A) :
    Calls Tryd.prog 6 #[v, .slice At tk.length ct] w fun e w' => e = .returned (.bool true) ∧ Below w.heap.size w w' := by
  obtain ⟨hv, hB⟩ := hg
  obtain ⟨hr, hl8, hlc, -⟩ := ht
  obtain ⟨A, hE⟩ := hE
  have HV := Lib.hid hv
  obtain ⟨AT, cT, AN, cN, AR, cR, rfl, q1, q2, q3, q4, q5, q6⟩ := hv
  clear q4 q5 q6
  obtain ⟨w1, hw1⟩ : ∃ w1, w.alloc (.cells #[.slice AT g.terms.length cT, .slice AN g.nonterms.length cN, .int .i64 g.ax, .slice AR g.rules.length cR] 25) = w1 := ⟨_, rfl⟩
  have hb1 : Below w.heap.size w w1 := by rw [← hw1]; exact below_alloc (Below.refl _ _) _
  have hk1 : w1.heap[w.heap.size]? = some (.cells #[.slice AT g.terms.length cT, .slice AN g.nonterms.length cN, .int .i64 g.ax, .slice AR g.rules.length cR] 25 (0, 0)) := by rw [← hw1]; exact heap_alloc_new w _
  have HB1 := Lib.hid hb1
  have HK1 := Lib.hid hk1
  have HG1 := Lib.hid (HV.out.below hb1)
  have HT1 := Lib.hid (Kd.C_below hr hb1)
  have HE1 := Lib.hid (hE.below hb1)
  have HLG := Lib.hid (fun (W : World) (hW : Below w1.heap.size w1 W) => lentGrammar_calls _ g W (HG1.out.below hW) (by have := hB.terms; omega) (by have := hB.nonterms; omega) (by have := hB.rules; omega) (fun r hr => by have := hB.right r hr; omega))
  have HLI := Lib.hid (fun (W : World) (hW : Below w1.heap.size w1 W) => lentInts_calls At ct tk W (Kd.C_below HT1.out hW) (by omega))
  have HKn := Lib.hid (known_calls w1 A HE1.out)
  clear hb1 hk1 hr hE hB hl8
  go_enter Tryd.func6, Tryd.ntmps6
  go_upto_region 3 with (go_at_call 22; refine HKn.out.mono ?_; rintro e wk ⟨rfl, hbk⟩; have HBk := Lib.hid hbk; obtain ⟨c0, c1, c2, c3⟩ := blk_cells2 (gblk_keep' HK1.out hbk); clear hbk)
  go_upto_region 4 with (first
    | (go_at_call 10; refine (HLG.out wk HBk.out).mono ?_; rintro e w2 ⟨u, rfl, hu, hb2⟩; have HU := Aside0.mk hu; have HB2 := Lib.hid (below_next HBk.out hb2); obtain ⟨BT, dT, BN, dN, BR, dR, rfl, -⟩ := hu; clear hb2 c0 c1 c2 c3)
    | (go_at_call 11; refine (HLI.out w2 HB2.out).mono ?_; rintro e w3 ⟨Al, cl, rfl, hcl, hrl, hb3⟩; have HRl := Lib.hid (Kd.R_reads' hrl); have HB3 := Lib.hid hb3; clear hrl hb3))
  obtain ⟨w4, hw4⟩ : ∃ w4, w3.alloc (.cells #[.slice BT g.terms.length dT, .slice BN g.nonterms.length dN, .int .i64 g.ax, .slice BR g.rules.length dR] 25) = w4 := ⟨_, rfl⟩
  rw [hw4]
  have hb4 : Below w3.heap.size w3 w4 := by rw [← hw4]; exact below_alloc (Below.refl _ _) _
  have hk4 : w4.heap[w3.heap.size]? = some (.cells #[.slice BT g.terms.length dT, .slice BN g.nonterms.length dN, .int .i64 g.ax, .slice BR g.rules.length dR] 25 (0, 0)) := by rw [← hw4]; exact heap_alloc_new w3 _
  obtain ⟨d0, d1, d2, d3⟩ := blk_cells2 hk4
  have h14 : Below w1.heap.size w1 w4 := below_next (below_next HB2.out HB3.out) hb4
  have HE4 := Lib.hid (HE1.out.below h14)
  have HG4 := Lib.hid (HG1.out.below h14)
  have HT4 := Lib.hid (Kd.C_below HT1.out h14)
  have HU4 := Lib.hid (HU.out.below (below_next HB3.out hb4))
  have HL4 : Hid (KMInt.C w4 Al (tk.length + 1) (tk.map some ++ [none])) := Lib.hid (by have := Kd.C_below HRl.out.2.2 hb4; rwa [← HRl.out.1] at this)
  have HKg := Lib.hid (gblk_keep' HK1.out h14)
  have HKu := Lib.hid hk4
  have HB4 := Lib.hid (below_next HB1.out h14)
  have HM := Lib.hid (fun (W : World) (hW : Below w4.heap.size w4 W) => msets_calls _ g Al cl tk W A (HE4.out.below hW) (HU4.out.plain.below hW) (by omega) (Kd.C_below (lent_C (a := Kd.int .i64) HL4.out) hW))
  clear hw4 hb4 hk4 h14 hw1 HLG HLI
  by_cases hok : (mayN g tk).1 = 0
  · have hn := (may_okNo hok).2
    have HM2 := Lib.hid (fun (W : World) (hW : Below w4.heap.size w4 W) => (HM.out W hW).mono (R' := fun e w' => ∃ O Bs Tn, e = .returned (.tuple #[.slice (some ⟨O, 0, none⟩) (tk.length + 1) (tk.length + 1), .nilIface]) ∧ SetsAt W g tk O Bs Tn w') (by
      rintro e w' (⟨u, h1, h2, _⟩ | ⟨O, Bs, Tn, h1, _, h3⟩)
      · exact absurd hok h2
      · exact ⟨O, Bs, Tn, h1, h3⟩))
    clear hok HM
    obtain ⟨n1, hn1⟩ : ∃ n1 : Nat, n1 = tk.length + 1 := ⟨_, rfl⟩
    rw [← hn1] at HM2
    have HN1 := Lib.hid hn1
    have hn41 : n1 ≤ 41 := by omega
    have HNL := Lib.hid hn
    clear hn1 hn
    go_upto_region 8 with (first
      | (go_at_call 12; refine (HM2.out w5 HS5.out.bel).mono ?_; rintro e w6 ⟨O2, Bs2, Tn2, rfl, hs6⟩; have HS6 := Lib.hid hs6; clear hs6)
      | (go_at_call 12; refine (HM2.out w4 (Below.refl _ _)).mono ?_; rintro e w5 ⟨O, Bs, Tn, rfl, hs5⟩; have HS5 := Lib.hid hs5; obtain ⟨e0, e1, e2, e3⟩ := blk_cells2 (gblk_keep' HKu.out hs5.bel); clear hs5 d0 d1 d2 d3))
    have HC5 : Hid (KH.C w6 (some ⟨O, 0, none⟩) n1 (setHds tk.length Bs)) := Lib.hid (by rw [HN1.out]; exact Kd.C_below (HS5.out.heads HNL.out) HS6.out.bel)
    have HC6 : Hid (KH.C w6 (some ⟨O2, 0, none⟩) n1 (setHds tk.length Bs2)) := Lib.hid (by rw [HN1.out]; exact HS6.out.heads HNL.out)
    clear e0 e1 e2 e3
    have hla : ∀ B, (setHds tk.length B).length = n1 := fun B => by rw [setHds_len, HN1.out]
    have HLA := Lib.hid hla
    clear hla
    go_upto_region 12 with (first
      | ((with_reducible refine gate_builtin (b := .append) (xs := #[.tmp 43, .tmp 44]) rfl ?_); at_builtin; refine Kd.R_append_rows KH (w0 := w6) w6.heap.size rfl (.tmp 43) (.tmp 44) 29 40 (.slice none 0 0) 24 rfl Tryd.underlying29 infoSets rfl (by decide) (by omega) (.slice none 0 0) [] (setHds tk.length Bs) (some ⟨O, 0, none⟩) n1 n1 (fun _ => True) (fun _ => False) rfl rfl (Kd.R_nil _ _ _ _ _) HC5.out (fun _ _ h => h) (fun _ h => h.elim) (fun _ _ => trivial) (Below.refl _ _) (Nat.le_refl _) (by simp; omega) ?_; intro v7 w7 ho hb hg hat; have HO7 := Lib.hid ho; have HB7 := Lib.hid hb; clear ho hb hg hat)
      | ((with_reducible refine gate_builtin (b := .append) (xs := #[.tmp 46, .tmp 47]) rfl ?_); at_builtin; refine Kd.R_append_rows KH (w0 := w6) w6.heap.size rfl (.tmp 46) (.tmp 47) 29 40 (.slice none 0 0) 24 rfl Tryd.underlying29 infoSets rfl (by decide) (by omega) v7 ([] ++ setHds tk.length Bs) (setHds tk.length Bs2) (some ⟨O2, 0, none⟩) n1 n1 (fun _ => True) (fun _ => False) rfl rfl HO7.out (Kd.C_below HC6.out HB7.out) (fun _ _ h => h) (fun _ h => h.elim) (fun _ _ => trivial) HB7.out HB7.out.size (by rw [List.nil_append, HLA.out]; omega) ?_; intro v8 w8 ho hb hg hat; rw [List.nil_append] at ho; obtain ⟨A8, c8, e8⟩ := Kd.R_slice ho; obtain ⟨m8, hm8⟩ : ∃ m, (setHds tk.length Bs ++ setHds tk.length Bs2).length = m := ⟨_, rfl⟩; have hpre := (sets_pre HNL.out HS5.out HS6.out (by rw [← e8]; exact ho) hb).2; rw [hm8] at e8; subst e8; have HPre := Lib.hid hpre; have hcl8 := apartSets_calls A8 c8 _ w8 hpre; rw [hm8] at hcl8; have HCl8 := Lib.hid hcl8; clear hpre hcl8 hm8; have HB8 := Lib.hid hb; clear ho hb hg hat)
      | (go_at_call 26; refine HCl8.out.mono ?_; rintro e w9 ⟨rfl, hc9⟩; have HC9 := Lib.hid hc9; clear hc9))
    have hrows := own_rows HS5.out HS6.out HNL.out HB8.out HC9.out
    rw [← HN1.out] at hrows
    obtain ⟨ho1, ho2, hne, hlt2, hb49⟩ := hrows
    have HO1 := Lib.hid ho1
    have HO2 := Lib.hid ho2
    have HNE := Lib.hid hne
    have HLT2 := Lib.hid hlt2
    have HB49 := Lib.hid hb49
    have HHO := Lib.hid (And.intro HS5.out.hO (Nat.le_trans HS5.out.bel.size HS6.out.hO))
    clear ho1 ho2 hne hlt2 hb49
    go_wp2
    go_loopw [7, 12] (fun lv a wr => ∃ (q : Nat) (l : Hd), q ≤ 20 ∧ a = .int .i64 q ∧ lv = .slice l.ad l.n l.c ∧ Hid (AppL w9 ⟨some ⟨O, 0, none⟩, n1, n1⟩ PNil q l wr)) (fun _ a _ => 20 - (intOf a).toNat)
    case atStart => exact ⟨0, ⟨some ⟨O, 0, none⟩, n1, n1⟩, by omega, rfl, rfl, Lib.hid (AppL.start _ HO1.out)⟩
    case round =>
      obtain ⟨q, la, hq, rfl, rfl, HA⟩ := hrel
      obtain ⟨wA, rfl⟩ : ∃ wA : World, wA = wr := ⟨_, rfl⟩
      have hln : la.n = n1 + q := HA.out.n
      have HLN := Lib.hid hln
      clear hln
      by_cases hql : q < 20
      · go_wp2_with ((with_reducible refine gate_builtin (b := .append) (xs := #[.tmp 56, .tmp 57]) rfl ?_); at_builtin; refine wp_app rfl (.tmp 56) (.tmp 57) 29 40 (.slice none 0 0) 24 rfl Tryd.underlying29 infoSets rfl (by decide) la _ rfl rfl rfl HA.out.ok (by have := HLN.out; omega) ?_; intro l1 w1 hr; have HR := Lib.hid (HA.out.step hr rfl); clear hr)
        go_roundw
        case rel => exact ⟨q + 1, l1, by omega, by go_num, rfl, HR⟩
        case measure => simp [intOf]; omega
      · obtain rfl : q = 20 := by omega
        rw [show ((20 : Nat) : Int) = 20 from rfl]
        have HOB : Hid (HdOk wA ⟨some ⟨O2, 0, none⟩, n1, n1⟩) := Lib.hid (HO2.out.keep HA.out.chg.size (fun g hg => HA.out.chg.block g (by
          have := HLT2.out; have : O2 = g := by simpa [Hd.blk] using hg
          omega) (fun e => HNE.out (by have h1 : O = g := by simpa [Hd.blk] using e
                                       have h2 : O2 = g := by simpa [Hd.blk] using hg
                                       omega))))
        go_wp2
        go_loopw [9, 13] (fun lv a wr => ∃ (q : Nat) (l : Hd), q ≤ 20 ∧ a = .int .i64 q ∧ lv = .slice l.ad l.n l.c ∧ Hid (AppL wA ⟨some ⟨O2, 0, none⟩, n1, n1⟩ POne q l wr)) (fun _ a _ => 20 - (intOf a).toNat)
        case atStart => exact ⟨0, ⟨some ⟨O2, 0, none⟩, n1, n1⟩, by omega, rfl, rfl, Lib.hid (AppL.start _ HOB.out)⟩
        case round =>
          obtain ⟨q, lb, hq, rfl, rfl, HB⟩ := hrel
          obtain ⟨wB, rfl⟩ : ∃ wB : World, wB = wr := ⟨_, rfl⟩
          have hln : lb.n = n1 + q := HB.out.n
          have HLM := Lib.hid hln
          clear hln
          by_cases hql : q < 20
          · go_wp2_with ((with_reducible refine gate_builtin (b := .append) (xs := #[.tmp 63, .tmp 65]) rfl ?_); at_builtin; refine wp_app' rfl (.tmp 63) (.tmp 65) 29 40 (.slice none 0 0) 24 rfl Tryd.underlying29 infoSets rfl (by decide) lb _ (wB.heap.size + 1) (World.size_alloc _ _) rfl rfl rfl (HB.out.below (below_alloc (Below.refl _ _) _)).ok (by have := HLM.out; omega) ?_; intro l1 w1 hr; have HR := Lib.hid ((HB.out.below (below_alloc (Below.refl _ _) _)).step hr ⟨_, rfl⟩); clear hr)
            go_roundw
            case rel => exact ⟨q + 1, l1, by omega, by go_num, rfl, HR⟩
            case measure => simp [intOf]; omega
          · obtain rfl : q = 20 := by omega
            rw [show ((20 : Nat) : Int) = 20 from rfl]
            have HLA2 := Lib.hid (HA.out.last.keep (w1 := wB) (fun g hg => HB.out.chg.block g (HA.out.ok.blk_lt hg) (fun e => by
              have e : O2 = g := by simpa [Hd.blk] using e
              rcases HA.out.blks hg with h1 | h1
              · have h1 : O = g := by simpa [Hd.blk] using h1
                exact HNE.out (by omega)
              · have := HLT2.out; omega)))
            have HLB2 := Lib.hid HB.out.last
            have HBW : Hid (Below w4.heap.size w4 wB) := Lib.hid (HB49.out.trans ((HA.out.chg.below (Nat.le_trans (Nat.le_refl _) HB49.out.size) (fun k hk e => by
                have e : O = k := by simpa [Hd.blk] using e
                have := HHO.out.1; omega)).trans (HB.out.chg.below (Nat.le_trans HB49.out.size HA.out.chg.size) (fun k hk e => by
                have e : O2 = k := by simpa [Hd.blk] using e
                have := HHO.out.2; omega))))
            obtain ⟨ga, oa, ea⟩ := HA.out.ok.lit (HA.out.got (by decide))
            obtain ⟨gb, ob, eb⟩ := HB.out.ok.lit (HB.out.got (by decide))
            obtain ⟨na, hna⟩ : ∃ na, la.n = na := ⟨_, rfl⟩
            obtain ⟨nb, hnb⟩ : ∃ nb, lb.n = nb := ⟨_, rfl⟩
            have hna2 : na = n1 + 20 := by rw [← hna]; exact HLN.out
            have hnb2 : nb = n1 + 20 := by rw [← hnb]; exact HLM.out
            rw [hna] at ea
            rw [hnb] at eb
            obtain ⟨ca, hca⟩ : ∃ na, la.c = na := ⟨_, rfl⟩
            obtain ⟨cb, hcb⟩ : ∃ nb, lb.c = nb := ⟨_, rfl⟩
            rw [hca] at ea
            rw [hcb] at eb
            clear hna hnb hca hcb HLN HLM HA HB
            subst ea eb
            have hlo : 21 ≤ na ∧ na ≤ 61 ∧ 21 ≤ nb ∧ nb ≤ 61 := by have := HN1.out; omega
            obtain ⟨l1, l2, l3, l4⟩ := hlo
            have HNA := Lib.hid hna2
            have HNB := Lib.hid hnb2
            clear hna2 hnb2
            dsimp only
            go_wp2
            go_loopw [14] (fun a wx => ∃ (i : Nat), i ≤ 20 ∧ a = .int .i64 i ∧ wB = wx) (fun a _ => 20 - (intOf a).toNat)
            case atStart => exact ⟨0, by omega, rfl, rfl⟩
            case round =>
              obtain ⟨i, hi, rfl, rfl⟩ := hrel
              by_cases hil : i < 20
              · obtain ⟨v1, hv1, hp1⟩ := HLA2.out ga oa rfl (na - 1 - i) (by have := HNA.out; show n1 ≤ _; omega) (by show _ < na; omega)
                obtain rfl : v1 = .slice none 0 0 := hp1
                obtain ⟨v2, hv2, A2, rfl⟩ := HLB2.out gb ob rfl (nb - 1 - i) (by have := HNB.out; show n1 ≤ _; omega) (by show _ < nb; omega)
                go_wp2
                go_roundw
                case rel => exact ⟨i + 1, by omega, by go_num, by trivial⟩
                case measure => simp [intOf]; omega
              · obtain ⟨d0, d1, d2, d3⟩ := blk_cells2 (gblk_keep' HKu.out HBW.out)
                obtain ⟨f0, f1, f2, f3⟩ := blk_cells2 (gblk_keep' HKg.out HBW.out)
                go_wp2_with (first
                  | (go_at_call 15; refine (keptGrammar_calls _ _ g wB (HU4.out.below HBW.out) (HG4.out.below HBW.out)).mono ?_; rintro e w8 ⟨rfl, hb8⟩; have HBX := Lib.hid (below_next HBW.out hb8); clear hb8 d0 d1 d2 d3 f0 f1 f2 f3)
                  | (go_at_call 16; refine (keptInts_calls Al At cl ct tk w8 (Kd.C_below HL4.out HBX.out) hcl (Kd.C_below HT4.out HBX.out)).mono ?_; rintro e w9 ⟨rfl, n9, rfl⟩))
                go_ret
                exact ⟨rfl, pw_below_drewN (below_next HB4.out HBX.out) _⟩
  · have HM2 := Lib.hid (fun (W : World) (hW : Below w4.heap.size w4 W) => (HM.out W hW).mono (R' := fun e w' => ∃ u, e = .returned (.tuple #[.slice none 0 0, u]) ∧ ErrV w' A u (mayN g tk).1 (mayN g tk).2 ∧ Below W.heap.size W w') (by
      rintro e w' (⟨u, h1, h2, h3, h4⟩ | ⟨O, Bs, Tn, h1, h2, _⟩)
      · exact ⟨u, h1, h3, h4⟩
      · exact absurd h2 hok))
    have HOK := Lib.hid hok
    clear hok HM
    go_wp2_with (first
      | (go_at_call 12; refine (HM2.out w5 HB5.out).mono ?_; rintro e w6 ⟨u6, rfl, hu6, hb6⟩; have HB6 := Lib.hid (below_next HB5.out hb6); clear hu6 hb6)
      | (go_at_call 12; refine (HM2.out w4 (Below.refl _ _)).mono ?_; rintro e w5 ⟨u5, rfl, hu5, hb5⟩; obtain ⟨T5, p5, -, rfl⟩ := hu5.iface_of HOK.out; have HB5 := Lib.hid hb5; obtain ⟨e0, e1, e2, e3⟩ := blk_cells2 (gblk_keep' HKu.out hb5); clear hu5 hb5 d0 d1 d2 d3))
    go_ret
    exact ⟨rfl, below_next HB4.out HB6.out⟩
end Go.Proofs.YtndimnomkcjeiaaDoor.Hand
