/- The package's errors, as the row lists them: each variable holds a pointer of its own. -/
import Derived.Test.YtagcmhnanngfbaaDoorKind
import Derived.Test.YtagcmhnanngfbaaDoorRows
import Derived.Stop.LaidErr
import Derived.LaidSub
import Derived.LaidMore
import Derived.Stop.Joined
import Derived.MakeChecks
namespace Go.Proofs.YtagcmhnanngfbaaDoor.Hand
open Go.ChangeShapes
open Go.RowKit Go.Proofs.YtagcmhnanngfbaaDoorW.PrintWords Go.Proofs.YtagcmhnanngfbaaDoorW.PrintMore Go.Proofs.YtagcmhnanngfbaaDoor.Math

theorem laid_list {P : Program} {W : World} {nm : String} {ti tp te ts : TypeId} {ms : Array (String × TypeId)} {f : Field}
    (hi : P.underlying ti = some (.interface ms)) (hrow : ∀ u, P.typeName? 3 u = some nm → u = tp)
    (hp : P.underlying tp = some (.pointer te)) (he : P.underlying te = some (.struct #[f])) (hft : f.type = ts) (hfo : f.offset = 0) (hs : P.underlying ts = some .string) (hc : P.cellsOf te = 1) (hcs : P.cellsOf ts = 1) :
    ∀ (l : List (String × DataW Unit)) (ps : List MemPlace), DataW.LaidVars P W l ps → ps.Nodup →
      (∀ b off, MemPlace.cell b off ∈ ps → (∃ c t, W.heap[b]? = some (.cells c t (0, 0))) ∧ ∀ u v, W.cell? ⟨b, off, none⟩ = some (.iface u v) → Value.okWide P W .any 0 u v) →
      (∀ x ∈ l, (∃ text, x.2 = .iface nm (.ptr (.agg [.lit (.string text)]))) ∧ ∃ g, P.globalNamed x.1 = some g ∧ (P.globals[g]?).map (·.type) = some ti) →
      ∃ As : List Addr, As.length = l.length ∧ (∀ a ∈ As, MemPlace.cell a.block a.off ∈ ps) ∧ As.Nodup ∧ ∀ (i : Nat) (x : String × DataW Unit) (a : Addr), l[i]? = some x → As[i]? = some a → ∀ g, P.globalNamed x.1 = some g → W.cell? ⟨g, 0, none⟩ = some (.iface tp (.pointer (some a)))
  | [], ps, _, _, _, _ => ⟨[], rfl, fun a h => absurd h (List.not_mem_nil), List.nodup_nil, fun i x a h => by rw [List.getElem?_nil] at h; cases h⟩
  | (n, d) :: r, ps, h, hnd, hrows, hall => by
    obtain ⟨g, t, cs, fuel, p, q, hg, ht, hv, hd, hr, rfl⟩ := h
    obtain ⟨⟨text, hd2⟩, g2, hg2, ht2⟩ := hall (n, d) (List.mem_cons_self ..)
    simp only at hd2 hg2
    subst hd2
    obtain rfl := Option.some.inj (hg.symm.trans hg2)
    obtain rfl := Option.some.inj (ht.symm.trans ht2)
    obtain ⟨l0⟩ := cs
    have ok0 : ∀ u v, l0 = [.iface u v] → Value.okWide P W .any 0 u v := fun u v e => by
      subst e
      exact (hrows g 0 (by simp [MemPlace.row])).2 u v (by simpa using World.var?_cell hg hv 0)
    obtain ⟨a0, s0, rfl, hc0, hs0, hz0, rfl⟩ := errorString_of_trod hi hrow hp he hft hfo hs hc hcs hd ok0
    have hq : q.Nodup := (List.nodup_append.1 hnd).2.1
    obtain ⟨As, k1, k2, k3, k4⟩ := laid_list hi hrow hp he hft hfo hs hc hcs r q hr hq (fun b off hm => hrows b off (List.mem_append_right _ hm)) (fun x hx => hall x (List.mem_cons_of_mem _ hx))
    have hcell : W.cell? ⟨g, 0, none⟩ = some (.iface tp (.pointer (some a0))) := by simpa using World.var?_cell hg hv 0
    refine ⟨a0 :: As, by simp [k1], ?_, ?_, ?_⟩
    · intro a ha
      rcases List.mem_cons.1 ha with rfl | ha
      · exact List.mem_append_left _ (List.mem_append_right _ (by simp [MemPlace.row]))
      · exact List.mem_append_right _ (k2 a ha)
    · refine List.nodup_cons.2 ⟨fun hm => ?_, k3⟩
      exact (List.nodup_append.1 hnd).2.2 _ (List.mem_append_right _ (by simp [MemPlace.row] : MemPlace.cell a0.block a0.off ∈ MemPlace.row a0 1)) _ (k2 a0 hm) rfl
    · intro i x a hx ha g' hg'
      cases i with
      | zero =>
        simp only [List.getElem?_cons_zero, Option.some.injEq] at hx ha
        subst hx ha
        obtain rfl := Option.some.inj (hg.symm.trans hg')
        exact hcell
      | succ i =>
        simp only [List.getElem?_cons_succ] at hx ha
        exact k4 i x a hx ha g' hg'
theorem star_err : "*" ++ "errors.errorString" = "*errors.errorString" := by decide
theorem laid_errs {l : List (String × DataW Unit)} {W : World} (h : laidMetH Tryd.prog l W) (hp : (l.all fun x => x.2.handleName?.isNone) = true)
    (hall : ∀ x ∈ l, (∃ text, x.2 = .iface "*errors.errorString" (.ptr (.agg [.lit (.string text)]))) ∧ ∃ g, Tryd.prog.globalNamed x.1 = some g ∧ (Tryd.prog.globals[g]?).map (·.type) = some 30)
    (hn : l.map (fun x => Tryd.prog.globalNamed x.1) = GE.map some) : ∃ A, Errs W A := by
  rw [MakeChecks.laidMetH_plain _ _ _ hp] at h
  obtain ⟨ps, hv, hnd, hrows⟩ := h
  obtain ⟨As, k1, k2, k3, k4⟩ := laid_list Tryd.underlying30 (tp := 141) (fun u hu => typeName_ptr_named (nm := "errors.errorString") (by rw [star_err]; kernel_rfl) (by kernel_rfl) (by decide) u (by rw [star_err]; exact hu)) Tryd.underlying141 Tryd.underlying166 rfl rfl Tryd.underlying9 (by kernel_rfl) (by kernel_rfl) l ps hv hnd hrows hall
  have hl : l.length = 15 := by have := congrArg List.length hn; simpa [GE] using this
  have hget : ∀ i, i < 15 → ∃ a, As[i]? = some a ∧ As.getD i ⟨0, 0, none⟩ = a := fun i hi => ⟨As[i]'(by omega), List.getElem?_eq_getElem _, by simp [List.getD, List.getElem?_eq_getElem (show i < As.length by omega)]⟩
  refine ⟨fun i => As.getD i ⟨0, 0, none⟩, ⟨fun i hi => ?_, fun i hi => ?_, fun i j hi hj e => ?_⟩⟩
  · obtain ⟨a, e1, e2⟩ := hget i hi
    have hx : l[i]? = some l[i] := List.getElem?_eq_getElem _
    have hg : Tryd.prog.globalNamed (l[i]'(by omega)).1 = some (GE.getD i 0) := by
      have := congrArg (fun z => z[i]?) hn
      simp only [List.getElem?_map, hx, Option.map_some] at this
      have h2 : GE[i]? = some (GE.getD i 0) := by
        have hi2 : i < GE.length := by simpa [GE] using hi
        simp [List.getD, List.getElem?_eq_getElem hi2]
      rw [h2] at this
      simpa using this
    show W.cell? _ = some (.iface _ (.pointer (some (As.getD i _))))
    rw [e2]
    exact k4 i _ a hx e1 _ hg
  · obtain ⟨a, e1, e2⟩ := hget i hi
    show ∃ c t, W.heap[(As.getD i _).block]? = _
    rw [e2]
    exact (hrows a.block a.off (k2 a (List.mem_of_getElem? e1))).1
  · obtain ⟨a, e1, e2⟩ := hget i hi
    obtain ⟨b, e3, e4⟩ := hget j hj
    have e : As.getD i _ = As.getD j _ := e
    rw [e2, e4] at e
    subst e
    exact (List.getElem?_inj (show i < As.length by omega) k3).1 (e1.trans e3.symm)
/-- Is it the datum of an error of errors.New? -/
def sentB (d : DataW Unit) : Bool := match d with | .iface nm (.ptr (.agg [.lit (.string _)])) => nm == "*errors.errorString" | _ => false
theorem sentB_spec {d : DataW Unit} (h : sentB d = true) : ∃ text, d = .iface "*errors.errorString" (.ptr (.agg [.lit (.string text)])) := by
  unfold sentB at h
  split at h
  · rename_i nm text
    exact ⟨text, by rw [beq_iff_eq.1 h]⟩
  · cases h
theorem laid_errs' {l : List (String × DataW Unit)} {W : World} (h : laidMetH Tryd.prog l W) (hp : (l.all fun x => x.2.handleName?.isNone) = true)
    (hall : (l.all fun x => sentB x.2 && (((Tryd.prog.globalNamed x.1).bind fun g => (Tryd.prog.globals[g]?).map (·.type)) == some 30)) = true)
    (hn : l.map (fun x => Tryd.prog.globalNamed x.1) = GE.map some) : ∃ A, Errs W A := by
  refine laid_errs h hp (fun x hx => ?_) hn
  have h1 := List.all_eq_true.1 hall x hx
  rw [Bool.and_eq_true, beq_iff_eq] at h1
  obtain ⟨g, hg, ht⟩ := Option.bind_eq_some_iff.1 h1.2
  exact ⟨sentB_spec h1.1, g, hg, ht⟩
end Go.Proofs.YtagcmhnanngfbaaDoor.Hand
