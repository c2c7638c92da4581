/- The texts that the statement's proof stands on, part 5: XLaid XLaidR XWrM XBld XItoa XWr XTxt XKnT XLits XKn18 XRdS XRdr XRdN XStpM. -/
import Derived.Test.YtcjcffcbfkimdaaDoorZ28b01b6b1
import Derived.Test.YtcjcffcbfkimdaaDoorRows
import Derived.Stop.LaidErr
import Derived.LaidSub
import Derived.LaidMore
import Derived.Stop.Joined
import Derived.MakeChecks
import Derived.Test.YtcjcffcbfkimdaaDoorShelf
import Derived.Shelf.Strings.BuilderK
import Derived.Lib.LaidTab
import Derived.Lib.Hide
import Derived.Deep.LoopGhost
import Derived.RegionDies
import Derived.WalkSmall
/- The package's errors, as the row lists them: each variable holds a pointer of its own. -/
namespace Go.Proofs.YtcjcffcbfkimdaaDoor.Hand
open Go.ChangeShapes
open Go.RowKit Go.Proofs.YtcjcffcbfkimdaaDoorW.PrintWords Go.Proofs.YtcjcffcbfkimdaaDoorW.PrintMore Go.Proofs.YtcjcffcbfkimdaaDoor.Math

theorem laid_list {P : Program} {W : World} {nm : String} {ti tp te ts : TypeId} {ms : Array (String × TypeId)} {f : Field}
    (hi : P.underlying ti = some (.interface ms)) (hrow : ∀ u, P.typeName? 3 u = some nm → u = tp)
    (hp : P.underlying tp = some (.pointer te)) (he : P.underlying te = some (.struct #[f])) (hft : f.type = ts) (hfo : f.offset = 0) (hs : P.underlying ts = some .string) (hc : P.cellsOf te = 1) (hcs : P.cellsOf ts = 1) :
    ∀ (l : List (String × DataW Unit)) (ps : List MemPlace), DataW.LaidVars P W l ps → ps.Nodup →
      (∀ b off, MemPlace.cell b off ∈ ps → (∃ c t, W.heap[b]? = some (.cells c t (0, 0))) ∧ ∀ u v, W.cell? ⟨b, off, none⟩ = some (.iface u v) → Value.okWide P W .any 0 u v) →
      (∀ x ∈ l, (∃ text, x.2 = .iface nm (.ptr (.agg [.lit (.string text)]))) ∧ ∃ g, P.globalNamed x.1 = some g ∧ (P.globals[g]?).map (·.type) = some ti) →
      ∃ As : List Addr, As.length = l.length ∧ (∀ a ∈ As, MemPlace.cell a.block a.off ∈ ps) ∧ As.Nodup ∧ ∀ (i : Nat) (x : String × DataW Unit) (a : Addr), l[i]? = some x → As[i]? = some a → ∀ g, P.globalNamed x.1 = some g → W.cell? ⟨g, 0, none⟩ = some (.iface tp (.pointer (some a)))
  | [], ps, _, _, _, _ => ⟨[], rfl, fun a h => absurd h (List.not_mem_nil), List.nodup_nil, fun i x a h => by rw [List.getElem?_nil] at h; cases h⟩
  | (n, d) :: r, ps, h, hnd, hrows, hall => by
    obtain ⟨g, t, cs, fuel, p, q, hg, ht, hv, hd, hr, rfl⟩ := h
    obtain ⟨⟨text, hd2⟩, g2, hg2, ht2⟩ := hall (n, d) (List.mem_cons_self ..)
    simp only at hd2 hg2
    subst hd2
    obtain rfl := Option.some.inj (hg.symm.trans hg2)
    obtain rfl := Option.some.inj (ht.symm.trans ht2)
    obtain ⟨l0⟩ := cs
    have ok0 : ∀ u v, l0 = [.iface u v] → Value.okWide P W .any 0 u v := fun u v e => by
      subst e
      exact (hrows g 0 (by simp [MemPlace.row])).2 u v (by simpa using World.var?_cell hg hv 0)
    obtain ⟨a0, s0, rfl, hc0, hs0, hz0, rfl⟩ := errorString_of_trod hi hrow hp he hft hfo hs hc hcs hd ok0
    have hq : q.Nodup := (List.nodup_append.1 hnd).2.1
    obtain ⟨As, k1, k2, k3, k4⟩ := laid_list hi hrow hp he hft hfo hs hc hcs r q hr hq (fun b off hm => hrows b off (List.mem_append_right _ hm)) (fun x hx => hall x (List.mem_cons_of_mem _ hx))
    have hcell : W.cell? ⟨g, 0, none⟩ = some (.iface tp (.pointer (some a0))) := by simpa using World.var?_cell hg hv 0
    refine ⟨a0 :: As, by simp [k1], ?_, ?_, ?_⟩
    · intro a ha
      rcases List.mem_cons.1 ha with rfl | ha
      · exact List.mem_append_left _ (List.mem_append_right _ (by simp [MemPlace.row]))
      · exact List.mem_append_right _ (k2 a ha)
    · refine List.nodup_cons.2 ⟨fun hm => ?_, k3⟩
      exact (List.nodup_append.1 hnd).2.2 _ (List.mem_append_right _ (by simp [MemPlace.row] : MemPlace.cell a0.block a0.off ∈ MemPlace.row a0 1)) _ (k2 a0 hm) rfl
    · intro i x a hx ha g' hg'
      cases i with
      | zero =>
        simp only [List.getElem?_cons_zero, Option.some.injEq] at hx ha
        subst hx ha
        obtain rfl := Option.some.inj (hg.symm.trans hg')
        exact hcell
      | succ i =>
        simp only [List.getElem?_cons_succ] at hx ha
        exact k4 i x a hx ha g' hg'
theorem star_err : "*" ++ "errors.errorString" = "*errors.errorString" := by decide
theorem laid_errs {l : List (String × DataW Unit)} {W : World} (h : laidMetH Tryd.prog l W) (hp : (l.all fun x => x.2.handleName?.isNone) = true)
    (hall : ∀ x ∈ l, (∃ text, x.2 = .iface "*errors.errorString" (.ptr (.agg [.lit (.string text)]))) ∧ ∃ g, Tryd.prog.globalNamed x.1 = some g ∧ (Tryd.prog.globals[g]?).map (·.type) = some 31)
    (hn : l.map (fun x => Tryd.prog.globalNamed x.1) = GE.map some) : ∃ A, Errs W A := by
  rw [MakeChecks.laidMetH_plain _ _ _ hp] at h
  obtain ⟨ps, hv, hnd, hrows⟩ := h
  obtain ⟨As, k1, k2, k3, k4⟩ := laid_list Tryd.underlying31 (tp := 175) (fun u hu => typeName_ptr_named (nm := "errors.errorString") (by rw [star_err]; kernel_rfl) (by kernel_rfl) (by decide) u (by rw [star_err]; exact hu)) Tryd.underlying175 Tryd.underlying193 rfl rfl Tryd.underlying9 (by kernel_rfl) (by kernel_rfl) l ps hv hnd hrows hall
  have hl : l.length = 15 := by have := congrArg List.length hn; simpa [GE] using this
  have hget : ∀ i, i < 15 → ∃ a, As[i]? = some a ∧ As.getD i ⟨0, 0, none⟩ = a := fun i hi => ⟨As[i]'(by omega), List.getElem?_eq_getElem _, by simp [List.getD, List.getElem?_eq_getElem (show i < As.length by omega)]⟩
  refine ⟨fun i => As.getD i ⟨0, 0, none⟩, ⟨fun i hi => ?_, fun i hi => ?_, fun i j hi hj e => ?_⟩⟩
  · obtain ⟨a, e1, e2⟩ := hget i hi
    have hx : l[i]? = some l[i] := List.getElem?_eq_getElem _
    have hg : Tryd.prog.globalNamed (l[i]'(by omega)).1 = some (GE.getD i 0) := by
      have := congrArg (fun z => z[i]?) hn
      simp only [List.getElem?_map, hx, Option.map_some] at this
      have h2 : GE[i]? = some (GE.getD i 0) := by
        have hi2 : i < GE.length := by simpa [GE] using hi
        simp [List.getD, List.getElem?_eq_getElem hi2]
      rw [h2] at this
      simpa using this
    show W.cell? _ = some (.iface _ (.pointer (some (As.getD i _))))
    rw [e2]
    exact k4 i _ a hx e1 _ hg
  · obtain ⟨a, e1, e2⟩ := hget i hi
    show ∃ c t, W.heap[(As.getD i _).block]? = _
    rw [e2]
    exact (hrows a.block a.off (k2 a (List.mem_of_getElem? e1))).1
  · obtain ⟨a, e1, e2⟩ := hget i hi
    obtain ⟨b, e3, e4⟩ := hget j hj
    have e : As.getD i _ = As.getD j _ := e
    rw [e2, e4] at e
    subst e
    exact (List.getElem?_inj (show i < As.length by omega) k3).1 (e1.trans e3.symm)
/-- Is it the datum of an error of errors.New? -/
def sentB (d : DataW Unit) : Bool := match d with | .iface nm (.ptr (.agg [.lit (.string _)])) => nm == "*errors.errorString" | _ => false
theorem sentB_spec {d : DataW Unit} (h : sentB d = true) : ∃ text, d = .iface "*errors.errorString" (.ptr (.agg [.lit (.string text)])) := by
  unfold sentB at h
  split at h
  · rename_i nm text
    exact ⟨text, by rw [beq_iff_eq.1 h]⟩
  · cases h
theorem laid_errs' {l : List (String × DataW Unit)} {W : World} (h : laidMetH Tryd.prog l W) (hp : (l.all fun x => x.2.handleName?.isNone) = true)
    (hall : (l.all fun x => sentB x.2 && (((Tryd.prog.globalNamed x.1).bind fun g => (Tryd.prog.globals[g]?).map (·.type)) == some 31)) = true)
    (hn : l.map (fun x => Tryd.prog.globalNamed x.1) = GE.map some) : ∃ A, Errs W A := by
  refine laid_errs h hp (fun x hx => ?_) hn
  have h1 := List.all_eq_true.1 hall x hx
  rw [Bool.and_eq_true, beq_iff_eq] at h1
  obtain ⟨g, hg, ht⟩ := Option.bind_eq_some_iff.1 h1.2
  exact ⟨sentB_spec h1.1, g, hg, ht⟩
/-- The same where the row lists but some of the errors. -/
theorem laid_errsW {l : List (String × DataW Unit)} {W : World} (h : laidMetH Tryd.prog l W) (hp : (l.all fun x => x.2.handleName?.isNone) = true)
    (hall0 : (l.all fun x => sentB x.2 && (((Tryd.prog.globalNamed x.1).bind fun g => (Tryd.prog.globals[g]?).map (·.type)) == some 31)) = true)
    (hn : l.map (fun x => Tryd.prog.globalNamed x.1) = EW.map (fun i => some (GE.getD i 0))) : ∃ A, ErrsW W A := by
  have hall : ∀ x ∈ l, (∃ text, x.2 = .iface "*errors.errorString" (.ptr (.agg [.lit (.string text)]))) ∧ ∃ g, Tryd.prog.globalNamed x.1 = some g ∧ (Tryd.prog.globals[g]?).map (·.type) = some 31 := fun x hx => by
    have h1 := List.all_eq_true.1 hall0 x hx
    rw [Bool.and_eq_true, beq_iff_eq] at h1
    obtain ⟨g, hg, ht⟩ := Option.bind_eq_some_iff.1 h1.2
    exact ⟨sentB_spec h1.1, g, hg, ht⟩
  rw [MakeChecks.laidMetH_plain _ _ _ hp] at h
  obtain ⟨ps, hv, hnd, hrows⟩ := h
  obtain ⟨As, k1, _, _, k4⟩ := laid_list Tryd.underlying31 (tp := 175) (fun u hu => typeName_ptr_named (nm := "errors.errorString") (by rw [star_err]; kernel_rfl) (by kernel_rfl) (by decide) u (by rw [star_err]; exact hu)) Tryd.underlying175 Tryd.underlying193 rfl rfl Tryd.underlying9 (by kernel_rfl) (by kernel_rfl) l ps hv hnd hrows hall
  have hl : l.length = EW.length := by have := congrArg List.length hn; simpa using this
  refine ⟨fun i => As.getD (EW.idxOf i) ⟨0, 0, none⟩, ⟨fun i hi => ?_⟩⟩
  have hj : EW.idxOf i < EW.length := List.idxOf_lt_length_of_mem hi
  have hge : EW[EW.idxOf i]? = some i := by rw [List.getElem?_eq_getElem hj, List.getElem_idxOf]
  have ha : As[EW.idxOf i]? = some (As[EW.idxOf i]'(by omega)) := List.getElem?_eq_getElem _
  have hx : l[EW.idxOf i]? = some (l[EW.idxOf i]'(by omega)) := List.getElem?_eq_getElem _
  have hg : Tryd.prog.globalNamed (l[EW.idxOf i]'(by omega)).1 = some (GE.getD i 0) := by
    have := congrArg (fun z => z[EW.idxOf i]?) hn
    simp only [List.getElem?_map, hx, hge, Option.map_some] at this
    simpa using this
  show W.cell? _ = some (.iface _ (.pointer (some (As.getD _ _))))
  rw [show As.getD (EW.idxOf i) ⟨0, 0, none⟩ = As[EW.idxOf i]'(by omega) by rw [List.getD_eq_getElem?_getD, ha]; rfl]
  exact k4 _ _ _ hx ha _ hg
end Go.Proofs.YtcjcffcbfkimdaaDoor.Hand
/- What a row lays: the errors out of a longer list, the handle of the type error. -/
namespace Go.Proofs.YtcjcffcbfkimdaaDoor.Hand
open Go.ChangeShapes
open Go.RowKit Go.Proofs.YtcjcffcbfkimdaaDoorW.PrintWords Go.Proofs.YtcjcffcbfkimdaaDoorW.PrintMore Go.Proofs.YtcjcffcbfkimdaaDoor.Math

theorem laid_errsF (p : String × DataW Unit → Bool) {l : List (String × DataW Unit)} {W : World} (h : laidMetH Tryd.prog l W) (hp : (l.all fun x => x.2.handleName?.isNone) = true)
    (hp2 : ((l.filter p).all fun x => x.2.handleName?.isNone) = true)
    (hall : ((l.filter p).all fun x => sentB x.2 && (((Tryd.prog.globalNamed x.1).bind fun g => (Tryd.prog.globals[g]?).map (·.type)) == some 31)) = true)
    (hn : (l.filter p).map (fun x => Tryd.prog.globalNamed x.1) = GE.map some) : ∃ A, Errs W A := by
  rw [MakeChecks.laidMetH_plain _ _ _ hp] at h
  exact laid_errs' (l := l.filter p) (by rw [MakeChecks.laidMetH_plain _ _ _ hp2]; exact h.filter p) hp2 hall hn
theorem laidMetH_nons {P : Program} {l : List (String × DataW Unit)} {W : World} (h : laidMetH P l W) : laidMetH P (l.filter fun x => x.2.handleName?.isNone) W := by
  have hp : ((l.filter fun x => x.2.handleName?.isNone).all fun x => x.2.handleName?.isNone) = true := by
    rw [List.all_eq_true]
    intro x hx
    exact (List.mem_filter.1 hx).2
  rw [MakeChecks.laidMetH_plain _ _ _ hp]
  unfold laidMetH at h
  split at h
  · rename_i he
    rw [List.filter_eq_nil_iff] at he
    have e : (l.filter fun x => x.2.handleName?.isNone) = l := by
      rw [List.filter_eq_self]
      intro x hx
      have := he x hx
      cases hn : x.2.handleName? with
      | none => rfl
      | some s => rw [hn] at this; simp at this
    rw [e]
    exact h
  · exact h.1
theorem errTy_rt : (Tryd.prog.cutTypes.find? (·.1 == "internal/reflectlite.rtype")).map (·.2) = some 137 := by kernel_rfl
theorem errTy_named : Tryd.prog.globalNamed "errors.errorType" = some 15 := by kernel_rfl
theorem errTy_row : ((List.range Tryd.prog.types.size).filter fun t => Tryd.prog.rowNamed t [101, 114, 114, 111, 114]) = [31] := by kernel_rfl
theorem errTy_handle : typeHandle Tryd.prog 31 = .pointer (some ⟨19, 31, none⟩) := by kernel_rfl
theorem laid_errTyR {l : List (String × DataW Unit)} {W : World} (h : laidMetH Tryd.prog l W) (hm : (l.filter fun x => x.2.handleName?.isSome) = [("errors.errorType", Rows.laid_errors_errorType)]) : ErrTyR W := by
  unfold laidMetH at h
  rw [hm] at h
  obtain ⟨name, u, ty, e1, e2, e3, e4, e5⟩ := h.2 _ (List.mem_singleton.2 rfl)
  have en : name = [101, 114, 114, 111, 114] := (Option.some.inj e1).symm
  subst en
  obtain rfl := Option.some.inj (errTy_rt.symm.trans e2)
  have hm : ty ∈ (List.range Tryd.prog.types.size).filter fun t => Tryd.prog.rowNamed t [101, 114, 114, 111, 114] := List.mem_filter.2 ⟨List.mem_range.2 e3, e4⟩
  rw [errTy_row] at hm
  obtain rfl := List.mem_singleton.1 hm
  rw [errTy_handle] at e5
  unfold ErrTyR
  simpa using World.var?_cell errTy_named e5 0
end Go.Proofs.YtcjcffcbfkimdaaDoor.Hand
/- A tree's text, plainly: what is written on a walk of its rules, and how much. -/
namespace Go.Proofs.YtcjcffcbfkimdaaDoor.Math

/-- What parts a nonterminal from its parent. -/
def spW (up : Option (Unit × Nat)) : List UInt8 := match up with | none => [] | some _ => [32]
theorem spW_len (up : Option (Unit × Nat)) : (spW up).length ≤ 1 := by cases up <;> simp [spW]
/-- What is written on a walk: dec: a number in digits. -/
def opsW (dec : Int → List UInt8) : Ops (List UInt8) Unit where
  ent _ s up _ n := (s ++ (spW up ++ (40 :: dec n)), ())
  tok s _ _ x := s ++ (32 :: 46 :: dec x)
  lv s _ := s ++ [41]
/-- How much a walk writes. -/
theorem text_size (dec : Int → List UInt8) (M : Int) (G : List (Int × List Int)) (rs : List Int) (hG : ∀ r ∈ G, r.2.length ≤ 32) (hd : ∀ x, x < M → (dec x).length ≤ 20) (hM : (G.length : Int) ≤ M) (hx : ∀ r ∈ G, ∀ x ∈ r.2, x < M) : ∀ (f : Nat) (any : Bool) (nt : Int) (up : Option (Unit × Nat)) (deep : Nat) (st st' : Nat × List UInt8), nodeG (opsW dec) G rs f any nt up deep st = some st' →
    st.1 < st'.1 ∧ st'.1 ≤ rs.length ∧ st'.2.length + 1000 * st.1 ≤ st.2.length + 1000 * st'.1
  | 0, _, _, _, _, _, _, h => by simp [nodeG] at h
  | f + 1, any, nt, up, deep, st, st', h => by
    rw [nodeG] at h
    split at h
    · cases h
    · rename_i n hn
      split at h
      · cases h
      · rename_i hb
        split at h
        · cases h
        · split at h
          · cases h
          · rename_i s1 hs
            simp only [Option.some.injEq] at h
            subst h
            have hlt : st.1 < rs.length := (List.getElem?_eq_some_iff.1 hn).1
            have hRx : (ruleD G n).2.length ≤ 32 ∧ ∀ x ∈ (ruleD G n).2, x < M := by
              unfold ruleD
              rw [List.getD_eq_getElem?_getD]
              cases hg : G[n.toNat]? with
              | none => simp
              | some r => exact ⟨hG r (List.mem_of_getElem? hg), hx r (List.mem_of_getElem? hg)⟩
            obtain ⟨hR, hRM⟩ := hRx
            have key : ∀ (φ : Unit) (l : List Int) (k : Nat) (s2 s3 : Nat × List UInt8), (∀ x ∈ l, x < M) → symsG (opsW dec) (fun u m s => nodeG (opsW dec) G rs f false m (some u) (deep + 1) s) φ k l s2 = some s3 → s2.1 ≤ rs.length →
                s2.1 ≤ s3.1 ∧ s3.1 ≤ rs.length ∧ s3.2.length + 1000 * s2.1 ≤ s2.2.length + 1000 * s3.1 + 22 * l.length := by
              intro φ l
              induction l with
              | nil =>
                intro k s2 s3 _ h h3
                simp only [symsG, Option.some.injEq] at h
                subst h
                exact ⟨Nat.le_refl _, h3, by simp⟩
              | cons x r ih =>
                intro k s2 s3 hl h h3
                rw [symsG] at h
                split at h
                · split at h
                  · cases h
                  · rename_i s4 h4
                    obtain ⟨a1, a2, a4⟩ := text_size dec M G rs hG hd hM hx f false _ _ _ s2 s4 h4
                    obtain ⟨b1, b2, b4⟩ := ih _ s4 s3 (fun y hy => hl y (List.mem_cons_of_mem _ hy)) h a2
                    simp only [List.length_cons]
                    exact ⟨by omega, b2, by omega⟩
                · have h6 := ih _ (s2.1, (opsW dec).tok s2.2 φ k x) s3 (fun y hy => hl y (List.mem_cons_of_mem _ hy)) h h3
                  have h7 := hd x (hl x (List.mem_cons_self ..))
                  simp only [opsW, List.length_append, List.length_cons] at h6 ⊢
                  obtain ⟨b1, b2, b4⟩ := h6
                  exact ⟨b1, b2, by omega⟩
            obtain ⟨b1, b2, b4⟩ := key _ _ _ _ _ hRM hs (by show st.1 + 1 ≤ rs.length; omega)
            have h8 := hd n (by omega)
            have h9 := spW_len up
            simp only [opsW, List.length_append, List.length_cons, List.length_nil] at b1 b2 b4 ⊢
            exact ⟨by omega, b2, by omega⟩
theorem symsG_call {σ F : Type} {o : Ops σ F} {nd : F × Nat → Int → Nat × σ → Option (Nat × σ)} {φ : F} {k : Nat} {x : Int} {r : List Int} {st fin : Nat × σ} (h : symsG o nd φ k (x :: r) st = some fin) (hx : x < 0) : ∃ s3, nd (φ, k) (-1 - x) st = some s3 ∧ symsG o nd φ (k + 1) r s3 = some fin := by
  rw [symsG, if_pos hx] at h
  cases hn : nd (φ, k) (-1 - x) st with
  | none => rw [hn] at h; cases h
  | some s3 => rw [hn] at h; exact ⟨s3, rfl, h⟩
theorem symsG_tok {σ F : Type} {o : Ops σ F} {nd : F × Nat → Int → Nat × σ → Option (Nat × σ)} {φ : F} {k : Nat} {x : Int} {r : List Int} {st fin : Nat × σ} (h : symsG o nd φ k (x :: r) st = some fin) (hx : ¬ x < 0) : symsG o nd φ (k + 1) r (st.1, o.tok st.2 φ k x) = some fin := by
  rwa [symsG, if_neg hx] at h
end Go.Proofs.YtcjcffcbfkimdaaDoor.Math
/- strings.Builder's writing methods at this program: the library's contracts, laid by hand (the program refuses where the library panics, so two types are named by no body). -/
namespace Go.Proofs.YtcjcffcbfkimdaaDoor.Hand
open Go.RowKit Go.Proofs.YtcjcffcbfkimdaaDoorW.PrintWords Go.Proofs.YtcjcffcbfkimdaaDoorW.PrintMore Go.Proofs.YtcjcffcbfkimdaaDoor.Math

def bldRen : Go.Shelf.Ren := ⟨fun | 166 => 61 | 167 => 63 | 240 => 74 | 276 => 81 | n => n, fun | 0 => 0 | 3 => 3 | 4 => 4 | 5 => 5 | 9 => 9 | 20 => 20 | 37 => 85 | 70 => 84 | 72 => 87 | 75 => 31 | 80 => 90 | 164 => 126 | n => n, fun | n => n⟩
theorem lays167 : Go.Proofs.Lays.n167 Tryd.prog bldRen := {
  mixed := by kernel_rfl
  f167 := Tryd.func63.trans (congrArg some (by kernel_rfl))
  f240 := Tryd.func74.trans (congrArg some (by kernel_rfl))
  f276 := Tryd.func81.trans (congrArg some (by kernel_rfl))
  t0 := Tryd.underlying0
  a0 := Tryd.isAgg0
  z0 := Tryd.sizeOf0
  v0 := Tryd.zeroValue0
  t4 := Tryd.underlying4
  a4 := Tryd.isAgg4
  z4 := Tryd.sizeOf4
  v4 := Tryd.zeroValue4
  t5 := Tryd.underlying5
  a5 := Tryd.isAgg5
  z5 := Tryd.sizeOf5
  v5 := Tryd.zeroValue5
  t9 := Tryd.underlying9
  a9 := Tryd.isAgg9
  z9 := Tryd.sizeOf9
  v9 := Tryd.zeroValue9
  t20 := Tryd.underlying20
  a20 := Tryd.isAgg20
  z20 := Tryd.sizeOf20
  v20 := Tryd.zeroValue20
  t37 := Tryd.underlying85
  a37 := Tryd.isAgg85
  z37 := Tryd.sizeOf85
  v37 := Tryd.zeroValue85
  t70 := Tryd.underlying84
  a70 := Tryd.isAgg84
  z70 := Tryd.sizeOf84
  v70 := Tryd.zeroValue84
  t72 := Tryd.underlying87
  a72 := Tryd.isAgg87
  z72 := Tryd.sizeOf87
  v72 := Tryd.zeroValue87
  t75 := Tryd.underlying31
  a75 := Tryd.isAgg31
  z75 := Tryd.sizeOf31
  v75 := Tryd.zeroValue31
  t164 := Tryd.underlying126
  a164 := Tryd.isAgg126
  z164 := Tryd.sizeOf126
  v164 := Tryd.zeroValue126 }
theorem lays166 : Go.Proofs.Lays.n166 Tryd.prog bldRen := {
  mixed := by kernel_rfl
  f166 := Tryd.func61.trans (congrArg some (by kernel_rfl))
  f240 := Tryd.func74.trans (congrArg some (by kernel_rfl))
  f276 := Tryd.func81.trans (congrArg some (by kernel_rfl))
  t0 := Tryd.underlying0
  a0 := Tryd.isAgg0
  z0 := Tryd.sizeOf0
  v0 := Tryd.zeroValue0
  t3 := Tryd.underlying3
  a3 := Tryd.isAgg3
  z3 := Tryd.sizeOf3
  v3 := Tryd.zeroValue3
  t4 := Tryd.underlying4
  a4 := Tryd.isAgg4
  z4 := Tryd.sizeOf4
  v4 := Tryd.zeroValue4
  t9 := Tryd.underlying9
  a9 := Tryd.isAgg9
  z9 := Tryd.sizeOf9
  v9 := Tryd.zeroValue9
  t20 := Tryd.underlying20
  a20 := Tryd.isAgg20
  z20 := Tryd.sizeOf20
  v20 := Tryd.zeroValue20
  t37 := Tryd.underlying85
  a37 := Tryd.isAgg85
  z37 := Tryd.sizeOf85
  v37 := Tryd.zeroValue85
  t70 := Tryd.underlying84
  a70 := Tryd.isAgg84
  z70 := Tryd.sizeOf84
  v70 := Tryd.zeroValue84
  t72 := Tryd.underlying87
  a72 := Tryd.isAgg87
  z72 := Tryd.sizeOf87
  v72 := Tryd.zeroValue87
  t75 := Tryd.underlying31
  a75 := Tryd.isAgg31
  z75 := Tryd.sizeOf31
  v75 := Tryd.zeroValue31
  t164 := Tryd.underlying126
  a164 := Tryd.isAgg126
  z164 := Tryd.sizeOf126
  v164 := Tryd.zeroValue126 }
theorem bldExtra : Builder.Extra Tryd.prog bldRen := {
  sizeBuilder := by kernel_rfl
  liesBuilder := by kernel_rfl
  t5 := Tryd.underlying5
  a5 := Tryd.isAgg5
  z5 := Tryd.sizeOf5
  v5 := Tryd.zeroValue5
  infoByte := by kernel_rfl
  cellsByte := by kernel_rfl
  sizeByte := by kernel_rfl
  neB5 := by decide }
/-- A builder of the call's own. -/
abbrev IsB (B b : Nat) (bs : List UInt8) (w : World) : Prop := Lib.IsBuilderF 87 5 B b (Lib.byteCells bs) w
theorem bld_byte (B b : Nat) (bs : List UInt8) (c : UInt8) (w : World) (h : IsB B b bs w) (hlen : bs.length + 1 ≤ 140737488355328) (hBw : B ≤ w.heap.size) :
    Calls Tryd.prog 63 #[.pointer (some ⟨b, 0, none⟩), .int .u8 c.toNat] w fun e w' => e = .returned .nilIface ∧ IsB B b (bs ++ [c]) w' ∧ Below B w w' ∧ Lib.OthersKept 5 (some b) w w' := by
  refine (Any.Builder_WriteByte_k lays167 bldExtra B b (Lib.byteCells bs) (c.toNat : Int) w h (by simpa [Lib.byteCells] using hlen) hBw).mono ?_
  rintro e w' ⟨rfl, h1, h2, h3⟩
  exact ⟨rfl, .inr (by rw [show Lib.byteCells (bs ++ [c]) = Lib.byteCells bs ++ [.int .u8 c.toNat] by simp [Lib.byteCells]]; exact h1), h2, h3⟩
theorem bld_str (B b : Nat) (bs : List UInt8) (s : ByteArray) (w : World) (h : IsB B b bs w) (hlen : bs.length + s.size ≤ 140737488355328) (hBw : B ≤ w.heap.size) :
    Calls Tryd.prog 61 #[.pointer (some ⟨b, 0, none⟩), .string s] w fun e w' => e = .returned (.tuple #[.int .i64 s.size, .nilIface]) ∧ IsB B b (bs ++ s.data.toList) w' ∧ Below B w w' ∧ Lib.OthersKept 5 (some b) w w' := by
  refine (Any.Builder_WriteString_k lays166 bldExtra B b (Lib.byteCells bs) s w h (by simpa [Lib.byteCells] using hlen) hBw).mono ?_
  rintro e w' ⟨rfl, h1, h2, h3⟩
  exact ⟨rfl, .inr (by rw [show Lib.byteCells (bs ++ s.data.toList) = Lib.byteCells bs ++ Lib.strCells s by simp [Lib.byteCells, Lib.strCells]]; exact h1), h2, h3⟩
theorem bld_len (B b : Nat) (bs : List UInt8) (w : World) (h : IsB B b bs w) : Calls Tryd.prog 45 #[.pointer (some ⟨b, 0, none⟩)] w fun e w' => e = .returned (.int .i64 bs.length) ∧ w' = w := by
  refine (Tryd.Builder_Len_f B b (Lib.byteCells bs) w h).mono ?_
  rintro e w' ⟨rfl, rfl⟩
  exact ⟨by simp [Lib.byteCells], rfl⟩
theorem bld_string (B b : Nat) (bs : List UInt8) (w : World) (h : IsB B b bs w) (hBw : B ≤ w.heap.size) : Calls Tryd.prog 46 #[.pointer (some ⟨b, 0, none⟩)] w fun e w' => e = .returned (.string ⟨bs.toArray⟩) ∧ IsB B b bs w' ∧ Below B w w' ∧ Lib.OthersKept 5 (some b) w w' := Tryd.Builder_String_any_k B b bs w h hBw
/-- A builder stands where all that was stands. -/
theorem IsB.below {B b : Nat} {bs : List UInt8} {w w' : World} (h : IsB B b bs w) (hb : Below w.heap.size w w') : IsB B b bs w' := by
  have one : ∀ p, Lib.BuilderAtF 87 5 B b p (Lib.byteCells bs) w → Lib.BuilderAtF 87 5 B b p (Lib.byteCells bs) w' := fun p h => by
    have hlt := h.lt
    obtain ⟨hB, v, hbk, hown, hne⟩ := h
    refine ⟨hB, v, (hb.block _ hlt).trans hbk, ⟨hown.1, ?_⟩, hne⟩
    rcases hown.2 with h1 | ⟨g, cap, cur, fz, h1, h2, h3, h4⟩
    · exact .inl h1
    · exact .inr ⟨g, cap, cur, fz, h1, h2, (hb.block _ (Array.getElem?_eq_some_iff.1 h3).1).trans h3, h4⟩
  rcases h with h | h
  · exact .inl (one _ h)
  · exact .inr (one _ h)
theorem IsB.drewN {B b : Nat} {bs : List UInt8} {w : World} (h : IsB B b bs w) (n : Nat) : IsB B b bs (w.drewN n) := h.below (pw_below_drewN (Below.refl _ _) n)
/-- A new builder. -/
theorem isB_new (w : World) : IsB w.heap.size w.heap.size [] (w.alloc (.cells #[.pointer none, .slice none 0 0] 87)) := by
  refine .inl ⟨Nat.le_refl _, .slice none 0 0, heap_alloc_new w _, ⟨rfl, .inl ⟨rfl, rfl⟩⟩, by simp [Value.ownBlock]⟩
end Go.Proofs.YtcjcffcbfkimdaaDoor.Hand
/- strconv.Itoa, by the library's table of powers. -/
namespace Go.Proofs.YtcjcffcbfkimdaaDoor.Hand
open Go.ChangeShapes
open Go.RowKit Go.Proofs.YtcjcffcbfkimdaaDoorW.PrintWords Go.Proofs.YtcjcffcbfkimdaaDoorW.PrintMore Go.Proofs.YtcjcffcbfkimdaaDoor.Math

/-- A number from 0 on, in digits. -/
def decA (i : Nat) : ByteArray := ⟨(Lib.decDigits i).toArray⟩
theorem decA_len : ∀ (k n : Nat), n < 10 ^ (k + 1) → (Lib.decDigits n).length ≤ k + 1
  | 0, n, h => by
    rw [Lib.decDigits]
    simp at h
    simp [h]
  | k + 1, n, h => by
    rw [Lib.decDigits]
    split
    · simp
    · have := decA_len k (n / 10) (by rw [Nat.pow_succ] at h; omega)
      simp
      omega
theorem decA_size (i : Nat) (h : i < 1000000000) : (decA i).size ≤ 20 := by
  have := decA_len 9 i (by omega)
  show (Lib.decDigits i).toArray.size ≤ 20
  rw [List.size_toArray]
  omega
theorem decA_list (i : Nat) : (decA i).data.toList = Lib.decDigits i := rfl
/-- The library's table of powers is there. -/
def Pow10 (w : World) : Prop := Lib.TabIs Tryd.prog w "internal/strconv.uint64pow10" .u64 Lib.pow10Tab
theorem pow10_named : Tryd.prog.globalNamed "internal/strconv.uint64pow10" = some 16 := by kernel_rfl
theorem Pow10.below {w w' : World} (h : Pow10 w) (hb : Below w.heap.size w w') : Pow10 w' := by
  unfold Pow10 Lib.TabIs World.var? at h ⊢
  rw [pow10_named] at h ⊢
  simp only [Option.bind_some] at h ⊢
  have hlt : 16 < w.heap.size := by
    rcases Nat.lt_or_ge 16 w.heap.size with h1 | h1
    · exact h1
    · rw [Array.getElem?_eq_none h1] at h; cases h
  rw [hb.block _ hlt]
  exact h
theorem pow10_nums : Rows.laid_internal_strconv_uint64pow10 = (Lib.tabData .u64 Lib.pow10Tab : DataW Unit) := by rfl
theorem laid_pow10 {l : List (String × DataW Unit)} {W : World} (h : laidMetH Tryd.prog l W) (hp : (l.all fun x => x.2.handleName?.isNone) = true) (hm : (l.filter fun x => x.1 == "internal/strconv.uint64pow10") = [("internal/strconv.uint64pow10", Rows.laid_internal_strconv_uint64pow10)]) : Pow10 W := by
  rw [MakeChecks.laidMetH_plain _ _ _ hp] at h
  have h1 := h.filter (fun x => x.1 == "internal/strconv.uint64pow10")
  rw [hm, pow10_nums] at h1
  exact Lib.tabIs_of_head pow10_named (show (Tryd.prog.globals[16]?).map (·.type) = some 167 by kernel_rfl) Tryd.underlying167 Tryd.underlying159 (by kernel_rfl) (by kernel_rfl) h1
theorem itoaA_calls (i : Nat) (hi : i < 1000000000) (w : World) (hT : Pow10 w) : Calls Tryd.prog 62 #[.int .i64 i] w fun e w' => e = .returned (.string (decA i)) ∧ Below w.heap.size w w' := by
  refine (Tryd.strconv_Itoa (i : Int) (by omega) (by omega) w hT).mono ?_
  rintro e w' ⟨rfl, k, os, rfl⟩
  refine ⟨?_, ?_⟩
  · have : Lib.itoa (i : Int) = Lib.decDigits i := by
      unfold Lib.itoa
      rw [if_neg (by omega), Int.toNat_natCast]
    rw [this]; rfl
  · refine ⟨rfl, rfl, rfl, ?_, fun q hq => ?_⟩
    · show w.heap.size ≤ (w.heap ++ os).size
      simp
    · show (w.heap ++ os)[q]? = _
      rw [Array.getElem?_append_left hq]
end Go.Proofs.YtcjcffcbfkimdaaDoor.Hand
/- Contract: deriv.write: a known tree's text. -/
namespace Go.Proofs.YtcjcffcbfkimdaaDoor.Hand
open Go.RowKit Go.Proofs.YtcjcffcbfkimdaaDoorW.PrintWords Go.Proofs.YtcjcffcbfkimdaaDoorW.PrintMore Go.Proofs.YtcjcffcbfkimdaaDoor.Math

def decI (x : Int) : List UInt8 := Lib.decDigits x.toNat
theorem decI_len {x : Int} (h : x < 1000000000) : (decI x).length ≤ 20 := by
  have := decA_len 9 x.toNat (by omega)
  unfold decI
  omega
theorem cat_list (c : UInt8) (i : Nat) : ((⟨#[c]⟩ : ByteArray) ++ decA i).data.toList = c :: Lib.decDigits i := by
  simp [ByteArray.data_append, decA]
theorem cat_size (c : UInt8) (i : Nat) (h : i < 1000000000) : ((⟨#[c]⟩ : ByteArray) ++ decA i).size ≤ 21 := by
  have := decA_len 9 i (by omega)
  rw [ByteArray.size_append]
  show 1 + (Lib.decDigits i).toArray.size ≤ 21
  rw [List.size_toArray]
  omega
theorem oth_of_below {b : Nat} {w w' : World} (hb : Below w.heap.size w w') : Lib.OthersKept 5 (some b) w w' := fun k _o hk _ _ => (hb.block k (Array.getElem?_eq_some_iff.1 hk).1).trans hk
theorem oth_blk {b k : Nat} {w w' : World} {c : Array Value} {T : TypeId} {fz : Nat × Nat} (h : Lib.OthersKept 5 (some b) w w') (hk : w.heap[k]? = some (.cells c T fz)) (hb : k ≠ b) (hT : T ≠ 5) : w'.heap[k]? = some (.cells c T fz) :=
  h k _ hk (by intro e; injection e with e; exact hb e) (by intro c' fz' e; injection e with _ e _; exact hT e)
/-- The writer's state: w0: as the builder was laid; b: the builder; w1: as this call began. -/
structure WrSt (w0 w1 : World) (b : Nat) (bs : List UInt8) (w : World) : Prop where
  isB : IsB w0.heap.size b bs w
  bel : Below w0.heap.size w0 w
  oth : Lib.OthersKept 5 (some b) w1 w
theorem WrSt.below {w0 w1 w w' : World} {b : Nat} {bs : List UInt8} (h : WrSt w0 w1 b bs w) (hb : Below w.heap.size w w') : WrSt w0 w1 b bs w' := ⟨h.isB.below hb, below_next h.bel hb, h.oth.trans (oth_of_below hb)⟩
theorem Below.chain {n : Nat} {w w1 w2 : World} (h1 : Below n w w1) (h2 : Below n w1 w2) : Below n w w2 := h1.trans h2
theorem WrSt.wrote {w0 w1 w w' : World} {b : Nat} {bs cs : List UInt8} (h : WrSt w0 w1 b bs w) (h1 : IsB w0.heap.size b cs w') (h2 : Below w0.heap.size w w') (h3 : Lib.OthersKept 5 (some b) w w') : WrSt w0 w1 b cs w' := ⟨h1, h.bel.trans h2, h.oth.trans h3⟩
/-- The loop over a right side. -/
structure WLoop (w0 w1 : World) (b : Nat) (G : List (Int × List Int)) (rs : List Int) (f deep i : Nat) (r : List Int) (fin : Nat × List UInt8) (k i2 : Nat) (bs : List UInt8) (w : World) : Prop where
  st : WrSt w0 w1 b bs w
  eq : symsG (opsW decI) (fun u m s => nodeG (opsW decI) G rs f false m (some u) (deep + 1) s) () k (r.drop k) (i2, bs) = some fin
  sz : bs.length + 1000 ≤ 1000 * i2 + 22 + 22 * k
  lo : i + 1 ≤ i2
  hi : i2 ≤ rs.length
def WrP (w0 w1 : World) (b : Nat) (fin : Nat × List UInt8) (e : Ending) (w' : World) : Prop := e = .returned (.int .i64 (fin.1 : Int)) ∧ WrSt w0 w1 b fin.2 w'
set_option maxHeartbeats 4000000 in
set_option maxRecDepth 20000 in
theorem write_calls (w0 : World) (b : Nat) (g : Gr) (AT AN AR : Option Addr) (cT cN cR : Nat) (hR : KRule.C w0 AR g.rules.length g.rules) (tA : Option Addr) (tc : Nat) (t : List (Int × Int × Int)) (ht : KStep.C w0 tA t.length t) (hp : Pow10 w0) (hb0 : w0.heap.size ≤ b)
    (hl : t.length ≤ 131072) (hrl : g.rules.length ≤ 100000) (hsh : ∀ r ∈ g.rules, r.2.length ≤ 32) (hx : ∀ r ∈ g.rules, ∀ x ∈ r.2, x < 1000000000) :
    ∀ (f : Nat) (any : Bool) (nt : Int) (up : Option (Unit × Nat)) (deep i : Nat) (acc : List UInt8) (fin : Nat × List UInt8) (w : World), nodeG (opsW decI) g.rules (t.map (·.1)) f any nt up deep (i, acc) = some fin → acc.length ≤ 1000 * i → IsB w0.heap.size b (acc ++ spW up) w → Below w0.heap.size w0 w →
      Calls Tryd.prog 44 #[.pointer (some ⟨b, 0, none⟩), .agg #[.slice AT g.terms.length cT, .slice AN g.nonterms.length cN, .int .i64 g.ax, .slice AR g.rules.length cR], .slice tA t.length tc, .int .i64 (i : Int)] w (WrP w0 w b fin)
  | 0, any, nt, up, deep, i, acc, fin, w, h, _, _, _ => by simp [nodeG] at h
  | f + 1, any, nt, up, deep, i, acc, fin, w, h, hacc, hB, hbel => by
    have IH := Lib.hid (write_calls w0 b g AT AN AR cT cN cR hR tA tc t ht hp hb0 hl hrl hsh hx f)
    have TS := Lib.hid (text_size decI 1000000000 g.rules (t.map (·.1)) hsh (fun x h => decI_len h) (by omega) hx f)
    rw [nodeG] at h
    split at h
    · cases h
    · rename_i n hn
      split at h
      · cases h
      · rename_i hnb
        split at h
        · cases h
        · split at h
          · cases h
          · rename_i s1 hs
            simp only [Option.some.injEq] at h
            have HFin := Lib.hid h
            have HS := Lib.hid hs
            have hi : i < t.length := by have := (List.getElem?_eq_some_iff.1 hn).1; simpa using this
            have hn2 : (t.getD i (0, 0, 0)).1 = n := by
              rw [List.getElem?_map, List.getElem?_eq_getElem hi] at hn
              rw [List.getD_eq_getElem?_getD, List.getElem?_eq_getElem hi]
              simpa using hn
            obtain ⟨j, rfl⟩ : ∃ j : Nat, n = (j : Int) := ⟨n.toNat, by omega⟩
            have hj : j < g.rules.length := by omega
            clear h hs hn hnb
            obtain ⟨w1, hw1⟩ : ∃ w1, w.alloc (.cells #[.slice AT g.terms.length cT, .slice AN g.nonterms.length cN, .int .i64 g.ax, .slice AR g.rules.length cR] 25) = w1 := ⟨_, rfl⟩
            have hb1 : Below w.heap.size w w1 := by rw [← hw1]; exact below_alloc (Below.refl _ _) _
            have hk1 : w1.heap[w.heap.size]? = some (.cells #[.slice AT g.terms.length cT, .slice AN g.nonterms.length cN, .int .i64 g.ax, .slice AR g.rules.length cR] 25 (0, 0)) := by rw [← hw1]; exact heap_alloc_new w _
            have hbw : b ≠ w.heap.size := by
              have : b < w.heap.size := by rcases hB with h | h <;> exact h.lt
              omega
            have HK1 := Lib.hid hk1
            have HBW := Lib.hid hbw
            have hbw1 : w0.heap.size ≤ w1.heap.size := Nat.le_trans hbel.size hb1.size
            have HS1 : Hid (WrSt w0 w b (acc ++ spW up) w1) := Lib.hid ⟨hB.below hb1, below_next hbel hb1, oth_of_below hb1⟩
            have HO1 : Hid (Lib.OthersKept 5 (some b) w1 w1) := Lib.hid (Lib.OthersKept.refl _ _ _)
            have HStr : Hid (∀ (bs : List UInt8) (s : ByteArray) (W : World), WrSt w0 w1 b bs W → bs.length ≤ 1000000000000 → s.size ≤ 21 → Calls Tryd.prog 61 #[.pointer (some ⟨b, 0, none⟩), .string s] W fun e w' => e = .returned (.tuple #[.int .i64 s.size, .nilIface]) ∧ WrSt w0 w1 b (bs ++ s.data.toList) w') := Lib.hid (fun bs s W hS hbs hss => (bld_str w0.heap.size b bs s W hS.isB (by omega) hS.bel.size).mono (by
              rintro e w' ⟨h1, h2, h3, h4⟩
              exact ⟨h1, hS.wrote h2 h3 h4⟩))
            have HByte : Hid (∀ (bs : List UInt8) (c : UInt8) (W : World), WrSt w0 w1 b bs W → bs.length ≤ 1000000000000 → Calls Tryd.prog 63 #[.pointer (some ⟨b, 0, none⟩), .int .u8 c.toNat] W fun e w' => e = .returned .nilIface ∧ WrSt w0 w1 b (bs ++ [c]) w') := Lib.hid (fun bs c W hS hbs => (bld_byte w0.heap.size b bs c W hS.isB (by omega) hS.bel.size).mono (by
              rintro e w' ⟨h1, h2, h3, h4⟩
              exact ⟨h1, hS.wrote h2 h3 h4⟩))
            have HS1' : Hid (WrSt w0 w1 b (acc ++ spW up) w1) := Lib.hid ⟨HS1.out.isB, HS1.out.bel, Lib.OthersKept.refl _ _ _⟩
            have HSp : Hid (∀ (bs : List UInt8) (W : World), WrSt w0 w1 b bs W → bs.length ≤ 1000000000000 → Calls Tryd.prog 63 #[.pointer (some ⟨b, 0, none⟩), .int .u8 32] W fun e w' => e = .returned .nilIface ∧ WrSt w0 w1 b (bs ++ [32]) w') := Lib.hid (fun bs W h1 h2 => HByte.out bs 32 W h1 h2)
            have HCl : Hid (∀ (bs : List UInt8) (W : World), WrSt w0 w1 b bs W → bs.length ≤ 1000000000000 → Calls Tryd.prog 63 #[.pointer (some ⟨b, 0, none⟩), .int .u8 41] W fun e w' => e = .returned .nilIface ∧ WrSt w0 w1 b (bs ++ [41]) w') := Lib.hid (fun bs W h1 h2 => HByte.out bs 41 W h1 h2)
            clear HByte
            have HTs := Lib.hid ht
            have HRs := Lib.hid hR
            have HP := Lib.hid hp
            have HSh := Lib.hid hsh
            have HX := Lib.hid hx
            have hup := spW_len up
            have hacl : acc.length ≤ 131072000 := by omega
            obtain ⟨ta, x0, y0, z0, hta, k0, k1, k2, HXs⟩ := at_step (Kd.C_below ht HS1.out.bel) i hi
            subst hta
            have hx0 : x0 = (j : Int) := by have := HXs.out; rw [this] at hn2; exact hn2
            subst hx0
            clear hk1 hb1 hB hbel hbw HXs hn2 hR ht hp hx hsh k1 k2
            go_enter Tryd.func44, Tryd.ntmps44
            go_upto_region 4 with (first
              | (go_at_call 62; refine (itoaA_calls j (by omega) w1 (HP.out.below HS1.out.bel)).mono ?_; rintro e w2 ⟨rfl, hb2⟩; have HS2 := Lib.hid (HS1'.out.below hb2); have hcs : ¬ 9223372036854775807 < 1 + (decA j).size := (by have := decA_size j (by omega); omega); clear hb2 k0)
              | (go_at_call 61; refine (HStr.out _ _ w2 HS2.out (by rw [List.length_append]; omega) (cat_size 40 j (by omega))).mono ?_; rintro e w3 ⟨rfl, hS3⟩; rw [cat_list] at hS3; have HS3 := Lib.hid hS3; clear hS3))
            obtain ⟨adr, lx, B2, c2, r2, hAR, p1, p2, hrc2, hr2, HX2⟩ := at_rule HRs.out j hj
            subst hAR
            have hrule : ruleD g.rules (j : Int) = (lx, r2) := by unfold ruleD; rw [Int.toNat_natCast]; exact HX2.out
            have hmem : (lx, r2) ∈ g.rules := by rw [← HX2.out]; exact getD_mem _ _ _ hj
            have hr32 : r2.length ≤ 32 := HSh.out _ hmem
            have HXr : Hid (∀ x ∈ r2, x < 1000000000) := Lib.hid (HX.out _ hmem)
            have HRr := Lib.hid hr2
            have HLo : Hid (WLoop w0 w1 b g.rules (t.map (·.1)) f deep i r2 s1 0 (i + 1) (acc ++ spW up ++ 40 :: Lib.decDigits j) w3) := Lib.hid (by
              refine ⟨HS3.out, ?_, ?_, Nat.le_refl _, by rw [List.length_map]; omega⟩
              · have h := HS.out
                rw [hrule] at h
                rw [List.drop_zero, List.append_assoc]
                exact h
              · have := decA_len 9 j (by omega)
                simp only [List.length_append, List.length_cons]
                omega)
            obtain ⟨c0, c1, c2', c3⟩ := gr_blk (oth_blk HS3.out.oth HK1.out (fun e => HBW.out e.symm) (by decide))
            replace p2 := (HS3.out.bel.cell (World.block_lt_of_cell? _ _ p2)).trans p2
            clear hrule hmem hr2 HS p1 hcs HS1' HS2 HS3
            go_wp2
            go_loopw [3, 31] (fun a k wr => ∃ (kk i2 : Nat) (bs : List UInt8), kk ≤ r2.length ∧ a = .int .i64 (i2 : Int) ∧ k = .int .i64 (kk : Int) ∧ Hid (WLoop w0 w1 b g.rules (t.map (·.1)) f deep i r2 s1 kk i2 bs wr)) (fun _ k _ => r2.length - (intOf k).toNat)
            case atStart => exact ⟨0, i + 1, _, by omega, by go_num, rfl, HLo⟩
            case round =>
              obtain ⟨kk, i2, bs, hkk, rfl, rfl, HN⟩ := hrel
              have hi2 : i2 ≤ t.length := by have := HN.out.hi; simpa using this
              have hbs : bs.length ≤ 1000 * i2 := by have := HN.out.sz; omega
              clear c0 c1 c2' c3 p2 HLo
              by_cases hlk : kk < r2.length
              · obtain ⟨adx, y, rfl, hy, HY⟩ := at_scalar (Kd.C_below HRr.out HN.out.st.bel) kk hlk 0
                have hdrop : r2.drop kk = y :: r2.drop (kk + 1) := by
                  rw [List.drop_eq_getElem_cons hlk]
                  have := HY.out
                  rw [List.getD_eq_getElem?_getD, List.getElem?_eq_getElem hlk] at this
                  rw [← this]
                  rfl
                have hyb := HXr.out y (by rw [← HY.out]; exact getD_mem _ _ _ hlk)
                have hEq := HN.out.eq
                rw [hdrop] at hEq
                by_cases hneg : y < 0
                · obtain ⟨s3, hs3, hrest⟩ := symsG_call hEq hneg
                  have HSz := Lib.hid (TS.out _ _ _ _ _ _ hs3)
                  have HS3 := Lib.hid hs3
                  have HRest := Lib.hid hrest
                  clear hdrop hEq hs3 hrest
                  go_wp2_with (first
                    | (go_at_call 63; refine (HSp.out bs wr HN.out.st (by omega)).mono ?_; rintro e w4 ⟨rfl, h4⟩; have H4 := Lib.hid h4; obtain ⟨c0, c1, c2', c3⟩ := gr_blk (oth_blk h4.oth HK1.out (fun e => HBW.out e.symm) (by decide)); clear h4 hy)
                    | (go_at_call 44; refine (IH.out _ _ _ _ i2 bs s3 w4 HS3.out hbs H4.out.isB H4.out.bel).mono ?_; rintro e w5 ⟨rfl, h5⟩; have H5 : Hid (WrSt w0 w1 b s3.2 w5) := Lib.hid ⟨h5.isB, h5.bel, H4.out.oth.trans h5.oth⟩; clear h5 c0 c1 c2' c3))
                  go_roundw
                  case rel => exact ⟨kk + 1, s3.1, s3.2, by omega, rfl, by go_num, Lib.hid ⟨H5.out, HRest.out, by have h1 := HSz.out.2.2; have h2 := HN.out.sz; omega, by have h1 := HSz.out.1; have h2 := HN.out.lo; omega, HSz.out.2.1⟩⟩
                  case measure => simp [intOf]; omega
                · obtain ⟨m, rfl⟩ : ∃ m : Nat, y = (m : Int) := ⟨y.toNat, by omega⟩
                  have hrest := symsG_tok hEq hneg
                  have HRest := Lib.hid hrest
                  have hm : m < 1000000000 := by omega
                  have hcs : ¬ 9223372036854775807 < 1 + (decA m).size := by have := decA_size m hm; omega
                  clear hdrop hEq hrest hneg hyb
                  go_wp2_with (first
                    | (go_at_call 63; refine (HSp.out bs wr HN.out.st (by omega)).mono ?_; rintro e w4 ⟨rfl, h4⟩; have H4 := Lib.hid h4; clear h4 hy)
                    | (go_at_call 62; refine (itoaA_calls m hm w4 (HP.out.below H4.out.bel)).mono ?_; rintro e w5 ⟨rfl, hb5⟩; have H5 := Lib.hid (H4.out.below hb5); clear hb5)
                    | (go_at_call 61; refine (HStr.out _ _ w5 H5.out (by rw [List.length_append]; simp only [List.length_cons, List.length_nil]; omega) (cat_size 46 m hm)).mono ?_; rintro e w6 ⟨rfl, h6⟩; rw [cat_list] at h6; have H6 := Lib.hid h6; clear h6))
                  go_roundw
                  case rel => exact ⟨kk + 1, i2, _, by omega, rfl, by go_num, Lib.hid ⟨H6.out, (by have h := HRest.out; simp only [opsW] at h; rw [List.append_assoc]; exact h), (by have h2 := HN.out.sz; have := decA_len 9 m (by omega); simp only [List.length_append, List.length_cons, List.length_nil]; omega), HN.out.lo, HN.out.hi⟩⟩
                  case measure => simp [intOf]; omega
              · have hk : kk = r2.length := by omega
                have HF : Hid (fin = (i2, bs ++ [41])) := Lib.hid (by
                  have h := HN.out.eq
                  rw [List.drop_eq_nil_of_le (by omega), symsG, Option.some.injEq] at h
                  have h2 := HFin.out
                  rw [← h] at h2
                  exact h2.symm)
                clear hk
                go_wp2_with (go_at_call 63; refine (HCl.out bs wr HN.out.st (by omega)).mono ?_; rintro e w4 ⟨rfl, h4⟩; have H4 := Lib.hid h4; clear h4)
                go_ret
                exact ⟨by rw [HF.out]; rfl, by rw [HF.out]; exact ⟨H4.out.isB, H4.out.bel, HS1.out.oth.trans H4.out.oth⟩⟩
end Go.Proofs.YtcjcffcbfkimdaaDoor.Hand
/- Contract: deriv.Text. -/
namespace Go.Proofs.YtcjcffcbfkimdaaDoor.Hand
open Go.RowKit Go.Proofs.YtcjcffcbfkimdaaDoorW.PrintWords Go.Proofs.YtcjcffcbfkimdaaDoorW.PrintMore Go.Proofs.YtcjcffcbfkimdaaDoor.Math

/-- A known tree's text. -/
noncomputable def textW (g : Gr) (t : List (Int × Int × Int)) : List UInt8 := (walkG (opsW decI) g.rules (t.map (·.1)) true 0 []).getD []
noncomputable def textE (g : Gr) (t : List (Int × Int × Int)) : Nat × Int :=
  if (knownE g t).1 ≠ 0 then knownE g t else if 1048576 < (textW g t).length then (12, -1) else (0, -1)
noncomputable def textS (g : Gr) (t : List (Int × Int × Int)) : ByteArray := if (textE g t).1 = 0 then ⟨(textW g t).toArray⟩ else ⟨#[]⟩
theorem textE_ge (g : Gr) (t : List (Int × Int × Int)) : -1 ≤ (textE g t).2 := by
  unfold textE
  split
  · exact knownE_ge g t
  · split <;> simp
theorem knownE_may {g : Gr} {t : List (Int × Int × Int)} (h : knownE g t = (0, -1)) : (dmayN g t.length).1 = 0 := by
  unfold knownE at h
  split at h
  · rw [h]
  · omega
/-- A known tree's walk writes its text. -/
theorem text_node {g : Gr} {t : List (Int × Int × Int)} {d : DS} (hd : treeD g t = some d) : ∃ i, nodeG (opsW decI) g.rules (t.map (·.1)) (t.map (·.1)).length true 0 none 1 (0, []) = some (i, textW g t) := by
  unfold treeD grownD walkG at hd
  have hc := node_ctl (opsD inc64) (opsW decI) g.rules (t.map (·.1)) (t.map (·.1)).length true 0 none none 1 1 0 ⟨(t.getD 0 (0, 0, 0)).2.1, [], [], 0⟩ ([] : List UInt8)
  unfold textW walkG
  cases hn : nodeG (opsD inc64) g.rules (t.map (·.1)) (t.map (·.1)).length true 0 none 1 (0, ⟨(t.getD 0 (0, 0, 0)).2.1, [], [], 0⟩) with
  | none => rw [hn] at hd; cases hd
  | some a =>
    rw [hn] at hd hc
    simp only at hd
    split at hd
    · cases hd
    · rename_i hlt
      cases hw : nodeG (opsW decI) g.rules (t.map (·.1)) (t.map (·.1)).length true 0 none 1 (0, []) with
      | none => rw [hw] at hc; cases hc
      | some c =>
        rw [hw] at hc
        simp only [Option.map_some, Option.some.injEq] at hc
        refine ⟨c.1, ?_⟩
        simp only
        rw [if_neg (by omega)]
        rfl
set_option maxHeartbeats 2000000 in
set_option maxRecDepth 20000 in
theorem text18_calls (v : Value) (g : Gr) (tA : Option Addr) (tc : Nat) (t : List (Int × Int × Int)) (w : World) (A : Nat → Addr) (hE : Errs w A) (hv : GramAt w v g) (ht : KStep.C w tA t.length t) (htc : t.length ≤ tc) (hp : Pow10 w) :
    Calls Tryd.prog 28 #[v, .slice tA t.length tc] w fun e w' => ∃ u, e = .returned (.tuple #[.string (textS g t), u]) ∧ ErrV w' A u (textE g t).1 (textE g t).2 ∧ Below w.heap.size w w' := by
  have HV := Lib.hid hv
  obtain ⟨AT, cT, AN, cN, AR, cR, rfl, q1, q2, q3, q4, q5, q6⟩ := hv
  obtain ⟨w1, hw1⟩ : ∃ w1, w.alloc (.cells #[.slice AT g.terms.length cT, .slice AN g.nonterms.length cN, .int .i64 g.ax, .slice AR g.rules.length cR] 25) = w1 := ⟨_, rfl⟩
  have hb1 : Below w.heap.size w w1 := by rw [← hw1]; exact below_alloc (Below.refl _ _) _
  have hk1 : w1.heap[w.heap.size]? = some (.cells #[.slice AT g.terms.length cT, .slice AN g.nonterms.length cN, .int .i64 g.ax, .slice AR g.rules.length cR] 25 (0, 0)) := by rw [← hw1]; exact heap_alloc_new w _
  obtain ⟨c0, c1, c2, c3⟩ := gr_blk hk1
  have HB1 := Lib.hid hb1
  have HK1 := Lib.hid hk1
  have HE1 := Lib.hid (hE.below hb1)
  have HP1 := Lib.hid (hp.below hb1)
  have HT1 := Lib.hid (Kd.C_below ht hb1)
  have HR1 := Lib.hid (Kd.C_below q6 hb1)
  have hkc := known_calls _ g tA tc t w1 A (hE.below hb1) (HV.out.below hb1) (Kd.C_below ht hb1) htc
  have HKc := Lib.hid hkc
  clear hb1 hk1 hE q4 q5 q6 ht hkc hp
  by_cases h0 : knownE g t = (0, -1)
  · have HK2 : Hid (Calls Tryd.prog 41 _ w1 fun e w' => ∃ b d, treeD g t = some d ∧ e = .returned (.tuple #[.pointer (some ⟨b, 0, none⟩), .nilIface]) ∧ Below w1.heap.size w1 w') := Lib.hid (HKc.out.mono (by
      rintro e w' (⟨b, gt, gn, gr, ax, rv, i, d, vt, vk, -, h2, h3, h4, h5, h6⟩ | ⟨u, h1, -⟩)
      · exact ⟨b, d, h2, h4, h5.bel⟩
      · rw [h0] at h1; exact absurd rfl h1))
    have hm := dmayN_zero (knownE_may h0)
    have hlen := hm.len
    have hrul := hm.right.rules
    have HSh : Hid (∀ r ∈ g.rules, r.2.length ≤ 32) := Lib.hid (fun r hr => ruleN_len (hm.right.ruleN r hr))
    have HX : Hid (∀ r ∈ g.rules, ∀ x ∈ r.2, x < 1000000000) := Lib.hid (fun r hr x hx => by have := sym_bound (hm.right.ruleN r hr) hm.right.size x hx; omega)
    have HEq : Hid (textE g t = if 1048576 < (textW g t).length then (12, -1) else (0, -1)) := Lib.hid (by unfold textE; rw [h0]; rfl)
    clear h0 HKc hm
    go_enter Tryd.func28, Tryd.ntmps28
    go_upto_region 5 with (go_at_call 41; refine HK2.out.mono ?_; rintro e w2 ⟨b2, d, hd, rfl, hb2⟩; have HB2 := Lib.hid hb2; have HD := Lib.hid hd; clear hb2 hd c0 c1 c2 c3)
    obtain ⟨w3, hw3⟩ : ∃ w3, w2.alloc (.cells #[.pointer none, .slice none 0 0] 87) = w3 := ⟨_, rfl⟩
    have hb3 : Below w2.heap.size w2 w3 := by rw [← hw3]; exact below_alloc (Below.refl _ _) _
    have hI3 : IsB w2.heap.size w2.heap.size [] w3 := by rw [← hw3]; exact isB_new w2
    rw [hw3]
    obtain ⟨c0, c1, c2, c3⟩ := gr_blk (blk_below HK1.out (below_next HB2.out hb3))
    obtain ⟨ni, hni⟩ := text_node HD.out
    have HWr := Lib.hid (write_calls w2 w2.heap.size g AT AN AR cT cN cR (Kd.C_below HR1.out HB2.out) tA tc t (Kd.C_below HT1.out HB2.out) (HP1.out.below HB2.out) (Nat.le_refl _) hlen (by omega) HSh.out HX.out _ true 0 none 1 0 [] _ w3 hni (Nat.zero_le _) hI3 hb3)
    have HB3 := Lib.hid hb3
    clear hw3 hb3 hI3 hni
    by_cases hbig : 1048576 < (textW g t).length
    · have HF : Hid (textE g t = (12, -1)) := Lib.hid (by rw [HEq.out, if_pos hbig])
      have HS : Hid (textS g t = ⟨#[]⟩) := Lib.hid (by unfold textS; rw [HF.out]; rfl)
      clear HEq
      go_upto_region 7 with (first
        | (go_at_call 44; refine HWr.out.mono ?_; rintro e w4 ⟨rfl, h4⟩; have H4 := Lib.hid h4; clear h4 c0 c1 c2 c3)
        | (go_at_call 45; refine (bld_len _ _ _ w4 H4.out.isB).mono ?_; rintro e w5 ⟨rfl, rfl⟩))
      have hb4 : Below w.heap.size w w5 := below_next HB1.out (below_next HB2.out H4.out.bel)
      have e11 : w5.cell? ⟨1, 0, none⟩ = some (.iface 175 (.pointer (some (A 11)))) := (HE1.out.below (below_next HB2.out H4.out.bel)).cells 11 (by omega)
      have HB4 := Lib.hid hb4
      clear hb4
      go_quiet (fail)
      go_wp2
      go_ret2
      exact ⟨_, by rw [HS.out]; rfl, by rw [HF.out]; exact .sent 11 (by omega), pw_below_drewN HB4.out _⟩
    · have HF : Hid (textE g t = (0, -1)) := Lib.hid (by rw [HEq.out, if_neg hbig])
      have HS : Hid (textS g t = ⟨(textW g t).toArray⟩) := Lib.hid (by unfold textS; rw [HF.out]; rfl)
      clear HEq
      go_wp2_with (first
        | (go_at_call 44; refine HWr.out.mono ?_; rintro e w4 ⟨rfl, h4⟩; have H4 := Lib.hid h4; clear h4 c0 c1 c2 c3)
        | (go_at_call 45; refine (bld_len _ _ _ w4 H4.out.isB).mono ?_; rintro e w5 ⟨rfl, rfl⟩)
        | (go_at_call 46; refine (bld_string _ _ _ _ H4.out.isB H4.out.bel.size).mono ?_; rintro e w6 ⟨rfl, h6, hb6, ho6⟩; have HB6 := Lib.hid (H4.out.bel.trans hb6); clear h6 hb6 ho6))
      go_ret2
      exact ⟨_, by rw [HS.out]; rfl, by rw [HF.out]; exact .none, below_next HB1.out (below_next HB2.out HB6.out)⟩
  · have HK2 : Hid (Calls Tryd.prog 41 _ w1 fun e w' => ∃ t1 x, (knownE g t).1 ≠ 0 ∧ e = .returned (.tuple #[.pointer none, .iface t1 x]) ∧ ErrV w' A (.iface t1 x) (knownE g t).1 (knownE g t).2 ∧ Below w1.heap.size w1 w') := Lib.hid (HKc.out.mono (by
      rintro e w' (⟨b, gt, gn, gr, ax, rv, i, d, vt, vk, h1, -⟩ | ⟨u, h1, h2, h3, h4⟩)
      · exact absurd h1 h0
      · rcases h3.nil_iff with ⟨h, _⟩ | ⟨_, t1, x, rfl⟩
        · exact absurd h h1
        · exact ⟨t1, x, h1, h2, h3, h4⟩))
    clear h0 HKc
    go_enter Tryd.func28, Tryd.ntmps28
    go_wp2_with (go_at_call 41; refine HK2.out.mono ?_; rintro e w2 ⟨t1, x, hne, rfl, hu, hb2⟩; have HNe := Lib.hid hne; have HU := Lib.hid hu; have HB2 := Lib.hid hb2; clear hne hu hb2)
    have HF : Hid (textE g t = knownE g t) := Lib.hid (by unfold textE; rw [if_pos HNe.out])
    go_ret2
    exact ⟨_, by unfold textS; rw [HF.out, if_neg HNe.out]; rfl, by rw [HF.out]; exact HU.out, below_next HB1.out HB2.out⟩
end Go.Proofs.YtcjcffcbfkimdaaDoor.Hand
/- A tree that the document names: what is answered of it, plainly. -/
namespace Go.Proofs.YtcjcffcbfkimdaaDoor.Hand
open Go.RowKit Go.Proofs.YtcjcffcbfkimdaaDoorW.PrintWords Go.Proofs.YtcjcffcbfkimdaaDoorW.PrintMore Go.Proofs.YtcjcffcbfkimdaaDoor.Math

def knG : Gr := ⟨[⟨#[43]⟩, ⟨#[105]⟩], [⟨#[69]⟩, ⟨#[84]⟩], 0, [(0, [-1, 0, -2]), (0, [-2]), (1, [1])]⟩
def knT : List (Int × Int × Int) := [(0, 0, 3), (1, 0, 1), (2, 0, 1), (2, 2, 3)]
theorem kn2 (x y : UInt8) (h : x ≠ y) : NamesOk [⟨#[x]⟩, ⟨#[y]⟩] := by
  intro i hi
  have : i = 0 ∨ i = 1 := by simp at hi; omega
  rcases this with rfl | rfl
  · exact ⟨by show (1 : Nat) ≠ 0; decide, by show (1 : Nat) ≤ 32; decide, by simp⟩
  · refine ⟨by show (1 : Nat) ≠ 0; decide, by show (1 : Nat) ≤ 32; decide, ?_⟩
    intro e
    have e : (⟨#[y]⟩ : ByteArray) = ⟨#[x]⟩ := by simpa using e
    injection e with e
    have := congrArg (fun a => a[0]?) e
    simp at this
    exact h this.symm
theorem kn_gram : checkN knG = (0, -1) := by
  unfold checkN
  have hn1 : NamesOk knG.terms := kn2 _ _ (by decide)
  have hn2 : NamesOk knG.nonterms := kn2 _ _ (by decide)
  rw [if_neg (by simp [knG]), if_neg (by simp [hn1, hn2]), if_neg (by simp [knG])]
  decide
theorem kn_may (n : Nat) (h : n ≤ 100) : dmayN knG n = (0, -1) := by
  unfold dmayN
  rw [kn_gram, if_neg (by simp), if_neg (by decide), if_neg (by omega)]
theorem kn_tree : treeD knG knT = some ⟨3, knT, [1, 0, 1], 3⟩ := by simp [treeD, grownD, walkG, nodeG, symsG, opsD, knG, knT, ruleD, inc64, wrap64]
theorem kn_known : knownE knG knT = (0, -1) := by
  unfold knownE
  rw [show knT.length = 4 from rfl, kn_may 4 (by omega), if_neg (by simp), if_neg (by decide), kn_tree]
  simp
theorem kn_check : checkE knG [1, 0, 1] knT = (0, -1) := by
  unfold checkE
  rw [show knT.length = 4 from rfl, kn_may 4 (by omega), if_neg (by simp), if_neg (by decide), if_neg (by decide), if_pos ⟨kn_known, rfl, rfl, by rw [knownD_yes kn_known kn_tree]⟩]
theorem kn_grown : grownD knG [0, 1, 2, 2] false 0 0 = some ⟨3, knT, [1, 0, 1], 3⟩ := by simp [grownD, walkG, nodeG, symsG, opsD, knG, knT, ruleD, inc64, wrap64]
theorem kn_grow : growE knG 0 [0, 1, 2, 2] = (0, -1) := by
  unfold growE
  rw [show [(0 : Int), 1, 2, 2].length = 4 from rfl, kn_may 4 (by omega), if_neg (by simp), if_neg (by decide), kn_grown]
  simp
theorem kn_growL : growL knG 0 [0, 1, 2, 2] = knT := by
  unfold growL
  rw [kn_grow, if_pos rfl, kn_grown]
theorem kn_dec (n : Nat) (h : n < 10) : Lib.decDigits n = [UInt8.ofNat (48 + n)] := by rw [Lib.decDigits, dif_pos h]
theorem kn_write : textW knG knT = [40, 48, 32, 40, 49, 32, 40, 50, 32, 46, 49, 41, 41, 32, 46, 48, 32, 40, 50, 32, 46, 49, 41, 41] := by
  have d0 := kn_dec 0 (by omega)
  have d1 := kn_dec 1 (by omega)
  have d2 := kn_dec 2 (by omega)
  simp [textW, walkG, nodeG, symsG, opsW, spW, decI, knG, knT, ruleD, d0, d1, d2]
theorem kn_text : textE knG knT = (0, -1) := by
  unfold textE
  rw [kn_known, if_neg (by simp), if_neg (by rw [kn_write]; decide)]
theorem kn_S : textS knG knT = ⟨#[40, 48, 32, 40, 49, 32, 40, 50, 32, 46, 49, 41, 41, 32, 46, 48, 32, 40, 50, 32, 46, 49, 41, 41]⟩ := by
  unfold textS
  rw [kn_text, if_pos rfl, kn_write]
theorem kn_badW : treeD knG [(2, 2, 3)] = some ⟨3, [(2, 2, 3)], [1], 1⟩ := by simp [treeD, grownD, walkG, nodeG, symsG, opsD, knG, ruleD, inc64, wrap64]
theorem kn_bad : checkE knG [1] [(2, 2, 3)] = (11, -1) := by
  unfold checkE
  rw [show [((2 : Int), (2 : Int), (3 : Int))].length = 1 from rfl, kn_may 1 (by omega), if_neg (by simp), if_neg (by decide), if_neg (by decide), if_neg (by intro h; have := h.2.1; simp at this)]
end Go.Proofs.YtcjcffcbfkimdaaDoor.Hand
/- Literals in memory: rows of numbers, of texts, of rules, of steps, block by block. -/
namespace Go.Proofs.YtcjcffcbfkimdaaDoor.Hand
open Go.RowKit Go.Proofs.YtcjcffcbfkimdaaDoorW.PrintWords Go.Proofs.YtcjcffcbfkimdaaDoorW.PrintMore Go.Proofs.YtcjcffcbfkimdaaDoor.Math

theorem allocs_heap : ∀ (os : List Obj) (w : World), (os.foldl World.alloc w).heap = w.heap ++ os.toArray
  | [], w => by simp
  | o :: os, w => by
    rw [List.foldl_cons, allocs_heap os (w.alloc o)]
    show (w.heap.push o) ++ os.toArray = _
    simp
theorem allocs_get (w : World) (os : List Obj) (k : Nat) {o : Obj} (h : os[k]? = some o) : (os.foldl World.alloc w).heap[w.heap.size + k]? = some o := by
  rw [allocs_heap, Array.getElem?_append_right (by omega)]
  simpa using h
theorem allocs_below (w : World) : ∀ (os : List Obj), Below w.heap.size w (os.foldl World.alloc w) := by
  intro os
  have key : ∀ (os : List Obj) (w1 : World), Below w.heap.size w w1 → Below w.heap.size w (os.foldl World.alloc w1) := by
    intro os
    induction os with
    | nil => intro w1 h; exact h
    | cons o os ih => intro w1 h; exact ih _ (below_alloc h o)
  exact key os w (Below.refl _ _)
theorem add_blk (b j : Nat) : (⟨b, 0, none⟩ : Addr).add j = ⟨b, j, none⟩ := by
  unfold Addr.add
  by_cases h : j = 0 <;> simp [h]
theorem blk_C {α : Type} {enc : α → Value} (h1 : ∀ x, (enc x).oneCell' = true) {xs : List α} {W : World} {b : Nat} {T : TypeId} (hk : W.heap[b]? = some (.cells (xs.map enc).toArray T (0, 0))) (hx : xs.length ≤ 9223372036854775807) : (Kd.scalar enc h1).C W (some ⟨b, 0, none⟩) xs.length xs := by
  refine ⟨rfl, hx, fun _ => ⟨⟨b, 0, none⟩, rfl, fun j p hj => ⟨[enc p], rfl, rfl, fun i u hu => ?_⟩⟩⟩
  have h0 : i = 0 := by
    have := (List.getElem?_eq_some_iff.1 hu).1
    simp at this
    exact this
  subst h0
  simp at hu
  subst hu
  show W.cell? ((⟨b, 0, none⟩ : Addr).add (j * 1 + 0)) = _
  rw [Nat.mul_one, Nat.add_zero, add_blk]
  exact blk_cell hk j (by simp [hj]) (h1 p)
theorem blk_rules {w : World} {b : Nat} {l : List (Int × List Int)} (hm : l.length ≤ 1000) (h : ∀ j r, l[j]? = some r → w.cell? ⟨b, j * 2, none⟩ = some (.int .i64 r.1) ∧ ∃ A, w.cell? ⟨b, j * 2 + 1, none⟩ = some (.slice A r.2.length r.2.length) ∧ Kd.C (Kd.int .i64) w A r.2.length r.2) : KRule.C w (some ⟨b, 0, none⟩) l.length l := by
  refine ⟨rfl, by omega, fun _ => ⟨_, rfl, fun j r hj => ?_⟩⟩
  obtain ⟨h1, A, h2, h3⟩ := h j r hj
  refine ⟨[.int .i64 r.1, .slice A r.2.length r.2.length], rfl, ⟨[.int .i64 r.1], [.slice A r.2.length r.2.length], rfl, rfl, A, r.2.length, rfl, Nat.le_refl _, h3⟩, fun i u hu => ?_⟩
  rw [show KRule.sz = 2 from rfl, add_blk]
  match i, hu with
  | 0, hu => simp at hu; subst hu; exact h1
  | 1, hu => simp at hu; subst hu; exact h2
  | i + 2, hu => simp at hu
theorem blk_steps {w : World} {b : Nat} {l : List (Int × Int × Int)} (hm : l.length ≤ 1000) (h : ∀ j r, l[j]? = some r → w.cell? ⟨b, j * 3, none⟩ = some (.int .i64 r.1) ∧ w.cell? ⟨b, j * 3 + 1, none⟩ = some (.int .i64 r.2.1) ∧ w.cell? ⟨b, j * 3 + 2, none⟩ = some (.int .i64 r.2.2)) : KStep.C w (some ⟨b, 0, none⟩) l.length l := by
  refine ⟨rfl, by omega, fun _ => ⟨_, rfl, fun j r hj => ?_⟩⟩
  obtain ⟨h1, h2, h3⟩ := h j r hj
  refine ⟨[.int .i64 r.1, .int .i64 r.2.1, .int .i64 r.2.2], rfl, ⟨[.int .i64 r.1], [.int .i64 r.2.1, .int .i64 r.2.2], rfl, rfl, [.int .i64 r.2.1], [.int .i64 r.2.2], rfl, rfl, rfl⟩, fun i u hu => ?_⟩
  rw [show KStep.sz = 3 from rfl, add_blk]
  match i, hu with
  | 0, hu => simp at hu; subst hu; exact h1
  | 1, hu => simp at hu; subst hu; exact h2
  | 2, hu => simp at hu; subst hu; exact h3
  | i + 3, hu => simp at hu
end Go.Proofs.YtcjcffcbfkimdaaDoor.Hand
/- The walk of the law file's known (dovetaillaw18). -/
namespace Go.Proofs.YtcjcffcbfkimdaaDoor.Hand
open Go.RowKit Go.Proofs.YtcjcffcbfkimdaaDoorW.PrintWords Go.Proofs.YtcjcffcbfkimdaaDoorW.PrintMore Go.Proofs.YtcjcffcbfkimdaaDoor.Math

set_option maxHeartbeats 1000000 in
set_option maxRecDepth 20000 in
theorem lawKnown_calls (w : World) (A : Nat → Addr) (hE : Errs w A) (hp : Pow10 w) :
    Calls Tryd.prog 26 #[] w fun e w' => e = .returned (.bool true) ∧ Below w.heap.size w w' := by
  have HE := Lib.hid hE
  have HP := Lib.hid hp
  clear hE hp
  go_enter Tryd.func26, Tryd.ntmps26
  go_upto_region 3 with (fail)
  generalize hw1 : World.alloc _ _ = w1
  have hB1 : Below w.heap.size w w1 := by rw [← hw1]; exact allocs_below w [_, _, _, _, _, _, _, _]
  have b0 : w1.heap[w.heap.size + 0]? = some (.cells #[.string ⟨#[43]⟩, .string ⟨#[105]⟩] 9 (0, 0)) := by rw [← hw1]; exact allocs_get w [_, _, _, _, _, _, _, _] 0 rfl
  have b1 : w1.heap[w.heap.size + 1]? = some (.cells #[.string ⟨#[69]⟩, .string ⟨#[84]⟩] 9 (0, 0)) := by rw [← hw1]; exact allocs_get w [_, _, _, _, _, _, _, _] 1 rfl
  have b2 : w1.heap[w.heap.size + 2]? = some (.cells #[.int .i64 (-1), .int .i64 0, .int .i64 (-2)] 3 (0, 0)) := by rw [← hw1]; exact allocs_get w [_, _, _, _, _, _, _, _] 2 rfl
  have b3 : w1.heap[w.heap.size + 3]? = some (.cells #[.int .i64 (-2)] 3 (0, 0)) := by rw [← hw1]; exact allocs_get w [_, _, _, _, _, _, _, _] 3 rfl
  have b4 : w1.heap[w.heap.size + 4]? = some (.cells #[.int .i64 1] 3 (0, 0)) := by rw [← hw1]; exact allocs_get w [_, _, _, _, _, _, _, _] 4 rfl
  have b5 : w1.heap[w.heap.size + 5]? = some (.cells #[.int .i64 0, .slice (some ⟨w.heap.size + 2, 0, none⟩) 3 3, .int .i64 0, .slice (some ⟨w.heap.size + 3, 0, none⟩) 1 1, .int .i64 1, .slice (some ⟨w.heap.size + 4, 0, none⟩) 1 1] 80 (0, 0)) := by rw [← hw1]; exact allocs_get w [_, _, _, _, _, _, _, _] 5 rfl
  have b6 : w1.heap[w.heap.size + 6]? = some (.cells #[.slice (some ⟨w.heap.size, 0, none⟩) 2 2, .slice (some ⟨w.heap.size + 1, 0, none⟩) 2 2, .int .i64 0, .slice (some ⟨w.heap.size + 5, 0, none⟩) 3 3] 25 (0, 0)) := by rw [← hw1]; exact allocs_get w [_, _, _, _, _, _, _, _] 6 rfl
  have b7 : w1.heap[w.heap.size + 7]? = some (.cells #[.int .i64 0, .int .i64 0, .int .i64 3, .int .i64 1, .int .i64 0, .int .i64 1, .int .i64 2, .int .i64 0, .int .i64 1, .int .i64 2, .int .i64 2, .int .i64 3] 55 (0, 0)) := by rw [← hw1]; exact allocs_get w [_, _, _, _, _, _, _, _] 7 rfl
  have HG : Hid (GramAt w1 (.agg #[.slice (some ⟨w.heap.size, 0, none⟩) 2 2, .slice (some ⟨w.heap.size + 1, 0, none⟩) 2 2, .int .i64 0, .slice (some ⟨w.heap.size + 1 + 1 + 1 + 1 + 1, 0, none⟩) 3 3]) knG) := Lib.hid (by
    have d2 : Kd.C (Kd.int .i64) w1 (some ⟨w.heap.size + 2, 0, none⟩) 3 [-1, 0, -2] := blk_C (enc := Value.int .i64) (fun _ => rfl) b2 (by decide)
    have d3 : Kd.C (Kd.int .i64) w1 (some ⟨w.heap.size + 3, 0, none⟩) 1 [-2] := blk_C (enc := Value.int .i64) (fun _ => rfl) b3 (by decide)
    have d4 : Kd.C (Kd.int .i64) w1 (some ⟨w.heap.size + 4, 0, none⟩) 1 [1] := blk_C (enc := Value.int .i64) (fun _ => rfl) b4 (by decide)
    refine ⟨_, 2, _, 2, _, 3, rfl, by decide, by decide, by decide, blk_C (enc := Value.string) (fun _ => rfl) b0 (by decide), blk_C (enc := Value.string) (fun _ => rfl) b1 (by decide), ?_⟩
    refine blk_rules (l := knG.rules) (by decide) (fun j r hj => ?_)
    match j, hj with
    | 0, hj => obtain rfl : (0, [-1, 0, -2]) = r := Option.some.inj hj; exact ⟨blk_cell b5 0 rfl rfl, _, blk_cell b5 1 rfl rfl, d2⟩
    | 1, hj => obtain rfl : (0, [-2]) = r := Option.some.inj hj; exact ⟨blk_cell b5 2 rfl rfl, _, blk_cell b5 3 rfl rfl, d3⟩
    | 2, hj => obtain rfl : (1, [1]) = r := Option.some.inj hj; exact ⟨blk_cell b5 4 rfl rfl, _, blk_cell b5 5 rfl rfl, d4⟩
    | j + 3, hj => simp [knG] at hj)
  have HT : Hid (KStep.C w1 (some ⟨w.heap.size + 1 + 1 + 1 + 1 + 1 + 1 + 1, 0, none⟩) 4 knT) := Lib.hid (blk_steps (l := knT) (by decide) (fun j r hj => by
    match j, hj with
    | 0, hj => obtain rfl : (0, 0, 3) = r := Option.some.inj hj; exact ⟨blk_cell b7 0 rfl rfl, blk_cell b7 1 rfl rfl, blk_cell b7 2 rfl rfl⟩
    | 1, hj => obtain rfl : (1, 0, 1) = r := Option.some.inj hj; exact ⟨blk_cell b7 3 rfl rfl, blk_cell b7 4 rfl rfl, blk_cell b7 5 rfl rfl⟩
    | 2, hj => obtain rfl : (2, 0, 1) = r := Option.some.inj hj; exact ⟨blk_cell b7 6 rfl rfl, blk_cell b7 7 rfl rfl, blk_cell b7 8 rfl rfl⟩
    | 3, hj => obtain rfl : (2, 2, 3) = r := Option.some.inj hj; exact ⟨blk_cell b7 9 rfl rfl, blk_cell b7 10 rfl rfl, blk_cell b7 11 rfl rfl⟩
    | j + 4, hj => simp [knT] at hj))
  have HB1 := Lib.hid hB1
  have HK : Hid (w1.heap[w.heap.size + 1 + 1 + 1 + 1 + 1 + 1]? = some (.cells #[.slice (some ⟨w.heap.size, 0, none⟩) 2 2, .slice (some ⟨w.heap.size + 1, 0, none⟩) 2 2, .int .i64 0, .slice (some ⟨w.heap.size + 1 + 1 + 1 + 1 + 1, 0, none⟩) 3 3] 25 (0, 0))) := Lib.hid b6
  have HE1 := Lib.hid (HE.out.below hB1)
  have HP1 := Lib.hid (HP.out.below hB1)
  clear b0 b1 b2 b3 b4 b5 b6 b7 hw1 hB1
  obtain ⟨b5, h5⟩ : ∃ b, w.heap.size + 1 + 1 + 1 + 1 + 1 = b := ⟨_, rfl⟩
  rw [h5] at HG HT HK ⊢
  clear h5
  obtain ⟨c0, c1, c2, c3⟩ := gr_blk HK.out
  have HTx := Lib.hid (text18_calls _ knG (some ⟨b5 + 1 + 1, 0, none⟩) 4 knT w1 A HE1.out HG.out HT.out (by decide) HP1.out)
  have HGw := Lib.hid (fun (W : World) (hW : Below w1.heap.size w1 W) => grow_calls _ knG 0 (some ⟨W.heap.size, 0, none⟩) 4 [0, 1, 2, 2] (W.alloc (.cells #[.int .i64 0, .int .i64 1, .int .i64 2, .int .i64 2] 3)) A (HE1.out.below (below_alloc hW _)) (HG.out.below (below_alloc hW _)) (blk_C (enc := Value.int .i64) (xs := [0, 1, 2, 2]) (fun _ => rfl) (heap_alloc_new W _) (by decide)) (by decide))
  rw [kn_text, kn_S] at HTx
  unfold GrowP at HGw
  simp only [kn_grow, kn_growL] at HGw
  go_upto_region 5 with (first
    | (go_at_call 28; refine HTx.out.mono ?_; rintro e w2 ⟨u2, rfl, hu2, hb2⟩; obtain rfl : u2 = .nilIface := (by cases hu2; rfl); have HB2 := Lib.hid hb2; obtain ⟨d0, d1, d2, d3⟩ := gr_blk (blk_below HK.out hb2); clear hu2 hb2 c0 c1 c2 c3)
    | (go_at_call 11; refine (HGw.out w2 HB2.out).mono ?_; rintro e w3 ⟨v3, u3, rfl, hr3, hu3, hb3⟩; obtain rfl : u3 = .nilIface := (by cases hu3; rfl); obtain ⟨A3, k3, e3⟩ := Kd.R_slice hr3; rw [show knT.length = 4 from rfl] at e3; subst e3; have HA3 := Lib.hid (Kd.R_reads' hr3).2.2; have HB3 := Lib.hid (below_next HB2.out (below_next (below_alloc (Below.refl _ _) _) hb3)); obtain ⟨c0, c1, c2, c3⟩ := gr_blk (blk_below HK.out HB3.out); clear hr3 hu3 hb3 d0 d1 d2 d3))
  have HFour : Hid (∀ W, Below w1.heap.size w1 W → W.cell? ⟨b5 + 1, 0, none⟩ = some (.slice (some ⟨w.heap.size, 0, none⟩) 2 2) ∧ W.cell? ⟨b5 + 1, 1, none⟩ = some (.slice (some ⟨w.heap.size + 1, 0, none⟩) 2 2) ∧ W.cell? ⟨b5 + 1, 2, none⟩ = some (.int .i64 0) ∧ W.cell? ⟨b5 + 1, 3, none⟩ = some (.slice (some ⟨b5, 0, none⟩) 3 3) ∧ Aside0 (Below w1.heap.size w1 W)) := Lib.hid (fun W hW => by
    obtain ⟨a0, a1, a2, a3⟩ := gr_blk (blk_below HK.out hW)
    exact ⟨a0, a1, a2, a3, ⟨hW⟩⟩)
  have HDr : Hid (Below w1.heap.size w1 w3.drew) := Lib.hid (HB3.out.trans (pw_below_drewN (Below.refl _ _) 1))
  have HD4 : Hid (Below w1.heap.size w1 (w3.alloc (.cells #[.int .i64 1, .int .i64 0, .int .i64 1] 3)).drew) := Lib.hid ((below_alloc HB3.out _).trans (pw_below_drewN (Below.refl _ _) 1))
  have HC1 := Lib.hid (check18_calls _ knG (some ⟨w3.heap.size, 0, none⟩) 3 [1, 0, 1] (some ⟨b5 + 1 + 1, 0, none⟩) 4 knT (w3.alloc (.cells #[.int .i64 1, .int .i64 0, .int .i64 1] 3)).drew A (HE1.out.below HD4.out) (HG.out.below HD4.out) (blk_C (enc := Value.int .i64) (xs := [1, 0, 1]) (fun _ => rfl) (show (w3.alloc (.cells #[.int .i64 1, .int .i64 0, .int .i64 1] 3)).heap[w3.heap.size]? = _ from heap_alloc_new w3 _) (by decide)) (Kd.C_below HT.out HD4.out) (by decide))
  unfold CheckP at HC1
  rw [kn_check] at HC1
  have HKS : Hid (∀ W, Below w3.heap.size w3 W → Below w1.heap.size w1 W → Calls Tryd.prog 14 #[.slice A3 4 k3, .slice (some ⟨b5 + 1 + 1, 0, none⟩) 4 4] W fun e w' => e = .returned (.bool true) ∧ Below w1.heap.size w1 w') := Lib.hid (fun W h3 h1 => (ksteps_calls A3 (some ⟨b5 + 1 + 1, 0, none⟩) k3 4 knT knT W (Kd.C_below HA3.out h3) (Kd.C_below HT.out h1)).mono (by
    rw [decide_eq_true (show knT = knT from rfl)]
    rintro e w' ⟨rfl, n, rfl⟩
    exact ⟨rfl, pw_below_drewN h1 n⟩))
  have HT3 : Hid (∀ W, Below w1.heap.size w1 W → KStep.C W (some ⟨b5 + 1 + 1, 9, none⟩) 1 [(2, 2, 3)]) := Lib.hid (fun W h1 => by
    have := Kd.C_drop (c := 5) (m := 3) (Kd.C_below HT.out h1) (by decide) (by decide)
    exact this)
  have HC2 : Hid (∀ (W : World) (b : Nat), Below w1.heap.size w1 W → W.heap[b]? = some (.cells #[.int .i64 1] 3 (0, 0)) → Calls Tryd.prog 19 #[.agg #[.slice (some ⟨w.heap.size, 0, none⟩) 2 2, .slice (some ⟨w.heap.size + 1, 0, none⟩) 2 2, .int .i64 0, .slice (some ⟨b5, 0, none⟩) 3 3], .slice (some ⟨b, 0, none⟩) 1 1, .slice (some ⟨b5 + 1 + 1, 9, none⟩) 1 1] W fun e w' => ∃ u, e = .returned u ∧ ErrV w' A u 11 (-1) ∧ Below W.heap.size W w') := Lib.hid (fun W b h1 hb => by
    have := check18_calls _ knG (some ⟨b, 0, none⟩) 1 [1] (some ⟨b5 + 1 + 1, 9, none⟩) 1 [(2, 2, 3)] W A (HE1.out.below h1) (HG.out.below h1) (blk_C (enc := Value.int .i64) (xs := [1]) (fun _ => rfl) hb (by decide)) (HT3.out W h1) (by decide)
    unfold CheckP at this
    rw [kn_bad] at this
    exact this)
  go_region_held3 (fun w' => w'.cell? ⟨b5 + 1, 0, none⟩ = some (.slice (some ⟨w.heap.size, 0, none⟩) 2 2) ∧ w'.cell? ⟨b5 + 1, 1, none⟩ = some (.slice (some ⟨w.heap.size + 1, 0, none⟩) 2 2) ∧ w'.cell? ⟨b5 + 1, 2, none⟩ = some (.int .i64 0) ∧ w'.cell? ⟨b5 + 1, 3, none⟩ = some (.slice (some ⟨b5, 0, none⟩) 3 3) ∧ Aside0 (Below w1.heap.size w1 w'))
    (first
      | exact HFour.out _ HDr.out
      | exact HFour.out _ (below_alloc HDr.out _)
      | exact HFour.out _ HP4.out
      | exact HFour.out _ HP5.out
      | exact HFour.out _ (below_alloc HP5.out _)
      | exact HFour.out _ HP6.out
      | exact HFour.out _ HP7.out)
    (first
      | (go_at_call 27; refine (kind_calls (HE1.out.below HP6.out) HU6.out).mono ?_; rintro e w7 ⟨rfl, hb7⟩; have HP7 := Lib.hid (below_next HP6.out hb7); clear hb7)
      | (go_at_call 19; refine (HC2.out (w5.alloc (.cells #[.int .i64 1] 3)) w5.heap.size (below_alloc HP5.out _) (heap_alloc_new w5 _)).mono ?_; rintro e w6 ⟨u6, rfl, hu6, hb6⟩; have HU6 := Lib.hid hu6; have HP6 := Lib.hid (below_next (below_alloc HP5.out _) hb6); clear hu6 hb6)
      | (go_at_call 19; refine HC1.out.mono ?_; rintro e w4 ⟨u4, rfl, hu4, hb4⟩; obtain rfl : u4 = .nilIface := (by cases hu4; rfl); have HP4 := Lib.hid (below_next HD4.out hb4); have HQ4 : Hid (Below w3.heap.size w3 w4) := Lib.hid (below_next ((below_alloc (Below.refl w3.heap.size w3) _).trans (pw_below_drewN (Below.refl _ _) 1)) hb4); clear hu4 hb4)
      | (go_at_call 14; (with_reducible refine (HKS.out w4 HQ4.out HP4.out).mono ?_); rintro e w5 ⟨rfl, hb5⟩; have HP5 := Lib.hid hb5; clear hb5))
  go_wp2
  go_ret
  exact ⟨rfl, below_next HB1.out HP7.out⟩
end Go.Proofs.YtcjcffcbfkimdaaDoor.Hand
/- Plain: the text of a tree, byte by byte (the document's scan), and a number's digits (the program's reader). -/
namespace Go.Proofs.YtcjcffcbfkimdaaDoor.Math

/-- The document's state ahead of a byte. -/
structure SS where
  before : Nat
  opn : Nat
  digits : Nat
  n : Nat
  rule : Bool
  rules : List Int
def isDg (c : Nat) : Bool := decide (48 ≤ c) && decide (c ≤ 57)
def dgOk (s : SS) (c : Nat) : Bool := isDg c && (s.before == 1 || s.before == 4 || (s.before == 2 && decide (s.digits < 3) && decide (0 < s.n)))
def putN (b : Bool) (d : Nat) (l : List Int) (n : Nat) : List Int := if b then (if 1 < d then l.dropLast else l) ++ [(n : Int)] else l
def stepS (s : SS) (c : Nat) : Option SS :=
  if s.before = 5 ∧ s.opn = 0 then none
  else if c = 40 ∧ (s.before = 0 ∨ s.before = 3) then some ⟨1, s.opn + 1, 0, 0, true, s.rules⟩
  else if c = 46 ∧ s.before = 3 then some ⟨4, s.opn, 0, 0, false, s.rules⟩
  else if dgOk s c = true then some ⟨2, s.opn, s.digits + 1, 10 * s.n + (c - 48), s.rule, putN s.rule (s.digits + 1) s.rules (10 * s.n + (c - 48))⟩
  else if c = 32 ∧ (s.before = 2 ∨ s.before = 5) then some ⟨3, s.opn, s.digits, s.n, s.rule, s.rules⟩
  else if c = 41 ∧ (s.before = 2 ∨ s.before = 5) then some ⟨5, s.opn - 1, s.digits, s.n, s.rule, s.rules⟩
  else none
/-- The rules of a text (and -1), or the place where it goes wrong. -/
def scanS : List UInt8 → Nat → SS → List Int × Int
  | [], i, s => if s.before ≠ 5 ∨ 0 < s.opn then ([], (i : Int)) else (s.rules, -1)
  | c :: l, i, s => match stepS s c.toNat with
    | none => ([], (i : Int))
    | some s' => scanS l (i + 1) s'
def ss0 : SS := ⟨0, 0, 0, 0, false, []⟩
theorem scanS_no {c : UInt8} {l : List UInt8} {i : Nat} {s : SS} (h : stepS s c.toNat = none) : scanS (c :: l) i s = ([], (i : Int)) := by rw [scanS, h]
theorem scanS_yes {c : UInt8} {l : List UInt8} {i : Nat} {s s' : SS} (h : stepS s c.toNat = some s') : scanS (c :: l) i s = scanS l (i + 1) s' := by rw [scanS, h]
theorem dgOk_no {s : SS} {c : Nat} (h : isDg c = false) : dgOk s c = false := by unfold dgOk; rw [h]; rfl
/-- The next byte; 0: there is none. -/
def nxt (l : List UInt8) : Nat := match l with | [] => 0 | c :: _ => c.toNat
/-- Does the number go on? -/
def more (k n : Nat) (c : Nat) : Bool := isDg c && decide (k < 3) && !(decide (0 < k) && decide (n = 0))
/-- A number's digits as the program reads them: the number, how many bytes. -/
def numL : Nat → Nat → List UInt8 → Nat × Nat
  | k, n, [] => (n, k)
  | k, n, c :: l => if more k n c.toNat = true then numL (k + 1) (10 * n + (c.toNat - 48)) l else (n, k)
theorem numL_ge : ∀ (l : List UInt8) (k n : Nat), k ≤ (numL k n l).2 ∧ (numL k n l).2 ≤ k + l.length ∧ (k ≤ 3 → (numL k n l).2 ≤ 3)
  | [], k, n => by simp [numL]
  | c :: l, k, n => by
    rw [numL]
    split
    · rename_i h
      obtain ⟨h1, h2, h3⟩ := numL_ge l (k + 1) (10 * n + (c.toNat - 48))
      have hk : k < 3 := by unfold more at h; simp only [Bool.and_eq_true, decide_eq_true_iff] at h; exact h.1.2
      exact ⟨by omega, by simp only [List.length_cons]; omega, fun _ => h3 (by omega)⟩
    · exact ⟨Nat.le_refl _, by simp, id⟩
/-- Where a number ends, no digit goes on. -/
theorem numL_end : ∀ (l : List UInt8) (k n : Nat), more (numL k n l).2 (numL k n l).1 (nxt (l.drop ((numL k n l).2 - k))) = false
  | [], k, n => by simp [numL, nxt, more, isDg]
  | c :: l, k, n => by
    rw [numL]
    split
    · have h := numL_end l (k + 1) (10 * n + (c.toNat - 48))
      obtain ⟨h1, -, -⟩ := numL_ge l (k + 1) (10 * n + (c.toNat - 48))
      rw [show (numL (k + 1) (10 * n + (c.toNat - 48)) l).2 - k = (numL (k + 1) (10 * n + (c.toNat - 48)) l).2 - (k + 1) + 1 by omega, List.drop_succ_cons]
      exact h
    · rename_i h
      simp only [Nat.sub_self, List.drop_zero, nxt]
      simpa using h
theorem numL_small : ∀ (l : List UInt8) (k n : Nat), n < 10 ^ k → k ≤ 3 → (numL k n l).1 < 10 ^ (numL k n l).2
  | [], k, n, h, _ => by simpa [numL] using h
  | c :: l, k, n, h, hk => by
    rw [numL]
    split
    · rename_i hm
      unfold more isDg at hm
      simp only [Bool.and_eq_true, decide_eq_true_iff] at hm
      refine numL_small l (k + 1) _ ?_ (by omega)
      rw [Nat.pow_succ]
      omega
    · exact h
theorem numL_lt (l : List UInt8) : (numL 0 0 l).1 < 1000 := by
  have h := numL_small l 0 0 (by decide) (by decide)
  have h2 := (numL_ge l 0 0).2.2 (by omega)
  have : 10 ^ (numL 0 0 l).2 ≤ 10 ^ 3 := Nat.pow_le_pow_right (by decide) h2
  omega
/-- The state behind some digits of a number. -/
def ssN (o : Nat) (b : Bool) (R : List Int) (k n : Nat) : SS := ⟨2, o, k, n, b, if b then R ++ [(n : Int)] else R⟩
theorem dgOk_two {o : Nat} {b : Bool} {R : List Int} {k n c : Nat} (hk : 0 < k) : dgOk (ssN o b R k n) c = more k n c := by
  unfold dgOk more ssN
  have h0 : (0 < n) = ¬ (n = 0) := by simp; omega
  by_cases h1 : isDg c = true <;> by_cases h2 : k < 3 <;> by_cases h3 : n = 0 <;> simp_all
theorem step_two {o : Nat} {b : Bool} {R : List Int} {k n c : Nat} (hk : 0 < k) (h : more k n c = true) : stepS (ssN o b R k n) c = some (ssN o b R (k + 1) (10 * n + (c - 48))) := by
  have hd : isDg c = true := by unfold more at h; simp only [Bool.and_eq_true] at h; exact h.1.1
  unfold isDg at hd
  simp only [Bool.and_eq_true, decide_eq_true_iff] at hd
  unfold stepS
  rw [if_neg (by simp [ssN]), if_neg (by omega), if_neg (by omega), if_pos (by rw [dgOk_two hk]; exact h)]
  unfold ssN putN
  rw [if_pos (show 1 < k + 1 by omega)]
  cases b <;> simp
theorem scan_digits {o : Nat} {b : Bool} {R : List Int} : ∀ (l : List UInt8) (i k n : Nat), 0 < k → scanS l i (ssN o b R k n) = scanS (l.drop ((numL k n l).2 - k)) (i + ((numL k n l).2 - k)) (ssN o b R (numL k n l).2 (numL k n l).1)
  | [], i, k, n, _ => by simp [numL]
  | c :: l, i, k, n, hk => by
    by_cases h : more k n c.toNat = true
    · rw [scanS_yes (step_two hk h), scan_digits l (i + 1) (k + 1) _ (by omega)]
      obtain ⟨h1, -, -⟩ := numL_ge l (k + 1) (10 * n + (c.toNat - 48))
      have e : numL k n (c :: l) = numL (k + 1) (10 * n + (c.toNat - 48)) l := by rw [numL, if_pos h]
      rw [e, show (numL (k + 1) (10 * n + (c.toNat - 48)) l).2 - k = (numL (k + 1) (10 * n + (c.toNat - 48)) l).2 - (k + 1) + 1 by omega, List.drop_succ_cons]
      congr 1
      omega
    · have e : numL k n (c :: l) = (n, k) := by rw [numL, if_neg h]
      rw [e]
      simp
theorem step_first {s : SS} {c : Nat} (hb : s.before = 1 ∨ s.before = 4) (hd : isDg c = true) (h0 : s.digits = 0) (hn : s.n = 0) : stepS s c = some (ssN s.opn s.rule s.rules 1 (c - 48)) := by
  have hd' := hd
  unfold isDg at hd'
  simp only [Bool.and_eq_true, decide_eq_true_iff] at hd'
  have h5 : dgOk s c = true := by
    unfold dgOk
    rw [hd]
    rcases hb with h | h <;> rw [h] <;> simp
  unfold stepS
  rw [if_neg (by omega), if_neg (by omega), if_neg (by omega), if_pos h5, h0, hn]
  unfold ssN putN
  simp
theorem step_none {s : SS} {c : Nat} (hb : s.before = 1 ∨ s.before = 4) (hd : isDg c = false) : stepS s c = none := by
  have h5 : dgOk s c = false := dgOk_no hd
  unfold stepS
  rw [if_neg (by omega), if_neg (by omega), if_neg (by omega), if_neg (by rw [h5]; simp), if_neg (by omega), if_neg (by omega)]
/-- A number as a whole. -/
theorem scan_number {s : SS} (l : List UInt8) (i : Nat) (hb : s.before = 1 ∨ s.before = 4) (h0 : s.digits = 0) (hn : s.n = 0) :
    ((numL 0 0 l).2 = 0 → scanS l i s = ([], (i : Int))) ∧
    (0 < (numL 0 0 l).2 → scanS l i s = scanS (l.drop (numL 0 0 l).2) (i + (numL 0 0 l).2) (ssN s.opn s.rule s.rules (numL 0 0 l).2 (numL 0 0 l).1)) := by
  cases l with
  | nil =>
    refine ⟨fun _ => ?_, fun h => by simp [numL] at h⟩
    rw [scanS, if_pos]
    omega
  | cons c l =>
    by_cases h : isDg c.toNat = true
    · have hm : more 0 0 c.toNat = true := by unfold more; rw [h]; simp
      have e : numL 0 0 (c :: l) = numL 1 (10 * 0 + (c.toNat - 48)) l := by rw [numL, if_pos hm]
      simp only [Nat.mul_zero, Nat.zero_add] at e
      obtain ⟨h1, -, -⟩ := numL_ge l 1 (c.toNat - 48)
      rw [e]
      refine ⟨fun h => by omega, fun _ => ?_⟩
      rw [scanS_yes (step_first hb h h0 hn), scan_digits l (i + 1) 1 _ (by omega)]
      rw [show (numL 1 (c.toNat - 48) l).2 = (numL 1 (c.toNat - 48) l).2 - 1 + 1 by omega, List.drop_succ_cons]
      congr 1
      omega
    · have hf : isDg c.toNat = false := by simpa using h
      have hm : more 0 0 c.toNat = false := by unfold more; rw [hf]; rfl
      have e : numL 0 0 (c :: l) = (0, 0) := by rw [numL, if_neg (by rw [hm]; simp)]
      rw [e]
      exact ⟨fun _ => scanS_no (step_none hb hf), fun h => absurd h (by simp)⟩
/-- The program's states: what comes next, and that the scan has come as far. -/
inductive Md where
  | opens | within | done
  deriving DecidableEq
structure Scn (T : List UInt8) (m : Md) (at_ o : Nat) (R : List Int) : Prop where
  le : at_ ≤ T.length
  st : ∃ s : SS, s.opn = o ∧ s.rules = R ∧ scanS T 0 ss0 = scanS (T.drop at_) at_ s ∧
    (m = .opens → s.before = 0 ∨ s.before = 3 ∧ nxt (T.drop at_) ≠ 46) ∧
    (m = .within → 0 < o ∧ (s.before = 5 ∨ s.before = 2 ∧ dgOk s (nxt (T.drop at_)) = false)) ∧
    (m = .done → s.before = 5 ∧ o = 0)
theorem scn_start (T : List UInt8) : Scn T .opens 0 0 [] := ⟨Nat.zero_le _, ss0, rfl, rfl, by simp, fun _ => .inl rfl, fun h => (by cases h), fun h => (by cases h)⟩
theorem drop_nxt {T : List UInt8} {i : Nat} (h : i < T.length) : T.drop i = T[i] :: T.drop (i + 1) ∧ nxt (T.drop i) = T[i].toNat := by
  rw [List.drop_eq_getElem_cons h]
  exact ⟨rfl, rfl⟩
theorem nxt_pos {T : List UInt8} {i : Nat} (h : nxt (T.drop i) ≠ 0) : i < T.length := by
  by_cases hl : i < T.length
  · exact hl
  · rw [List.drop_eq_nil_of_le (by omega)] at h
    exact absurd rfl h
theorem numL_stop {k n : Nat} {l : List UInt8} (h : more k n (nxt l) = false) : numL k n l = (n, k) := by
  cases l with
  | nil => rfl
  | cons c l => rw [numL, if_neg (by simpa [nxt] using h)]
theorem numL_go {k n i : Nat} {T : List UInt8} (h : more k n (nxt (T.drop i)) = true) : i < T.length ∧ numL k n (T.drop i) = numL (k + 1) (10 * n + (nxt (T.drop i) - 48)) (T.drop (i + 1)) := by
  have hl : i < T.length := by
    refine nxt_pos (fun e => ?_)
    rw [e] at h
    simp [more, isDg] at h
  obtain ⟨e1, e2⟩ := drop_nxt hl
  rw [e2] at h
  refine ⟨hl, ?_⟩
  rw [e2, e1, numL, if_pos h]
/-- opens: no bracket. -/
theorem Scn.opens_no {T : List UInt8} {i o : Nat} {R : List Int} (h : Scn T .opens i o R) (hc : nxt (T.drop i) ≠ 40) : scanS T 0 ss0 = ([], (i : Int)) := by
  obtain ⟨hle, s, rfl, rfl, h1, h2, -, -⟩ := h
  rw [h1]
  have hb := h2 rfl
  by_cases hl : i < T.length
  · obtain ⟨e1, e2⟩ := drop_nxt hl
    rw [e2] at hc hb
    rw [e1]
    refine scanS_no ?_
    have hd : dgOk s T[i].toNat = false := by
      unfold dgOk
      rcases hb with h | ⟨h, -⟩ <;> rw [h] <;> simp
    unfold stepS
    rw [if_neg (by omega), if_neg (by omega), if_neg (by omega), if_neg (by rw [hd]; simp), if_neg (by omega), if_neg (by omega)]
  · rw [List.drop_eq_nil_of_le (by omega), scanS, if_pos]
    omega
/-- opens: a bracket and its rule. -/
theorem Scn.opens_yes {T : List UInt8} {i o : Nat} {R : List Int} (h : Scn T .opens i o R) (hc : nxt (T.drop i) = 40) :
    i < T.length ∧ ((numL 0 0 (T.drop (i + 1))).2 = 0 → scanS T 0 ss0 = ([], ((i + 1 : Nat) : Int))) ∧
    (0 < (numL 0 0 (T.drop (i + 1))).2 → Scn T .within (i + 1 + (numL 0 0 (T.drop (i + 1))).2) (o + 1) (R ++ [((numL 0 0 (T.drop (i + 1))).1 : Int)])) := by
  obtain ⟨hle, s, rfl, rfl, h1, h2, -, -⟩ := h
  have hb := h2 rfl
  have hl : i < T.length := nxt_pos (by omega)
  obtain ⟨e1, e2⟩ := drop_nxt hl
  rw [e2] at hc hb
  have hs : stepS s T[i].toNat = some ⟨1, s.opn + 1, 0, 0, true, s.rules⟩ := by
    unfold stepS
    rw [if_neg (by omega), if_pos (by omega)]
  rw [e1, scanS_yes hs] at h1
  obtain ⟨n1, n2⟩ := scan_number (s := ⟨1, s.opn + 1, 0, 0, true, s.rules⟩) (T.drop (i + 1)) (i + 1) (.inl rfl) rfl rfl
  refine ⟨hl, fun hz => by rw [h1, n1 hz], fun hp => ?_⟩
  obtain ⟨g1, g2, g3⟩ := numL_ge (T.drop (i + 1)) 0 0
  rw [List.length_drop] at g2
  refine ⟨by omega, ssN (s.opn + 1) true s.rules (numL 0 0 (T.drop (i + 1))).2 (numL 0 0 (T.drop (i + 1))).1, rfl, rfl, ?_, fun h => (by cases h), fun _ => ⟨by omega, .inr ⟨rfl, ?_⟩⟩, fun h => (by cases h)⟩
  · rw [h1, n2 hp, List.drop_drop]
  · rw [dgOk_two hp]
    have := numL_end (T.drop (i + 1)) 0 0
    rw [Nat.sub_zero, List.drop_drop] at this
    exact this
theorem Scn.within_no {T : List UInt8} {i o : Nat} {R : List Int} (h : Scn T .within i o R) (h1 : nxt (T.drop i) ≠ 41) (h2 : nxt (T.drop i) ≠ 32) : scanS T 0 ss0 = ([], (i : Int)) := by
  obtain ⟨hle, s, rfl, rfl, e0, -, hw, -⟩ := h
  obtain ⟨ho, hb⟩ := hw rfl
  rw [e0]
  by_cases hl : i < T.length
  · obtain ⟨e1, e2⟩ := drop_nxt hl
    rw [e2] at h1 h2 hb
    rw [e1]
    refine scanS_no ?_
    have hd : dgOk s T[i].toNat = false := by
      rcases hb with h | ⟨h, hd⟩
      · unfold dgOk; rw [h]; simp
      · exact hd
    unfold stepS
    rw [if_neg (by omega), if_neg (by omega), if_neg (by omega), if_neg (by rw [hd]; simp), if_neg (by omega), if_neg (by omega)]
  · rw [List.drop_eq_nil_of_le (by omega), scanS, if_pos]
    omega
theorem Scn.within_close {T : List UInt8} {i o : Nat} {R : List Int} (h : Scn T .within i o R) (h1 : nxt (T.drop i) = 41) :
    i < T.length ∧ 0 < o ∧ (o = 1 → Scn T .done (i + 1) 0 R) ∧ (o ≠ 1 → Scn T .within (i + 1) (o - 1) R) := by
  obtain ⟨hle, s, rfl, rfl, e0, -, hw, -⟩ := h
  obtain ⟨ho, hb⟩ := hw rfl
  have hl : i < T.length := nxt_pos (by omega)
  obtain ⟨e1, e2⟩ := drop_nxt hl
  rw [e2] at h1 hb
  have hd : dgOk s T[i].toNat = false := dgOk_no (by rw [h1]; decide)
  have hs : stepS s T[i].toNat = some ⟨5, s.opn - 1, s.digits, s.n, s.rule, s.rules⟩ := by
    unfold stepS
    rw [if_neg (by omega), if_neg (by omega), if_neg (by omega), if_neg (by rw [hd]; simp), if_neg (by omega), if_pos (by omega)]
  rw [e1, scanS_yes hs] at e0
  exact ⟨hl, ho, fun h => ⟨by omega, ⟨5, s.opn - 1, s.digits, s.n, s.rule, s.rules⟩, by show s.opn - 1 = 0; omega, rfl, e0, fun h => (by cases h), fun h => (by cases h), fun _ => ⟨rfl, rfl⟩⟩,
    fun h => ⟨by omega, ⟨5, s.opn - 1, s.digits, s.n, s.rule, s.rules⟩, rfl, rfl, e0, fun h => (by cases h), fun _ => ⟨by omega, .inl rfl⟩, fun h => (by cases h)⟩⟩
theorem Scn.within_blank {T : List UInt8} {i o : Nat} {R : List Int} (h : Scn T .within i o R) (h1 : nxt (T.drop i) = 32) :
    i < T.length ∧ (nxt (T.drop (i + 1)) ≠ 46 → Scn T .opens (i + 1) o R) ∧
    (nxt (T.drop (i + 1)) = 46 → i + 1 < T.length ∧ ((numL 0 0 (T.drop (i + 2))).2 = 0 → scanS T 0 ss0 = ([], ((i + 2 : Nat) : Int))) ∧
      (0 < (numL 0 0 (T.drop (i + 2))).2 → Scn T .within (i + 2 + (numL 0 0 (T.drop (i + 2))).2) o R)) := by
  obtain ⟨hle, s, rfl, rfl, e0, -, hw, -⟩ := h
  obtain ⟨ho, hb⟩ := hw rfl
  have hl : i < T.length := nxt_pos (by omega)
  obtain ⟨e1, e2⟩ := drop_nxt hl
  rw [e2] at h1 hb
  have hd : dgOk s T[i].toNat = false := dgOk_no (by rw [h1]; decide)
  have hs : stepS s T[i].toNat = some ⟨3, s.opn, s.digits, s.n, s.rule, s.rules⟩ := by
    unfold stepS
    rw [if_neg (by omega), if_neg (by omega), if_neg (by omega), if_neg (by rw [hd]; simp), if_pos (by omega)]
  rw [e1, scanS_yes hs] at e0
  refine ⟨hl, fun h => ⟨by omega, ⟨3, s.opn, s.digits, s.n, s.rule, s.rules⟩, rfl, rfl, e0, fun _ => .inr ⟨rfl, h⟩, fun h => (by cases h), fun h => (by cases h)⟩, fun h46 => ?_⟩
  have hl2 : i + 1 < T.length := nxt_pos (by omega)
  obtain ⟨f1, f2⟩ := drop_nxt hl2
  rw [f2] at h46
  have hs2 : stepS ⟨3, s.opn, s.digits, s.n, s.rule, s.rules⟩ T[i + 1].toNat = some ⟨4, s.opn, 0, 0, false, s.rules⟩ := by
    unfold stepS
    rw [if_neg (by simp), if_neg (by omega), if_pos ⟨h46, rfl⟩]
  rw [f1, scanS_yes hs2] at e0
  obtain ⟨n1, n2⟩ := scan_number (s := ⟨4, s.opn, 0, 0, false, s.rules⟩) (T.drop (i + 2)) (i + 2) (.inr rfl) rfl rfl
  refine ⟨hl2, fun hz => by rw [e0]; exact n1 hz, fun hp => ?_⟩
  obtain ⟨g1, g2, g3⟩ := numL_ge (T.drop (i + 2)) 0 0
  rw [List.length_drop] at g2
  refine ⟨by omega, ssN s.opn false s.rules (numL 0 0 (T.drop (i + 2))).2 (numL 0 0 (T.drop (i + 2))).1, rfl, rfl, ?_, fun h => (by cases h), fun _ => ⟨ho, .inr ⟨rfl, ?_⟩⟩, fun h => (by cases h)⟩
  · rw [e0]
    have := n2 hp
    rw [List.drop_drop] at this
    exact this
  · rw [dgOk_two hp]
    have := numL_end (T.drop (i + 2)) 0 0
    rw [Nat.sub_zero, List.drop_drop] at this
    exact this
theorem Scn.done_end {T : List UInt8} {i o : Nat} {R : List Int} (h : Scn T .done i o R) : (i < T.length → scanS T 0 ss0 = ([], (i : Int))) ∧ (i = T.length → scanS T 0 ss0 = (R, -1)) := by
  obtain ⟨hle, s, rfl, rfl, e0, -, -, hd⟩ := h
  obtain ⟨hb, ho⟩ := hd rfl
  rw [e0]
  refine ⟨fun hl => ?_, fun hl => ?_⟩
  · obtain ⟨e1, e2⟩ := drop_nxt hl
    rw [e1]
    exact scanS_no (by unfold stepS; rw [if_pos ⟨hb, ho⟩])
  · rw [List.drop_eq_nil_of_le (by omega), scanS, if_neg (by omega)]
/-- How many rules a text has at most, and how great they are. -/
theorem step_rules {s s' : SS} {c : Nat} (h : stepS s c = some s') (_hd : s.before = 2 → s.rule = true → 0 < s.rules.length) : s'.rules.length ≤ s.rules.length + 1 ∧ (s'.before = 2 → s'.rule = true → 0 < s'.rules.length) := by
  unfold stepS at h
  split at h
  · cases h
  · split at h
    · simp only [Option.some.injEq] at h
      subst h
      exact ⟨by simp, fun h => by simp at h⟩
    · split at h
      · simp only [Option.some.injEq] at h
        subst h
        exact ⟨by simp, fun h => by simp at h⟩
      · split at h
        · simp only [Option.some.injEq] at h
          subst h
          unfold putN
          refine ⟨?_, fun _ hr => ?_⟩
          · simp only
            split
            · split <;> simp <;> omega
            · omega
          · simp only at hr ⊢
            rw [if_pos hr]
            simp
        · split at h
          · simp only [Option.some.injEq] at h
            subst h
            exact ⟨by simp, fun h => by simp at h⟩
          · split at h
            · simp only [Option.some.injEq] at h
              subst h
              exact ⟨by simp, fun h => by simp at h⟩
            · cases h
theorem scan_len : ∀ (l : List UInt8) (i : Nat) (s : SS), (s.before = 2 → s.rule = true → 0 < s.rules.length) → (scanS l i s).1.length ≤ s.rules.length + l.length
  | [], i, s, _ => by
    rw [scanS]
    split <;> simp
  | c :: l, i, s, hs => by
    rw [scanS]
    cases h : stepS s c.toNat with
    | none => simp
    | some s' =>
      obtain ⟨h1, h2⟩ := step_rules h hs
      have := scan_len l (i + 1) s' h2
      simp only [List.length_cons]
      omega
end Go.Proofs.YtcjcffcbfkimdaaDoor.Math
/- The reader's memory (deriv.Read), and contracts of its methods. -/
namespace Go.Proofs.YtcjcffcbfkimdaaDoor.Hand
open Go.RowKit Go.Proofs.YtcjcffcbfkimdaaDoorW.PrintWords Go.Proofs.YtcjcffcbfkimdaaDoorW.PrintMore Go.Proofs.YtcjcffcbfkimdaaDoor.Math

/-- A text's bytes. -/
def tl (T : ByteArray) : List UInt8 := T.data.toList
theorem tl_length (T : ByteArray) : (tl T).length = T.size := Array.length_toList
/-- The reader's block: the text, the next byte's place, how many brackets are open, the rules, whether a number was too great. -/
structure RdAt (w0 w : World) (b : Nat) (T : ByteArray) (i o : Nat) (v : Value) (R : List Int) (gt : Bool) : Prop where
  blk : w.heap[b]? = some (.cells #[.string T, .int .i64 (i : Int), .int .i64 (o : Int), v, .bool gt] 96 (0, 0))
  rl : (Kd.int .i64).R 3 w w0.heap.size (fun k => k ≠ b) v R
  bel : Below w0.heap.size w0 w
  hb : w0.heap.size ≤ b
section
variable {w0 w w1 : World} {b i o : Nat} {T : ByteArray} {v v1 : Value} {R R1 : List Int} {gt : Bool}
theorem RdAt.lt (h : RdAt w0 w b T i o v R gt) : b < w.heap.size := (Array.getElem?_eq_some_iff.1 h.blk).1
theorem RdAt.c0 (h : RdAt w0 w b T i o v R gt) : w.cell? ⟨b, 0, none⟩ = some (.string T) := blk_cell h.blk 0 rfl rfl
theorem RdAt.c1 (h : RdAt w0 w b T i o v R gt) : w.cell? ⟨b, 1, none⟩ = some (.int .i64 (i : Int)) := blk_cell h.blk 1 rfl rfl
theorem RdAt.c2 (h : RdAt w0 w b T i o v R gt) : w.cell? ⟨b, 2, none⟩ = some (.int .i64 (o : Int)) := blk_cell h.blk 2 rfl rfl
theorem RdAt.c3 (h : RdAt w0 w b T i o v R gt) : w.cell? ⟨b, 3, none⟩ = some v := blk_cell h.blk 3 rfl (by obtain ⟨A, c, e⟩ := Kd.R_slice h.rl; rw [e]; rfl)
theorem RdAt.c4 (h : RdAt w0 w b T i o v R gt) : w.cell? ⟨b, 4, none⟩ = some (.bool gt) := blk_cell h.blk 4 rfl rfl
theorem RdAt.fr (h : RdAt w0 w b T i o v R gt) (k : Nat) : w.frozen? ⟨b, k, none⟩ = false := blk_free h.blk k
theorem RdAt.below (h : RdAt w0 w b T i o v R gt) (hb : Below w.heap.size w w1) : RdAt w0 w1 b T i o v R gt :=
  ⟨(hb.block b h.lt).trans h.blk, Kd.R_below h.rl hb, below_next h.bel hb, h.hb⟩
theorem RdAt.drewN (h : RdAt w0 w b T i o v R gt) (n : Nat) : RdAt w0 (w.drewN n) b T i o v R gt := h.below (pw_below_drewN (Below.refl _ _) n)
theorem RdAt.setI (h : RdAt w0 w b T i o v R gt) (j : Nat) : RdAt w0 (w.setCell ⟨b, 1, none⟩ (.int .i64 (j : Int))) b T j o v R gt :=
  ⟨by rw [blk_put h.blk]; rfl, Kd.R_far h.rl (fun k hk => hk) _, h.bel.setCell h.hb _, h.hb⟩
theorem RdAt.setO (h : RdAt w0 w b T i o v R gt) (j : Nat) : RdAt w0 (w.setCell ⟨b, 2, none⟩ (.int .i64 (j : Int))) b T i j v R gt :=
  ⟨by rw [blk_put h.blk]; rfl, Kd.R_far h.rl (fun k hk => hk) _, h.bel.setCell h.hb _, h.hb⟩
theorem RdAt.setG (h : RdAt w0 w b T i o v R gt) (x : Bool) : RdAt w0 (w.setCell ⟨b, 4, none⟩ (.bool x)) b T i o v R x :=
  ⟨by rw [blk_put h.blk]; rfl, Kd.R_far h.rl (fun k hk => hk) _, h.bel.setCell h.hb _, h.hb⟩
theorem RdAt.grown (h : RdAt w0 w b T i o v R gt) (hg : w.grownBy w1 v.ownBlock) : w1.cell? ⟨b, 3, none⟩ = some v ∧ w1.frozen? ⟨b, 3, none⟩ = false := by
  have hne : some b ≠ v.ownBlock := fun e => h.rl.1 b e.symm rfl
  have hk := (hg.block b h.lt hne).trans h.blk
  exact ⟨blk_cell hk 3 rfl (by obtain ⟨A, c, e⟩ := Kd.R_slice h.rl; rw [e]; rfl), blk_free hk 3⟩
theorem RdAt.grow (h : RdAt w0 w b T i o v R gt) (ho : (Kd.int .i64).R 3 w1 w0.heap.size (fun k => k ≠ b) v1 R1) (hbl : Below w0.heap.size w0 w1) (hg : w.grownBy w1 v.ownBlock) :
    RdAt w0 (w1.setCell ⟨b, 3, none⟩ v1) b T i o v1 R1 gt := by
  have hne : some b ≠ v.ownBlock := fun e => h.rl.1 b e.symm rfl
  exact ⟨by rw [blk_put ((hg.block b h.lt hne).trans h.blk)]; rfl, Kd.R_far ho (fun k hk => hk) _, hbl.setCell h.hb _, h.hb⟩
end
/-- It is given up: a place's error. -/
def RdBad (w0 : World) (A : Nat → Addr) (p : Nat) (e : Ending) (w' : World) : Prop :=
  ∃ q, e = .panicked [{ v := .iface 92 (.agg #[.iface 121 (.pointer (some ⟨q, 0, none⟩))]), recovered := false }] ∧ ErrV w' A (.iface 121 (.pointer (some ⟨q, 0, none⟩))) 2 (-2 - (p : Int)) ∧ Below w0.heap.size w0 w'
theorem nxt_at {T : ByteArray} {i : Nat} (h : i < T.size) : nxt ((tl T).drop i) = (T[i]).toNat := by
  have hl : i < (tl T).length := by rw [tl_length]; exact h
  rw [(drop_nxt hl).2]
  rfl
theorem nxt_out {T : ByteArray} {i : Nat} (h : T.size ≤ i) : nxt ((tl T).drop i) = 0 := by
  rw [List.drop_eq_nil_of_le (by rw [tl_length]; exact h)]
  rfl
theorem nxt_lt (l : List UInt8) : nxt l < 256 := by
  cases l with
  | nil => simp [nxt]
  | cons c l => exact c.toNat_lt
set_option maxRecDepth 20000 in
theorem next_calls {w0 w : World} {b i o : Nat} {T : ByteArray} {v : Value} {R : List Int} {gt : Bool} (h : RdAt w0 w b T i o v R gt) :
    Calls Tryd.prog 64 #[.pointer (some ⟨b, 0, none⟩)] w fun e w' => e = .returned (.int .u8 (nxt ((tl T).drop i) : Nat)) ∧ RdAt w0 w' b T i o v R gt := by
  have c0 := h.c0
  have c1 := h.c1
  have H := Lib.hid h
  clear h
  by_cases hlt : i < T.size
  · have HN := Lib.hid (nxt_at hlt)
    have hl1 : decide ((i : Int) < (T.size : Int)) = true := decide_eq_true (by omega)
    have hl2 : decide (i < T.size) = true := decide_eq_true hlt
    go_enter Tryd.func64, Tryd.ntmps64
    go_wp2
    go_quiet (fail)
    go_wp2
    go_quiet (fail)
    go_wp2
    go_ret
    exact ⟨ret_int (by rw [HN.out]), (H.out.drewN _).drewN _⟩
  · have HN := Lib.hid (nxt_out (show T.size ≤ i by omega))
    have hl1 : decide ((i : Int) < (T.size : Int)) = false := decide_eq_false (by omega)
    have hl2 : decide (i < T.size) = false := decide_eq_false hlt
    go_enter Tryd.func64, Tryd.ntmps64
    go_wp2
    go_quiet (fail)
    go_wp2
    go_ret
    exact ⟨ret_int (by rw [HN.out]; rfl), H.out.drewN _⟩
theorem wrong_calls {w0 w : World} {b i o : Nat} {T : ByteArray} {v : Value} {R : List Int} {gt : Bool} {A : Nat → Addr} (hE : Errs w0 A) (h : RdAt w0 w b T i o v R gt) :
    Calls Tryd.prog 49 #[.pointer (some ⟨b, 0, none⟩)] w fun e w' => RdBad w0 A i e w' := by
  have c1 := h.c1
  have e1 : w.cell? ⟨3, 0, none⟩ = some (.iface 175 (.pointer (some (A 1)))) := (hE.below h.bel).cells 1 (by omega)
  have HB := Lib.hid h.bel
  clear h hE
  go_enter Tryd.func49, Tryd.ntmps49
  go_region_dies
  all_goals (refine ⟨rfl, w.heap.size, rfl, ?_, below_drew (below_alloc HB.out _)⟩)
  all_goals refine ErrV.place 1 (by omega) w.heap.size 0 (i : Int) ?_ ?_ (by omega) <;> simp [go_sem]
end Go.Proofs.YtcjcffcbfkimdaaDoor.Hand
/- Contracts of the reader's number, opens and within. -/
namespace Go.Proofs.YtcjcffcbfkimdaaDoor.Hand
open Go.RowKit Go.Proofs.YtcjcffcbfkimdaaDoorW.PrintWords Go.Proofs.YtcjcffcbfkimdaaDoorW.PrintMore Go.Proofs.YtcjcffcbfkimdaaDoor.Math

/-- What number leaves. -/
def NumP (w0 : World) (A : Nat → Addr) (b : Nat) (T : ByteArray) (i o : Nat) (v : Value) (R : List Int) (gt : Bool) (N K : Nat) (e : Ending) (w' : World) : Prop :=
  (K = 0 → RdBad w0 A i e w') ∧ (0 < K → e = .returned (.int .i64 (N : Int)) ∧ RdAt w0 w' b T (i + K) o v R gt)
theorem numP_no {w0 : World} {A : Nat → Addr} {b : Nat} {T : ByteArray} {i o : Nat} {v : Value} {R : List Int} {gt : Bool} {N K : Nat} {e : Ending} {w' : World} (h : K = 0) (hb : RdBad w0 A i e w') : NumP w0 A b T i o v R gt N K e w' := ⟨fun _ => hb, fun h' => by omega⟩
theorem numP_yes {w0 : World} {A : Nat → Addr} {b : Nat} {T : ByteArray} {i o : Nat} {v : Value} {R : List Int} {gt : Bool} {N K n k : Nat} {w' : World} (hn : (n, k) = (N, K)) (hk : 0 < k) (hb : RdAt w0 w' b T (i + k) o v R gt) : NumP w0 A b T i o v R gt N K (.returned (.int .i64 (n : Int))) w' := by
  injection hn with h1 h2
  subst h1 h2
  exact ⟨fun h' => by omega, fun _ => ⟨rfl, hb⟩⟩
set_option maxHeartbeats 2000000 in
set_option maxRecDepth 20000 in
theorem number_calls {w0 w : World} {b i o : Nat} {T : ByteArray} {v : Value} {R : List Int} {gt : Bool} {A : Nat → Addr} {N K : Nat} (hE : Errs w0 A) (h : RdAt w0 w b T i o v R gt) (hT : T.size ≤ 1048576) (hi : i ≤ T.size) (hNK : numL 0 0 ((tl T).drop i) = (N, K)) :
    Calls Tryd.prog 65 #[.pointer (some ⟨b, 0, none⟩)] w (NumP w0 A b T i o v R gt N K) := by
  have HNK := Lib.hid hNK
  have c1 := h.c1
  have H := Lib.hid h
  have HE := Lib.hid hE
  have HC0 : Hid (nxt ((tl T).drop i) < 256) := Lib.hid (nxt_lt _)
  clear h hE hNK
  go_enter Tryd.func65, Tryd.ntmps65
  go_wp2
  go_quiet (fail)
  go_wp2_with (go_at_call 64; refine (next_calls (H.out.drewN _)).mono ?_; rintro e w1 ⟨rfl, h1⟩; have H1 := Lib.hid h1; clear h1 c1)
  go_loopg [3, 5] 3 (fun m n c wr => ∃ (k nn cc : Nat), n = .int .i64 (nn : Int) ∧ c = .int .u8 (cc : Int) ∧ k ≤ 3 ∧ nn ≤ 999 ∧ (k < 3 → nn ≤ 99) ∧ (k < 2 → nn ≤ 9) ∧ (k < 1 → nn = 0) ∧ i + k ≤ T.size ∧ cc < 256 ∧ m = 3 - k ∧ Hid (RdAt w0 wr b T (i + k) o v R gt) ∧ Hid (nxt ((tl T).drop (i + k)) = cc) ∧ Hid (numL k nn ((tl T).drop (i + k)) = (N, K)))
  case atStart => exact ⟨0, 0, _, rfl, rfl, by omega, by omega, by omega, by omega, by omega, by omega, HC0.out, rfl, H1, Lib.hid rfl, HNK⟩
  case round =>
    obtain ⟨k, nn, cc, rfl, rfl, hk, hn, hn99, hn9, hn0, hik, hc, hm, HR, HC, HN⟩ := hrel
    obtain ⟨wo, rfl⟩ : ∃ wo : World, wo = wr := ⟨_, rfl⟩
    obtain ⟨j, hj⟩ : ∃ j, i + k = j := ⟨_, rfl⟩
    rw [hj] at HR HC HN
    have c1 := HR.out.c1
    have f1 := HR.out.fr 1
    have HJ := Lib.hid hj
    have HM := Lib.hid hm
    have hji : i ≤ j := by omega
    have hjT : j ≤ T.size := by omega
    by_cases hd : 48 ≤ cc ∧ cc ≤ 57
    · obtain ⟨hd1, hd2⟩ := hd
      have x1 : (48 : Int) ≤ (cc : Int) := by omega
      have x2 : (cc : Int) ≤ 57 := by omega
      have HD : Hid (isDg cc = true) := Lib.hid (by unfold isDg; simp [hd1, hd2])
      by_cases hk3 : k < 3
      · have x3 : (j : Int) < (i : Int) + 3 := by omega
        have x3n : j < i + 3 := by omega
        by_cases hb : 0 < k ∧ nn = 0
        · obtain ⟨hb1, rfl⟩ := hb
          have x4 : i < j := by omega
          have x4i : (i : Int) < (j : Int) := by omega
          have x5 : ((j : Int) == (i : Int)) = false := by rw [beq_eq_false_iff_ne]; omega
          have HS : Hid ((0, k) = (N, K)) := Lib.hid (by rw [← HN.out, numL_stop]; rw [HC.out]; simp [more, hb1])
          have HK := Lib.hid hb1
          clear hj hm hb1 hn hn99 hn9 hn0
          go_wp2
          go_ret
          exact numP_yes HS.out HK.out (by rw [HJ.out]; exact HR.out)
        · have hmo : more k nn cc = true := by
            unfold more
            rw [HD.out]
            have : ¬ (0 < k ∧ nn = 0) := hb
            simp
            omega
          obtain ⟨g1, g2⟩ := numL_go (T := tl T) (i := j) (k := k) (n := nn) (by rw [HC.out]; exact hmo)
          rw [tl_length] at g1
          obtain ⟨dd, hdd⟩ : ∃ dd, cc - 48 = dd := ⟨_, rfl⟩
          rw [HC.out, HN.out, hdd] at g2
          have HN2 := Lib.hid g2.symm
          have hdd9 : dd ≤ 9 := by omega
          have hw1 : IntKind.u8.wrap ((cc : Int) - 48) = (dd : Int) := by rw [show (cc : Int) - 48 = (dd : Int) by omega, Go.IntWalk.u8_in _ (by omega)]
          have HX := Lib.hid (show (cc : Int) - 48 = (dd : Int) by omega)
          have HF : Hid (RdAt w0 (wo.setCell ⟨b, 1, none⟩ (.int .i64 ((j : Int) + 1))) b T (j + 1) o v R gt) := Lib.hid (by have := HR.out.setI (j + 1); rwa [show ((j + 1 : Nat) : Int) = (j : Int) + 1 by omega] at this)
          have HNx : Hid (nxt ((tl T).drop (j + 1)) < 256) := Lib.hid (nxt_lt _)
          have hb4 : ¬ (0 < k ∧ nn = 0) := hb
          have hnn : nn ≤ 99 := hn99 hk3
          have HB4 := Lib.hid hb4
          have HBd : Hid ((k + 1 < 3 → 10 * nn + dd ≤ 99) ∧ (k + 1 < 2 → 10 * nn + dd ≤ 9)) := Lib.hid (by omega)
          clear hb hb4 hmo hj hm hn hn99 hn9 hn0 g2 hdd
          by_cases hij : i < j
          · have hnz : ((nn : Int) == 0) = false := by rw [beq_eq_false_iff_ne]; have := HB4.out; have := HJ.out; omega
            have hnz2 : decide (nn = 0) = false := by rw [decide_eq_false_iff_not]; have := HB4.out; have := HJ.out; omega
            have hijI : (i : Int) < (j : Int) := by omega
            go_wp2_with (go_at_call 64; refine (next_calls HF.out).mono ?_; rintro e w2 ⟨rfl, h2⟩; have H2 := Lib.hid h2; clear h2)
            go_roundg (2 - k)
            case rel => exact ⟨k + 1, 10 * nn + dd, _, by go_num, rfl, by omega, by omega, by have := HBd.out.1; omega, by have := HBd.out.2; omega, by omega, by have := HJ.out; omega, HNx.out, by omega, by rw [show i + (k + 1) = j + 1 by have := HJ.out; omega]; exact H2, Lib.hid (by rw [show i + (k + 1) = j + 1 by have := HJ.out; omega]), by rw [show i + (k + 1) = j + 1 by have := HJ.out; omega]; exact HN2⟩
            case measure => have := HM.out; omega
          · have hji2 : ¬ (i : Int) < (j : Int) := by omega
            go_wp2_with (go_at_call 64; refine (next_calls HF.out).mono ?_; rintro e w2 ⟨rfl, h2⟩; have H2 := Lib.hid h2; clear h2)
            go_roundg (2 - k)
            case rel => exact ⟨k + 1, 10 * nn + dd, _, by go_num, rfl, by omega, by omega, by have := HBd.out.1; omega, by have := HBd.out.2; omega, by omega, by have := HJ.out; omega, HNx.out, by omega, by rw [show i + (k + 1) = j + 1 by have := HJ.out; omega]; exact H2, Lib.hid (by rw [show i + (k + 1) = j + 1 by have := HJ.out; omega]), by rw [show i + (k + 1) = j + 1 by have := HJ.out; omega]; exact HN2⟩
            case measure => have := HM.out; omega
      · have x3 : ¬ (j : Int) < (i : Int) + 3 := by omega
        have x3n : ¬ j < i + 3 := by omega
        have x5 : ((j : Int) == (i : Int)) = false := by rw [beq_eq_false_iff_ne]; omega
        have HS : Hid ((nn, k) = (N, K)) := Lib.hid (by rw [← HN.out, numL_stop]; rw [HC.out]; simp [more, hk3])
        have HK : Hid (0 < k) := Lib.hid (by omega)
        clear hj hm hn hn99 hn9 hn0
        go_wp2
        go_ret
        exact numP_yes HS.out HK.out (by rw [HJ.out]; exact HR.out)
    · have HS : Hid ((nn, k) = (N, K)) := Lib.hid (by
        rw [← HN.out, numL_stop]
        rw [HC.out]
        have : isDg cc = false := by unfold isDg; simp; omega
        simp [more, this])
      by_cases hk0 : k = 0
      · have x5 : ((j : Int) == (i : Int)) = true := by rw [beq_iff_eq]; omega
        have HW := Lib.hid (wrong_calls HE.out HR.out)
        have HK : Hid (K = 0 ∧ i = j) := Lib.hid ⟨by have := HS.out; injection this with _ h2; omega, by omega⟩
        clear hj hm hn hn99 hn9 hn0 hk0
        by_cases hd1 : 48 ≤ cc
        · have x1 : (48 : Int) ≤ (cc : Int) := by omega
          have x2 : ¬ (cc : Int) ≤ 57 := by omega
          go_wp2_with (go_at_call 49; refine HW.out.mono ?_; rintro e w2 ⟨q, rfl, h1, h2⟩; have Q1 := Lib.hid h1; have Q2 := Lib.hid h2; clear h1 h2)
          exact ⟨rfl, numP_no HK.out.1 ⟨q, rfl, by rw [HK.out.2]; exact Q1.out, Q2.out⟩⟩
        · have x1 : ¬ (48 : Int) ≤ (cc : Int) := by omega
          go_wp2_with (go_at_call 49; refine HW.out.mono ?_; rintro e w2 ⟨q, rfl, h1, h2⟩; have Q1 := Lib.hid h1; have Q2 := Lib.hid h2; clear h1 h2)
          exact ⟨rfl, numP_no HK.out.1 ⟨q, rfl, by rw [HK.out.2]; exact Q1.out, Q2.out⟩⟩
      · have x5 : ((j : Int) == (i : Int)) = false := by rw [beq_eq_false_iff_ne]; omega
        have HK : Hid (0 < k) := Lib.hid (by omega)
        clear hj hm hn hn99 hn9 hn0 hk0
        by_cases hd1 : 48 ≤ cc
        · have x1 : (48 : Int) ≤ (cc : Int) := by omega
          have x2 : ¬ (cc : Int) ≤ 57 := by omega
          go_wp2
          go_ret
          exact numP_yes HS.out HK.out (by rw [HJ.out]; exact HR.out)
        · have x1 : ¬ (48 : Int) ≤ (cc : Int) := by omega
          go_wp2
          go_ret
          exact numP_yes HS.out HK.out (by rw [HJ.out]; exact HR.out)
/-- Was a rule's number too great? -/
def grt (R : List Int) : Bool := R.any (fun x => decide (120 < x))
theorem grt_snoc (R : List Int) (n : Int) : grt (R ++ [n]) = (grt R || decide (120 < n)) := by unfold grt; simp
/-- The reader, and how far the text's scan has come. -/
structure RdS (w0 w : World) (b : Nat) (T : ByteArray) (m : Md) (i o : Nat) (v : Value) (R : List Int) : Prop where
  mem : RdAt w0 w b T i o v R (grt R)
  scn : Scn (tl T) m i o R
  len : R.length ≤ i
  ol : o ≤ i
/-- What comes next. -/
def fv (b : Nat) : Md → Value
  | .opens => .func (.func 48) #[.pointer (some ⟨b, 0, none⟩)] #[]
  | .within => .func (.func 66) #[.pointer (some ⟨b, 0, none⟩)] #[]
  | .done => .nilFunc
/-- What a step of reading leaves. -/
def StP (w0 : World) (A : Nat → Addr) (b : Nat) (T : ByteArray) (i : Nat) (e : Ending) (w' : World) : Prop :=
  (∃ p : Nat, scanS (tl T) 0 ss0 = ([], (p : Int)) ∧ RdBad w0 A p e w') ∨ (∃ m i' o' v' R' f, Hid (fv b m = f) ∧ e = .returned f ∧ RdS w0 w' b T m i' o' v' R' ∧ i < i')
theorem stP_no {w0 : World} {A : Nat → Addr} {b : Nat} {T : ByteArray} {i p : Nat} {e : Ending} {w' : World} (h : scanS (tl T) 0 ss0 = ([], (p : Int))) (hb : RdBad w0 A p e w') : StP w0 A b T i e w' := .inl ⟨p, h, hb⟩
theorem stP_yes {w0 : World} {A : Nat → Addr} {b : Nat} {T : ByteArray} {i i' o' : Nat} {m : Md} {v' : Value} {R' : List Int} {w' : World} (h : RdS w0 w' b T m i' o' v' R') (hi : i < i') : StP w0 A b T i (.returned (fv b m)) w' := .inr ⟨m, i', o', v', R', _, Lib.hid rfl, rfl, h, hi⟩
set_option maxHeartbeats 2000000 in
set_option maxRecDepth 20000 in
theorem opens_calls {w0 w : World} {b i o : Nat} {T : ByteArray} {v : Value} {R : List Int} {A : Nat → Addr} (hE : Errs w0 A) (h : RdS w0 w b T .opens i o v R) (hT : T.size ≤ 1048576) :
    Calls Tryd.prog 48 #[.pointer (some ⟨b, 0, none⟩)] w (StP w0 A b T i) := by
  have hmf : ∀ (fn : Fn) (first cap : Array Value) (w : World), (Instr.makeFunc fn first cap).run Tryd.prog w = .ok (.func fn first cap) w := fun _ _ _ _ => rfl
  have hi : i ≤ T.size := by have := h.scn.le; rwa [tl_length] at this
  have hol := h.ol
  have HS := Lib.hid h
  have HE := Lib.hid hE
  have HN := Lib.hid (next_calls h.mem)
  clear h hE
  obtain ⟨cc, hcc⟩ : ∃ c, nxt ((tl T).drop i) = c := ⟨_, rfl⟩
  rw [hcc] at HN
  have HC := Lib.hid hcc
  by_cases h40 : cc = 40
  · subst h40
    obtain ⟨g1, g2, g3⟩ := HS.out.scn.opens_yes hcc
    rw [tl_length] at g1
    obtain ⟨N, K, hNK⟩ : ∃ N K, numL 0 0 ((tl T).drop (i + 1)) = (N, K) := ⟨_, _, rfl⟩
    rw [hNK] at g2 g3
    have hN3 : N < 1000 := by have := numL_lt ((tl T).drop (i + 1)); rw [hNK] at this; exact this
    have HNK := Lib.hid hNK
    have G2 := Lib.hid g2
    have G3 := Lib.hid g3
    clear g2 g3 hNK hcc
    go_enter Tryd.func48, Tryd.ntmps48
    go_upto_region 3 with (go_at_call 64; refine HN.out.mono ?_; rintro e w1 ⟨rfl, h1⟩; have H1 := Lib.hid h1; have c1 := h1.c1; have c2 := h1.c2; have f1 := h1.fr 1; have f2 := h1.fr 2; clear h1)
    have h2 := H1.out.setI (i + 1)
    have h3 := h2.setO (o + 1)
    rw [show ((i + 1 : Nat) : Int) = (i : Int) + 1 by omega] at h2
    rw [show ((i + 1 : Nat) : Int) = (i : Int) + 1 by omega, show ((o + 1 : Nat) : Int) = (o : Int) + 1 by omega] at h3
    have d2 := h2.c2
    have e2 := h2.fr 2
    have H3 := Lib.hid h3
    have HNm := Lib.hid (number_calls HE.out h3 hT (show i + 1 ≤ T.size by omega) HNK.out)
    clear h2 h3
    by_cases hK : K = 0
    · have HNo : Hid (Calls Tryd.prog 65 _ _ (RdBad w0 A (i + 1))) := Lib.hid (HNm.out.mono (fun e w' h => h.1 hK))
      have HK := Lib.hid (G2.out hK)
      clear hK HNm
      go_wp2_with (go_at_call 65; refine HNo.out.mono ?_; rintro e w4 ⟨q, rfl, h1, h2⟩; have Q1 := Lib.hid h1; have Q2 := Lib.hid h2; clear h1 h2)
      exact ⟨rfl, stP_no HK.out ⟨q, rfl, Q1.out, Q2.out⟩⟩
    · have hK0 : 0 < K := by omega
      have HYs : Hid (Calls Tryd.prog 65 _ _ fun e w' => e = .returned (.int .i64 (N : Int)) ∧ RdAt w0 w' b T (i + 1 + K) (o + 1) v R (grt R)) := Lib.hid (HNm.out.mono (fun e w' h => h.2 hK0))
      have HSc := Lib.hid (G3.out hK0)
      have HKp := Lib.hid hK0
      clear hK hK0 HNm
      obtain ⟨gr, hgr⟩ : ∃ x, grt R = x := ⟨_, rfl⟩
      rw [hgr] at HYs
      have HGr := Lib.hid hgr
      clear hgr
      obtain ⟨A9, c9, e9⟩ := Kd.R_slice HS.out.mem.rl
      obtain ⟨n9, hn9⟩ : ∃ n, R.length = n := ⟨_, rfl⟩
      rw [hn9] at e9
      subst e9
      have Hn9 := Lib.hid hn9
      have HLb : Hid ((R.length + 1) * 8 ≤ 140737488355328) := Lib.hid (by have := HS.out.len; omega)
      clear hn9
      by_cases hg : gr = true
      · subst hg
        have HGx : Hid (grt (R ++ [(N : Int)]) = true) := Lib.hid (by rw [grt_snoc, HGr.out]; rfl)
        go_upto_region 7 with (go_at_call 65; refine HYs.out.mono ?_; rintro e w4 ⟨rfl, h4⟩; have H4 := Lib.hid h4; have c4 := h4.c4; have f4 := h4.fr 4; clear h4)
        obtain ⟨w5, hw5⟩ : ∃ w5, w4.setCell ⟨b, 4, none⟩ (.bool true) = w5 := ⟨_, rfl⟩
        have H5 : Hid (RdAt w0 w5 b T (i + 1 + K) (o + 1) (.slice A9 n9 c9) R true) := Lib.hid (by rw [← hw5]; exact H4.out.setG true)
        rw [hw5]
        have c3 := H5.out.c3
        clear c4 f4 hw5
        go_wp2_with ((with_reducible refine gate_builtin (b := .append) (xs := #[.tmp 40, .tmp 42]) rfl ?_); at_builtin; go_loud (refine Kd.R_append (Kd.int .i64) (w0 := w0) w0.heap.size rfl (.tmp 40) (.tmp 42) 26 3 (.int .i64 0) 8 rfl Tryd.underlying26 infoInt rfl (by decide) (by omega) (.slice A9 n9 c9) R (N : Int) [.int .i64 (N : Int)] (fun k => k ≠ b) (fun _ => False) rfl rfl rfl (fun _ hk => hk.elim) (fun k hk => by have := H5.out.lt; omega) H5.out.rl H5.out.bel H5.out.bel.size HLb.out ?_); intro v6 w6 ho hb hg hat; (obtain ⟨A10, c10, e10⟩ := Kd.R_slice ho; obtain ⟨n10, hn10⟩ : ∃ n, (R ++ [(N : Int)]).length = n := ⟨_, rfl⟩; rw [hn10] at e10; subst e10; have H6 := Lib.hid (H5.out.grow ho hb hg); have H7 := Lib.hid (H5.out.grown hg); have g8 := H7.out.1; have f8 := H7.out.2; clear ho hb hg hat hn10 c3))
        go_ret
        exact stP_yes (m := .within) ⟨by rw [HGx.out]; exact H6.out, HSc.out, by have := HS.out.len; simp; omega, by omega⟩ (by omega)
      · obtain rfl : gr = false := by simpa using hg
        clear hg
        by_cases hn : 120 < N
        · have HGx : Hid (grt (R ++ [(N : Int)]) = true) := Lib.hid (by rw [grt_snoc, HGr.out, decide_eq_true (by omega)]; rfl)
          have hnI : decide ((120 : Int) < (N : Int)) = true := decide_eq_true (by omega)
          have hnI2 : (120 : Int) < (N : Int) := by omega
          go_upto_region 7 with (go_at_call 65; refine HYs.out.mono ?_; rintro e w4 ⟨rfl, h4⟩; have H4 := Lib.hid h4; have c4 := h4.c4; have f4 := h4.fr 4; clear h4)
          obtain ⟨w5, hw5⟩ : ∃ w5, w4.setCell ⟨b, 4, none⟩ (.bool true) = w5 := ⟨_, rfl⟩
          have H5 : Hid (RdAt w0 w5 b T (i + 1 + K) (o + 1) (.slice A9 n9 c9) R true) := Lib.hid (by rw [← hw5]; exact H4.out.setG true)
          rw [hw5]
          have c3 := H5.out.c3
          clear c4 f4 hw5
          go_wp2_with ((with_reducible refine gate_builtin (b := .append) (xs := #[.tmp 40, .tmp 42]) rfl ?_); at_builtin; go_loud (refine Kd.R_append (Kd.int .i64) (w0 := w0) w0.heap.size rfl (.tmp 40) (.tmp 42) 26 3 (.int .i64 0) 8 rfl Tryd.underlying26 infoInt rfl (by decide) (by omega) (.slice A9 n9 c9) R (N : Int) [.int .i64 (N : Int)] (fun k => k ≠ b) (fun _ => False) rfl rfl rfl (fun _ hk => hk.elim) (fun k hk => by have := H5.out.lt; omega) H5.out.rl H5.out.bel H5.out.bel.size HLb.out ?_); intro v6 w6 ho hb hg hat; (obtain ⟨A10, c10, e10⟩ := Kd.R_slice ho; obtain ⟨n10, hn10⟩ : ∃ n, (R ++ [(N : Int)]).length = n := ⟨_, rfl⟩; rw [hn10] at e10; subst e10; have H6 := Lib.hid (H5.out.grow ho hb hg); have H7 := Lib.hid (H5.out.grown hg); have g8 := H7.out.1; have f8 := H7.out.2; clear ho hb hg hat hn10 c3))
          go_ret
          exact stP_yes (m := .within) ⟨by rw [HGx.out]; exact H6.out, HSc.out, by have := HS.out.len; simp; omega, by omega⟩ (by omega)
        · have HGx : Hid (grt (R ++ [(N : Int)]) = false) := Lib.hid (by rw [grt_snoc, HGr.out, decide_eq_false (by omega)]; rfl)
          have hnI : decide ((120 : Int) < (N : Int)) = false := decide_eq_false (by omega)
          have hnI2 : ¬ (120 : Int) < (N : Int) := by omega
          go_upto_region 7 with (go_at_call 65; refine HYs.out.mono ?_; rintro e w4 ⟨rfl, h4⟩; have H4 := Lib.hid h4; have c4 := h4.c4; have f4 := h4.fr 4; clear h4)
          obtain ⟨w5, hw5⟩ : ∃ w5, w4.setCell ⟨b, 4, none⟩ (.bool false) = w5 := ⟨_, rfl⟩
          have H5 : Hid (RdAt w0 w5 b T (i + 1 + K) (o + 1) (.slice A9 n9 c9) R false) := Lib.hid (by rw [← hw5]; exact H4.out.setG false)
          rw [hw5]
          have c3 := H5.out.c3
          clear c4 f4 hw5
          go_wp2_with ((with_reducible refine gate_builtin (b := .append) (xs := #[.tmp 40, .tmp 42]) rfl ?_); at_builtin; go_loud (refine Kd.R_append (Kd.int .i64) (w0 := w0) w0.heap.size rfl (.tmp 40) (.tmp 42) 26 3 (.int .i64 0) 8 rfl Tryd.underlying26 infoInt rfl (by decide) (by omega) (.slice A9 n9 c9) R (N : Int) [.int .i64 (N : Int)] (fun k => k ≠ b) (fun _ => False) rfl rfl rfl (fun _ hk => hk.elim) (fun k hk => by have := H5.out.lt; omega) H5.out.rl H5.out.bel H5.out.bel.size HLb.out ?_); intro v6 w6 ho hb hg hat; (obtain ⟨A10, c10, e10⟩ := Kd.R_slice ho; obtain ⟨n10, hn10⟩ : ∃ n, (R ++ [(N : Int)]).length = n := ⟨_, rfl⟩; rw [hn10] at e10; subst e10; have H6 := Lib.hid (H5.out.grow ho hb hg); have H7 := Lib.hid (H5.out.grown hg); have g8 := H7.out.1; have f8 := H7.out.2; clear ho hb hg hat hn10 c3))
          go_ret
          exact stP_yes (m := .within) ⟨by rw [HGx.out]; exact H6.out, HSc.out, by have := HS.out.len; simp; omega, by omega⟩ (by omega)
  · have h40I : ((cc : Int) != 40) = true := by simp; omega
    have HF := Lib.hid (HS.out.scn.opens_no (by rw [hcc]; exact h40))
    clear hcc h40
    go_enter Tryd.func48, Tryd.ntmps48
    go_wp2_with (first
      | (go_at_call 64; refine HN.out.mono ?_; rintro e w1 ⟨rfl, h1⟩; have H1 := Lib.hid h1; clear h1)
      | (go_at_call 49; refine (wrong_calls HE.out H1.out).mono ?_; rintro e w2 ⟨q, rfl, h1, h2⟩; have Q1 := Lib.hid h1; have Q2 := Lib.hid h2; clear h1 h2))
    exact ⟨rfl, stP_no HF.out ⟨q, rfl, Q1.out, Q2.out⟩⟩
set_option maxHeartbeats 2000000 in
set_option maxRecDepth 20000 in
theorem within_calls {w0 w : World} {b i o : Nat} {T : ByteArray} {v : Value} {R : List Int} {A : Nat → Addr} (hE : Errs w0 A) (h : RdS w0 w b T .within i o v R) (hT : T.size ≤ 1048576) :
    Calls Tryd.prog 66 #[.pointer (some ⟨b, 0, none⟩)] w (StP w0 A b T i) := by
  have hmf : ∀ (fn : Fn) (first cap : Array Value) (w : World), (Instr.makeFunc fn first cap).run Tryd.prog w = .ok (.func fn first cap) w := fun _ _ _ _ => rfl
  have hi : i ≤ T.size := by have := h.scn.le; rwa [tl_length] at this
  have hol := h.ol
  have HS := Lib.hid h
  have HE := Lib.hid hE
  have HN := Lib.hid (next_calls h.mem)
  clear h hE
  obtain ⟨cc, hcc⟩ : ∃ c, nxt ((tl T).drop i) = c := ⟨_, rfl⟩
  rw [hcc] at HN
  obtain ⟨gr, hgr⟩ : ∃ x, grt R = x := ⟨_, rfl⟩
  rw [hgr] at HN
  have HGr := Lib.hid hgr
  clear hgr
  by_cases h41 : cc = 41
  · subst h41
    obtain ⟨g1, g2, g3, g4⟩ := HS.out.scn.within_close hcc
    rw [tl_length] at g1
    have G3 := Lib.hid g3
    have G4 := Lib.hid g4
    clear g3 g4 hcc
    obtain ⟨o1, rfl⟩ : ∃ o1, o = o1 + 1 := ⟨o - 1, by omega⟩
    go_enter Tryd.func66, Tryd.ntmps66
    go_upto_region 4 with (go_at_call 64; refine HN.out.mono ?_; rintro e w1 ⟨rfl, h1⟩; have H1 := Lib.hid h1; have c1 := h1.c1; have c2 := h1.c2; have f1 := h1.fr 1; have f2 := h1.fr 2; clear h1)
    have h2 := H1.out.setI (i + 1)
    have h3 := h2.setO o1
    rw [show ((i + 1 : Nat) : Int) = (i : Int) + 1 by omega] at h2
    rw [show ((i + 1 : Nat) : Int) = (i : Int) + 1 by omega] at h3
    have d2 := h2.c2
    have e2 := h2.fr 2
    have d3 := h3.c2
    have H3 := Lib.hid h3
    have hsub : (((o1 + 1 : Nat) : Int) - 1) = (o1 : Int) := by omega
    clear h2 h3
    by_cases hz : o1 = 0
    · subst hz
      have HSc := Lib.hid (G3.out rfl)
      go_wp2
      go_ret
      exact stP_yes (m := .done) ⟨by rw [HGr.out]; exact H3.out, HSc.out, by have := HS.out.len; omega, by omega⟩ (by omega)
    · have HSc := Lib.hid (G4.out (by omega))
      have hzI : ((o1 : Int) == 0) = false := by rw [beq_eq_false_iff_ne]; omega
      have hzN : decide (o1 = 0) = false := decide_eq_false hz
      clear hz
      go_wp2
      go_ret
      exact stP_yes (m := .within) ⟨by rw [HGr.out]; exact H3.out, HSc.out, by have := HS.out.len; omega, by omega⟩ (by omega)
  · have h41I : ((cc : Int) == 41) = false := by rw [beq_eq_false_iff_ne]; omega
    by_cases h32 : cc = 32
    · subst h32
      obtain ⟨g1, g2, g3⟩ := HS.out.scn.within_blank hcc
      rw [tl_length] at g1
      have G2 := Lib.hid g2
      have G3 := Lib.hid g3
      clear g2 g3 hcc h41 h41I
      go_enter Tryd.func66, Tryd.ntmps66
      go_upto_region 10 with (go_at_call 64; refine HN.out.mono ?_; rintro e w1 ⟨rfl, h1⟩; have H1 := Lib.hid h1; have c1 := h1.c1; have f1 := h1.fr 1; clear h1)
      have h2 := H1.out.setI (i + 1)
      have HN2 := Lib.hid (next_calls h2)
      rw [show ((i + 1 : Nat) : Int) = (i : Int) + 1 by omega] at h2 HN2
      clear h2
      obtain ⟨c4, hc4⟩ : ∃ c, nxt ((tl T).drop (i + 1)) = c := ⟨_, rfl⟩
      rw [hc4] at HN2 G2 G3
      by_cases h46 : c4 = 46
      · subst h46
        obtain ⟨g5, g6, g7⟩ := G3.out rfl
        rw [tl_length] at g5
        obtain ⟨N, K, hNK⟩ : ∃ N K, numL 0 0 ((tl T).drop (i + 2)) = (N, K) := ⟨_, _, rfl⟩
        rw [hNK] at g6 g7
        have HNK := Lib.hid hNK
        have G6 := Lib.hid g6
        have G7 := Lib.hid g7
        clear g6 g7 hNK hc4
        go_upto_region 13 with (go_at_call 64; refine HN2.out.mono ?_; rintro e w2 ⟨rfl, h2⟩; have H2 := Lib.hid h2; have c2 := h2.c1; have f2 := h2.fr 1; clear h2)
        have h3 := H2.out.setI (i + 2)
        have HNm := Lib.hid (number_calls HE.out h3 hT (show i + 2 ≤ T.size by omega) HNK.out)
        rw [show ((i + 2 : Nat) : Int) = (i : Int) + 1 + 1 by omega] at h3 HNm
        clear h3
        have c2' : w2.cell? ⟨b, 1, none⟩ = some (.int .i64 ((i : Int) + 1)) := by rw [c2]; congr 1
        clear c2
        by_cases hK : K = 0
        · have HNo : Hid (Calls Tryd.prog 65 _ _ (RdBad w0 A (i + 2))) := Lib.hid (HNm.out.mono (fun e w' h => h.1 hK))
          have HK := Lib.hid (G6.out hK)
          clear hK HNm
          go_wp2_with (go_at_call 65; refine HNo.out.mono ?_; rintro e w4 ⟨q, rfl, h1, h2⟩; have Q1 := Lib.hid h1; have Q2 := Lib.hid h2; clear h1 h2)
          exact ⟨rfl, stP_no HK.out ⟨q, rfl, Q1.out, Q2.out⟩⟩
        · have hK0 : 0 < K := by omega
          have HYs : Hid (Calls Tryd.prog 65 _ _ fun e w' => e = .returned (.int .i64 (N : Int)) ∧ RdAt w0 w' b T (i + 2 + K) o v R gr) := Lib.hid (HNm.out.mono (fun e w' h => h.2 hK0))
          have HSc := Lib.hid (G7.out hK0)
          clear hK hK0 HNm
          go_wp2_with (go_at_call 65; refine HYs.out.mono ?_; rintro e w4 ⟨rfl, h4⟩; have H4 := Lib.hid h4; clear h4)
          go_ret
          exact stP_yes (m := .within) ⟨by rw [HGr.out]; exact H4.out, HSc.out, by have := HS.out.len; omega, by omega⟩ (by omega)
      · have h46I : ((c4 : Int) != 46) = true := by simp; omega
        have HSc := Lib.hid (G2.out h46)
        clear h46 hc4
        go_wp2_with (go_at_call 64; refine HN2.out.mono ?_; rintro e w2 ⟨rfl, h2⟩; have H2 := Lib.hid h2; clear h2)
        go_ret
        exact stP_yes (m := .opens) ⟨by rw [HGr.out]; exact H2.out, HSc.out, by have := HS.out.len; omega, by omega⟩ (by omega)
    · have h32I : ((cc : Int) == 32) = false := by rw [beq_eq_false_iff_ne]; omega
      have HF := Lib.hid (HS.out.scn.within_no (by rw [hcc]; exact h41) (by rw [hcc]; exact h32))
      clear hcc h41 h32
      go_enter Tryd.func66, Tryd.ntmps66
      go_wp2_with (first
        | (go_at_call 64; refine HN.out.mono ?_; rintro e w1 ⟨rfl, h1⟩; have H1 := Lib.hid h1; clear h1)
        | (go_at_call 49; refine (wrong_calls HE.out H1.out).mono ?_; rintro e w2 ⟨q, rfl, h1, h2⟩; have Q1 := Lib.hid h1; have Q2 := Lib.hid h2; clear h1 h2))
      exact ⟨rfl, stP_no HF.out ⟨q, rfl, Q1.out, Q2.out⟩⟩
end Go.Proofs.YtcjcffcbfkimdaaDoor.Hand
/- Plain laws of known and of grown trees: their steps in order, shifted ones, one tree of one row of rules. -/
namespace Go.Proofs.YtcjcffcbfkimdaaDoor.Hand
open Go.RowKit Go.Proofs.YtcjcffcbfkimdaaDoorW.PrintWords Go.Proofs.YtcjcffcbfkimdaaDoorW.PrintMore Go.Proofs.YtcjcffcbfkimdaaDoor.Math

theorem itr_low2 {inc : Int → Int} (h1 : ∀ x, -9223372036854775808 ≤ x → x < 9223372036854775807 → inc x = x + 1) : ∀ (n : Nat) (x : Int), -9223372036854775808 ≤ x → x + (n : Int) ≤ 9223372036854775807 → itr inc n x = x + (n : Int)
  | 0, x, _, _ => by simp [itr]
  | n + 1, x, h0, h => by
    rw [itr, h1 x h0 (by omega), itr_low2 h1 n (x + 1) (by omega) (by omega)]
    omega
theorem itr_over2 {inc : Int → Int} (h1 : ∀ x, -9223372036854775808 ≤ x → x < 9223372036854775807 → inc x = x + 1) (h2 : inc 9223372036854775807 = -9223372036854775808) (n : Nat) (x : Int) (hn : n ≤ 4611686018427387904) (h0 : -9223372036854775808 ≤ x) (hx : x ≤ 9223372036854775807) (h : 9223372036854775807 < x + (n : Int)) : itr inc n x < 0 := by
  obtain ⟨a, ha⟩ : ∃ a : Nat, (a : Int) = 9223372036854775807 - x := ⟨(9223372036854775807 - x).toNat, by omega⟩
  obtain ⟨m, rfl⟩ : ∃ m, n = a + (1 + m) := ⟨n - a - 1, by omega⟩
  rw [itr_add, itr_low2 h1 a x h0 (by omega), itr_add, show x + (a : Int) = 9223372036854775807 by omega]
  show itr inc m (inc 9223372036854775807) < 0
  rw [h2, itr_low2 h1 m _ (by omega) (by omega)]
  omega
theorem walk_places2 {inc : Int → Int} (h1 : ∀ x, -9223372036854775808 ≤ x → x < 9223372036854775807 → inc x = x + 1) (h2 : inc 9223372036854775807 = -9223372036854775808) {G : List (Int × List Int)} {rs : List Int} {any : Bool} {nt fr : Int} {d : DS}
    (hne : ∀ r ∈ G, r.2 ≠ []) (h : walkG (opsD inc) G rs any nt ⟨fr, [], [], 0⟩ = some d) (hfr : 0 ≤ fr ∧ fr ≤ 9223372036854775807) (hT : d.tokens.length ≤ 4611686018427387904) (hTo : fr ≤ d.place) :
    d.place = fr + (d.tokens.length : Int) ∧ 0 < d.tokens.length ∧ d.tokens.length ≤ 9223372036854775807 - fr ∧ 1 ≤ d.depth ∧ d.depth ≤ rs.length ∧ ∃ n N, d.tree = (n, fr, d.place) :: N ∧ Go.Proofs.YtcjcffcbfkimdaaDoor.Math.StepsIn fr d.place ((n, fr, d.place) :: N) ∧ N.length + 1 = rs.length := by
  unfold walkG at h
  cases hn : nodeG (opsD inc) G rs rs.length any nt none 1 (0, ⟨fr, [], [], 0⟩) with
  | none => rw [hn] at h; cases h
  | some a =>
    rw [hn] at h
    simp only at h
    split at h
    · cases h
    · rename_i hl
      simp only [Option.some.injEq] at h
      subst h
      obtain ⟨t, e1, e2⟩ := node_place inc G rs rs.length any nt none 1 _ _ hn
      have hm := node_mono inc G rs hne rs.length any nt none 1 _ _ hn
      have m1 := hm.tok
      have m2 := hm.own
      have m3 := hm.up
      simp only [List.length_nil, Nat.zero_add] at e1 e2 m1 m3
      subst e1
      have hno : fr + (a.2.tokens.length : Int) ≤ 9223372036854775807 := by
        by_cases hc : fr + (a.2.tokens.length : Int) ≤ 9223372036854775807
        · exact hc
        · have := itr_over2 h1 h2 a.2.tokens.length fr hT (by omega) hfr.2 (by omega)
          omega
      obtain ⟨o1, n, N, o2, o3, o4⟩ := node_order inc G rs fr a.2.tokens.length (fun x hx1 hx2 => h1 x (by omega) (by omega)) hne rs.length any nt none 1 _ _ hn rfl (by simp) (Nat.le_refl _)
      simp only [List.nil_append] at o2 o3 o4
      have hle : a.1 ≤ rs.length := (kin_len hn).2
      exact ⟨o1, m1, by omega, m2, by omega, n, N, o2, o3, by omega⟩
/-- What a known tree is. -/
theorem known_ok {g : Gr} {t : List (Int × Int × Int)} (h : (knownE g t).1 = 0) : knownE g t = (0, -1) ∧ (dmayN g t.length).1 = 0 ∧ 0 < t.length ∧ 0 ≤ (t.getD 0 (0, 0, 0)).2.1 ∧ (t.getD 0 (0, 0, 0)).2.1 ≤ (t.getD 0 (0, 0, 0)).2.2 ∧ ∃ d, treeD g t = some d ∧ d.tree = t := by
  unfold knownE at h ⊢
  split at h
  · rename_i h1; exact absurd h h1
  · rename_i h1
    rw [if_neg h1]
    split at h
    · cases h
    · rename_i h2
      rw [if_neg h2]
      have hl : t ≠ [] := fun e => h2 (.inl e)
      have a1 : 0 ≤ (t.getD 0 (0, 0, 0)).2.1 := by
        have : ¬ (t.getD 0 (0, 0, 0)).2.1 < 0 := fun e => h2 (.inr (.inl e))
        omega
      have a2 : (t.getD 0 (0, 0, 0)).2.1 ≤ (t.getD 0 (0, 0, 0)).2.2 := by
        have : ¬ (t.getD 0 (0, 0, 0)).2.2 < (t.getD 0 (0, 0, 0)).2.1 := fun e => h2 (.inr (.inr e))
        omega
      have a0 : (dmayN g t.length).1 = 0 := by omega
      cases hd : treeD g t with
      | none => rw [hd] at h; cases h
      | some d =>
        rw [hd] at h
        simp only at h ⊢
        split at h
        · rename_i e
          rw [if_pos e]
          exact ⟨rfl, a0, List.length_pos_iff.2 hl, a1, a2, d, rfl, e⟩
        · cases h
theorem known_mk {g : Gr} {t : List (Int × Int × Int)} {d : DS} (h0 : (dmayN g t.length).1 = 0) (h1 : 0 < t.length) (h2 : 0 ≤ (t.getD 0 (0, 0, 0)).2.1) (h3 : (t.getD 0 (0, 0, 0)).2.1 ≤ (t.getD 0 (0, 0, 0)).2.2) (h4 : treeD g t = some d) (h5 : d.tree = t) : knownE g t = (0, -1) := by
  unfold knownE
  rw [if_neg (by omega), if_neg ?_, h4]
  · simp only
    rw [if_pos h5]
  · rintro (e | e | e)
    · rw [e] at h1; simp at h1
    · omega
    · omega
theorem grow_ok {g : Gr} {nt : Int} {rs : List Int} (h : (growE g nt rs).1 = 0) : growE g nt rs = (0, -1) ∧ (dmayN g rs.length).1 = 0 ∧ 0 ≤ nt ∧ nt < (g.nonterms.length : Int) ∧ ∃ d, grownD g rs false nt 0 = some d ∧ growL g nt rs = d.tree ∧ d.tokens.length ≤ 65536 := by
  have hh := h
  unfold growE at h ⊢
  split at h
  · rename_i h1; exact absurd h h1
  · rename_i h1
    rw [if_neg h1]
    split at h
    · cases h
    · rename_i h2
      rw [if_neg h2]
      cases hd : grownD g rs false nt 0 with
      | none => rw [hd] at h; cases h
      | some d =>
        rw [hd] at h
        simp only at h ⊢
        split at h
        · cases h
        · rename_i e
          rw [if_neg e]
          refine ⟨rfl, by omega, by omega, by omega, d, rfl, ?_, by omega⟩
          unfold growL
          rw [if_pos hh, hd]
theorem grow_rules {g : Gr} {nt : Int} {rs : List Int} (h : (growE g nt rs).1 = 0) : (growL g nt rs).map (·.1) = rs := by
  obtain ⟨-, -, -, -, d, h1, h2, -⟩ := grow_ok h
  rw [h2]
  exact walk_rules h1
theorem grow_length {g : Gr} {nt : Int} {rs : List Int} (h : (growE g nt rs).1 = 0) : (growL g nt rs).length = rs.length := by
  have := congrArg List.length (grow_rules h)
  simpa using this
/-- One rule turned: another tree, but where it is the same rule. -/
theorem one_law {g : Gr} {nt : Int} {rs : List Int} {k : Nat} {n : Int} (hk : k < rs.length) (h1 : (growE g nt rs).1 = 0) (h2 : (growE g nt (rs.set k n)).1 = 0) : decide (growL g nt rs = growL g nt (rs.set k n)) = (rs.getD k 0 == n) := by
  rw [Bool.eq_iff_iff, decide_eq_true_iff, beq_iff_eq]
  have hg : rs.getD k 0 = rs[k] := by rw [List.getD_eq_getElem?_getD, List.getElem?_eq_getElem hk]; rfl
  constructor
  · intro e
    have e2 := congrArg (List.map (·.1)) e
    rw [grow_rules h1, grow_rules h2] at e2
    rw [hg]
    have e3 := congrArg (fun l => l[k]?) e2
    simp only [List.getElem?_set_self hk, List.getElem?_eq_getElem hk, Option.some.injEq] at e3
    exact e3
  · intro e
    have : rs.set k n = rs := by rw [← e, hg]; simp
    rw [this]
/-- The first step ends where the walk does. -/
theorem walk_to {inc : Int → Int} {G : List (Int × List Int)} {rs : List Int} {any : Bool} {nt fr : Int} {d : DS} (h : walkG (opsD inc) G rs any nt ⟨fr, [], [], 0⟩ = some d) : (d.tree.getD 0 (0, 0, 0)).2.2 = d.place := by
  have hr := walk_rules h
  have hf := (walk_first h).1
  unfold walkG at h
  cases hn : nodeG (opsD inc) G rs rs.length any nt none 1 (0, ⟨fr, [], [], 0⟩) with
  | none => rw [hn] at h; cases h
  | some a =>
    rw [hn] at h
    simp only at h
    split at h
    · cases h
    · simp only [Option.some.injEq] at h
      subst h
      obtain ⟨f, hf2⟩ : ∃ f, rs.length = f + 1 := ⟨rs.length - 1, by omega⟩
      rw [hf2, nodeG] at hn
      split at hn
      · cases hn
      · split at hn
        · cases hn
        · split at hn
          · cases hn
          · split at hn
            · cases hn
            · rename_i s1 hs
              simp only [Option.some.injEq] at hn
              subst hn
              have hlen := congrArg List.length hr
              simp only [opsD, List.length_map, List.length_set] at hlen ⊢
              rw [List.getD_eq_getElem?_getD, List.getElem?_set_self (by omega)]
              rfl
/-- A known tree's steps. -/
theorem steps_law {g : Gr} {t : List (Int × Int × Int)} (h : (knownE g t).1 = 0) (hw : (t.getD 0 (0, 0, 0)).2.1 ≤ 9223372036854775807) :
    ∃ d, treeD g t = some d ∧ d.tree = t ∧ 0 < t.length ∧ t.length ≤ 131072 ∧ 1 ≤ d.depth ∧ d.depth ≤ t.length ∧ 0 ≤ (t.getD 0 (0, 0, 0)).2.1 ∧ (t.getD 0 (0, 0, 0)).2.2 = (t.getD 0 (0, 0, 0)).2.1 + (d.tokens.length : Int) ∧ 0 < d.tokens.length ∧ d.tokens.length ≤ 4194304 ∧
      Go.Proofs.YtcjcffcbfkimdaaDoor.Math.StepsIn (t.getD 0 (0, 0, 0)).2.1 (t.getD 0 (0, 0, 0)).2.2 t := by
  obtain ⟨-, h0, h1, h2, h3, d, h4, h5⟩ := known_ok h
  have hm := dmayN_zero h0
  have h4' := h4
  unfold treeD grownD at h4
  have hto := walk_to h4
  rw [h5] at hto
  have hlen : (t.map (·.1)).length = t.length := List.length_map ..
  have hB : ∀ r ∈ g.rules, r.2.length ≤ 32 := fun r hr => ruleN_len (hm.right.ruleN r hr)
  have hT : d.tokens.length ≤ 4194304 := by
    have hw2 := h4
    unfold walkG at hw2
    cases hn : nodeG (opsD inc64) g.rules (t.map (·.1)) (t.map (·.1)).length true 0 none 1 (0, ⟨(t.getD 0 (0, 0, 0)).2.1, [], [], 0⟩) with
    | none => rw [hn] at hw2; cases hw2
    | some a =>
      rw [hn] at hw2
      simp only at hw2
      split at hw2
      · cases hw2
      · simp only [Option.some.injEq] at hw2
        subst hw2
        obtain ⟨s1, s2, s3, s4⟩ := node_size inc64 g.rules (t.map (·.1)) 32 hB _ _ _ _ _ _ _ hn rfl
        have := hm.len
        simp only [List.length_nil] at s4
        omega
  obtain ⟨p1, p2, p3, p4, p5, n, N, p6, p7, p8⟩ := walk_places2 (inc := inc64) (fun x h0 hx => inc64_low x h0 hx) (by unfold inc64 wrap64; omega) hm.ne h4 ⟨h2, hw⟩ (by omega) (by omega)
  rw [hlen] at p5 p8
  refine ⟨d, h4', h5, h1, hm.len, p4, p5, h2, by omega, p2, hT, ?_⟩
  rw [hto]
  have := p7
  rw [← p6, h5] at this
  exact this
theorem steps_at {p q : Int} {t : List (Int × Int × Int)} (h : Go.Proofs.YtcjcffcbfkimdaaDoor.Math.StepsIn p q t) {i : Nat} (hi : i + 1 < t.length) :
    (t.getD i (0, 0, 0)).2.1 ≤ (t.getD (i + 1) (0, 0, 0)).2.1 ∧ ((t.getD i (0, 0, 0)).2.1 = (t.getD (i + 1) (0, 0, 0)).2.1 → (t.getD (i + 1) (0, 0, 0)).2.2 ≤ (t.getD i (0, 0, 0)).2.2) ∧ (t.getD (i + 1) (0, 0, 0)).2.2 ≤ q ∧ (t.getD (i + 1) (0, 0, 0)).2.1 < (t.getD (i + 1) (0, 0, 0)).2.2 := by
  have e1 : t.getD i (0, 0, 0) = t[i] := by rw [List.getD_eq_getElem?_getD, List.getElem?_eq_getElem (by omega)]; rfl
  have e2 : t.getD (i + 1) (0, 0, 0) = t[i + 1] := by rw [List.getD_eq_getElem?_getD, List.getElem?_eq_getElem hi]; rfl
  rw [e1, e2]
  have ho := List.pairwise_iff_getElem.1 h.ord i (i + 1) (by omega) hi (by omega)
  obtain ⟨-, b1, b2⟩ := h.ins _ (List.getElem_mem hi)
  exact ⟨ho.1, ho.2, b2, b1⟩
theorem shS_first {c : Int} {t : List (Int × Int × Int)} (h : 0 < t.length) : (t.map (shS c)).getD 0 (0, 0, 0) = shS c (t.getD 0 (0, 0, 0)) := by
  cases t with
  | nil => simp at h
  | cons x t => simp
/-- A tree shifted by some places is a tree. -/
theorem shift_law {g : Gr} {t : List (Int × Int × Int)} {c : Int} (h : (knownE g t).1 = 0) (hc : 0 ≤ c) (hc2 : c ≤ 1099511627776) (hw : (t.getD 0 (0, 0, 0)).2.1 ≤ 1099511627776) :
    knownE g (t.map (shS c)) = (0, -1) ∧ (knownD g (t.map (shS c))).1 = (knownD g t).1 := by
  obtain ⟨d, e1, e2, e3, e4, e5, e6, e7, e8, e9, e10, e11⟩ := steps_law h (by omega)
  obtain ⟨k0, h0, -⟩ := known_ok h
  have hm := dmayN_zero h0
  have hd := e1
  unfold treeD grownD walkG at e1
  cases hn : nodeG (opsD inc64) g.rules (t.map (·.1)) (t.map (·.1)).length true 0 none 1 (0, ⟨(t.getD 0 (0, 0, 0)).2.1, [], [], 0⟩) with
  | none => rw [hn] at e1; cases e1
  | some a =>
    rw [hn] at e1
    simp only at e1
    split at e1
    · cases e1
    · rename_i hl
      simp only [Option.some.injEq] at e1
      subst e1
      obtain ⟨N, z, n1, n2, n3, n4, n5, n6⟩ := node_shift inc64 g.rules (t.map (·.1)) (t.getD 0 (0, 0, 0)).2.1 c 4194304 (fun x hx1 hx2 => ⟨inc64_low _ (by omega) (by omega), inc64_low _ (by omega) (by omega)⟩) hm.ne _ _ _ _ _ _ _ hn rfl (by simp) (by omega) ⟨(t.getD 0 (0, 0, 0)).2.1 + c, [], [], 0⟩ rfl rfl rfl rfl
      have hr : (t.map (shS c)).map (·.1) = t.map (·.1) := by simp [shS, Function.comp_def]
      have hz : z.tree = t.map (shS c) := by
        rw [n3, ← e2, n2]
        simp
      have ht : treeD g (t.map (shS c)) = some z := by
        unfold treeD grownD walkG
        rw [hr, shS_first e3, show (shS c (t.getD 0 (0, 0, 0))).2.1 = (t.getD 0 (0, 0, 0)).2.1 + c from rfl]
        have n1' : nodeG (opsD inc64) g.rules (t.map (·.1)) (t.map (·.1)).length true 0 none 1 (0, ⟨(t.getD 0 (0, 0, 0)).2.1 + c, [], [], 0⟩) = some (a.1, z) := n1
        rw [n1']
        simp only
        rw [if_neg hl]
      have hk : knownE g (t.map (shS c)) = (0, -1) := known_mk (by rw [List.length_map]; exact h0) (by rw [List.length_map]; exact e3) (by rw [shS_first e3]; show 0 ≤ _ + c; omega) (by rw [shS_first e3]; show _ + c ≤ _ + c; omega) ht hz
      exact ⟨hk, by rw [knownD_yes hk ht, knownD_yes k0 hd]; exact n5⟩
end Go.Proofs.YtcjcffcbfkimdaaDoor.Hand
