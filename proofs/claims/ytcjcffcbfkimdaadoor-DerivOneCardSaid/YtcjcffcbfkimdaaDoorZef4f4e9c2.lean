/- The texts that the statement's proof stands on, part 5: XLaid XLaidR XWrM XBld XItoa XWr XTxt XKnT XLits XKn18 XStpM XHd XOpens XOne. -/
import Derived.Test.YtcjcffcbfkimdaaDoorZ28b01b6b1
import Derived.Test.YtcjcffcbfkimdaaDoorRows
import Derived.Stop.LaidErr
import Derived.LaidSub
import Derived.LaidMore
import Derived.Stop.Joined
import Derived.MakeChecks
import Derived.Test.YtcjcffcbfkimdaaDoorShelf
import Derived.Shelf.Strings.BuilderK
import Derived.Lib.LaidTab
import Derived.Deep.Slices
import Derived.ChangeSame
import Derived.SizedLaws
import Derived.Lib.SmallJoins
/- The package's errors, as the row lists them: each variable holds a pointer of its own. -/
namespace Go.Proofs.YtcjcffcbfkimdaaDoor.Hand
open Go.ChangeShapes
open Go.RowKit Go.Proofs.YtcjcffcbfkimdaaDoorW.PrintWords Go.Proofs.YtcjcffcbfkimdaaDoorW.PrintMore Go.Proofs.YtcjcffcbfkimdaaDoor.Math

theorem laid_list {P : Program} {W : World} {nm : String} {ti tp te ts : TypeId} {ms : Array (String × TypeId)} {f : Field}
    (hi : P.underlying ti = some (.interface ms)) (hrow : ∀ u, P.typeName? 3 u = some nm → u = tp)
    (hp : P.underlying tp = some (.pointer te)) (he : P.underlying te = some (.struct #[f])) (hft : f.type = ts) (hfo : f.offset = 0) (hs : P.underlying ts = some .string) (hc : P.cellsOf te = 1) (hcs : P.cellsOf ts = 1) :
    ∀ (l : List (String × DataW Unit)) (ps : List MemPlace), DataW.LaidVars P W l ps → ps.Nodup →
      (∀ b off, MemPlace.cell b off ∈ ps → (∃ c t, W.heap[b]? = some (.cells c t (0, 0))) ∧ ∀ u v, W.cell? ⟨b, off, none⟩ = some (.iface u v) → Value.okWide P W .any 0 u v) →
      (∀ x ∈ l, (∃ text, x.2 = .iface nm (.ptr (.agg [.lit (.string text)]))) ∧ ∃ g, P.globalNamed x.1 = some g ∧ (P.globals[g]?).map (·.type) = some ti) →
      ∃ As : List Addr, As.length = l.length ∧ (∀ a ∈ As, MemPlace.cell a.block a.off ∈ ps) ∧ As.Nodup ∧ ∀ (i : Nat) (x : String × DataW Unit) (a : Addr), l[i]? = some x → As[i]? = some a → ∀ g, P.globalNamed x.1 = some g → W.cell? ⟨g, 0, none⟩ = some (.iface tp (.pointer (some a)))
  | [], ps, _, _, _, _ => ⟨[], rfl, fun a h => absurd h (List.not_mem_nil), List.nodup_nil, fun i x a h => by rw [List.getElem?_nil] at h; cases h⟩
  | (n, d) :: r, ps, h, hnd, hrows, hall => by
    obtain ⟨g, t, cs, fuel, p, q, hg, ht, hv, hd, hr, rfl⟩ := h
    obtain ⟨⟨text, hd2⟩, g2, hg2, ht2⟩ := hall (n, d) (List.mem_cons_self ..)
    simp only at hd2 hg2
    subst hd2
    obtain rfl := Option.some.inj (hg.symm.trans hg2)
    obtain rfl := Option.some.inj (ht.symm.trans ht2)
    obtain ⟨l0⟩ := cs
    have ok0 : ∀ u v, l0 = [.iface u v] → Value.okWide P W .any 0 u v := fun u v e => by
      subst e
      exact (hrows g 0 (by simp [MemPlace.row])).2 u v (by simpa using World.var?_cell hg hv 0)
    obtain ⟨a0, s0, rfl, hc0, hs0, hz0, rfl⟩ := errorString_of_trod hi hrow hp he hft hfo hs hc hcs hd ok0
    have hq : q.Nodup := (List.nodup_append.1 hnd).2.1
    obtain ⟨As, k1, k2, k3, k4⟩ := laid_list hi hrow hp he hft hfo hs hc hcs r q hr hq (fun b off hm => hrows b off (List.mem_append_right _ hm)) (fun x hx => hall x (List.mem_cons_of_mem _ hx))
    have hcell : W.cell? ⟨g, 0, none⟩ = some (.iface tp (.pointer (some a0))) := by simpa using World.var?_cell hg hv 0
    refine ⟨a0 :: As, by simp [k1], ?_, ?_, ?_⟩
    · intro a ha
      rcases List.mem_cons.1 ha with rfl | ha
      · exact List.mem_append_left _ (List.mem_append_right _ (by simp [MemPlace.row]))
      · exact List.mem_append_right _ (k2 a ha)
    · refine List.nodup_cons.2 ⟨fun hm => ?_, k3⟩
      exact (List.nodup_append.1 hnd).2.2 _ (List.mem_append_right _ (by simp [MemPlace.row] : MemPlace.cell a0.block a0.off ∈ MemPlace.row a0 1)) _ (k2 a0 hm) rfl
    · intro i x a hx ha g' hg'
      cases i with
      | zero =>
        simp only [List.getElem?_cons_zero, Option.some.injEq] at hx ha
        subst hx ha
        obtain rfl := Option.some.inj (hg.symm.trans hg')
        exact hcell
      | succ i =>
        simp only [List.getElem?_cons_succ] at hx ha
        exact k4 i x a hx ha g' hg'
theorem star_err : "*" ++ "errors.errorString" = "*errors.errorString" := by decide
theorem laid_errs {l : List (String × DataW Unit)} {W : World} (h : laidMetH Tryd.prog l W) (hp : (l.all fun x => x.2.handleName?.isNone) = true)
    (hall : ∀ x ∈ l, (∃ text, x.2 = .iface "*errors.errorString" (.ptr (.agg [.lit (.string text)]))) ∧ ∃ g, Tryd.prog.globalNamed x.1 = some g ∧ (Tryd.prog.globals[g]?).map (·.type) = some 31)
    (hn : l.map (fun x => Tryd.prog.globalNamed x.1) = GE.map some) : ∃ A, Errs W A := by
  rw [MakeChecks.laidMetH_plain _ _ _ hp] at h
  obtain ⟨ps, hv, hnd, hrows⟩ := h
  obtain ⟨As, k1, k2, k3, k4⟩ := laid_list Tryd.underlying31 (tp := 175) (fun u hu => typeName_ptr_named (nm := "errors.errorString") (by rw [star_err]; kernel_rfl) (by kernel_rfl) (by decide) u (by rw [star_err]; exact hu)) Tryd.underlying175 Tryd.underlying193 rfl rfl Tryd.underlying9 (by kernel_rfl) (by kernel_rfl) l ps hv hnd hrows hall
  have hl : l.length = 15 := by have := congrArg List.length hn; simpa [GE] using this
  have hget : ∀ i, i < 15 → ∃ a, As[i]? = some a ∧ As.getD i ⟨0, 0, none⟩ = a := fun i hi => ⟨As[i]'(by omega), List.getElem?_eq_getElem _, by simp [List.getD, List.getElem?_eq_getElem (show i < As.length by omega)]⟩
  refine ⟨fun i => As.getD i ⟨0, 0, none⟩, ⟨fun i hi => ?_, fun i hi => ?_, fun i j hi hj e => ?_⟩⟩
  · obtain ⟨a, e1, e2⟩ := hget i hi
    have hx : l[i]? = some l[i] := List.getElem?_eq_getElem _
    have hg : Tryd.prog.globalNamed (l[i]'(by omega)).1 = some (GE.getD i 0) := by
      have := congrArg (fun z => z[i]?) hn
      simp only [List.getElem?_map, hx, Option.map_some] at this
      have h2 : GE[i]? = some (GE.getD i 0) := by
        have hi2 : i < GE.length := by simpa [GE] using hi
        simp [List.getD, List.getElem?_eq_getElem hi2]
      rw [h2] at this
      simpa using this
    show W.cell? _ = some (.iface _ (.pointer (some (As.getD i _))))
    rw [e2]
    exact k4 i _ a hx e1 _ hg
  · obtain ⟨a, e1, e2⟩ := hget i hi
    show ∃ c t, W.heap[(As.getD i _).block]? = _
    rw [e2]
    exact (hrows a.block a.off (k2 a (List.mem_of_getElem? e1))).1
  · obtain ⟨a, e1, e2⟩ := hget i hi
    obtain ⟨b, e3, e4⟩ := hget j hj
    have e : As.getD i _ = As.getD j _ := e
    rw [e2, e4] at e
    subst e
    exact (List.getElem?_inj (show i < As.length by omega) k3).1 (e1.trans e3.symm)
/-- Is it the datum of an error of errors.New? -/
def sentB (d : DataW Unit) : Bool := match d with | .iface nm (.ptr (.agg [.lit (.string _)])) => nm == "*errors.errorString" | _ => false
theorem sentB_spec {d : DataW Unit} (h : sentB d = true) : ∃ text, d = .iface "*errors.errorString" (.ptr (.agg [.lit (.string text)])) := by
  unfold sentB at h
  split at h
  · rename_i nm text
    exact ⟨text, by rw [beq_iff_eq.1 h]⟩
  · cases h
theorem laid_errs' {l : List (String × DataW Unit)} {W : World} (h : laidMetH Tryd.prog l W) (hp : (l.all fun x => x.2.handleName?.isNone) = true)
    (hall : (l.all fun x => sentB x.2 && (((Tryd.prog.globalNamed x.1).bind fun g => (Tryd.prog.globals[g]?).map (·.type)) == some 31)) = true)
    (hn : l.map (fun x => Tryd.prog.globalNamed x.1) = GE.map some) : ∃ A, Errs W A := by
  refine laid_errs h hp (fun x hx => ?_) hn
  have h1 := List.all_eq_true.1 hall x hx
  rw [Bool.and_eq_true, beq_iff_eq] at h1
  obtain ⟨g, hg, ht⟩ := Option.bind_eq_some_iff.1 h1.2
  exact ⟨sentB_spec h1.1, g, hg, ht⟩
/-- The same where the row lists but some of the errors. -/
theorem laid_errsW {l : List (String × DataW Unit)} {W : World} (h : laidMetH Tryd.prog l W) (hp : (l.all fun x => x.2.handleName?.isNone) = true)
    (hall0 : (l.all fun x => sentB x.2 && (((Tryd.prog.globalNamed x.1).bind fun g => (Tryd.prog.globals[g]?).map (·.type)) == some 31)) = true)
    (hn : l.map (fun x => Tryd.prog.globalNamed x.1) = EW.map (fun i => some (GE.getD i 0))) : ∃ A, ErrsW W A := by
  have hall : ∀ x ∈ l, (∃ text, x.2 = .iface "*errors.errorString" (.ptr (.agg [.lit (.string text)]))) ∧ ∃ g, Tryd.prog.globalNamed x.1 = some g ∧ (Tryd.prog.globals[g]?).map (·.type) = some 31 := fun x hx => by
    have h1 := List.all_eq_true.1 hall0 x hx
    rw [Bool.and_eq_true, beq_iff_eq] at h1
    obtain ⟨g, hg, ht⟩ := Option.bind_eq_some_iff.1 h1.2
    exact ⟨sentB_spec h1.1, g, hg, ht⟩
  rw [MakeChecks.laidMetH_plain _ _ _ hp] at h
  obtain ⟨ps, hv, hnd, hrows⟩ := h
  obtain ⟨As, k1, _, _, k4⟩ := laid_list Tryd.underlying31 (tp := 175) (fun u hu => typeName_ptr_named (nm := "errors.errorString") (by rw [star_err]; kernel_rfl) (by kernel_rfl) (by decide) u (by rw [star_err]; exact hu)) Tryd.underlying175 Tryd.underlying193 rfl rfl Tryd.underlying9 (by kernel_rfl) (by kernel_rfl) l ps hv hnd hrows hall
  have hl : l.length = EW.length := by have := congrArg List.length hn; simpa using this
  refine ⟨fun i => As.getD (EW.idxOf i) ⟨0, 0, none⟩, ⟨fun i hi => ?_⟩⟩
  have hj : EW.idxOf i < EW.length := List.idxOf_lt_length_of_mem hi
  have hge : EW[EW.idxOf i]? = some i := by rw [List.getElem?_eq_getElem hj, List.getElem_idxOf]
  have ha : As[EW.idxOf i]? = some (As[EW.idxOf i]'(by omega)) := List.getElem?_eq_getElem _
  have hx : l[EW.idxOf i]? = some (l[EW.idxOf i]'(by omega)) := List.getElem?_eq_getElem _
  have hg : Tryd.prog.globalNamed (l[EW.idxOf i]'(by omega)).1 = some (GE.getD i 0) := by
    have := congrArg (fun z => z[EW.idxOf i]?) hn
    simp only [List.getElem?_map, hx, hge, Option.map_some] at this
    simpa using this
  show W.cell? _ = some (.iface _ (.pointer (some (As.getD _ _))))
  rw [show As.getD (EW.idxOf i) ⟨0, 0, none⟩ = As[EW.idxOf i]'(by omega) by rw [List.getD_eq_getElem?_getD, ha]; rfl]
  exact k4 _ _ _ hx ha _ hg
end Go.Proofs.YtcjcffcbfkimdaaDoor.Hand
/- What a row lays: the errors out of a longer list, the handle of the type error. -/
namespace Go.Proofs.YtcjcffcbfkimdaaDoor.Hand
open Go.ChangeShapes
open Go.RowKit Go.Proofs.YtcjcffcbfkimdaaDoorW.PrintWords Go.Proofs.YtcjcffcbfkimdaaDoorW.PrintMore Go.Proofs.YtcjcffcbfkimdaaDoor.Math

theorem laid_errsF (p : String × DataW Unit → Bool) {l : List (String × DataW Unit)} {W : World} (h : laidMetH Tryd.prog l W) (hp : (l.all fun x => x.2.handleName?.isNone) = true)
    (hp2 : ((l.filter p).all fun x => x.2.handleName?.isNone) = true)
    (hall : ((l.filter p).all fun x => sentB x.2 && (((Tryd.prog.globalNamed x.1).bind fun g => (Tryd.prog.globals[g]?).map (·.type)) == some 31)) = true)
    (hn : (l.filter p).map (fun x => Tryd.prog.globalNamed x.1) = GE.map some) : ∃ A, Errs W A := by
  rw [MakeChecks.laidMetH_plain _ _ _ hp] at h
  exact laid_errs' (l := l.filter p) (by rw [MakeChecks.laidMetH_plain _ _ _ hp2]; exact h.filter p) hp2 hall hn
theorem laidMetH_nons {P : Program} {l : List (String × DataW Unit)} {W : World} (h : laidMetH P l W) : laidMetH P (l.filter fun x => x.2.handleName?.isNone) W := by
  have hp : ((l.filter fun x => x.2.handleName?.isNone).all fun x => x.2.handleName?.isNone) = true := by
    rw [List.all_eq_true]
    intro x hx
    exact (List.mem_filter.1 hx).2
  rw [MakeChecks.laidMetH_plain _ _ _ hp]
  unfold laidMetH at h
  split at h
  · rename_i he
    rw [List.filter_eq_nil_iff] at he
    have e : (l.filter fun x => x.2.handleName?.isNone) = l := by
      rw [List.filter_eq_self]
      intro x hx
      have := he x hx
      cases hn : x.2.handleName? with
      | none => rfl
      | some s => rw [hn] at this; simp at this
    rw [e]
    exact h
  · exact h.1
theorem errTy_rt : (Tryd.prog.cutTypes.find? (·.1 == "internal/reflectlite.rtype")).map (·.2) = some 137 := by kernel_rfl
theorem errTy_named : Tryd.prog.globalNamed "errors.errorType" = some 15 := by kernel_rfl
theorem errTy_row : ((List.range Tryd.prog.types.size).filter fun t => Tryd.prog.rowNamed t [101, 114, 114, 111, 114]) = [31] := by kernel_rfl
theorem errTy_handle : typeHandle Tryd.prog 31 = .pointer (some ⟨19, 31, none⟩) := by kernel_rfl
theorem laid_errTyR {l : List (String × DataW Unit)} {W : World} (h : laidMetH Tryd.prog l W) (hm : (l.filter fun x => x.2.handleName?.isSome) = [("errors.errorType", Rows.laid_errors_errorType)]) : ErrTyR W := by
  unfold laidMetH at h
  rw [hm] at h
  obtain ⟨name, u, ty, e1, e2, e3, e4, e5⟩ := h.2 _ (List.mem_singleton.2 rfl)
  have en : name = [101, 114, 114, 111, 114] := (Option.some.inj e1).symm
  subst en
  obtain rfl := Option.some.inj (errTy_rt.symm.trans e2)
  have hm : ty ∈ (List.range Tryd.prog.types.size).filter fun t => Tryd.prog.rowNamed t [101, 114, 114, 111, 114] := List.mem_filter.2 ⟨List.mem_range.2 e3, e4⟩
  rw [errTy_row] at hm
  obtain rfl := List.mem_singleton.1 hm
  rw [errTy_handle] at e5
  unfold ErrTyR
  simpa using World.var?_cell errTy_named e5 0
end Go.Proofs.YtcjcffcbfkimdaaDoor.Hand
/- A tree's text, plainly: what is written on a walk of its rules, and how much. -/
namespace Go.Proofs.YtcjcffcbfkimdaaDoor.Math

/-- What parts a nonterminal from its parent. -/
def spW (up : Option (Unit × Nat)) : List UInt8 := match up with | none => [] | some _ => [32]
theorem spW_len (up : Option (Unit × Nat)) : (spW up).length ≤ 1 := by cases up <;> simp [spW]
/-- What is written on a walk: dec: a number in digits. -/
def opsW (dec : Int → List UInt8) : Ops (List UInt8) Unit where
  ent _ s up _ n := (s ++ (spW up ++ (40 :: dec n)), ())
  tok s _ _ x := s ++ (32 :: 46 :: dec x)
  lv s _ := s ++ [41]
/-- How much a walk writes. -/
theorem text_size (dec : Int → List UInt8) (M : Int) (G : List (Int × List Int)) (rs : List Int) (hG : ∀ r ∈ G, r.2.length ≤ 32) (hd : ∀ x, x < M → (dec x).length ≤ 20) (hM : (G.length : Int) ≤ M) (hx : ∀ r ∈ G, ∀ x ∈ r.2, x < M) : ∀ (f : Nat) (any : Bool) (nt : Int) (up : Option (Unit × Nat)) (deep : Nat) (st st' : Nat × List UInt8), nodeG (opsW dec) G rs f any nt up deep st = some st' →
    st.1 < st'.1 ∧ st'.1 ≤ rs.length ∧ st'.2.length + 1000 * st.1 ≤ st.2.length + 1000 * st'.1
  | 0, _, _, _, _, _, _, h => by simp [nodeG] at h
  | f + 1, any, nt, up, deep, st, st', h => by
    rw [nodeG] at h
    split at h
    · cases h
    · rename_i n hn
      split at h
      · cases h
      · rename_i hb
        split at h
        · cases h
        · split at h
          · cases h
          · rename_i s1 hs
            simp only [Option.some.injEq] at h
            subst h
            have hlt : st.1 < rs.length := (List.getElem?_eq_some_iff.1 hn).1
            have hRx : (ruleD G n).2.length ≤ 32 ∧ ∀ x ∈ (ruleD G n).2, x < M := by
              unfold ruleD
              rw [List.getD_eq_getElem?_getD]
              cases hg : G[n.toNat]? with
              | none => simp
              | some r => exact ⟨hG r (List.mem_of_getElem? hg), hx r (List.mem_of_getElem? hg)⟩
            obtain ⟨hR, hRM⟩ := hRx
            have key : ∀ (φ : Unit) (l : List Int) (k : Nat) (s2 s3 : Nat × List UInt8), (∀ x ∈ l, x < M) → symsG (opsW dec) (fun u m s => nodeG (opsW dec) G rs f false m (some u) (deep + 1) s) φ k l s2 = some s3 → s2.1 ≤ rs.length →
                s2.1 ≤ s3.1 ∧ s3.1 ≤ rs.length ∧ s3.2.length + 1000 * s2.1 ≤ s2.2.length + 1000 * s3.1 + 22 * l.length := by
              intro φ l
              induction l with
              | nil =>
                intro k s2 s3 _ h h3
                simp only [symsG, Option.some.injEq] at h
                subst h
                exact ⟨Nat.le_refl _, h3, by simp⟩
              | cons x r ih =>
                intro k s2 s3 hl h h3
                rw [symsG] at h
                split at h
                · split at h
                  · cases h
                  · rename_i s4 h4
                    obtain ⟨a1, a2, a4⟩ := text_size dec M G rs hG hd hM hx f false _ _ _ s2 s4 h4
                    obtain ⟨b1, b2, b4⟩ := ih _ s4 s3 (fun y hy => hl y (List.mem_cons_of_mem _ hy)) h a2
                    simp only [List.length_cons]
                    exact ⟨by omega, b2, by omega⟩
                · have h6 := ih _ (s2.1, (opsW dec).tok s2.2 φ k x) s3 (fun y hy => hl y (List.mem_cons_of_mem _ hy)) h h3
                  have h7 := hd x (hl x (List.mem_cons_self ..))
                  simp only [opsW, List.length_append, List.length_cons] at h6 ⊢
                  obtain ⟨b1, b2, b4⟩ := h6
                  exact ⟨b1, b2, by omega⟩
            obtain ⟨b1, b2, b4⟩ := key _ _ _ _ _ hRM hs (by show st.1 + 1 ≤ rs.length; omega)
            have h8 := hd n (by omega)
            have h9 := spW_len up
            simp only [opsW, List.length_append, List.length_cons, List.length_nil] at b1 b2 b4 ⊢
            exact ⟨by omega, b2, by omega⟩
theorem symsG_call {σ F : Type} {o : Ops σ F} {nd : F × Nat → Int → Nat × σ → Option (Nat × σ)} {φ : F} {k : Nat} {x : Int} {r : List Int} {st fin : Nat × σ} (h : symsG o nd φ k (x :: r) st = some fin) (hx : x < 0) : ∃ s3, nd (φ, k) (-1 - x) st = some s3 ∧ symsG o nd φ (k + 1) r s3 = some fin := by
  rw [symsG, if_pos hx] at h
  cases hn : nd (φ, k) (-1 - x) st with
  | none => rw [hn] at h; cases h
  | some s3 => rw [hn] at h; exact ⟨s3, rfl, h⟩
theorem symsG_tok {σ F : Type} {o : Ops σ F} {nd : F × Nat → Int → Nat × σ → Option (Nat × σ)} {φ : F} {k : Nat} {x : Int} {r : List Int} {st fin : Nat × σ} (h : symsG o nd φ k (x :: r) st = some fin) (hx : ¬ x < 0) : symsG o nd φ (k + 1) r (st.1, o.tok st.2 φ k x) = some fin := by
  rwa [symsG, if_neg hx] at h
end Go.Proofs.YtcjcffcbfkimdaaDoor.Math
/- strings.Builder's writing methods at this program: the library's contracts, laid by hand (the program refuses where the library panics, so two types are named by no body). -/
namespace Go.Proofs.YtcjcffcbfkimdaaDoor.Hand
open Go.RowKit Go.Proofs.YtcjcffcbfkimdaaDoorW.PrintWords Go.Proofs.YtcjcffcbfkimdaaDoorW.PrintMore Go.Proofs.YtcjcffcbfkimdaaDoor.Math

def bldRen : Go.Shelf.Ren := ⟨fun | 166 => 61 | 167 => 63 | 240 => 74 | 276 => 81 | n => n, fun | 0 => 0 | 3 => 3 | 4 => 4 | 5 => 5 | 9 => 9 | 20 => 20 | 37 => 85 | 70 => 84 | 72 => 87 | 75 => 31 | 80 => 90 | 164 => 126 | n => n, fun | n => n⟩
theorem lays167 : Go.Proofs.Lays.n167 Tryd.prog bldRen := {
  mixed := by kernel_rfl
  f167 := Tryd.func63.trans (congrArg some (by kernel_rfl))
  f240 := Tryd.func74.trans (congrArg some (by kernel_rfl))
  f276 := Tryd.func81.trans (congrArg some (by kernel_rfl))
  t0 := Tryd.underlying0
  a0 := Tryd.isAgg0
  z0 := Tryd.sizeOf0
  v0 := Tryd.zeroValue0
  t4 := Tryd.underlying4
  a4 := Tryd.isAgg4
  z4 := Tryd.sizeOf4
  v4 := Tryd.zeroValue4
  t5 := Tryd.underlying5
  a5 := Tryd.isAgg5
  z5 := Tryd.sizeOf5
  v5 := Tryd.zeroValue5
  t9 := Tryd.underlying9
  a9 := Tryd.isAgg9
  z9 := Tryd.sizeOf9
  v9 := Tryd.zeroValue9
  t20 := Tryd.underlying20
  a20 := Tryd.isAgg20
  z20 := Tryd.sizeOf20
  v20 := Tryd.zeroValue20
  t37 := Tryd.underlying85
  a37 := Tryd.isAgg85
  z37 := Tryd.sizeOf85
  v37 := Tryd.zeroValue85
  t70 := Tryd.underlying84
  a70 := Tryd.isAgg84
  z70 := Tryd.sizeOf84
  v70 := Tryd.zeroValue84
  t72 := Tryd.underlying87
  a72 := Tryd.isAgg87
  z72 := Tryd.sizeOf87
  v72 := Tryd.zeroValue87
  t75 := Tryd.underlying31
  a75 := Tryd.isAgg31
  z75 := Tryd.sizeOf31
  v75 := Tryd.zeroValue31
  t164 := Tryd.underlying126
  a164 := Tryd.isAgg126
  z164 := Tryd.sizeOf126
  v164 := Tryd.zeroValue126 }
theorem lays166 : Go.Proofs.Lays.n166 Tryd.prog bldRen := {
  mixed := by kernel_rfl
  f166 := Tryd.func61.trans (congrArg some (by kernel_rfl))
  f240 := Tryd.func74.trans (congrArg some (by kernel_rfl))
  f276 := Tryd.func81.trans (congrArg some (by kernel_rfl))
  t0 := Tryd.underlying0
  a0 := Tryd.isAgg0
  z0 := Tryd.sizeOf0
  v0 := Tryd.zeroValue0
  t3 := Tryd.underlying3
  a3 := Tryd.isAgg3
  z3 := Tryd.sizeOf3
  v3 := Tryd.zeroValue3
  t4 := Tryd.underlying4
  a4 := Tryd.isAgg4
  z4 := Tryd.sizeOf4
  v4 := Tryd.zeroValue4
  t9 := Tryd.underlying9
  a9 := Tryd.isAgg9
  z9 := Tryd.sizeOf9
  v9 := Tryd.zeroValue9
  t20 := Tryd.underlying20
  a20 := Tryd.isAgg20
  z20 := Tryd.sizeOf20
  v20 := Tryd.zeroValue20
  t37 := Tryd.underlying85
  a37 := Tryd.isAgg85
  z37 := Tryd.sizeOf85
  v37 := Tryd.zeroValue85
  t70 := Tryd.underlying84
  a70 := Tryd.isAgg84
  z70 := Tryd.sizeOf84
  v70 := Tryd.zeroValue84
  t72 := Tryd.underlying87
  a72 := Tryd.isAgg87
  z72 := Tryd.sizeOf87
  v72 := Tryd.zeroValue87
  t75 := Tryd.underlying31
  a75 := Tryd.isAgg31
  z75 := Tryd.sizeOf31
  v75 := Tryd.zeroValue31
  t164 := Tryd.underlying126
  a164 := Tryd.isAgg126
  z164 := Tryd.sizeOf126
  v164 := Tryd.zeroValue126 }
theorem bldExtra : Builder.Extra Tryd.prog bldRen := {
  sizeBuilder := by kernel_rfl
  liesBuilder := by kernel_rfl
  t5 := Tryd.underlying5
  a5 := Tryd.isAgg5
  z5 := Tryd.sizeOf5
  v5 := Tryd.zeroValue5
  infoByte := by kernel_rfl
  cellsByte := by kernel_rfl
  sizeByte := by kernel_rfl
  neB5 := by decide }
/-- A builder of the call's own. -/
abbrev IsB (B b : Nat) (bs : List UInt8) (w : World) : Prop := Lib.IsBuilderF 87 5 B b (Lib.byteCells bs) w
theorem bld_byte (B b : Nat) (bs : List UInt8) (c : UInt8) (w : World) (h : IsB B b bs w) (hlen : bs.length + 1 ≤ 140737488355328) (hBw : B ≤ w.heap.size) :
    Calls Tryd.prog 63 #[.pointer (some ⟨b, 0, none⟩), .int .u8 c.toNat] w fun e w' => e = .returned .nilIface ∧ IsB B b (bs ++ [c]) w' ∧ Below B w w' ∧ Lib.OthersKept 5 (some b) w w' := by
  refine (Any.Builder_WriteByte_k lays167 bldExtra B b (Lib.byteCells bs) (c.toNat : Int) w h (by simpa [Lib.byteCells] using hlen) hBw).mono ?_
  rintro e w' ⟨rfl, h1, h2, h3⟩
  exact ⟨rfl, .inr (by rw [show Lib.byteCells (bs ++ [c]) = Lib.byteCells bs ++ [.int .u8 c.toNat] by simp [Lib.byteCells]]; exact h1), h2, h3⟩
theorem bld_str (B b : Nat) (bs : List UInt8) (s : ByteArray) (w : World) (h : IsB B b bs w) (hlen : bs.length + s.size ≤ 140737488355328) (hBw : B ≤ w.heap.size) :
    Calls Tryd.prog 61 #[.pointer (some ⟨b, 0, none⟩), .string s] w fun e w' => e = .returned (.tuple #[.int .i64 s.size, .nilIface]) ∧ IsB B b (bs ++ s.data.toList) w' ∧ Below B w w' ∧ Lib.OthersKept 5 (some b) w w' := by
  refine (Any.Builder_WriteString_k lays166 bldExtra B b (Lib.byteCells bs) s w h (by simpa [Lib.byteCells] using hlen) hBw).mono ?_
  rintro e w' ⟨rfl, h1, h2, h3⟩
  exact ⟨rfl, .inr (by rw [show Lib.byteCells (bs ++ s.data.toList) = Lib.byteCells bs ++ Lib.strCells s by simp [Lib.byteCells, Lib.strCells]]; exact h1), h2, h3⟩
theorem bld_len (B b : Nat) (bs : List UInt8) (w : World) (h : IsB B b bs w) : Calls Tryd.prog 45 #[.pointer (some ⟨b, 0, none⟩)] w fun e w' => e = .returned (.int .i64 bs.length) ∧ w' = w := by
  refine (Tryd.Builder_Len_f B b (Lib.byteCells bs) w h).mono ?_
  rintro e w' ⟨rfl, rfl⟩
  exact ⟨by simp [Lib.byteCells], rfl⟩
theorem bld_string (B b : Nat) (bs : List UInt8) (w : World) (h : IsB B b bs w) (hBw : B ≤ w.heap.size) : Calls Tryd.prog 46 #[.pointer (some ⟨b, 0, none⟩)] w fun e w' => e = .returned (.string ⟨bs.toArray⟩) ∧ IsB B b bs w' ∧ Below B w w' ∧ Lib.OthersKept 5 (some b) w w' := Tryd.Builder_String_any_k B b bs w h hBw
/-- A builder stands where all that was stands. -/
theorem IsB.below {B b : Nat} {bs : List UInt8} {w w' : World} (h : IsB B b bs w) (hb : Below w.heap.size w w') : IsB B b bs w' := by
  have one : ∀ p, Lib.BuilderAtF 87 5 B b p (Lib.byteCells bs) w → Lib.BuilderAtF 87 5 B b p (Lib.byteCells bs) w' := fun p h => by
    have hlt := h.lt
    obtain ⟨hB, v, hbk, hown, hne⟩ := h
    refine ⟨hB, v, (hb.block _ hlt).trans hbk, ⟨hown.1, ?_⟩, hne⟩
    rcases hown.2 with h1 | ⟨g, cap, cur, fz, h1, h2, h3, h4⟩
    · exact .inl h1
    · exact .inr ⟨g, cap, cur, fz, h1, h2, (hb.block _ (Array.getElem?_eq_some_iff.1 h3).1).trans h3, h4⟩
  rcases h with h | h
  · exact .inl (one _ h)
  · exact .inr (one _ h)
theorem IsB.drewN {B b : Nat} {bs : List UInt8} {w : World} (h : IsB B b bs w) (n : Nat) : IsB B b bs (w.drewN n) := h.below (pw_below_drewN (Below.refl _ _) n)
/-- A new builder. -/
theorem isB_new (w : World) : IsB w.heap.size w.heap.size [] (w.alloc (.cells #[.pointer none, .slice none 0 0] 87)) := by
  refine .inl ⟨Nat.le_refl _, .slice none 0 0, heap_alloc_new w _, ⟨rfl, .inl ⟨rfl, rfl⟩⟩, by simp [Value.ownBlock]⟩
end Go.Proofs.YtcjcffcbfkimdaaDoor.Hand
/- strconv.Itoa, by the library's table of powers. -/
namespace Go.Proofs.YtcjcffcbfkimdaaDoor.Hand
open Go.ChangeShapes
open Go.RowKit Go.Proofs.YtcjcffcbfkimdaaDoorW.PrintWords Go.Proofs.YtcjcffcbfkimdaaDoorW.PrintMore Go.Proofs.YtcjcffcbfkimdaaDoor.Math

/-- A number from 0 on, in digits. -/
def decA (i : Nat) : ByteArray := ⟨(Lib.decDigits i).toArray⟩
theorem decA_len : ∀ (k n : Nat), n < 10 ^ (k + 1) → (Lib.decDigits n).length ≤ k + 1
  | 0, n, h => by
    rw [Lib.decDigits]
    simp at h
    simp [h]
  | k + 1, n, h => by
    rw [Lib.decDigits]
    split
    · simp
    · have := decA_len k (n / 10) (by rw [Nat.pow_succ] at h; omega)
      simp
      omega
theorem decA_size (i : Nat) (h : i < 1000000000) : (decA i).size ≤ 20 := by
  have := decA_len 9 i (by omega)
  show (Lib.decDigits i).toArray.size ≤ 20
  rw [List.size_toArray]
  omega
theorem decA_list (i : Nat) : (decA i).data.toList = Lib.decDigits i := rfl
/-- The library's table of powers is there. -/
def Pow10 (w : World) : Prop := Lib.TabIs Tryd.prog w "internal/strconv.uint64pow10" .u64 Lib.pow10Tab
theorem pow10_named : Tryd.prog.globalNamed "internal/strconv.uint64pow10" = some 16 := by kernel_rfl
theorem Pow10.below {w w' : World} (h : Pow10 w) (hb : Below w.heap.size w w') : Pow10 w' := by
  unfold Pow10 Lib.TabIs World.var? at h ⊢
  rw [pow10_named] at h ⊢
  simp only [Option.bind_some] at h ⊢
  have hlt : 16 < w.heap.size := by
    rcases Nat.lt_or_ge 16 w.heap.size with h1 | h1
    · exact h1
    · rw [Array.getElem?_eq_none h1] at h; cases h
  rw [hb.block _ hlt]
  exact h
theorem pow10_nums : Rows.laid_internal_strconv_uint64pow10 = (Lib.tabData .u64 Lib.pow10Tab : DataW Unit) := by rfl
theorem laid_pow10 {l : List (String × DataW Unit)} {W : World} (h : laidMetH Tryd.prog l W) (hp : (l.all fun x => x.2.handleName?.isNone) = true) (hm : (l.filter fun x => x.1 == "internal/strconv.uint64pow10") = [("internal/strconv.uint64pow10", Rows.laid_internal_strconv_uint64pow10)]) : Pow10 W := by
  rw [MakeChecks.laidMetH_plain _ _ _ hp] at h
  have h1 := h.filter (fun x => x.1 == "internal/strconv.uint64pow10")
  rw [hm, pow10_nums] at h1
  exact Lib.tabIs_of_head pow10_named (show (Tryd.prog.globals[16]?).map (·.type) = some 167 by kernel_rfl) Tryd.underlying167 Tryd.underlying159 (by kernel_rfl) (by kernel_rfl) h1
theorem itoaA_calls (i : Nat) (hi : i < 1000000000) (w : World) (hT : Pow10 w) : Calls Tryd.prog 62 #[.int .i64 i] w fun e w' => e = .returned (.string (decA i)) ∧ Below w.heap.size w w' := by
  refine (Tryd.strconv_Itoa (i : Int) (by omega) (by omega) w hT).mono ?_
  rintro e w' ⟨rfl, k, os, rfl⟩
  refine ⟨?_, ?_⟩
  · have : Lib.itoa (i : Int) = Lib.decDigits i := by
      unfold Lib.itoa
      rw [if_neg (by omega), Int.toNat_natCast]
    rw [this]; rfl
  · refine ⟨rfl, rfl, rfl, ?_, fun q hq => ?_⟩
    · show w.heap.size ≤ (w.heap ++ os).size
      simp
    · show (w.heap ++ os)[q]? = _
      rw [Array.getElem?_append_left hq]
end Go.Proofs.YtcjcffcbfkimdaaDoor.Hand
/- Contract: deriv.write: a known tree's text. -/
namespace Go.Proofs.YtcjcffcbfkimdaaDoor.Hand
open Go.RowKit Go.Proofs.YtcjcffcbfkimdaaDoorW.PrintWords Go.Proofs.YtcjcffcbfkimdaaDoorW.PrintMore Go.Proofs.YtcjcffcbfkimdaaDoor.Math

def decI (x : Int) : List UInt8 := Lib.decDigits x.toNat
theorem decI_len {x : Int} (h : x < 1000000000) : (decI x).length ≤ 20 := by
  have := decA_len 9 x.toNat (by omega)
  unfold decI
  omega
theorem cat_list (c : UInt8) (i : Nat) : ((⟨#[c]⟩ : ByteArray) ++ decA i).data.toList = c :: Lib.decDigits i := by
  simp [ByteArray.data_append, decA]
theorem cat_size (c : UInt8) (i : Nat) (h : i < 1000000000) : ((⟨#[c]⟩ : ByteArray) ++ decA i).size ≤ 21 := by
  have := decA_len 9 i (by omega)
  rw [ByteArray.size_append]
  show 1 + (Lib.decDigits i).toArray.size ≤ 21
  rw [List.size_toArray]
  omega
theorem oth_of_below {b : Nat} {w w' : World} (hb : Below w.heap.size w w') : Lib.OthersKept 5 (some b) w w' := fun k _o hk _ _ => (hb.block k (Array.getElem?_eq_some_iff.1 hk).1).trans hk
theorem oth_blk {b k : Nat} {w w' : World} {c : Array Value} {T : TypeId} {fz : Nat × Nat} (h : Lib.OthersKept 5 (some b) w w') (hk : w.heap[k]? = some (.cells c T fz)) (hb : k ≠ b) (hT : T ≠ 5) : w'.heap[k]? = some (.cells c T fz) :=
  h k _ hk (by intro e; injection e with e; exact hb e) (by intro c' fz' e; injection e with _ e _; exact hT e)
/-- The writer's state: w0: as the builder was laid; b: the builder; w1: as this call began. -/
structure WrSt (w0 w1 : World) (b : Nat) (bs : List UInt8) (w : World) : Prop where
  isB : IsB w0.heap.size b bs w
  bel : Below w0.heap.size w0 w
  oth : Lib.OthersKept 5 (some b) w1 w
theorem WrSt.below {w0 w1 w w' : World} {b : Nat} {bs : List UInt8} (h : WrSt w0 w1 b bs w) (hb : Below w.heap.size w w') : WrSt w0 w1 b bs w' := ⟨h.isB.below hb, below_next h.bel hb, h.oth.trans (oth_of_below hb)⟩
theorem Below.chain {n : Nat} {w w1 w2 : World} (h1 : Below n w w1) (h2 : Below n w1 w2) : Below n w w2 := h1.trans h2
theorem WrSt.wrote {w0 w1 w w' : World} {b : Nat} {bs cs : List UInt8} (h : WrSt w0 w1 b bs w) (h1 : IsB w0.heap.size b cs w') (h2 : Below w0.heap.size w w') (h3 : Lib.OthersKept 5 (some b) w w') : WrSt w0 w1 b cs w' := ⟨h1, h.bel.trans h2, h.oth.trans h3⟩
/-- The loop over a right side. -/
structure WLoop (w0 w1 : World) (b : Nat) (G : List (Int × List Int)) (rs : List Int) (f deep i : Nat) (r : List Int) (fin : Nat × List UInt8) (k i2 : Nat) (bs : List UInt8) (w : World) : Prop where
  st : WrSt w0 w1 b bs w
  eq : symsG (opsW decI) (fun u m s => nodeG (opsW decI) G rs f false m (some u) (deep + 1) s) () k (r.drop k) (i2, bs) = some fin
  sz : bs.length + 1000 ≤ 1000 * i2 + 22 + 22 * k
  lo : i + 1 ≤ i2
  hi : i2 ≤ rs.length
def WrP (w0 w1 : World) (b : Nat) (fin : Nat × List UInt8) (e : Ending) (w' : World) : Prop := e = .returned (.int .i64 (fin.1 : Int)) ∧ WrSt w0 w1 b fin.2 w'
set_option maxHeartbeats 4000000 in
set_option maxRecDepth 20000 in
theorem write_calls (w0 : World) (b : Nat) (g : Gr) (AT AN AR : Option Addr) (cT cN cR : Nat) (hR : KRule.C w0 AR g.rules.length g.rules) (tA : Option Addr) (tc : Nat) (t : List (Int × Int × Int)) (ht : KStep.C w0 tA t.length t) (hp : Pow10 w0) (hb0 : w0.heap.size ≤ b)
    (hl : t.length ≤ 131072) (hrl : g.rules.length ≤ 100000) (hsh : ∀ r ∈ g.rules, r.2.length ≤ 32) (hx : ∀ r ∈ g.rules, ∀ x ∈ r.2, x < 1000000000) :
    ∀ (f : Nat) (any : Bool) (nt : Int) (up : Option (Unit × Nat)) (deep i : Nat) (acc : List UInt8) (fin : Nat × List UInt8) (w : World), nodeG (opsW decI) g.rules (t.map (·.1)) f any nt up deep (i, acc) = some fin → acc.length ≤ 1000 * i → IsB w0.heap.size b (acc ++ spW up) w → Below w0.heap.size w0 w →
      Calls Tryd.prog 44 #[.pointer (some ⟨b, 0, none⟩), .agg #[.slice AT g.terms.length cT, .slice AN g.nonterms.length cN, .int .i64 g.ax, .slice AR g.rules.length cR], .slice tA t.length tc, .int .i64 (i : Int)] w (WrP w0 w b fin)
  | 0, any, nt, up, deep, i, acc, fin, w, h, _, _, _ => by simp [nodeG] at h
  | f + 1, any, nt, up, deep, i, acc, fin, w, h, hacc, hB, hbel => by
    have IH := Lib.hid (write_calls w0 b g AT AN AR cT cN cR hR tA tc t ht hp hb0 hl hrl hsh hx f)
    have TS := Lib.hid (text_size decI 1000000000 g.rules (t.map (·.1)) hsh (fun x h => decI_len h) (by omega) hx f)
    rw [nodeG] at h
    split at h
    · cases h
    · rename_i n hn
      split at h
      · cases h
      · rename_i hnb
        split at h
        · cases h
        · split at h
          · cases h
          · rename_i s1 hs
            simp only [Option.some.injEq] at h
            have HFin := Lib.hid h
            have HS := Lib.hid hs
            have hi : i < t.length := by have := (List.getElem?_eq_some_iff.1 hn).1; simpa using this
            have hn2 : (t.getD i (0, 0, 0)).1 = n := by
              rw [List.getElem?_map, List.getElem?_eq_getElem hi] at hn
              rw [List.getD_eq_getElem?_getD, List.getElem?_eq_getElem hi]
              simpa using hn
            obtain ⟨j, rfl⟩ : ∃ j : Nat, n = (j : Int) := ⟨n.toNat, by omega⟩
            have hj : j < g.rules.length := by omega
            clear h hs hn hnb
            obtain ⟨w1, hw1⟩ : ∃ w1, w.alloc (.cells #[.slice AT g.terms.length cT, .slice AN g.nonterms.length cN, .int .i64 g.ax, .slice AR g.rules.length cR] 25) = w1 := ⟨_, rfl⟩
            have hb1 : Below w.heap.size w w1 := by rw [← hw1]; exact below_alloc (Below.refl _ _) _
            have hk1 : w1.heap[w.heap.size]? = some (.cells #[.slice AT g.terms.length cT, .slice AN g.nonterms.length cN, .int .i64 g.ax, .slice AR g.rules.length cR] 25 (0, 0)) := by rw [← hw1]; exact heap_alloc_new w _
            have hbw : b ≠ w.heap.size := by
              have : b < w.heap.size := by rcases hB with h | h <;> exact h.lt
              omega
            have HK1 := Lib.hid hk1
            have HBW := Lib.hid hbw
            have hbw1 : w0.heap.size ≤ w1.heap.size := Nat.le_trans hbel.size hb1.size
            have HS1 : Hid (WrSt w0 w b (acc ++ spW up) w1) := Lib.hid ⟨hB.below hb1, below_next hbel hb1, oth_of_below hb1⟩
            have HO1 : Hid (Lib.OthersKept 5 (some b) w1 w1) := Lib.hid (Lib.OthersKept.refl _ _ _)
            have HStr : Hid (∀ (bs : List UInt8) (s : ByteArray) (W : World), WrSt w0 w1 b bs W → bs.length ≤ 1000000000000 → s.size ≤ 21 → Calls Tryd.prog 61 #[.pointer (some ⟨b, 0, none⟩), .string s] W fun e w' => e = .returned (.tuple #[.int .i64 s.size, .nilIface]) ∧ WrSt w0 w1 b (bs ++ s.data.toList) w') := Lib.hid (fun bs s W hS hbs hss => (bld_str w0.heap.size b bs s W hS.isB (by omega) hS.bel.size).mono (by
              rintro e w' ⟨h1, h2, h3, h4⟩
              exact ⟨h1, hS.wrote h2 h3 h4⟩))
            have HByte : Hid (∀ (bs : List UInt8) (c : UInt8) (W : World), WrSt w0 w1 b bs W → bs.length ≤ 1000000000000 → Calls Tryd.prog 63 #[.pointer (some ⟨b, 0, none⟩), .int .u8 c.toNat] W fun e w' => e = .returned .nilIface ∧ WrSt w0 w1 b (bs ++ [c]) w') := Lib.hid (fun bs c W hS hbs => (bld_byte w0.heap.size b bs c W hS.isB (by omega) hS.bel.size).mono (by
              rintro e w' ⟨h1, h2, h3, h4⟩
              exact ⟨h1, hS.wrote h2 h3 h4⟩))
            have HS1' : Hid (WrSt w0 w1 b (acc ++ spW up) w1) := Lib.hid ⟨HS1.out.isB, HS1.out.bel, Lib.OthersKept.refl _ _ _⟩
            have HSp : Hid (∀ (bs : List UInt8) (W : World), WrSt w0 w1 b bs W → bs.length ≤ 1000000000000 → Calls Tryd.prog 63 #[.pointer (some ⟨b, 0, none⟩), .int .u8 32] W fun e w' => e = .returned .nilIface ∧ WrSt w0 w1 b (bs ++ [32]) w') := Lib.hid (fun bs W h1 h2 => HByte.out bs 32 W h1 h2)
            have HCl : Hid (∀ (bs : List UInt8) (W : World), WrSt w0 w1 b bs W → bs.length ≤ 1000000000000 → Calls Tryd.prog 63 #[.pointer (some ⟨b, 0, none⟩), .int .u8 41] W fun e w' => e = .returned .nilIface ∧ WrSt w0 w1 b (bs ++ [41]) w') := Lib.hid (fun bs W h1 h2 => HByte.out bs 41 W h1 h2)
            clear HByte
            have HTs := Lib.hid ht
            have HRs := Lib.hid hR
            have HP := Lib.hid hp
            have HSh := Lib.hid hsh
            have HX := Lib.hid hx
            have hup := spW_len up
            have hacl : acc.length ≤ 131072000 := by omega
            obtain ⟨ta, x0, y0, z0, hta, k0, k1, k2, HXs⟩ := at_step (Kd.C_below ht HS1.out.bel) i hi
            subst hta
            have hx0 : x0 = (j : Int) := by have := HXs.out; rw [this] at hn2; exact hn2
            subst hx0
            clear hk1 hb1 hB hbel hbw HXs hn2 hR ht hp hx hsh k1 k2
            go_enter Tryd.func44, Tryd.ntmps44
            go_upto_region 4 with (first
              | (go_at_call 62; refine (itoaA_calls j (by omega) w1 (HP.out.below HS1.out.bel)).mono ?_; rintro e w2 ⟨rfl, hb2⟩; have HS2 := Lib.hid (HS1'.out.below hb2); have hcs : ¬ 9223372036854775807 < 1 + (decA j).size := (by have := decA_size j (by omega); omega); clear hb2 k0)
              | (go_at_call 61; refine (HStr.out _ _ w2 HS2.out (by rw [List.length_append]; omega) (cat_size 40 j (by omega))).mono ?_; rintro e w3 ⟨rfl, hS3⟩; rw [cat_list] at hS3; have HS3 := Lib.hid hS3; clear hS3))
            obtain ⟨adr, lx, B2, c2, r2, hAR, p1, p2, hrc2, hr2, HX2⟩ := at_rule HRs.out j hj
            subst hAR
            have hrule : ruleD g.rules (j : Int) = (lx, r2) := by unfold ruleD; rw [Int.toNat_natCast]; exact HX2.out
            have hmem : (lx, r2) ∈ g.rules := by rw [← HX2.out]; exact getD_mem _ _ _ hj
            have hr32 : r2.length ≤ 32 := HSh.out _ hmem
            have HXr : Hid (∀ x ∈ r2, x < 1000000000) := Lib.hid (HX.out _ hmem)
            have HRr := Lib.hid hr2
            have HLo : Hid (WLoop w0 w1 b g.rules (t.map (·.1)) f deep i r2 s1 0 (i + 1) (acc ++ spW up ++ 40 :: Lib.decDigits j) w3) := Lib.hid (by
              refine ⟨HS3.out, ?_, ?_, Nat.le_refl _, by rw [List.length_map]; omega⟩
              · have h := HS.out
                rw [hrule] at h
                rw [List.drop_zero, List.append_assoc]
                exact h
              · have := decA_len 9 j (by omega)
                simp only [List.length_append, List.length_cons]
                omega)
            obtain ⟨c0, c1, c2', c3⟩ := gr_blk (oth_blk HS3.out.oth HK1.out (fun e => HBW.out e.symm) (by decide))
            replace p2 := (HS3.out.bel.cell (World.block_lt_of_cell? _ _ p2)).trans p2
            clear hrule hmem hr2 HS p1 hcs HS1' HS2 HS3
            go_wp2
            go_loopw [3, 31] (fun a k wr => ∃ (kk i2 : Nat) (bs : List UInt8), kk ≤ r2.length ∧ a = .int .i64 (i2 : Int) ∧ k = .int .i64 (kk : Int) ∧ Hid (WLoop w0 w1 b g.rules (t.map (·.1)) f deep i r2 s1 kk i2 bs wr)) (fun _ k _ => r2.length - (intOf k).toNat)
            case atStart => exact ⟨0, i + 1, _, by omega, by go_num, rfl, HLo⟩
            case round =>
              obtain ⟨kk, i2, bs, hkk, rfl, rfl, HN⟩ := hrel
              have hi2 : i2 ≤ t.length := by have := HN.out.hi; simpa using this
              have hbs : bs.length ≤ 1000 * i2 := by have := HN.out.sz; omega
              clear c0 c1 c2' c3 p2 HLo
              by_cases hlk : kk < r2.length
              · obtain ⟨adx, y, rfl, hy, HY⟩ := at_scalar (Kd.C_below HRr.out HN.out.st.bel) kk hlk 0
                have hdrop : r2.drop kk = y :: r2.drop (kk + 1) := by
                  rw [List.drop_eq_getElem_cons hlk]
                  have := HY.out
                  rw [List.getD_eq_getElem?_getD, List.getElem?_eq_getElem hlk] at this
                  rw [← this]
                  rfl
                have hyb := HXr.out y (by rw [← HY.out]; exact getD_mem _ _ _ hlk)
                have hEq := HN.out.eq
                rw [hdrop] at hEq
                by_cases hneg : y < 0
                · obtain ⟨s3, hs3, hrest⟩ := symsG_call hEq hneg
                  have HSz := Lib.hid (TS.out _ _ _ _ _ _ hs3)
                  have HS3 := Lib.hid hs3
                  have HRest := Lib.hid hrest
                  clear hdrop hEq hs3 hrest
                  go_wp2_with (first
                    | (go_at_call 63; refine (HSp.out bs wr HN.out.st (by omega)).mono ?_; rintro e w4 ⟨rfl, h4⟩; have H4 := Lib.hid h4; obtain ⟨c0, c1, c2', c3⟩ := gr_blk (oth_blk h4.oth HK1.out (fun e => HBW.out e.symm) (by decide)); clear h4 hy)
                    | (go_at_call 44; refine (IH.out _ _ _ _ i2 bs s3 w4 HS3.out hbs H4.out.isB H4.out.bel).mono ?_; rintro e w5 ⟨rfl, h5⟩; have H5 : Hid (WrSt w0 w1 b s3.2 w5) := Lib.hid ⟨h5.isB, h5.bel, H4.out.oth.trans h5.oth⟩; clear h5 c0 c1 c2' c3))
                  go_roundw
                  case rel => exact ⟨kk + 1, s3.1, s3.2, by omega, rfl, by go_num, Lib.hid ⟨H5.out, HRest.out, by have h1 := HSz.out.2.2; have h2 := HN.out.sz; omega, by have h1 := HSz.out.1; have h2 := HN.out.lo; omega, HSz.out.2.1⟩⟩
                  case measure => simp [intOf]; omega
                · obtain ⟨m, rfl⟩ : ∃ m : Nat, y = (m : Int) := ⟨y.toNat, by omega⟩
                  have hrest := symsG_tok hEq hneg
                  have HRest := Lib.hid hrest
                  have hm : m < 1000000000 := by omega
                  have hcs : ¬ 9223372036854775807 < 1 + (decA m).size := by have := decA_size m hm; omega
                  clear hdrop hEq hrest hneg hyb
                  go_wp2_with (first
                    | (go_at_call 63; refine (HSp.out bs wr HN.out.st (by omega)).mono ?_; rintro e w4 ⟨rfl, h4⟩; have H4 := Lib.hid h4; clear h4 hy)
                    | (go_at_call 62; refine (itoaA_calls m hm w4 (HP.out.below H4.out.bel)).mono ?_; rintro e w5 ⟨rfl, hb5⟩; have H5 := Lib.hid (H4.out.below hb5); clear hb5)
                    | (go_at_call 61; refine (HStr.out _ _ w5 H5.out (by rw [List.length_append]; simp only [List.length_cons, List.length_nil]; omega) (cat_size 46 m hm)).mono ?_; rintro e w6 ⟨rfl, h6⟩; rw [cat_list] at h6; have H6 := Lib.hid h6; clear h6))
                  go_roundw
                  case rel => exact ⟨kk + 1, i2, _, by omega, rfl, by go_num, Lib.hid ⟨H6.out, (by have h := HRest.out; simp only [opsW] at h; rw [List.append_assoc]; exact h), (by have h2 := HN.out.sz; have := decA_len 9 m (by omega); simp only [List.length_append, List.length_cons, List.length_nil]; omega), HN.out.lo, HN.out.hi⟩⟩
                  case measure => simp [intOf]; omega
              · have hk : kk = r2.length := by omega
                have HF : Hid (fin = (i2, bs ++ [41])) := Lib.hid (by
                  have h := HN.out.eq
                  rw [List.drop_eq_nil_of_le (by omega), symsG, Option.some.injEq] at h
                  have h2 := HFin.out
                  rw [← h] at h2
                  exact h2.symm)
                clear hk
                go_wp2_with (go_at_call 63; refine (HCl.out bs wr HN.out.st (by omega)).mono ?_; rintro e w4 ⟨rfl, h4⟩; have H4 := Lib.hid h4; clear h4)
                go_ret
                exact ⟨by rw [HF.out]; rfl, by rw [HF.out]; exact ⟨H4.out.isB, H4.out.bel, HS1.out.oth.trans H4.out.oth⟩⟩
end Go.Proofs.YtcjcffcbfkimdaaDoor.Hand
/- Contract: deriv.Text. -/
namespace Go.Proofs.YtcjcffcbfkimdaaDoor.Hand
open Go.RowKit Go.Proofs.YtcjcffcbfkimdaaDoorW.PrintWords Go.Proofs.YtcjcffcbfkimdaaDoorW.PrintMore Go.Proofs.YtcjcffcbfkimdaaDoor.Math

/-- A known tree's text. -/
noncomputable def textW (g : Gr) (t : List (Int × Int × Int)) : List UInt8 := (walkG (opsW decI) g.rules (t.map (·.1)) true 0 []).getD []
noncomputable def textE (g : Gr) (t : List (Int × Int × Int)) : Nat × Int :=
  if (knownE g t).1 ≠ 0 then knownE g t else if 1048576 < (textW g t).length then (12, -1) else (0, -1)
noncomputable def textS (g : Gr) (t : List (Int × Int × Int)) : ByteArray := if (textE g t).1 = 0 then ⟨(textW g t).toArray⟩ else ⟨#[]⟩
theorem textE_ge (g : Gr) (t : List (Int × Int × Int)) : -1 ≤ (textE g t).2 := by
  unfold textE
  split
  · exact knownE_ge g t
  · split <;> simp
theorem knownE_may {g : Gr} {t : List (Int × Int × Int)} (h : knownE g t = (0, -1)) : (dmayN g t.length).1 = 0 := by
  unfold knownE at h
  split at h
  · rw [h]
  · omega
/-- A known tree's walk writes its text. -/
theorem text_node {g : Gr} {t : List (Int × Int × Int)} {d : DS} (hd : treeD g t = some d) : ∃ i, nodeG (opsW decI) g.rules (t.map (·.1)) (t.map (·.1)).length true 0 none 1 (0, []) = some (i, textW g t) := by
  unfold treeD grownD walkG at hd
  have hc := node_ctl (opsD inc64) (opsW decI) g.rules (t.map (·.1)) (t.map (·.1)).length true 0 none none 1 1 0 ⟨(t.getD 0 (0, 0, 0)).2.1, [], [], 0⟩ ([] : List UInt8)
  unfold textW walkG
  cases hn : nodeG (opsD inc64) g.rules (t.map (·.1)) (t.map (·.1)).length true 0 none 1 (0, ⟨(t.getD 0 (0, 0, 0)).2.1, [], [], 0⟩) with
  | none => rw [hn] at hd; cases hd
  | some a =>
    rw [hn] at hd hc
    simp only at hd
    split at hd
    · cases hd
    · rename_i hlt
      cases hw : nodeG (opsW decI) g.rules (t.map (·.1)) (t.map (·.1)).length true 0 none 1 (0, []) with
      | none => rw [hw] at hc; cases hc
      | some c =>
        rw [hw] at hc
        simp only [Option.map_some, Option.some.injEq] at hc
        refine ⟨c.1, ?_⟩
        simp only
        rw [if_neg (by omega)]
        rfl
set_option maxHeartbeats 2000000 in
set_option maxRecDepth 20000 in
theorem text18_calls (v : Value) (g : Gr) (tA : Option Addr) (tc : Nat) (t : List (Int × Int × Int)) (w : World) (A : Nat → Addr) (hE : Errs w A) (hv : GramAt w v g) (ht : KStep.C w tA t.length t) (htc : t.length ≤ tc) (hp : Pow10 w) :
    Calls Tryd.prog 28 #[v, .slice tA t.length tc] w fun e w' => ∃ u, e = .returned (.tuple #[.string (textS g t), u]) ∧ ErrV w' A u (textE g t).1 (textE g t).2 ∧ Below w.heap.size w w' := by
  have HV := Lib.hid hv
  obtain ⟨AT, cT, AN, cN, AR, cR, rfl, q1, q2, q3, q4, q5, q6⟩ := hv
  obtain ⟨w1, hw1⟩ : ∃ w1, w.alloc (.cells #[.slice AT g.terms.length cT, .slice AN g.nonterms.length cN, .int .i64 g.ax, .slice AR g.rules.length cR] 25) = w1 := ⟨_, rfl⟩
  have hb1 : Below w.heap.size w w1 := by rw [← hw1]; exact below_alloc (Below.refl _ _) _
  have hk1 : w1.heap[w.heap.size]? = some (.cells #[.slice AT g.terms.length cT, .slice AN g.nonterms.length cN, .int .i64 g.ax, .slice AR g.rules.length cR] 25 (0, 0)) := by rw [← hw1]; exact heap_alloc_new w _
  obtain ⟨c0, c1, c2, c3⟩ := gr_blk hk1
  have HB1 := Lib.hid hb1
  have HK1 := Lib.hid hk1
  have HE1 := Lib.hid (hE.below hb1)
  have HP1 := Lib.hid (hp.below hb1)
  have HT1 := Lib.hid (Kd.C_below ht hb1)
  have HR1 := Lib.hid (Kd.C_below q6 hb1)
  have hkc := known_calls _ g tA tc t w1 A (hE.below hb1) (HV.out.below hb1) (Kd.C_below ht hb1) htc
  have HKc := Lib.hid hkc
  clear hb1 hk1 hE q4 q5 q6 ht hkc hp
  by_cases h0 : knownE g t = (0, -1)
  · have HK2 : Hid (Calls Tryd.prog 41 _ w1 fun e w' => ∃ b d, treeD g t = some d ∧ e = .returned (.tuple #[.pointer (some ⟨b, 0, none⟩), .nilIface]) ∧ Below w1.heap.size w1 w') := Lib.hid (HKc.out.mono (by
      rintro e w' (⟨b, gt, gn, gr, ax, rv, i, d, vt, vk, -, h2, h3, h4, h5, h6⟩ | ⟨u, h1, -⟩)
      · exact ⟨b, d, h2, h4, h5.bel⟩
      · rw [h0] at h1; exact absurd rfl h1))
    have hm := dmayN_zero (knownE_may h0)
    have hlen := hm.len
    have hrul := hm.right.rules
    have HSh : Hid (∀ r ∈ g.rules, r.2.length ≤ 32) := Lib.hid (fun r hr => ruleN_len (hm.right.ruleN r hr))
    have HX : Hid (∀ r ∈ g.rules, ∀ x ∈ r.2, x < 1000000000) := Lib.hid (fun r hr x hx => by have := sym_bound (hm.right.ruleN r hr) hm.right.size x hx; omega)
    have HEq : Hid (textE g t = if 1048576 < (textW g t).length then (12, -1) else (0, -1)) := Lib.hid (by unfold textE; rw [h0]; rfl)
    clear h0 HKc hm
    go_enter Tryd.func28, Tryd.ntmps28
    go_upto_region 5 with (go_at_call 41; refine HK2.out.mono ?_; rintro e w2 ⟨b2, d, hd, rfl, hb2⟩; have HB2 := Lib.hid hb2; have HD := Lib.hid hd; clear hb2 hd c0 c1 c2 c3)
    obtain ⟨w3, hw3⟩ : ∃ w3, w2.alloc (.cells #[.pointer none, .slice none 0 0] 87) = w3 := ⟨_, rfl⟩
    have hb3 : Below w2.heap.size w2 w3 := by rw [← hw3]; exact below_alloc (Below.refl _ _) _
    have hI3 : IsB w2.heap.size w2.heap.size [] w3 := by rw [← hw3]; exact isB_new w2
    rw [hw3]
    obtain ⟨c0, c1, c2, c3⟩ := gr_blk (blk_below HK1.out (below_next HB2.out hb3))
    obtain ⟨ni, hni⟩ := text_node HD.out
    have HWr := Lib.hid (write_calls w2 w2.heap.size g AT AN AR cT cN cR (Kd.C_below HR1.out HB2.out) tA tc t (Kd.C_below HT1.out HB2.out) (HP1.out.below HB2.out) (Nat.le_refl _) hlen (by omega) HSh.out HX.out _ true 0 none 1 0 [] _ w3 hni (Nat.zero_le _) hI3 hb3)
    have HB3 := Lib.hid hb3
    clear hw3 hb3 hI3 hni
    by_cases hbig : 1048576 < (textW g t).length
    · have HF : Hid (textE g t = (12, -1)) := Lib.hid (by rw [HEq.out, if_pos hbig])
      have HS : Hid (textS g t = ⟨#[]⟩) := Lib.hid (by unfold textS; rw [HF.out]; rfl)
      clear HEq
      go_upto_region 7 with (first
        | (go_at_call 44; refine HWr.out.mono ?_; rintro e w4 ⟨rfl, h4⟩; have H4 := Lib.hid h4; clear h4 c0 c1 c2 c3)
        | (go_at_call 45; refine (bld_len _ _ _ w4 H4.out.isB).mono ?_; rintro e w5 ⟨rfl, rfl⟩))
      have hb4 : Below w.heap.size w w5 := below_next HB1.out (below_next HB2.out H4.out.bel)
      have e11 : w5.cell? ⟨1, 0, none⟩ = some (.iface 175 (.pointer (some (A 11)))) := (HE1.out.below (below_next HB2.out H4.out.bel)).cells 11 (by omega)
      have HB4 := Lib.hid hb4
      clear hb4
      go_quiet (fail)
      go_wp2
      go_ret2
      exact ⟨_, by rw [HS.out]; rfl, by rw [HF.out]; exact .sent 11 (by omega), pw_below_drewN HB4.out _⟩
    · have HF : Hid (textE g t = (0, -1)) := Lib.hid (by rw [HEq.out, if_neg hbig])
      have HS : Hid (textS g t = ⟨(textW g t).toArray⟩) := Lib.hid (by unfold textS; rw [HF.out]; rfl)
      clear HEq
      go_wp2_with (first
        | (go_at_call 44; refine HWr.out.mono ?_; rintro e w4 ⟨rfl, h4⟩; have H4 := Lib.hid h4; clear h4 c0 c1 c2 c3)
        | (go_at_call 45; refine (bld_len _ _ _ w4 H4.out.isB).mono ?_; rintro e w5 ⟨rfl, rfl⟩)
        | (go_at_call 46; refine (bld_string _ _ _ _ H4.out.isB H4.out.bel.size).mono ?_; rintro e w6 ⟨rfl, h6, hb6, ho6⟩; have HB6 := Lib.hid (H4.out.bel.trans hb6); clear h6 hb6 ho6))
      go_ret2
      exact ⟨_, by rw [HS.out]; rfl, by rw [HF.out]; exact .none, below_next HB1.out (below_next HB2.out HB6.out)⟩
  · have HK2 : Hid (Calls Tryd.prog 41 _ w1 fun e w' => ∃ t1 x, (knownE g t).1 ≠ 0 ∧ e = .returned (.tuple #[.pointer none, .iface t1 x]) ∧ ErrV w' A (.iface t1 x) (knownE g t).1 (knownE g t).2 ∧ Below w1.heap.size w1 w') := Lib.hid (HKc.out.mono (by
      rintro e w' (⟨b, gt, gn, gr, ax, rv, i, d, vt, vk, h1, -⟩ | ⟨u, h1, h2, h3, h4⟩)
      · exact absurd h1 h0
      · rcases h3.nil_iff with ⟨h, _⟩ | ⟨_, t1, x, rfl⟩
        · exact absurd h h1
        · exact ⟨t1, x, h1, h2, h3, h4⟩))
    clear h0 HKc
    go_enter Tryd.func28, Tryd.ntmps28
    go_wp2_with (go_at_call 41; refine HK2.out.mono ?_; rintro e w2 ⟨t1, x, hne, rfl, hu, hb2⟩; have HNe := Lib.hid hne; have HU := Lib.hid hu; have HB2 := Lib.hid hb2; clear hne hu hb2)
    have HF : Hid (textE g t = knownE g t) := Lib.hid (by unfold textE; rw [if_pos HNe.out])
    go_ret2
    exact ⟨_, by unfold textS; rw [HF.out, if_neg HNe.out]; rfl, by rw [HF.out]; exact HU.out, below_next HB1.out HB2.out⟩
end Go.Proofs.YtcjcffcbfkimdaaDoor.Hand
/- A tree that the document names: what is answered of it, plainly. -/
namespace Go.Proofs.YtcjcffcbfkimdaaDoor.Hand
open Go.RowKit Go.Proofs.YtcjcffcbfkimdaaDoorW.PrintWords Go.Proofs.YtcjcffcbfkimdaaDoorW.PrintMore Go.Proofs.YtcjcffcbfkimdaaDoor.Math

def knG : Gr := ⟨[⟨#[43]⟩, ⟨#[105]⟩], [⟨#[69]⟩, ⟨#[84]⟩], 0, [(0, [-1, 0, -2]), (0, [-2]), (1, [1])]⟩
def knT : List (Int × Int × Int) := [(0, 0, 3), (1, 0, 1), (2, 0, 1), (2, 2, 3)]
theorem kn2 (x y : UInt8) (h : x ≠ y) : NamesOk [⟨#[x]⟩, ⟨#[y]⟩] := by
  intro i hi
  have : i = 0 ∨ i = 1 := by simp at hi; omega
  rcases this with rfl | rfl
  · exact ⟨by show (1 : Nat) ≠ 0; decide, by show (1 : Nat) ≤ 32; decide, by simp⟩
  · refine ⟨by show (1 : Nat) ≠ 0; decide, by show (1 : Nat) ≤ 32; decide, ?_⟩
    intro e
    have e : (⟨#[y]⟩ : ByteArray) = ⟨#[x]⟩ := by simpa using e
    injection e with e
    have := congrArg (fun a => a[0]?) e
    simp at this
    exact h this.symm
theorem kn_gram : checkN knG = (0, -1) := by
  unfold checkN
  have hn1 : NamesOk knG.terms := kn2 _ _ (by decide)
  have hn2 : NamesOk knG.nonterms := kn2 _ _ (by decide)
  rw [if_neg (by simp [knG]), if_neg (by simp [hn1, hn2]), if_neg (by simp [knG])]
  decide
theorem kn_may (n : Nat) (h : n ≤ 100) : dmayN knG n = (0, -1) := by
  unfold dmayN
  rw [kn_gram, if_neg (by simp), if_neg (by decide), if_neg (by omega)]
theorem kn_tree : treeD knG knT = some ⟨3, knT, [1, 0, 1], 3⟩ := by simp [treeD, grownD, walkG, nodeG, symsG, opsD, knG, knT, ruleD, inc64, wrap64]
theorem kn_known : knownE knG knT = (0, -1) := by
  unfold knownE
  rw [show knT.length = 4 from rfl, kn_may 4 (by omega), if_neg (by simp), if_neg (by decide), kn_tree]
  simp
theorem kn_check : checkE knG [1, 0, 1] knT = (0, -1) := by
  unfold checkE
  rw [show knT.length = 4 from rfl, kn_may 4 (by omega), if_neg (by simp), if_neg (by decide), if_neg (by decide), if_pos ⟨kn_known, rfl, rfl, by rw [knownD_yes kn_known kn_tree]⟩]
theorem kn_grown : grownD knG [0, 1, 2, 2] false 0 0 = some ⟨3, knT, [1, 0, 1], 3⟩ := by simp [grownD, walkG, nodeG, symsG, opsD, knG, knT, ruleD, inc64, wrap64]
theorem kn_grow : growE knG 0 [0, 1, 2, 2] = (0, -1) := by
  unfold growE
  rw [show [(0 : Int), 1, 2, 2].length = 4 from rfl, kn_may 4 (by omega), if_neg (by simp), if_neg (by decide), kn_grown]
  simp
theorem kn_growL : growL knG 0 [0, 1, 2, 2] = knT := by
  unfold growL
  rw [kn_grow, if_pos rfl, kn_grown]
theorem kn_dec (n : Nat) (h : n < 10) : Lib.decDigits n = [UInt8.ofNat (48 + n)] := by rw [Lib.decDigits, dif_pos h]
theorem kn_write : textW knG knT = [40, 48, 32, 40, 49, 32, 40, 50, 32, 46, 49, 41, 41, 32, 46, 48, 32, 40, 50, 32, 46, 49, 41, 41] := by
  have d0 := kn_dec 0 (by omega)
  have d1 := kn_dec 1 (by omega)
  have d2 := kn_dec 2 (by omega)
  simp [textW, walkG, nodeG, symsG, opsW, spW, decI, knG, knT, ruleD, d0, d1, d2]
theorem kn_text : textE knG knT = (0, -1) := by
  unfold textE
  rw [kn_known, if_neg (by simp), if_neg (by rw [kn_write]; decide)]
theorem kn_S : textS knG knT = ⟨#[40, 48, 32, 40, 49, 32, 40, 50, 32, 46, 49, 41, 41, 32, 46, 48, 32, 40, 50, 32, 46, 49, 41, 41]⟩ := by
  unfold textS
  rw [kn_text, if_pos rfl, kn_write]
theorem kn_badW : treeD knG [(2, 2, 3)] = some ⟨3, [(2, 2, 3)], [1], 1⟩ := by simp [treeD, grownD, walkG, nodeG, symsG, opsD, knG, ruleD, inc64, wrap64]
theorem kn_bad : checkE knG [1] [(2, 2, 3)] = (11, -1) := by
  unfold checkE
  rw [show [((2 : Int), (2 : Int), (3 : Int))].length = 1 from rfl, kn_may 1 (by omega), if_neg (by simp), if_neg (by decide), if_neg (by decide), if_neg (by intro h; have := h.2.1; simp at this)]
end Go.Proofs.YtcjcffcbfkimdaaDoor.Hand
/- Literals in memory: rows of numbers, of texts, of rules, of steps, block by block. -/
namespace Go.Proofs.YtcjcffcbfkimdaaDoor.Hand
open Go.RowKit Go.Proofs.YtcjcffcbfkimdaaDoorW.PrintWords Go.Proofs.YtcjcffcbfkimdaaDoorW.PrintMore Go.Proofs.YtcjcffcbfkimdaaDoor.Math

theorem allocs_heap : ∀ (os : List Obj) (w : World), (os.foldl World.alloc w).heap = w.heap ++ os.toArray
  | [], w => by simp
  | o :: os, w => by
    rw [List.foldl_cons, allocs_heap os (w.alloc o)]
    show (w.heap.push o) ++ os.toArray = _
    simp
theorem allocs_get (w : World) (os : List Obj) (k : Nat) {o : Obj} (h : os[k]? = some o) : (os.foldl World.alloc w).heap[w.heap.size + k]? = some o := by
  rw [allocs_heap, Array.getElem?_append_right (by omega)]
  simpa using h
theorem allocs_below (w : World) : ∀ (os : List Obj), Below w.heap.size w (os.foldl World.alloc w) := by
  intro os
  have key : ∀ (os : List Obj) (w1 : World), Below w.heap.size w w1 → Below w.heap.size w (os.foldl World.alloc w1) := by
    intro os
    induction os with
    | nil => intro w1 h; exact h
    | cons o os ih => intro w1 h; exact ih _ (below_alloc h o)
  exact key os w (Below.refl _ _)
theorem add_blk (b j : Nat) : (⟨b, 0, none⟩ : Addr).add j = ⟨b, j, none⟩ := by
  unfold Addr.add
  by_cases h : j = 0 <;> simp [h]
theorem blk_C {α : Type} {enc : α → Value} (h1 : ∀ x, (enc x).oneCell' = true) {xs : List α} {W : World} {b : Nat} {T : TypeId} (hk : W.heap[b]? = some (.cells (xs.map enc).toArray T (0, 0))) (hx : xs.length ≤ 9223372036854775807) : (Kd.scalar enc h1).C W (some ⟨b, 0, none⟩) xs.length xs := by
  refine ⟨rfl, hx, fun _ => ⟨⟨b, 0, none⟩, rfl, fun j p hj => ⟨[enc p], rfl, rfl, fun i u hu => ?_⟩⟩⟩
  have h0 : i = 0 := by
    have := (List.getElem?_eq_some_iff.1 hu).1
    simp at this
    exact this
  subst h0
  simp at hu
  subst hu
  show W.cell? ((⟨b, 0, none⟩ : Addr).add (j * 1 + 0)) = _
  rw [Nat.mul_one, Nat.add_zero, add_blk]
  exact blk_cell hk j (by simp [hj]) (h1 p)
theorem blk_rules {w : World} {b : Nat} {l : List (Int × List Int)} (hm : l.length ≤ 1000) (h : ∀ j r, l[j]? = some r → w.cell? ⟨b, j * 2, none⟩ = some (.int .i64 r.1) ∧ ∃ A, w.cell? ⟨b, j * 2 + 1, none⟩ = some (.slice A r.2.length r.2.length) ∧ Kd.C (Kd.int .i64) w A r.2.length r.2) : KRule.C w (some ⟨b, 0, none⟩) l.length l := by
  refine ⟨rfl, by omega, fun _ => ⟨_, rfl, fun j r hj => ?_⟩⟩
  obtain ⟨h1, A, h2, h3⟩ := h j r hj
  refine ⟨[.int .i64 r.1, .slice A r.2.length r.2.length], rfl, ⟨[.int .i64 r.1], [.slice A r.2.length r.2.length], rfl, rfl, A, r.2.length, rfl, Nat.le_refl _, h3⟩, fun i u hu => ?_⟩
  rw [show KRule.sz = 2 from rfl, add_blk]
  match i, hu with
  | 0, hu => simp at hu; subst hu; exact h1
  | 1, hu => simp at hu; subst hu; exact h2
  | i + 2, hu => simp at hu
theorem blk_steps {w : World} {b : Nat} {l : List (Int × Int × Int)} (hm : l.length ≤ 1000) (h : ∀ j r, l[j]? = some r → w.cell? ⟨b, j * 3, none⟩ = some (.int .i64 r.1) ∧ w.cell? ⟨b, j * 3 + 1, none⟩ = some (.int .i64 r.2.1) ∧ w.cell? ⟨b, j * 3 + 2, none⟩ = some (.int .i64 r.2.2)) : KStep.C w (some ⟨b, 0, none⟩) l.length l := by
  refine ⟨rfl, by omega, fun _ => ⟨_, rfl, fun j r hj => ?_⟩⟩
  obtain ⟨h1, h2, h3⟩ := h j r hj
  refine ⟨[.int .i64 r.1, .int .i64 r.2.1, .int .i64 r.2.2], rfl, ⟨[.int .i64 r.1], [.int .i64 r.2.1, .int .i64 r.2.2], rfl, rfl, [.int .i64 r.2.1], [.int .i64 r.2.2], rfl, rfl, rfl⟩, fun i u hu => ?_⟩
  rw [show KStep.sz = 3 from rfl, add_blk]
  match i, hu with
  | 0, hu => simp at hu; subst hu; exact h1
  | 1, hu => simp at hu; subst hu; exact h2
  | 2, hu => simp at hu; subst hu; exact h3
  | i + 3, hu => simp at hu
end Go.Proofs.YtcjcffcbfkimdaaDoor.Hand
/- The walk of the law file's known (dovetaillaw18). -/
namespace Go.Proofs.YtcjcffcbfkimdaaDoor.Hand
open Go.RowKit Go.Proofs.YtcjcffcbfkimdaaDoorW.PrintWords Go.Proofs.YtcjcffcbfkimdaaDoorW.PrintMore Go.Proofs.YtcjcffcbfkimdaaDoor.Math

set_option maxHeartbeats 1000000 in
set_option maxRecDepth 20000 in
theorem lawKnown_calls (w : World) (A : Nat → Addr) (hE : Errs w A) (hp : Pow10 w) :
    Calls Tryd.prog 26 #[] w fun e w' => e = .returned (.bool true) ∧ Below w.heap.size w w' := by
  have HE := Lib.hid hE
  have HP := Lib.hid hp
  clear hE hp
  go_enter Tryd.func26, Tryd.ntmps26
  go_upto_region 3 with (fail)
  generalize hw1 : World.alloc _ _ = w1
  have hB1 : Below w.heap.size w w1 := by rw [← hw1]; exact allocs_below w [_, _, _, _, _, _, _, _]
  have b0 : w1.heap[w.heap.size + 0]? = some (.cells #[.string ⟨#[43]⟩, .string ⟨#[105]⟩] 9 (0, 0)) := by rw [← hw1]; exact allocs_get w [_, _, _, _, _, _, _, _] 0 rfl
  have b1 : w1.heap[w.heap.size + 1]? = some (.cells #[.string ⟨#[69]⟩, .string ⟨#[84]⟩] 9 (0, 0)) := by rw [← hw1]; exact allocs_get w [_, _, _, _, _, _, _, _] 1 rfl
  have b2 : w1.heap[w.heap.size + 2]? = some (.cells #[.int .i64 (-1), .int .i64 0, .int .i64 (-2)] 3 (0, 0)) := by rw [← hw1]; exact allocs_get w [_, _, _, _, _, _, _, _] 2 rfl
  have b3 : w1.heap[w.heap.size + 3]? = some (.cells #[.int .i64 (-2)] 3 (0, 0)) := by rw [← hw1]; exact allocs_get w [_, _, _, _, _, _, _, _] 3 rfl
  have b4 : w1.heap[w.heap.size + 4]? = some (.cells #[.int .i64 1] 3 (0, 0)) := by rw [← hw1]; exact allocs_get w [_, _, _, _, _, _, _, _] 4 rfl
  have b5 : w1.heap[w.heap.size + 5]? = some (.cells #[.int .i64 0, .slice (some ⟨w.heap.size + 2, 0, none⟩) 3 3, .int .i64 0, .slice (some ⟨w.heap.size + 3, 0, none⟩) 1 1, .int .i64 1, .slice (some ⟨w.heap.size + 4, 0, none⟩) 1 1] 80 (0, 0)) := by rw [← hw1]; exact allocs_get w [_, _, _, _, _, _, _, _] 5 rfl
  have b6 : w1.heap[w.heap.size + 6]? = some (.cells #[.slice (some ⟨w.heap.size, 0, none⟩) 2 2, .slice (some ⟨w.heap.size + 1, 0, none⟩) 2 2, .int .i64 0, .slice (some ⟨w.heap.size + 5, 0, none⟩) 3 3] 25 (0, 0)) := by rw [← hw1]; exact allocs_get w [_, _, _, _, _, _, _, _] 6 rfl
  have b7 : w1.heap[w.heap.size + 7]? = some (.cells #[.int .i64 0, .int .i64 0, .int .i64 3, .int .i64 1, .int .i64 0, .int .i64 1, .int .i64 2, .int .i64 0, .int .i64 1, .int .i64 2, .int .i64 2, .int .i64 3] 55 (0, 0)) := by rw [← hw1]; exact allocs_get w [_, _, _, _, _, _, _, _] 7 rfl
  have HG : Hid (GramAt w1 (.agg #[.slice (some ⟨w.heap.size, 0, none⟩) 2 2, .slice (some ⟨w.heap.size + 1, 0, none⟩) 2 2, .int .i64 0, .slice (some ⟨w.heap.size + 1 + 1 + 1 + 1 + 1, 0, none⟩) 3 3]) knG) := Lib.hid (by
    have d2 : Kd.C (Kd.int .i64) w1 (some ⟨w.heap.size + 2, 0, none⟩) 3 [-1, 0, -2] := blk_C (enc := Value.int .i64) (fun _ => rfl) b2 (by decide)
    have d3 : Kd.C (Kd.int .i64) w1 (some ⟨w.heap.size + 3, 0, none⟩) 1 [-2] := blk_C (enc := Value.int .i64) (fun _ => rfl) b3 (by decide)
    have d4 : Kd.C (Kd.int .i64) w1 (some ⟨w.heap.size + 4, 0, none⟩) 1 [1] := blk_C (enc := Value.int .i64) (fun _ => rfl) b4 (by decide)
    refine ⟨_, 2, _, 2, _, 3, rfl, by decide, by decide, by decide, blk_C (enc := Value.string) (fun _ => rfl) b0 (by decide), blk_C (enc := Value.string) (fun _ => rfl) b1 (by decide), ?_⟩
    refine blk_rules (l := knG.rules) (by decide) (fun j r hj => ?_)
    match j, hj with
    | 0, hj => obtain rfl : (0, [-1, 0, -2]) = r := Option.some.inj hj; exact ⟨blk_cell b5 0 rfl rfl, _, blk_cell b5 1 rfl rfl, d2⟩
    | 1, hj => obtain rfl : (0, [-2]) = r := Option.some.inj hj; exact ⟨blk_cell b5 2 rfl rfl, _, blk_cell b5 3 rfl rfl, d3⟩
    | 2, hj => obtain rfl : (1, [1]) = r := Option.some.inj hj; exact ⟨blk_cell b5 4 rfl rfl, _, blk_cell b5 5 rfl rfl, d4⟩
    | j + 3, hj => simp [knG] at hj)
  have HT : Hid (KStep.C w1 (some ⟨w.heap.size + 1 + 1 + 1 + 1 + 1 + 1 + 1, 0, none⟩) 4 knT) := Lib.hid (blk_steps (l := knT) (by decide) (fun j r hj => by
    match j, hj with
    | 0, hj => obtain rfl : (0, 0, 3) = r := Option.some.inj hj; exact ⟨blk_cell b7 0 rfl rfl, blk_cell b7 1 rfl rfl, blk_cell b7 2 rfl rfl⟩
    | 1, hj => obtain rfl : (1, 0, 1) = r := Option.some.inj hj; exact ⟨blk_cell b7 3 rfl rfl, blk_cell b7 4 rfl rfl, blk_cell b7 5 rfl rfl⟩
    | 2, hj => obtain rfl : (2, 0, 1) = r := Option.some.inj hj; exact ⟨blk_cell b7 6 rfl rfl, blk_cell b7 7 rfl rfl, blk_cell b7 8 rfl rfl⟩
    | 3, hj => obtain rfl : (2, 2, 3) = r := Option.some.inj hj; exact ⟨blk_cell b7 9 rfl rfl, blk_cell b7 10 rfl rfl, blk_cell b7 11 rfl rfl⟩
    | j + 4, hj => simp [knT] at hj))
  have HB1 := Lib.hid hB1
  have HK : Hid (w1.heap[w.heap.size + 1 + 1 + 1 + 1 + 1 + 1]? = some (.cells #[.slice (some ⟨w.heap.size, 0, none⟩) 2 2, .slice (some ⟨w.heap.size + 1, 0, none⟩) 2 2, .int .i64 0, .slice (some ⟨w.heap.size + 1 + 1 + 1 + 1 + 1, 0, none⟩) 3 3] 25 (0, 0))) := Lib.hid b6
  have HE1 := Lib.hid (HE.out.below hB1)
  have HP1 := Lib.hid (HP.out.below hB1)
  clear b0 b1 b2 b3 b4 b5 b6 b7 hw1 hB1
  obtain ⟨b5, h5⟩ : ∃ b, w.heap.size + 1 + 1 + 1 + 1 + 1 = b := ⟨_, rfl⟩
  rw [h5] at HG HT HK ⊢
  clear h5
  obtain ⟨c0, c1, c2, c3⟩ := gr_blk HK.out
  have HTx := Lib.hid (text18_calls _ knG (some ⟨b5 + 1 + 1, 0, none⟩) 4 knT w1 A HE1.out HG.out HT.out (by decide) HP1.out)
  have HGw := Lib.hid (fun (W : World) (hW : Below w1.heap.size w1 W) => grow_calls _ knG 0 (some ⟨W.heap.size, 0, none⟩) 4 [0, 1, 2, 2] (W.alloc (.cells #[.int .i64 0, .int .i64 1, .int .i64 2, .int .i64 2] 3)) A (HE1.out.below (below_alloc hW _)) (HG.out.below (below_alloc hW _)) (blk_C (enc := Value.int .i64) (xs := [0, 1, 2, 2]) (fun _ => rfl) (heap_alloc_new W _) (by decide)) (by decide))
  rw [kn_text, kn_S] at HTx
  unfold GrowP at HGw
  simp only [kn_grow, kn_growL] at HGw
  go_upto_region 5 with (first
    | (go_at_call 28; refine HTx.out.mono ?_; rintro e w2 ⟨u2, rfl, hu2, hb2⟩; obtain rfl : u2 = .nilIface := (by cases hu2; rfl); have HB2 := Lib.hid hb2; obtain ⟨d0, d1, d2, d3⟩ := gr_blk (blk_below HK.out hb2); clear hu2 hb2 c0 c1 c2 c3)
    | (go_at_call 11; refine (HGw.out w2 HB2.out).mono ?_; rintro e w3 ⟨v3, u3, rfl, hr3, hu3, hb3⟩; obtain rfl : u3 = .nilIface := (by cases hu3; rfl); obtain ⟨A3, k3, e3⟩ := Kd.R_slice hr3; rw [show knT.length = 4 from rfl] at e3; subst e3; have HA3 := Lib.hid (Kd.R_reads' hr3).2.2; have HB3 := Lib.hid (below_next HB2.out (below_next (below_alloc (Below.refl _ _) _) hb3)); obtain ⟨c0, c1, c2, c3⟩ := gr_blk (blk_below HK.out HB3.out); clear hr3 hu3 hb3 d0 d1 d2 d3))
  have HFour : Hid (∀ W, Below w1.heap.size w1 W → W.cell? ⟨b5 + 1, 0, none⟩ = some (.slice (some ⟨w.heap.size, 0, none⟩) 2 2) ∧ W.cell? ⟨b5 + 1, 1, none⟩ = some (.slice (some ⟨w.heap.size + 1, 0, none⟩) 2 2) ∧ W.cell? ⟨b5 + 1, 2, none⟩ = some (.int .i64 0) ∧ W.cell? ⟨b5 + 1, 3, none⟩ = some (.slice (some ⟨b5, 0, none⟩) 3 3) ∧ Aside0 (Below w1.heap.size w1 W)) := Lib.hid (fun W hW => by
    obtain ⟨a0, a1, a2, a3⟩ := gr_blk (blk_below HK.out hW)
    exact ⟨a0, a1, a2, a3, ⟨hW⟩⟩)
  have HDr : Hid (Below w1.heap.size w1 w3.drew) := Lib.hid (HB3.out.trans (pw_below_drewN (Below.refl _ _) 1))
  have HD4 : Hid (Below w1.heap.size w1 (w3.alloc (.cells #[.int .i64 1, .int .i64 0, .int .i64 1] 3)).drew) := Lib.hid ((below_alloc HB3.out _).trans (pw_below_drewN (Below.refl _ _) 1))
  have HC1 := Lib.hid (check18_calls _ knG (some ⟨w3.heap.size, 0, none⟩) 3 [1, 0, 1] (some ⟨b5 + 1 + 1, 0, none⟩) 4 knT (w3.alloc (.cells #[.int .i64 1, .int .i64 0, .int .i64 1] 3)).drew A (HE1.out.below HD4.out) (HG.out.below HD4.out) (blk_C (enc := Value.int .i64) (xs := [1, 0, 1]) (fun _ => rfl) (show (w3.alloc (.cells #[.int .i64 1, .int .i64 0, .int .i64 1] 3)).heap[w3.heap.size]? = _ from heap_alloc_new w3 _) (by decide)) (Kd.C_below HT.out HD4.out) (by decide))
  unfold CheckP at HC1
  rw [kn_check] at HC1
  have HKS : Hid (∀ W, Below w3.heap.size w3 W → Below w1.heap.size w1 W → Calls Tryd.prog 14 #[.slice A3 4 k3, .slice (some ⟨b5 + 1 + 1, 0, none⟩) 4 4] W fun e w' => e = .returned (.bool true) ∧ Below w1.heap.size w1 w') := Lib.hid (fun W h3 h1 => (ksteps_calls A3 (some ⟨b5 + 1 + 1, 0, none⟩) k3 4 knT knT W (Kd.C_below HA3.out h3) (Kd.C_below HT.out h1)).mono (by
    rw [decide_eq_true (show knT = knT from rfl)]
    rintro e w' ⟨rfl, n, rfl⟩
    exact ⟨rfl, pw_below_drewN h1 n⟩))
  have HT3 : Hid (∀ W, Below w1.heap.size w1 W → KStep.C W (some ⟨b5 + 1 + 1, 9, none⟩) 1 [(2, 2, 3)]) := Lib.hid (fun W h1 => by
    have := Kd.C_drop (c := 5) (m := 3) (Kd.C_below HT.out h1) (by decide) (by decide)
    exact this)
  have HC2 : Hid (∀ (W : World) (b : Nat), Below w1.heap.size w1 W → W.heap[b]? = some (.cells #[.int .i64 1] 3 (0, 0)) → Calls Tryd.prog 19 #[.agg #[.slice (some ⟨w.heap.size, 0, none⟩) 2 2, .slice (some ⟨w.heap.size + 1, 0, none⟩) 2 2, .int .i64 0, .slice (some ⟨b5, 0, none⟩) 3 3], .slice (some ⟨b, 0, none⟩) 1 1, .slice (some ⟨b5 + 1 + 1, 9, none⟩) 1 1] W fun e w' => ∃ u, e = .returned u ∧ ErrV w' A u 11 (-1) ∧ Below W.heap.size W w') := Lib.hid (fun W b h1 hb => by
    have := check18_calls _ knG (some ⟨b, 0, none⟩) 1 [1] (some ⟨b5 + 1 + 1, 9, none⟩) 1 [(2, 2, 3)] W A (HE1.out.below h1) (HG.out.below h1) (blk_C (enc := Value.int .i64) (xs := [1]) (fun _ => rfl) hb (by decide)) (HT3.out W h1) (by decide)
    unfold CheckP at this
    rw [kn_bad] at this
    exact this)
  go_region_held3 (fun w' => w'.cell? ⟨b5 + 1, 0, none⟩ = some (.slice (some ⟨w.heap.size, 0, none⟩) 2 2) ∧ w'.cell? ⟨b5 + 1, 1, none⟩ = some (.slice (some ⟨w.heap.size + 1, 0, none⟩) 2 2) ∧ w'.cell? ⟨b5 + 1, 2, none⟩ = some (.int .i64 0) ∧ w'.cell? ⟨b5 + 1, 3, none⟩ = some (.slice (some ⟨b5, 0, none⟩) 3 3) ∧ Aside0 (Below w1.heap.size w1 w'))
    (first
      | exact HFour.out _ HDr.out
      | exact HFour.out _ (below_alloc HDr.out _)
      | exact HFour.out _ HP4.out
      | exact HFour.out _ HP5.out
      | exact HFour.out _ (below_alloc HP5.out _)
      | exact HFour.out _ HP6.out
      | exact HFour.out _ HP7.out)
    (first
      | (go_at_call 27; refine (kind_calls (HE1.out.below HP6.out) HU6.out).mono ?_; rintro e w7 ⟨rfl, hb7⟩; have HP7 := Lib.hid (below_next HP6.out hb7); clear hb7)
      | (go_at_call 19; refine (HC2.out (w5.alloc (.cells #[.int .i64 1] 3)) w5.heap.size (below_alloc HP5.out _) (heap_alloc_new w5 _)).mono ?_; rintro e w6 ⟨u6, rfl, hu6, hb6⟩; have HU6 := Lib.hid hu6; have HP6 := Lib.hid (below_next (below_alloc HP5.out _) hb6); clear hu6 hb6)
      | (go_at_call 19; refine HC1.out.mono ?_; rintro e w4 ⟨u4, rfl, hu4, hb4⟩; obtain rfl : u4 = .nilIface := (by cases hu4; rfl); have HP4 := Lib.hid (below_next HD4.out hb4); have HQ4 : Hid (Below w3.heap.size w3 w4) := Lib.hid (below_next ((below_alloc (Below.refl w3.heap.size w3) _).trans (pw_below_drewN (Below.refl _ _) 1)) hb4); clear hu4 hb4)
      | (go_at_call 14; (with_reducible refine (HKS.out w4 HQ4.out HP4.out).mono ?_); rintro e w5 ⟨rfl, hb5⟩; have HP5 := Lib.hid hb5; clear hb5))
  go_wp2
  go_ret
  exact ⟨rfl, below_next HB1.out HP7.out⟩
end Go.Proofs.YtcjcffcbfkimdaaDoor.Hand
/- Plain laws of known and of grown trees: their steps in order, shifted ones, one tree of one row of rules. -/
namespace Go.Proofs.YtcjcffcbfkimdaaDoor.Hand
open Go.RowKit Go.Proofs.YtcjcffcbfkimdaaDoorW.PrintWords Go.Proofs.YtcjcffcbfkimdaaDoorW.PrintMore Go.Proofs.YtcjcffcbfkimdaaDoor.Math

theorem itr_low2 {inc : Int → Int} (h1 : ∀ x, -9223372036854775808 ≤ x → x < 9223372036854775807 → inc x = x + 1) : ∀ (n : Nat) (x : Int), -9223372036854775808 ≤ x → x + (n : Int) ≤ 9223372036854775807 → itr inc n x = x + (n : Int)
  | 0, x, _, _ => by simp [itr]
  | n + 1, x, h0, h => by
    rw [itr, h1 x h0 (by omega), itr_low2 h1 n (x + 1) (by omega) (by omega)]
    omega
theorem itr_over2 {inc : Int → Int} (h1 : ∀ x, -9223372036854775808 ≤ x → x < 9223372036854775807 → inc x = x + 1) (h2 : inc 9223372036854775807 = -9223372036854775808) (n : Nat) (x : Int) (hn : n ≤ 4611686018427387904) (h0 : -9223372036854775808 ≤ x) (hx : x ≤ 9223372036854775807) (h : 9223372036854775807 < x + (n : Int)) : itr inc n x < 0 := by
  obtain ⟨a, ha⟩ : ∃ a : Nat, (a : Int) = 9223372036854775807 - x := ⟨(9223372036854775807 - x).toNat, by omega⟩
  obtain ⟨m, rfl⟩ : ∃ m, n = a + (1 + m) := ⟨n - a - 1, by omega⟩
  rw [itr_add, itr_low2 h1 a x h0 (by omega), itr_add, show x + (a : Int) = 9223372036854775807 by omega]
  show itr inc m (inc 9223372036854775807) < 0
  rw [h2, itr_low2 h1 m _ (by omega) (by omega)]
  omega
theorem walk_places2 {inc : Int → Int} (h1 : ∀ x, -9223372036854775808 ≤ x → x < 9223372036854775807 → inc x = x + 1) (h2 : inc 9223372036854775807 = -9223372036854775808) {G : List (Int × List Int)} {rs : List Int} {any : Bool} {nt fr : Int} {d : DS}
    (hne : ∀ r ∈ G, r.2 ≠ []) (h : walkG (opsD inc) G rs any nt ⟨fr, [], [], 0⟩ = some d) (hfr : 0 ≤ fr ∧ fr ≤ 9223372036854775807) (hT : d.tokens.length ≤ 4611686018427387904) (hTo : fr ≤ d.place) :
    d.place = fr + (d.tokens.length : Int) ∧ 0 < d.tokens.length ∧ d.tokens.length ≤ 9223372036854775807 - fr ∧ 1 ≤ d.depth ∧ d.depth ≤ rs.length ∧ ∃ n N, d.tree = (n, fr, d.place) :: N ∧ Go.Proofs.YtcjcffcbfkimdaaDoor.Math.StepsIn fr d.place ((n, fr, d.place) :: N) ∧ N.length + 1 = rs.length := by
  unfold walkG at h
  cases hn : nodeG (opsD inc) G rs rs.length any nt none 1 (0, ⟨fr, [], [], 0⟩) with
  | none => rw [hn] at h; cases h
  | some a =>
    rw [hn] at h
    simp only at h
    split at h
    · cases h
    · rename_i hl
      simp only [Option.some.injEq] at h
      subst h
      obtain ⟨t, e1, e2⟩ := node_place inc G rs rs.length any nt none 1 _ _ hn
      have hm := node_mono inc G rs hne rs.length any nt none 1 _ _ hn
      have m1 := hm.tok
      have m2 := hm.own
      have m3 := hm.up
      simp only [List.length_nil, Nat.zero_add] at e1 e2 m1 m3
      subst e1
      have hno : fr + (a.2.tokens.length : Int) ≤ 9223372036854775807 := by
        by_cases hc : fr + (a.2.tokens.length : Int) ≤ 9223372036854775807
        · exact hc
        · have := itr_over2 h1 h2 a.2.tokens.length fr hT (by omega) hfr.2 (by omega)
          omega
      obtain ⟨o1, n, N, o2, o3, o4⟩ := node_order inc G rs fr a.2.tokens.length (fun x hx1 hx2 => h1 x (by omega) (by omega)) hne rs.length any nt none 1 _ _ hn rfl (by simp) (Nat.le_refl _)
      simp only [List.nil_append] at o2 o3 o4
      have hle : a.1 ≤ rs.length := (kin_len hn).2
      exact ⟨o1, m1, by omega, m2, by omega, n, N, o2, o3, by omega⟩
/-- What a known tree is. -/
theorem known_ok {g : Gr} {t : List (Int × Int × Int)} (h : (knownE g t).1 = 0) : knownE g t = (0, -1) ∧ (dmayN g t.length).1 = 0 ∧ 0 < t.length ∧ 0 ≤ (t.getD 0 (0, 0, 0)).2.1 ∧ (t.getD 0 (0, 0, 0)).2.1 ≤ (t.getD 0 (0, 0, 0)).2.2 ∧ ∃ d, treeD g t = some d ∧ d.tree = t := by
  unfold knownE at h ⊢
  split at h
  · rename_i h1; exact absurd h h1
  · rename_i h1
    rw [if_neg h1]
    split at h
    · cases h
    · rename_i h2
      rw [if_neg h2]
      have hl : t ≠ [] := fun e => h2 (.inl e)
      have a1 : 0 ≤ (t.getD 0 (0, 0, 0)).2.1 := by
        have : ¬ (t.getD 0 (0, 0, 0)).2.1 < 0 := fun e => h2 (.inr (.inl e))
        omega
      have a2 : (t.getD 0 (0, 0, 0)).2.1 ≤ (t.getD 0 (0, 0, 0)).2.2 := by
        have : ¬ (t.getD 0 (0, 0, 0)).2.2 < (t.getD 0 (0, 0, 0)).2.1 := fun e => h2 (.inr (.inr e))
        omega
      have a0 : (dmayN g t.length).1 = 0 := by omega
      cases hd : treeD g t with
      | none => rw [hd] at h; cases h
      | some d =>
        rw [hd] at h
        simp only at h ⊢
        split at h
        · rename_i e
          rw [if_pos e]
          exact ⟨rfl, a0, List.length_pos_iff.2 hl, a1, a2, d, rfl, e⟩
        · cases h
theorem known_mk {g : Gr} {t : List (Int × Int × Int)} {d : DS} (h0 : (dmayN g t.length).1 = 0) (h1 : 0 < t.length) (h2 : 0 ≤ (t.getD 0 (0, 0, 0)).2.1) (h3 : (t.getD 0 (0, 0, 0)).2.1 ≤ (t.getD 0 (0, 0, 0)).2.2) (h4 : treeD g t = some d) (h5 : d.tree = t) : knownE g t = (0, -1) := by
  unfold knownE
  rw [if_neg (by omega), if_neg ?_, h4]
  · simp only
    rw [if_pos h5]
  · rintro (e | e | e)
    · rw [e] at h1; simp at h1
    · omega
    · omega
theorem grow_ok {g : Gr} {nt : Int} {rs : List Int} (h : (growE g nt rs).1 = 0) : growE g nt rs = (0, -1) ∧ (dmayN g rs.length).1 = 0 ∧ 0 ≤ nt ∧ nt < (g.nonterms.length : Int) ∧ ∃ d, grownD g rs false nt 0 = some d ∧ growL g nt rs = d.tree ∧ d.tokens.length ≤ 65536 := by
  have hh := h
  unfold growE at h ⊢
  split at h
  · rename_i h1; exact absurd h h1
  · rename_i h1
    rw [if_neg h1]
    split at h
    · cases h
    · rename_i h2
      rw [if_neg h2]
      cases hd : grownD g rs false nt 0 with
      | none => rw [hd] at h; cases h
      | some d =>
        rw [hd] at h
        simp only at h ⊢
        split at h
        · cases h
        · rename_i e
          rw [if_neg e]
          refine ⟨rfl, by omega, by omega, by omega, d, rfl, ?_, by omega⟩
          unfold growL
          rw [if_pos hh, hd]
theorem grow_rules {g : Gr} {nt : Int} {rs : List Int} (h : (growE g nt rs).1 = 0) : (growL g nt rs).map (·.1) = rs := by
  obtain ⟨-, -, -, -, d, h1, h2, -⟩ := grow_ok h
  rw [h2]
  exact walk_rules h1
theorem grow_length {g : Gr} {nt : Int} {rs : List Int} (h : (growE g nt rs).1 = 0) : (growL g nt rs).length = rs.length := by
  have := congrArg List.length (grow_rules h)
  simpa using this
/-- One rule turned: another tree, but where it is the same rule. -/
theorem one_law {g : Gr} {nt : Int} {rs : List Int} {k : Nat} {n : Int} (hk : k < rs.length) (h1 : (growE g nt rs).1 = 0) (h2 : (growE g nt (rs.set k n)).1 = 0) : decide (growL g nt rs = growL g nt (rs.set k n)) = (rs.getD k 0 == n) := by
  rw [Bool.eq_iff_iff, decide_eq_true_iff, beq_iff_eq]
  have hg : rs.getD k 0 = rs[k] := by rw [List.getD_eq_getElem?_getD, List.getElem?_eq_getElem hk]; rfl
  constructor
  · intro e
    have e2 := congrArg (List.map (·.1)) e
    rw [grow_rules h1, grow_rules h2] at e2
    rw [hg]
    have e3 := congrArg (fun l => l[k]?) e2
    simp only [List.getElem?_set_self hk, List.getElem?_eq_getElem hk, Option.some.injEq] at e3
    exact e3
  · intro e
    have : rs.set k n = rs := by rw [← e, hg]; simp
    rw [this]
/-- The first step ends where the walk does. -/
theorem walk_to {inc : Int → Int} {G : List (Int × List Int)} {rs : List Int} {any : Bool} {nt fr : Int} {d : DS} (h : walkG (opsD inc) G rs any nt ⟨fr, [], [], 0⟩ = some d) : (d.tree.getD 0 (0, 0, 0)).2.2 = d.place := by
  have hr := walk_rules h
  have hf := (walk_first h).1
  unfold walkG at h
  cases hn : nodeG (opsD inc) G rs rs.length any nt none 1 (0, ⟨fr, [], [], 0⟩) with
  | none => rw [hn] at h; cases h
  | some a =>
    rw [hn] at h
    simp only at h
    split at h
    · cases h
    · simp only [Option.some.injEq] at h
      subst h
      obtain ⟨f, hf2⟩ : ∃ f, rs.length = f + 1 := ⟨rs.length - 1, by omega⟩
      rw [hf2, nodeG] at hn
      split at hn
      · cases hn
      · split at hn
        · cases hn
        · split at hn
          · cases hn
          · split at hn
            · cases hn
            · rename_i s1 hs
              simp only [Option.some.injEq] at hn
              subst hn
              have hlen := congrArg List.length hr
              simp only [opsD, List.length_map, List.length_set] at hlen ⊢
              rw [List.getD_eq_getElem?_getD, List.getElem?_set_self (by omega)]
              rfl
/-- A known tree's steps. -/
theorem steps_law {g : Gr} {t : List (Int × Int × Int)} (h : (knownE g t).1 = 0) (hw : (t.getD 0 (0, 0, 0)).2.1 ≤ 9223372036854775807) :
    ∃ d, treeD g t = some d ∧ d.tree = t ∧ 0 < t.length ∧ t.length ≤ 131072 ∧ 1 ≤ d.depth ∧ d.depth ≤ t.length ∧ 0 ≤ (t.getD 0 (0, 0, 0)).2.1 ∧ (t.getD 0 (0, 0, 0)).2.2 = (t.getD 0 (0, 0, 0)).2.1 + (d.tokens.length : Int) ∧ 0 < d.tokens.length ∧ d.tokens.length ≤ 4194304 ∧
      Go.Proofs.YtcjcffcbfkimdaaDoor.Math.StepsIn (t.getD 0 (0, 0, 0)).2.1 (t.getD 0 (0, 0, 0)).2.2 t := by
  obtain ⟨-, h0, h1, h2, h3, d, h4, h5⟩ := known_ok h
  have hm := dmayN_zero h0
  have h4' := h4
  unfold treeD grownD at h4
  have hto := walk_to h4
  rw [h5] at hto
  have hlen : (t.map (·.1)).length = t.length := List.length_map ..
  have hB : ∀ r ∈ g.rules, r.2.length ≤ 32 := fun r hr => ruleN_len (hm.right.ruleN r hr)
  have hT : d.tokens.length ≤ 4194304 := by
    have hw2 := h4
    unfold walkG at hw2
    cases hn : nodeG (opsD inc64) g.rules (t.map (·.1)) (t.map (·.1)).length true 0 none 1 (0, ⟨(t.getD 0 (0, 0, 0)).2.1, [], [], 0⟩) with
    | none => rw [hn] at hw2; cases hw2
    | some a =>
      rw [hn] at hw2
      simp only at hw2
      split at hw2
      · cases hw2
      · simp only [Option.some.injEq] at hw2
        subst hw2
        obtain ⟨s1, s2, s3, s4⟩ := node_size inc64 g.rules (t.map (·.1)) 32 hB _ _ _ _ _ _ _ hn rfl
        have := hm.len
        simp only [List.length_nil] at s4
        omega
  obtain ⟨p1, p2, p3, p4, p5, n, N, p6, p7, p8⟩ := walk_places2 (inc := inc64) (fun x h0 hx => inc64_low x h0 hx) (by unfold inc64 wrap64; omega) hm.ne h4 ⟨h2, hw⟩ (by omega) (by omega)
  rw [hlen] at p5 p8
  refine ⟨d, h4', h5, h1, hm.len, p4, p5, h2, by omega, p2, hT, ?_⟩
  rw [hto]
  have := p7
  rw [← p6, h5] at this
  exact this
theorem steps_at {p q : Int} {t : List (Int × Int × Int)} (h : Go.Proofs.YtcjcffcbfkimdaaDoor.Math.StepsIn p q t) {i : Nat} (hi : i + 1 < t.length) :
    (t.getD i (0, 0, 0)).2.1 ≤ (t.getD (i + 1) (0, 0, 0)).2.1 ∧ ((t.getD i (0, 0, 0)).2.1 = (t.getD (i + 1) (0, 0, 0)).2.1 → (t.getD (i + 1) (0, 0, 0)).2.2 ≤ (t.getD i (0, 0, 0)).2.2) ∧ (t.getD (i + 1) (0, 0, 0)).2.2 ≤ q ∧ (t.getD (i + 1) (0, 0, 0)).2.1 < (t.getD (i + 1) (0, 0, 0)).2.2 := by
  have e1 : t.getD i (0, 0, 0) = t[i] := by rw [List.getD_eq_getElem?_getD, List.getElem?_eq_getElem (by omega)]; rfl
  have e2 : t.getD (i + 1) (0, 0, 0) = t[i + 1] := by rw [List.getD_eq_getElem?_getD, List.getElem?_eq_getElem hi]; rfl
  rw [e1, e2]
  have ho := List.pairwise_iff_getElem.1 h.ord i (i + 1) (by omega) hi (by omega)
  obtain ⟨-, b1, b2⟩ := h.ins _ (List.getElem_mem hi)
  exact ⟨ho.1, ho.2, b2, b1⟩
theorem shS_first {c : Int} {t : List (Int × Int × Int)} (h : 0 < t.length) : (t.map (shS c)).getD 0 (0, 0, 0) = shS c (t.getD 0 (0, 0, 0)) := by
  cases t with
  | nil => simp at h
  | cons x t => simp
/-- A tree shifted by some places is a tree. -/
theorem shift_law {g : Gr} {t : List (Int × Int × Int)} {c : Int} (h : (knownE g t).1 = 0) (hc : 0 ≤ c) (hc2 : c ≤ 1099511627776) (hw : (t.getD 0 (0, 0, 0)).2.1 ≤ 1099511627776) :
    knownE g (t.map (shS c)) = (0, -1) ∧ (knownD g (t.map (shS c))).1 = (knownD g t).1 := by
  obtain ⟨d, e1, e2, e3, e4, e5, e6, e7, e8, e9, e10, e11⟩ := steps_law h (by omega)
  obtain ⟨k0, h0, -⟩ := known_ok h
  have hm := dmayN_zero h0
  have hd := e1
  unfold treeD grownD walkG at e1
  cases hn : nodeG (opsD inc64) g.rules (t.map (·.1)) (t.map (·.1)).length true 0 none 1 (0, ⟨(t.getD 0 (0, 0, 0)).2.1, [], [], 0⟩) with
  | none => rw [hn] at e1; cases e1
  | some a =>
    rw [hn] at e1
    simp only at e1
    split at e1
    · cases e1
    · rename_i hl
      simp only [Option.some.injEq] at e1
      subst e1
      obtain ⟨N, z, n1, n2, n3, n4, n5, n6⟩ := node_shift inc64 g.rules (t.map (·.1)) (t.getD 0 (0, 0, 0)).2.1 c 4194304 (fun x hx1 hx2 => ⟨inc64_low _ (by omega) (by omega), inc64_low _ (by omega) (by omega)⟩) hm.ne _ _ _ _ _ _ _ hn rfl (by simp) (by omega) ⟨(t.getD 0 (0, 0, 0)).2.1 + c, [], [], 0⟩ rfl rfl rfl rfl
      have hr : (t.map (shS c)).map (·.1) = t.map (·.1) := by simp [shS, Function.comp_def]
      have hz : z.tree = t.map (shS c) := by
        rw [n3, ← e2, n2]
        simp
      have ht : treeD g (t.map (shS c)) = some z := by
        unfold treeD grownD walkG
        rw [hr, shS_first e3, show (shS c (t.getD 0 (0, 0, 0))).2.1 = (t.getD 0 (0, 0, 0)).2.1 + c from rfl]
        have n1' : nodeG (opsD inc64) g.rules (t.map (·.1)) (t.map (·.1)).length true 0 none 1 (0, ⟨(t.getD 0 (0, 0, 0)).2.1 + c, [], [], 0⟩) = some (a.1, z) := n1
        rw [n1']
        simp only
        rw [if_neg hl]
      have hk : knownE g (t.map (shS c)) = (0, -1) := known_mk (by rw [List.length_map]; exact h0) (by rw [List.length_map]; exact e3) (by rw [shS_first e3]; show 0 ≤ _ + c; omega) (by rw [shS_first e3]; show _ + c ≤ _ + c; omega) ht hz
      exact ⟨hk, by rw [knownD_yes hk ht, knownD_yes k0 hd]; exact n5⟩
end Go.Proofs.YtcjcffcbfkimdaaDoor.Hand
/- A slice's head; lists by their elements. -/
namespace Go.Proofs.YtcjcffcbfkimdaaDoor.Hand
open Go.RowKit Go.Proofs.YtcjcffcbfkimdaaDoorW.PrintWords Go.Proofs.YtcjcffcbfkimdaaDoorW.PrintMore Go.Proofs.YtcjcffcbfkimdaaDoor.Math

theorem list_of {α : Type} {p : Nat → α → Prop} : ∀ {n : Nat} (_ : ∀ i, i < n → ∃ x, p i x), ∃ l : List α, l.length = n ∧ ∀ i x, l[i]? = some x → p i x
  | 0, _ => ⟨[], rfl, fun i x h => by simp at h⟩
  | n + 1, h => by
    obtain ⟨l, hl, hp⟩ := list_of (n := n) (fun i hi => h i (by omega))
    obtain ⟨x, hx⟩ := h n (by omega)
    refine ⟨l ++ [x], by simp [hl], fun i y hy => ?_⟩
    rcases Nat.lt_or_ge i l.length with hi | hi
    · rw [List.getElem?_append_left hi] at hy; exact hp i y hy
    · rw [List.getElem?_append_right hi] at hy
      have h0 : i - l.length = 0 := by
        rcases Nat.eq_zero_or_pos (i - l.length) with h | h
        · exact h
        · rw [List.getElem?_eq_none (by simp; omega)] at hy; cases hy
      rw [h0] at hy
      simp at hy
      subst hy
      have : i = n := by omega
      subst this
      exact hx
/-- A slice's head: where, how many, room. -/
structure Hd where
  ad : Option Addr
  n : Nat
  c : Nat
def Hd.v (h : Hd) : Value := .slice h.ad h.n h.c
end Go.Proofs.YtcjcffcbfkimdaaDoor.Hand
/- Arguments of whatever kind, opened: the reading of memory gives the plain datum that it spells. -/
namespace Go.Proofs.YtcjcffcbfkimdaaDoor.Hand
open Go.ChangeShapes Go.WideShapes Go.ChangeAt
open Go.RowKit Go.Proofs.YtcjcffcbfkimdaaDoorW.PrintWords Go.Proofs.YtcjcffcbfkimdaaDoorW.PrintMore Go.Proofs.YtcjcffcbfkimdaaDoor.Math

/-- Whatever reads by this type spells a datum of this kind. -/
def Opens {α : Type} (t : TypeId) (d : Kd α) (good : α → Prop) : Prop :=
  ∀ (H : Type) (enc : TypeId × Value → H) (W : World) (base : Nat) (spare : Nat → Bool) (held : Bool) (fuel : Nat) (cs : List Value) (x : DataW H × List MemPlace), DataW.trod enc Tryd.prog W base spare held fuel t cs = some x →
    (∀ n ∈ x.1.weights Tryd.prog t, n ≤ reachBytes) → ∃ a, d.K W a cs ∧ good a
theorem Opens.int {t : TypeId} {k : IntKind} (ht : Tryd.prog.underlying t = some (.int k)) : Opens t (Kd.int k) (fun a => (Lit.int k a).wf = true) := by
  intro H enc W base spare held fuel cs x h _
  obtain ⟨n, rfl, _, hw⟩ := DataW.trod_int ht h
  exact ⟨n, rfl, hw⟩
theorem Opens.string {t : TypeId} (ht : Tryd.prog.underlying t = some .string) : Opens t Kd.string (fun s => s.size ≤ 140737488351232) := by
  intro H enc W base spare held fuel cs x h hw
  obtain ⟨s, rfl, rfl, _⟩ := DataW.trod_string ht h
  refine ⟨s, rfl, ?_⟩
  have := hw s.data.toList.length (by simp [DataW.weights])
  simpa [reachBytes] using this
theorem weightsAll_mem {H : Type} {P : Program} {e : TypeId} {d : DataW H} {n : Nat} : ∀ {l : List (DataW H)}, d ∈ l → n ∈ d.weights P e → n ∈ DataW.weightsAll P e l
  | [], h, _ => by cases h
  | a :: r, h, hn => by
    simp only [DataW.weightsAll, List.mem_append]
    rcases List.mem_cons.1 h with rfl | h
    · exact .inl hn
    · exact .inr (weightsAll_mem h hn)
theorem Opens.slice {α : Type} {t e : TypeId} {B : Nat} {d : Kd α} {good : α → Prop} (ht : Tryd.prog.underlying t = some (.slice e)) (he : Opens e d good) (hc : Tryd.prog.cellsOf e = d.sz) (hB : Tryd.prog.bytesOf e = B) :
    Opens t (Kd.slice e d) (fun l => l.length * B ≤ 140737488351232 ∧ ∀ x ∈ l, good x) := by
  intro H enc W base spare held fuel cs x h hw
  rcases Deep.open_slice ht h with ⟨rfl, rfl⟩ | ⟨a, len, cap, m, n, D, Pl, rfl, hb, hl, hm, hmm, rfl, hx⟩
  · exact ⟨[], ⟨none, 0, rfl, Nat.le_refl _, Kd.C_nil d W⟩, by simp, fun x hx => absurd hx (List.not_mem_nil)⟩
  · have hlm : len ≤ m := by rw [hmm]; split <;> omega
    simp only [DataW.weights, ht] at hw
    have hw1 := hw _ (List.mem_cons_self ..)
    simp only [List.length_map, List.length_range] at hw1
    have hw2 : ∀ i, i < len → ∀ k ∈ (D i).weights Tryd.prog e, k ≤ reachBytes := fun i hi k hk =>
      hw k (List.mem_cons_of_mem _ (List.mem_append_left _ (weightsAll_mem (List.mem_map.2 ⟨i, List.mem_range.2 hi, rfl⟩) hk)))
    obtain ⟨l, hll, hp⟩ := list_of (n := len) (p := fun i p => good p ∧ ∃ cs', d.K W p cs' ∧ ∀ j u, cs'[j]? = some u → W.cell? (a.add (i * d.sz + j)) = some u) (fun i hi => by
      obtain ⟨cs', h1, h2⟩ := hx i (by omega)
      obtain ⟨p, hk, hg⟩ := he H enc W base spare held n cs' _ h2 (hw2 i hi)
      obtain ⟨_, hlen, hcell⟩ := World.cells?_some h1
      refine ⟨p, hg, cs', hk, fun j u hu => ?_⟩
      have hj : j < Tryd.prog.cellsOf e := by rw [← hlen]; exact (List.getElem?_eq_some_iff.1 hu).1
      have := hcell j hj
      rw [Deep.add_add, hu, hc] at this
      exact this)
    subst hll
    refine ⟨l, ⟨some a, cap, rfl, hl, rfl, ?_, fun _ => ⟨a, rfl, fun j p hj => ?_⟩⟩, ?_, fun x hx => ?_⟩
    · have : maxLen = 9223372036854775807 := by decide
      omega
    · obtain ⟨_, cs', hk, hcell⟩ := hp j p hj
      exact ⟨cs', d.K_len hk, hk, hcell⟩
    · rw [hB] at hw1
      have h3 : l.length * B ≤ (l.length + (m - l.length)) * B := Nat.mul_le_mul_right _ (by omega)
      have h4 : (reachBytes : Nat) = 140737488351232 := by decide
      omega
    · obtain ⟨i, hi⟩ := List.getElem?_of_mem hx
      exact (hp i x hi).1
theorem Opens.pair {α β : Type} {t : TypeId} {f0 f1 : Field} {a : Kd α} {b : Kd β} {ga : α → Prop} {gb : β → Prop} (ht : Tryd.prog.underlying t = some (.struct #[f0, f1])) (o0 : f0.offset = 0) (o1 : f1.offset = a.sz) (c0 : Tryd.prog.cellsOf f0.type = a.sz) (c1 : Tryd.prog.cellsOf f1.type = b.sz) (ct : Tryd.prog.cellsOf t = a.sz + b.sz)
    (h0 : Opens f0.type a ga) (h1 : Opens f1.type b gb) : Opens t (Kd.pair a b) (fun x => ga x.1 ∧ gb x.2) := by
  intro H enc W base spare held fuel cs x h hw
  obtain ⟨y0, y1, n, rfl, hl, k0, k1⟩ := trod_struct2 ht h
  simp only [DataW.weights, ht, List.map_cons, List.map_nil, DataW.weightsEach, List.append_nil] at hw
  rw [o0, c0, List.drop_zero] at k0
  rw [o1, c1] at k1
  obtain ⟨x0, q0, g0⟩ := h0 H enc W base spare held n _ _ k0 (fun n hn => hw n (List.mem_append_left _ hn))
  obtain ⟨x1, q1, g1⟩ := h1 H enc W base spare held n _ _ k1 (fun n hn => hw n (List.mem_append_right _ hn))
  refine ⟨(x0, x1), ⟨cs.take a.sz, (cs.drop a.sz).take b.sz, ?_, q0, q1⟩, g0, g1⟩
  rw [List.take_of_length_le (show (cs.drop a.sz).length ≤ b.sz by rw [List.length_drop, hl, ct]; omega), List.take_append_drop]
section
set_option maxRecDepth 20000
variable {H : Type} {enc : TypeId × Value → H} {W : World} {base : Nat} {r : Reach} {b0 : Nat} {spare : Nat → Bool} {held : Bool} {v : Value} {d : DataW H} {ps : List MemPlace} {ts : List TypeId} {ds : List (DataW H)} {j : Nat}

theorem openSlice {α : Type} {t e : TypeId} {B : Nat} {k : Kd α} {good : α → Prop} (hu : Tryd.prog.underlying t = some (.slice e)) (he : Opens e k good) (hc : Tryd.prog.cellsOf e = k.sz) (hB : Tryd.prog.bytesOf e = B)
    (hsz : (DataW.weightsEach Tryd.prog ts ds).all (· ≤ reachBytes) = true) (ht : ts[j]? = some t) (hd : ds[j]? = some d) (hv : Value.okWide Tryd.prog W r b0 t v) (h : DataW.Trod enc Tryd.prog W base spare held t v d ps) :
    ∃ (A : Option Addr) (c : Nat) (l : List α), v = .slice A l.length c ∧ k.C W A l.length l ∧ l.length * B ≤ 140737488351232 ∧ l.length ≤ c ∧ ∀ x ∈ l, good x := by
  obtain ⟨a, len, cap, rfl⟩ := okWide_slice hu hv
  obtain ⟨fuel, hf⟩ := h
  obtain ⟨l, ⟨A, c, hcs, hlc, hC⟩, hb, hg⟩ := (Opens.slice hu he hc hB) H enc W base spare held fuel _ _ hf (fun n hn => by
    have := List.all_eq_true.1 hsz n (DataW.weights_mem_each ht hd n hn)
    simpa using this)
  simp [Value.cells] at hcs
  obtain ⟨rfl, rfl, rfl⟩ := hcs
  exact ⟨_, _, l, rfl, hC, hb, hlc, hg⟩
theorem opens_i64 : Opens 3 (Kd.int .i64) (fun a => (Lit.int .i64 a).wf = true) := Opens.int Tryd.underlying3
theorem opens_ints : Opens 26 (Kd.slice 3 (Kd.int .i64)) (fun l => l.length * 8 ≤ 140737488351232 ∧ ∀ x ∈ l, (Lit.int .i64 x).wf = true) := Opens.slice Tryd.underlying26 opens_i64 (by kernel_rfl) (by kernel_rfl)
theorem openInts (hsz : (DataW.weightsEach Tryd.prog ts ds).all (· ≤ reachBytes) = true) (ht : ts[j]? = some 26) (hd : ds[j]? = some d) (hv : Value.okWide Tryd.prog W r b0 26 v) (h : DataW.Trod enc Tryd.prog W base spare held 26 v d ps) :
    ∃ (A : Option Addr) (c : Nat) (l : List Int), v = .slice A l.length c ∧ Kd.C (Kd.int .i64) W A l.length l ∧ l.length * 8 ≤ 140737488351232 ∧ l.length ≤ c ∧ ∀ x ∈ l, (Lit.int .i64 x).wf = true :=
  openSlice Tryd.underlying26 opens_i64 (by kernel_rfl) (by kernel_rfl) hsz ht hd hv h
theorem opens_strings : Opens 22 (Kd.slice 9 Kd.string) (fun l => l.length * 16 ≤ 140737488351232 ∧ ∀ x ∈ l, x.size ≤ 140737488351232) := Opens.slice Tryd.underlying22 (Opens.string Tryd.underlying9) (by kernel_rfl) (by kernel_rfl)
theorem openStrings (hsz : (DataW.weightsEach Tryd.prog ts ds).all (· ≤ reachBytes) = true) (ht : ts[j]? = some 22) (hd : ds[j]? = some d) (hv : Value.okWide Tryd.prog W r b0 22 v) (h : DataW.Trod enc Tryd.prog W base spare held 22 v d ps) :
    ∃ (A : Option Addr) (c : Nat) (l : List ByteArray), v = .slice A l.length c ∧ Kd.C Kd.string W A l.length l ∧ l.length * 16 ≤ 140737488351232 ∧ l.length ≤ c ∧ ∀ x ∈ l, x.size ≤ 140737488351232 :=
  openSlice Tryd.underlying22 (Opens.string Tryd.underlying9) (by kernel_rfl) (by kernel_rfl) hsz ht hd hv h
theorem opens_rule : Opens 80 KRule (fun x => (Lit.int .i64 x.1).wf = true ∧ x.2.length * 8 ≤ 140737488351232 ∧ ∀ s ∈ x.2, (Lit.int .i64 s).wf = true) := Opens.pair Tryd.underlying80 rfl rfl (by kernel_rfl) (by kernel_rfl) (by kernel_rfl) opens_i64 opens_ints
theorem openRules (hsz : (DataW.weightsEach Tryd.prog ts ds).all (· ≤ reachBytes) = true) (ht : ts[j]? = some 23) (hd : ds[j]? = some d) (hv : Value.okWide Tryd.prog W r b0 23 v) (h : DataW.Trod enc Tryd.prog W base spare held 23 v d ps) :
    ∃ (A : Option Addr) (c : Nat) (l : List (Int × List Int)), v = .slice A l.length c ∧ KRule.C W A l.length l ∧ l.length * 32 ≤ 140737488351232 ∧ l.length ≤ c ∧ ∀ x ∈ l, (Lit.int .i64 x.1).wf = true ∧ x.2.length * 8 ≤ 140737488351232 ∧ ∀ s ∈ x.2, (Lit.int .i64 s).wf = true :=
  openSlice Tryd.underlying23 opens_rule (by kernel_rfl) (by kernel_rfl) hsz ht hd hv h
/-- What the weights allow. -/
structure GramB (g : Gr) : Prop where
  terms : g.terms.length * 16 ≤ 140737488351232
  nonterms : g.nonterms.length * 16 ≤ 140737488351232
  rules : g.rules.length * 32 ≤ 140737488351232
  right : ∀ r ∈ g.rules, r.2.length * 8 ≤ 140737488351232
  ax : (Lit.int .i64 g.ax).wf = true
  nums : ∀ r ∈ g.rules, (Lit.int .i64 r.1).wf = true ∧ ∀ s ∈ r.2, (Lit.int .i64 s).wf = true
  names : (∀ s ∈ g.terms, s.size ≤ 140737488351232) ∧ ∀ s ∈ g.nonterms, s.size ≤ 140737488351232
theorem openGrammar (hsz : (DataW.weightsEach Tryd.prog ts ds).all (· ≤ reachBytes) = true) (ht : ts[j]? = some 25) (hd : ds[j]? = some d) (hv : Value.okWide Tryd.prog W r b0 25 v) (h : DataW.Trod enc Tryd.prog W base spare held 25 v d ps) :
    ∃ (g : Gr) (u : Value), v = u ∧ GramAt W u g ∧ GramB g := by
  obtain ⟨v0, v1, v2, v3, y0, y1, y2, y3, n, rfl, rfl, rfl, h0, h1, h2, h3⟩ := Joins.open_agg4 Tryd.underlying25 (by kernel_rfl) (by kernel_rfl) hv h
  have hw : ∀ k ∈ (DataW.agg [y0.1, y1.1, y2.1, y3.1]).weights Tryd.prog 25, k ≤ reachBytes := fun k hk => by
    have := List.all_eq_true.1 hsz k (DataW.weights_mem_each ht hd k hk)
    simpa using this
  simp only [DataW.weights, Tryd.underlying25, List.map_cons, List.map_nil, DataW.weightsEach, List.append_nil, List.mem_append] at hw
  obtain ⟨lT, ⟨AT, cT, e0, p0, q0⟩, b0, g0⟩ := opens_strings H enc W base spare held n _ _ h0 (fun k hk => hw k (.inl hk))
  obtain ⟨lN, ⟨AN, cN, e1, p1, q1⟩, b1, g1⟩ := opens_strings H enc W base spare held n _ _ h1 (fun k hk => hw k (.inr (.inl hk)))
  obtain ⟨ax, e2, _, b2⟩ := DataW.trod_int Tryd.underlying3 h2
  obtain ⟨lR, ⟨AR, cR, e3, p3, q3⟩, b3, g3⟩ := (Opens.slice Tryd.underlying23 opens_rule (by kernel_rfl) (by kernel_rfl) : Opens _ (Kd.slice 80 KRule) (fun l => l.length * 32 ≤ 140737488351232 ∧ _)) H enc W base spare held n _ _ h3 (fun k hk => hw k (.inr (.inr (.inr hk))))
  simp only [List.cons.injEq, and_true] at e0 e1 e2 e3
  subst e0 e1 e2 e3
  exact ⟨⟨lT, lN, ax, lR⟩, _, rfl, ⟨AT, cT, AN, cN, AR, cR, rfl, p0, p1, p3, q0, q1, q3⟩, ⟨b0, b1, b3, fun r hr => (g3 r hr).2.1, b2, fun r hr => ⟨(g3 r hr).1, (g3 r hr).2.2⟩, g0, g1⟩⟩
end
end Go.Proofs.YtcjcffcbfkimdaaDoor.Hand
/- The walk of DerivOne: it answers true and leaves the memory that it was given as it was, where the errors' variables and the table of powers stand. -/
namespace Go.Proofs.YtcjcffcbfkimdaaDoor.Hand
open Go.RowKit Go.Proofs.YtcjcffcbfkimdaaDoorW.PrintWords Go.Proofs.YtcjcffcbfkimdaaDoorW.PrintMore Go.Proofs.YtcjcffcbfkimdaaDoor.Math

set_option maxHeartbeats 2000000 in
set_option maxRecDepth 20000 in
theorem derivOne_walk {w : World} (g : Gr) (v : Value) (hg : GramAt w v g ∧ GramB g) (nt : Int) (_hnt : (Lit.int .i64 nt).wf = true) (At : Option Addr) (ct : Nat) (rs : List Int)
    (ht : Kd.C (Kd.int .i64) w At rs.length rs ∧ rs.length * 8 ≤ 140737488351232 ∧ rs.length ≤ ct ∧ ∀ x ∈ rs, (Lit.int .i64 x).wf = true) (a : Int) (_ha : (Lit.int .i64 a).wf = true) (n : Int) (_hn : (Lit.int .i64 n).wf = true) (hE : ∃ A, Errs w A) (hp : Pow10 w) :
    Calls Tryd.prog 5 #[v, .int .i64 nt, .slice At rs.length ct, .int .i64 a, .int .i64 n] w fun e w' => e = .returned (.bool true) ∧ Below w.heap.size w w' := by
  obtain ⟨hv, hB⟩ := hg
  obtain ⟨hr, hl8, hlc, -⟩ := ht
  obtain ⟨A, hE⟩ := hE
  have HV := Lib.hid hv
  obtain ⟨AT, cT, AN, cN, AR, cR, rfl, q1, q2, q3, q4, q5, q6⟩ := hv
  clear q4 q5 q6
  obtain ⟨w1, hw1⟩ : ∃ w1, w.alloc (.cells #[.slice AT g.terms.length cT, .slice AN g.nonterms.length cN, .int .i64 g.ax, .slice AR g.rules.length cR] 25) = w1 := ⟨_, rfl⟩
  have hb1 : Below w.heap.size w w1 := by rw [← hw1]; exact below_alloc (Below.refl _ _) _
  have hk1 : w1.heap[w.heap.size]? = some (.cells #[.slice AT g.terms.length cT, .slice AN g.nonterms.length cN, .int .i64 g.ax, .slice AR g.rules.length cR] 25 (0, 0)) := by rw [← hw1]; exact heap_alloc_new w _
  have HB1 := Lib.hid hb1
  have HK1 := Lib.hid hk1
  have HG1 := Lib.hid (HV.out.below hb1)
  have HT1 := Lib.hid (Kd.C_below hr hb1)
  have HE1 := Lib.hid (hE.below hb1)
  have HKn := Lib.hid (lawKnown_calls w1 A (hE.below hb1) (hp.below hb1))
  have HLG := Lib.hid (fun (W : World) (hW : Below w1.heap.size w1 W) => lentGrammar_calls _ g W (HG1.out.below hW) (by have := hB.terms; omega) (by have := hB.nonterms; omega) (by have := hB.rules; omega) (fun r hr => by have := hB.right r hr; omega))
  have HLI := Lib.hid (fun (W : World) (hW : Below w1.heap.size w1 W) => lentInts_calls At ct rs W (Kd.C_below HT1.out hW) (by omega))
  have HGr := Lib.hid (fun (W : World) (u : Value) (Al : Option Addr) (cl : Nat) (l : List Int) (hu : GramAt W u g) (hl : (Kd.int .i64).C W Al l.length l) (hlc : l.length ≤ cl) (hW : Below w1.heap.size w1 W) => grow_calls u g nt Al cl l W A (HE1.out.below hW) hu hl hlc)
  have hl64 : rs.length ≤ 9223372036854775807 := by omega
  have HL8 := Lib.hid hl8
  obtain ⟨E, hEe⟩ : ∃ E, growE g nt rs = E := ⟨_, rfl⟩
  obtain ⟨ek, er⟩ := E
  by_cases h0 : ek = 0
  · subst h0
    have h1 : (growE g nt rs).1 = 0 := by rw [hEe]
    have hpos : 0 < rs.length := by
      obtain ⟨-, -, -, -, d, hd, -⟩ := grow_ok h1
      exact (walk_first hd).1
    have HG0 : Hid (∀ W e w', GrowP W g nt rs A e w' → ∃ A5 c5 n5, e = .returned (.tuple #[.slice A5 n5 c5, .nilIface]) ∧ Hid (n5 = (growL g nt rs).length) ∧ KStep.C w' A5 n5 (growL g nt rs) ∧ Below W.heap.size W w') := Lib.hid (by
      rintro W e w' ⟨va, ua, rfl, hra, hua, hb⟩
      obtain ⟨A5, c5, e5⟩ := Kd.R_slice hra
      subst e5
      rw [h1] at hua
      rcases hua.nil_iff with ⟨_, rfl⟩ | ⟨h, _⟩
      · exact ⟨A5, c5, _, rfl, Lib.hid rfl, (Kd.R_reads' hra).2.2, hb⟩
      · omega)
    have HOth : Hid (∀ W (k : Nat) e w', k < rs.length → GrowP W g nt (rs.set k n) A e w' → (∃ A5 c5 t x, e = .returned (.tuple #[.slice A5 0 c5, .iface t x]) ∧ Below W.heap.size W w') ∨
        ((growE g nt (rs.set k n)).1 = 0 ∧ ∃ A5 c5 n5, e = .returned (.tuple #[.slice A5 n5 c5, .nilIface]) ∧ Hid (n5 = (growL g nt (rs.set k n)).length) ∧ KStep.C w' A5 n5 (growL g nt (rs.set k n)) ∧ Below W.heap.size W w')) := Lib.hid (by
      rintro W k e w' hk ⟨va, ua, rfl, hra, hua, hb⟩
      by_cases h2 : (growE g nt (rs.set k n)).1 = 0
      · obtain ⟨A5, c5, e5⟩ := Kd.R_slice hra
        subst e5
        rw [h2] at hua
        rcases hua.nil_iff with ⟨_, rfl⟩ | ⟨h, _⟩
        · exact .inr ⟨h2, A5, c5, _, rfl, Lib.hid rfl, (Kd.R_reads' hra).2.2, hb⟩
        · omega
      · rw [growL_no h2] at hra
        obtain ⟨A5, c5, e5⟩ := Kd.R_slice hra
        subst e5
        rcases hua.nil_iff with ⟨h, _⟩ | ⟨_, t, x, rfl⟩
        · exact absurd h h2
        · exact .inl ⟨A5, c5, t, x, rfl, hb⟩)
    have H1 := Lib.hid h1
    have hposI : (0 : Int) < (rs.length : Int) := by omega
    have hne1 : ((rs.length : Int) == 0) = false := by rw [beq_eq_false_iff_ne]; omega
    have hne2 : decide (rs.length = 0) = false := decide_eq_false (by omega)
    obtain ⟨q, hq⟩ : ∃ q, Int.tmod a (rs.length : Int) = q := ⟨_, rfl⟩
    have hq1 : q < (rs.length : Int) := by rw [← hq]; exact Int.tmod_lt_of_pos a hposI
    have hq2 : -(rs.length : Int) < q := by rw [← hq]; exact Int.lt_tmod_of_pos a hposI
    clear hEe hb1 hk1 hr hE hB hl8 hp h1
    go_enter Tryd.func5, Tryd.ntmps5
    go_upto_region 1 with (fail)
    clear hw1
    go_upto_region 7 with (first
      | (go_at_call 26; refine HKn.out.mono ?_; rintro e w2 ⟨rfl, hb2⟩; obtain ⟨c0, c1, c2, c3⟩ := gr_blk (blk_below HK1.out hb2); have HB2 := Lib.hid hb2; clear hb2)
      | (go_at_call 9; refine (HLG.out w2 HB2.out).mono ?_; rintro e w3 ⟨u3, rfl, hu, hb3⟩; have HU := Lib.hid hu.plain; have HB3 := Lib.hid (below_next HB2.out hb3); clear hu hb3 c0 c1 c2 c3)
      | (go_at_call 10; refine (HLI.out w3 HB3.out).mono ?_; rintro e w4 ⟨Al, cl, rfl, hcl, hrl, hb4⟩; have HRl : Hid (KMInt.C w4 Al (rs.length + 1) (rs.map some ++ [none])) := Lib.hid (by have := (Kd.R_reads' hrl).2.2; rwa [← (Kd.R_reads' hrl).1] at this); have HU4 := Lib.hid (HU.out.below hb4); have HB4 := Lib.hid (below_next HB3.out hb4); clear hrl hb4)
      | (go_at_call 11; refine (HGr.out w4 u3 Al cl rs HU4.out (lent_C (a := Kd.int .i64) HRl.out) (by omega) HB4.out).mono ?_; rintro e w5 h5; obtain ⟨A5, c5, n5, rfl, HN5, hC5, hb5⟩ := HG0.out _ _ _ h5; have HC5 := Lib.hid hC5; have HB5 := Lib.hid (below_next HB4.out hb5); clear h5 hb5 hC5))
    by_cases hq0 : q < 0
    · obtain ⟨k, hk⟩ : ∃ k : Nat, q + (rs.length : Int) = (k : Int) := ⟨(q + (rs.length : Int)).toNat, by omega⟩
      go_upto_region 9 with (fail)
      have hkl : k < rs.length := by omega
      clear hq hq1 hq2 hq0 hk
      have hk := hkl
      clear hkl
      have HK := Lib.hid hk
      have HEm : Hid ((Kd.int .i64).R 3 (w5.alloc (.cells #[] 3)) w5.heap.size (fun _ => True) (.slice (some ⟨w5.heap.size, 0, none⟩) 0 0) []) := Lib.hid (R_lit (enc := Value.int .i64) (h1 := fun _ => rfl) 3 w5.heap.size w5 ([] : List Int) (Nat.le_refl _) (by decide))
      have HB6 : Hid (Below w5.heap.size w5 (w5.alloc (.cells #[] 3))) := Lib.hid (below_alloc (Below.refl _ _) _)
      have HR6 : Hid ((Kd.int .i64).C (w5.alloc (.cells #[] 3)) At rs.length rs) := Lib.hid (Kd.C_below HT1.out (below_next HB5.out HB6.out))
      have HPos : Hid (0 < rs.length) := Lib.hid hpos
      clear hk hpos
      go_upto_region 11 with ((with_reducible refine gate_builtin (b := .append) (xs := #[.tmp 48, .tmp 49]) rfl ?_); at_builtin; refine Kd.R_append_rows (Kd.int .i64) (w0 := w5) w5.heap.size rfl (.tmp 48) (.tmp 49) 26 3 (.int .i64 0) 8 rfl Tryd.underlying26 infoInt rfl (by decide) (by omega) (.slice (some ⟨w5.heap.size, 0, none⟩) 0 0) ([] : List Int) rs _ _ _ (fun _ => True) (fun _ => False) rfl rfl HEm.out HR6.out (fun _ _ h => h) (fun _ h => h.elim) (fun _ _ => trivial) HB6.out (Below.size HB6.out) (by have := HL8.out; simp at this ⊢; omega) ?_; intro v7 w7 ho hb _ _; (rw [List.nil_append] at ho; obtain ⟨g7, c7, e7, -⟩ := Kd.R_form ho HPos.out; subst e7; have HO7 := Lib.hid ho; have HB7 := Lib.hid hb; obtain ⟨k1, k2⟩ := Kd.R_cell 0 ho (k : Int) (by omega) (by have := HK.out; omega); rw [Int.toNat_natCast] at k1 k2; have hk1 : (0 : Int) ≤ (k : Int) := (by omega); have hk2 : (k : Int) < (rs.length : Int) := (by have := HK.out; omega); clear ho hb))
      obtain ⟨w8, hw8⟩ : ∃ w8, w7.setCell ⟨g7, k, none⟩ (.int .i64 n) = w8 := ⟨_, rfl⟩
      have HR8 : Hid ((Kd.int .i64).R 3 w8 w5.heap.size (fun _ => True) (.slice (some ⟨g7, 0, none⟩) rs.length c7) (rs.set k n)) := Lib.hid (by
        have := (Kd.R_put (enc := Value.int .i64) HO7.out (k : Int) n).1
        rw [Int.toNat_natCast] at this
        rw [← hw8]
        exact this)
      have HB58 : Hid (Below w5.heap.size w5 w8) := Lib.hid (by rw [← hw8]; exact HB7.out.setCell (Kd.R_base HO7.out g7 rfl) _)
      have HB8 := Lib.hid (below_next HB5.out HB58.out)
      rw [hw8]
      obtain ⟨c0, c1, c2, c3⟩ := gr_blk (blk_below HK1.out HB8.out)
      clear hw8 k1 k2
      have HGr2 : Hid (∀ (W : World) (u : Value) (hu : GramAt W u g) (hW : Below w8.heap.size w8 W), Calls Tryd.prog 11 #[u, .int .i64 nt, .slice (some ⟨g7, 0, none⟩) rs.length c7] W (GrowP W g nt (rs.set k n) A)) := Lib.hid (fun W u hu hW => by
        have h := Kd.C_below (Kd.R_reads' HR8.out).2.2 hW
        have := HGr.out W u (some ⟨g7, 0, none⟩) c7 (rs.set k n) hu h (by rw [List.length_set]; exact (Kd.R_reads' HO7.out).2.1) (below_next HB8.out hW)
        rwa [List.length_set] at this)
      go_upto_region 12 with (first
        | (go_at_call 9; refine (HLG.out w8 HB8.out).mono ?_; rintro e w9 ⟨u9, rfl, hu, hb9⟩; have HU9 := Lib.hid hu.plain; have HB9 := Lib.hid hb9; clear hu hb9 c0 c1 c2 c3)
        | (go_at_call 11; refine (HGr2.out w9 u9 HU9.out HB9.out).mono ?_; rintro e w10 h10; rcases HOth.out _ _ _ _ HK.out h10 with ⟨A9, c9, t9, x9, rfl, hb10⟩ | ⟨h2, A9, c9, n9, rfl, HN9, hC9, hb10⟩))
      · go_quiet (fail)
        go_wp2
        go_ret
        exact ⟨rfl, pw_below_drewN (below_next HB1.out (below_next (below_next HB8.out HB9.out) hb10)) _⟩
      · have HB10 := Lib.hid (below_next (below_next HB8.out HB9.out) hb10)
        obtain ⟨ad, y, rfl, hy, HY⟩ := at_scalar (Kd.C_below HT1.out HB10.out) k HK.out 0
        obtain ⟨B, hBn⟩ : ∃ B, (y == n) = B := ⟨_, rfl⟩
        have HSt : Hid (∀ W, Below w10.heap.size w10 W → Quiet 14 #[.slice A5 n5 c5, .slice A9 n9 c9] W (.bool B)) := Lib.hid (fun W hW => by
          have e5 := HN5.out
          have e9 := HN9.out
          subst e5 e9
          have := ksteps_calls A5 A9 c5 c9 _ _ W (Kd.C_below HC5.out (below_next (below_next (below_next HB58.out HB9.out) hb10) hW)) (Kd.C_below hC9 hW)
          rw [one_law HK.out H1.out h2, HY.out, hBn] at this
          exact this)
        have hBB : (B == B) = true := by simp
        have hk1 : (0 : Int) ≤ (k : Int) := by omega
        have hk2 : (k : Int) < (rs.length : Int) := by have := HK.out; omega
        clear h2 hC9 hb10
        go_quiet ((go_at_call 14; exact Calls.quiet_of (HSt.out _ (pw_below_drewN (Below.refl _ _) _))))
        go_wp2
        go_ret
        exact ⟨rfl, pw_below_drewN (below_next HB1.out HB10.out) _⟩
    · obtain ⟨k, rfl⟩ : ∃ k : Nat, q = (k : Int) := ⟨q.toNat, by omega⟩
      go_upto_region 9 with (fail)
      have hk : k < rs.length := by omega
      clear hq hq1 hq2 hq0
      have HK := Lib.hid hk
      have HEm : Hid ((Kd.int .i64).R 3 (w5.alloc (.cells #[] 3)) w5.heap.size (fun _ => True) (.slice (some ⟨w5.heap.size, 0, none⟩) 0 0) []) := Lib.hid (R_lit (enc := Value.int .i64) (h1 := fun _ => rfl) 3 w5.heap.size w5 ([] : List Int) (Nat.le_refl _) (by decide))
      have HB6 : Hid (Below w5.heap.size w5 (w5.alloc (.cells #[] 3))) := Lib.hid (below_alloc (Below.refl _ _) _)
      have HR6 : Hid ((Kd.int .i64).C (w5.alloc (.cells #[] 3)) At rs.length rs) := Lib.hid (Kd.C_below HT1.out (below_next HB5.out HB6.out))
      have HPos : Hid (0 < rs.length) := Lib.hid hpos
      clear hk hpos
      go_upto_region 11 with ((with_reducible refine gate_builtin (b := .append) (xs := #[.tmp 48, .tmp 49]) rfl ?_); at_builtin; refine Kd.R_append_rows (Kd.int .i64) (w0 := w5) w5.heap.size rfl (.tmp 48) (.tmp 49) 26 3 (.int .i64 0) 8 rfl Tryd.underlying26 infoInt rfl (by decide) (by omega) (.slice (some ⟨w5.heap.size, 0, none⟩) 0 0) ([] : List Int) rs _ _ _ (fun _ => True) (fun _ => False) rfl rfl HEm.out HR6.out (fun _ _ h => h) (fun _ h => h.elim) (fun _ _ => trivial) HB6.out (Below.size HB6.out) (by have := HL8.out; simp at this ⊢; omega) ?_; intro v7 w7 ho hb _ _; (rw [List.nil_append] at ho; obtain ⟨g7, c7, e7, -⟩ := Kd.R_form ho HPos.out; subst e7; have HO7 := Lib.hid ho; have HB7 := Lib.hid hb; obtain ⟨k1, k2⟩ := Kd.R_cell 0 ho (k : Int) (by omega) (by have := HK.out; omega); rw [Int.toNat_natCast] at k1 k2; have hk1 : (0 : Int) ≤ (k : Int) := (by omega); have hk2 : (k : Int) < (rs.length : Int) := (by have := HK.out; omega); clear ho hb))
      obtain ⟨w8, hw8⟩ : ∃ w8, w7.setCell ⟨g7, k, none⟩ (.int .i64 n) = w8 := ⟨_, rfl⟩
      have HR8 : Hid ((Kd.int .i64).R 3 w8 w5.heap.size (fun _ => True) (.slice (some ⟨g7, 0, none⟩) rs.length c7) (rs.set k n)) := Lib.hid (by
        have := (Kd.R_put (enc := Value.int .i64) HO7.out (k : Int) n).1
        rw [Int.toNat_natCast] at this
        rw [← hw8]
        exact this)
      have HB58 : Hid (Below w5.heap.size w5 w8) := Lib.hid (by rw [← hw8]; exact HB7.out.setCell (Kd.R_base HO7.out g7 rfl) _)
      have HB8 := Lib.hid (below_next HB5.out HB58.out)
      rw [hw8]
      obtain ⟨c0, c1, c2, c3⟩ := gr_blk (blk_below HK1.out HB8.out)
      clear hw8 k1 k2
      have HGr2 : Hid (∀ (W : World) (u : Value) (hu : GramAt W u g) (hW : Below w8.heap.size w8 W), Calls Tryd.prog 11 #[u, .int .i64 nt, .slice (some ⟨g7, 0, none⟩) rs.length c7] W (GrowP W g nt (rs.set k n) A)) := Lib.hid (fun W u hu hW => by
        have h := Kd.C_below (Kd.R_reads' HR8.out).2.2 hW
        have := HGr.out W u (some ⟨g7, 0, none⟩) c7 (rs.set k n) hu h (by rw [List.length_set]; exact (Kd.R_reads' HO7.out).2.1) (below_next HB8.out hW)
        rwa [List.length_set] at this)
      go_upto_region 12 with (first
        | (go_at_call 9; refine (HLG.out w8 HB8.out).mono ?_; rintro e w9 ⟨u9, rfl, hu, hb9⟩; have HU9 := Lib.hid hu.plain; have HB9 := Lib.hid hb9; clear hu hb9 c0 c1 c2 c3)
        | (go_at_call 11; refine (HGr2.out w9 u9 HU9.out HB9.out).mono ?_; rintro e w10 h10; rcases HOth.out _ _ _ _ HK.out h10 with ⟨A9, c9, t9, x9, rfl, hb10⟩ | ⟨h2, A9, c9, n9, rfl, HN9, hC9, hb10⟩))
      · go_quiet (fail)
        go_wp2
        go_ret
        exact ⟨rfl, pw_below_drewN (below_next HB1.out (below_next (below_next HB8.out HB9.out) hb10)) _⟩
      · have HB10 := Lib.hid (below_next (below_next HB8.out HB9.out) hb10)
        obtain ⟨ad, y, rfl, hy, HY⟩ := at_scalar (Kd.C_below HT1.out HB10.out) k HK.out 0
        obtain ⟨B, hBn⟩ : ∃ B, (y == n) = B := ⟨_, rfl⟩
        have HSt : Hid (∀ W, Below w10.heap.size w10 W → Quiet 14 #[.slice A5 n5 c5, .slice A9 n9 c9] W (.bool B)) := Lib.hid (fun W hW => by
          have e5 := HN5.out
          have e9 := HN9.out
          subst e5 e9
          have := ksteps_calls A5 A9 c5 c9 _ _ W (Kd.C_below HC5.out (below_next (below_next (below_next HB58.out HB9.out) hb10) hW)) (Kd.C_below hC9 hW)
          rw [one_law HK.out H1.out h2, HY.out, hBn] at this
          exact this)
        have hBB : (B == B) = true := by simp
        have hk1 : (0 : Int) ≤ (k : Int) := by omega
        have hk2 : (k : Int) < (rs.length : Int) := by have := HK.out; omega
        clear h2 hC9 hb10
        go_quiet ((go_at_call 14; exact Calls.quiet_of (HSt.out _ (pw_below_drewN (Below.refl _ _) _))))
        go_wp2
        go_ret
        exact ⟨rfl, pw_below_drewN (below_next HB1.out HB10.out) _⟩
  · have HNo : Hid (∀ W e w', GrowP W g nt rs A e w' → ∃ A5 c5 t x, e = .returned (.tuple #[.slice A5 0 c5, .iface t x]) ∧ Below W.heap.size W w') := Lib.hid (by
      rintro W e w' ⟨va, ua, rfl, hra, hua, hb⟩
      rw [growL_no (by rw [hEe]; exact h0)] at hra
      rw [hEe] at hua
      obtain ⟨A5, c5, e5⟩ := Kd.R_slice hra
      subst e5
      rcases hua.nil_iff with ⟨h, _⟩ | ⟨_, t, x, rfl⟩
      · exact absurd h h0
      · exact ⟨A5, c5, t, x, rfl, hb⟩)
    clear hEe h0 hb1 hk1 hr hE hB hl8 hp
    go_enter Tryd.func5, Tryd.ntmps5
    go_upto_region 1 with (fail)
    clear hw1
    go_wp2_with (first
      | (go_at_call 26; refine HKn.out.mono ?_; rintro e w2 ⟨rfl, hb2⟩; obtain ⟨c0, c1, c2, c3⟩ := gr_blk (blk_below HK1.out hb2); have HB2 := Lib.hid hb2; clear hb2)
      | (go_at_call 9; refine (HLG.out w2 HB2.out).mono ?_; rintro e w3 ⟨u3, rfl, hu, hb3⟩; have HU := Lib.hid hu.plain; have HB3 := Lib.hid (below_next HB2.out hb3); clear hu hb3 c0 c1 c2 c3)
      | (go_at_call 10; refine (HLI.out w3 HB3.out).mono ?_; rintro e w4 ⟨Al, cl, rfl, hcl, hrl, hb4⟩; have HRl : Hid (KMInt.C w4 Al (rs.length + 1) (rs.map some ++ [none])) := Lib.hid (by have := (Kd.R_reads' hrl).2.2; rwa [← (Kd.R_reads' hrl).1] at this); have HU4 := Lib.hid (HU.out.below hb4); have HB4 := Lib.hid (below_next HB3.out hb4); clear hrl hb4)
      | (go_at_call 11; refine (HGr.out w4 u3 Al cl rs HU4.out (lent_C (a := Kd.int .i64) HRl.out) (by omega) HB4.out).mono ?_; rintro e w5 h5; obtain ⟨A5, c5, t5, x5, rfl, hb5⟩ := HNo.out _ _ _ h5; have HB5 := Lib.hid (below_next HB4.out hb5); clear h5 hb5))
    go_ret
    exact ⟨rfl, below_next HB1.out HB5.out⟩
end Go.Proofs.YtcjcffcbfkimdaaDoor.Hand
