/- The texts that the statement's proof stands on, part 4: XLaid XAsR XLaidR XFoM XKin XLits XKinC XKinP XKnG28 XHd XApC XFo. -/
import Derived.Test.YtapgglmdnggopaaDoorZc162ae0f2
import Derived.Test.YtapgglmdnggopaaDoorRows
import Derived.Stop.LaidErr
import Derived.LaidSub
import Derived.LaidMore
import Derived.Stop.Joined
import Derived.MakeChecks
import Derived.LaidEql
import Derived.Stop.Asserts
import Derived.RowKitTokens
import Derived.Deep.RegionLaw
import Derived.Deep.RegionHeld3
import Derived.WalkLawsBesides
import Derived.Test.YtapgglmdnggopaaDoorWLast
import Derived.ArgAppend
/- The package's errors, as the row lists them: each variable holds a pointer of its own. -/
namespace Go.Proofs.YtapgglmdnggopaaDoor.Hand
open Go.ChangeShapes
open Go.RowKit Go.Proofs.YtapgglmdnggopaaDoorW.PrintWords Go.Proofs.YtapgglmdnggopaaDoorW.PrintMore Go.Proofs.YtapgglmdnggopaaDoor.Math

theorem laid_list {P : Program} {W : World} {nm : String} {ti tp te ts : TypeId} {ms : Array (String × TypeId)} {f : Field}
    (hi : P.underlying ti = some (.interface ms)) (hrow : ∀ u, P.typeName? 3 u = some nm → u = tp)
    (hp : P.underlying tp = some (.pointer te)) (he : P.underlying te = some (.struct #[f])) (hft : f.type = ts) (hfo : f.offset = 0) (hs : P.underlying ts = some .string) (hc : P.cellsOf te = 1) (hcs : P.cellsOf ts = 1) :
    ∀ (l : List (String × DataW Unit)) (ps : List MemPlace), DataW.LaidVars P W l ps → ps.Nodup →
      (∀ b off, MemPlace.cell b off ∈ ps → (∃ c t, W.heap[b]? = some (.cells c t (0, 0))) ∧ ∀ u v, W.cell? ⟨b, off, none⟩ = some (.iface u v) → Value.okWide P W .any 0 u v) →
      (∀ x ∈ l, (∃ text, x.2 = .iface nm (.ptr (.agg [.lit (.string text)]))) ∧ ∃ g, P.globalNamed x.1 = some g ∧ (P.globals[g]?).map (·.type) = some ti) →
      ∃ As : List Addr, As.length = l.length ∧ (∀ a ∈ As, MemPlace.cell a.block a.off ∈ ps) ∧ As.Nodup ∧ ∀ (i : Nat) (x : String × DataW Unit) (a : Addr), l[i]? = some x → As[i]? = some a → ∀ g, P.globalNamed x.1 = some g → W.cell? ⟨g, 0, none⟩ = some (.iface tp (.pointer (some a)))
  | [], ps, _, _, _, _ => ⟨[], rfl, fun a h => absurd h (List.not_mem_nil), List.nodup_nil, fun i x a h => by rw [List.getElem?_nil] at h; cases h⟩
  | (n, d) :: r, ps, h, hnd, hrows, hall => by
    obtain ⟨g, t, cs, fuel, p, q, hg, ht, hv, hd, hr, rfl⟩ := h
    obtain ⟨⟨text, hd2⟩, g2, hg2, ht2⟩ := hall (n, d) (List.mem_cons_self ..)
    simp only at hd2 hg2
    subst hd2
    obtain rfl := Option.some.inj (hg.symm.trans hg2)
    obtain rfl := Option.some.inj (ht.symm.trans ht2)
    obtain ⟨l0⟩ := cs
    have ok0 : ∀ u v, l0 = [.iface u v] → Value.okWide P W .any 0 u v := fun u v e => by
      subst e
      exact (hrows g 0 (by simp [MemPlace.row])).2 u v (by simpa using World.var?_cell hg hv 0)
    obtain ⟨a0, s0, rfl, hc0, hs0, hz0, rfl⟩ := errorString_of_trod hi hrow hp he hft hfo hs hc hcs hd ok0
    have hq : q.Nodup := (List.nodup_append.1 hnd).2.1
    obtain ⟨As, k1, k2, k3, k4⟩ := laid_list hi hrow hp he hft hfo hs hc hcs r q hr hq (fun b off hm => hrows b off (List.mem_append_right _ hm)) (fun x hx => hall x (List.mem_cons_of_mem _ hx))
    have hcell : W.cell? ⟨g, 0, none⟩ = some (.iface tp (.pointer (some a0))) := by simpa using World.var?_cell hg hv 0
    refine ⟨a0 :: As, by simp [k1], ?_, ?_, ?_⟩
    · intro a ha
      rcases List.mem_cons.1 ha with rfl | ha
      · exact List.mem_append_left _ (List.mem_append_right _ (by simp [MemPlace.row]))
      · exact List.mem_append_right _ (k2 a ha)
    · refine List.nodup_cons.2 ⟨fun hm => ?_, k3⟩
      exact (List.nodup_append.1 hnd).2.2 _ (List.mem_append_right _ (by simp [MemPlace.row] : MemPlace.cell a0.block a0.off ∈ MemPlace.row a0 1)) _ (k2 a0 hm) rfl
    · intro i x a hx ha g' hg'
      cases i with
      | zero =>
        simp only [List.getElem?_cons_zero, Option.some.injEq] at hx ha
        subst hx ha
        obtain rfl := Option.some.inj (hg.symm.trans hg')
        exact hcell
      | succ i =>
        simp only [List.getElem?_cons_succ] at hx ha
        exact k4 i x a hx ha g' hg'
theorem star_err : "*" ++ "errors.errorString" = "*errors.errorString" := by decide
theorem laid_errs {l : List (String × DataW Unit)} {W : World} (h : laidMetH Tryd.prog l W) (hp : (l.all fun x => x.2.handleName?.isNone) = true)
    (hall : ∀ x ∈ l, (∃ text, x.2 = .iface "*errors.errorString" (.ptr (.agg [.lit (.string text)]))) ∧ ∃ g, Tryd.prog.globalNamed x.1 = some g ∧ (Tryd.prog.globals[g]?).map (·.type) = some 32)
    (hn : l.map (fun x => Tryd.prog.globalNamed x.1) = GE.map some) : ∃ A, Errs W A := by
  rw [MakeChecks.laidMetH_plain _ _ _ hp] at h
  obtain ⟨ps, hv, hnd, hrows⟩ := h
  obtain ⟨As, k1, k2, k3, k4⟩ := laid_list Tryd.underlying32 (tp := 219) (fun u hu => typeName_ptr_named (nm := "errors.errorString") (by rw [star_err]; kernel_rfl) (by kernel_rfl) (by decide) u (by rw [star_err]; exact hu)) Tryd.underlying219 Tryd.underlying237 rfl rfl Tryd.underlying9 (by kernel_rfl) (by kernel_rfl) l ps hv hnd hrows hall
  have hl : l.length = 15 := by have := congrArg List.length hn; simpa [GE] using this
  have hget : ∀ i, i < 15 → ∃ a, As[i]? = some a ∧ As.getD i ⟨0, 0, none⟩ = a := fun i hi => ⟨As[i]'(by omega), List.getElem?_eq_getElem _, by simp [List.getD, List.getElem?_eq_getElem (show i < As.length by omega)]⟩
  refine ⟨fun i => As.getD i ⟨0, 0, none⟩, ⟨fun i hi => ?_, fun i hi => ?_, fun i j hi hj e => ?_⟩⟩
  · obtain ⟨a, e1, e2⟩ := hget i hi
    have hx : l[i]? = some l[i] := List.getElem?_eq_getElem _
    have hg : Tryd.prog.globalNamed (l[i]'(by omega)).1 = some (GE.getD i 0) := by
      have := congrArg (fun z => z[i]?) hn
      simp only [List.getElem?_map, hx, Option.map_some] at this
      have h2 : GE[i]? = some (GE.getD i 0) := by
        have hi2 : i < GE.length := by simpa [GE] using hi
        simp [List.getD, List.getElem?_eq_getElem hi2]
      rw [h2] at this
      simpa using this
    show W.cell? _ = some (.iface _ (.pointer (some (As.getD i _))))
    rw [e2]
    exact k4 i _ a hx e1 _ hg
  · obtain ⟨a, e1, e2⟩ := hget i hi
    show ∃ c t, W.heap[(As.getD i _).block]? = _
    rw [e2]
    exact (hrows a.block a.off (k2 a (List.mem_of_getElem? e1))).1
  · obtain ⟨a, e1, e2⟩ := hget i hi
    obtain ⟨b, e3, e4⟩ := hget j hj
    have e : As.getD i _ = As.getD j _ := e
    rw [e2, e4] at e
    subst e
    exact (List.getElem?_inj (show i < As.length by omega) k3).1 (e1.trans e3.symm)
/-- Is it the datum of an error of errors.New? -/
def sentB (d : DataW Unit) : Bool := match d with | .iface nm (.ptr (.agg [.lit (.string _)])) => nm == "*errors.errorString" | _ => false
theorem sentB_spec {d : DataW Unit} (h : sentB d = true) : ∃ text, d = .iface "*errors.errorString" (.ptr (.agg [.lit (.string text)])) := by
  unfold sentB at h
  split at h
  · rename_i nm text
    exact ⟨text, by rw [beq_iff_eq.1 h]⟩
  · cases h
theorem laid_errs' {l : List (String × DataW Unit)} {W : World} (h : laidMetH Tryd.prog l W) (hp : (l.all fun x => x.2.handleName?.isNone) = true)
    (hall : (l.all fun x => sentB x.2 && (((Tryd.prog.globalNamed x.1).bind fun g => (Tryd.prog.globals[g]?).map (·.type)) == some 32)) = true)
    (hn : l.map (fun x => Tryd.prog.globalNamed x.1) = GE.map some) : ∃ A, Errs W A := by
  refine laid_errs h hp (fun x hx => ?_) hn
  have h1 := List.all_eq_true.1 hall x hx
  rw [Bool.and_eq_true, beq_iff_eq] at h1
  obtain ⟨g, hg, ht⟩ := Option.bind_eq_some_iff.1 h1.2
  exact ⟨sentB_spec h1.1, g, hg, ht⟩
/-- The same where the row lists but some of the errors. -/
theorem laid_errsW {l : List (String × DataW Unit)} {W : World} (h : laidMetH Tryd.prog l W) (hp : (l.all fun x => x.2.handleName?.isNone) = true)
    (hall0 : (l.all fun x => sentB x.2 && (((Tryd.prog.globalNamed x.1).bind fun g => (Tryd.prog.globals[g]?).map (·.type)) == some 32)) = true)
    (hn : l.map (fun x => Tryd.prog.globalNamed x.1) = EW.map (fun i => some (GE.getD i 0))) : ∃ A, ErrsW W A := by
  have hall : ∀ x ∈ l, (∃ text, x.2 = .iface "*errors.errorString" (.ptr (.agg [.lit (.string text)]))) ∧ ∃ g, Tryd.prog.globalNamed x.1 = some g ∧ (Tryd.prog.globals[g]?).map (·.type) = some 32 := fun x hx => by
    have h1 := List.all_eq_true.1 hall0 x hx
    rw [Bool.and_eq_true, beq_iff_eq] at h1
    obtain ⟨g, hg, ht⟩ := Option.bind_eq_some_iff.1 h1.2
    exact ⟨sentB_spec h1.1, g, hg, ht⟩
  rw [MakeChecks.laidMetH_plain _ _ _ hp] at h
  obtain ⟨ps, hv, hnd, hrows⟩ := h
  obtain ⟨As, k1, _, _, k4⟩ := laid_list Tryd.underlying32 (tp := 219) (fun u hu => typeName_ptr_named (nm := "errors.errorString") (by rw [star_err]; kernel_rfl) (by kernel_rfl) (by decide) u (by rw [star_err]; exact hu)) Tryd.underlying219 Tryd.underlying237 rfl rfl Tryd.underlying9 (by kernel_rfl) (by kernel_rfl) l ps hv hnd hrows hall
  have hl : l.length = EW.length := by have := congrArg List.length hn; simpa using this
  refine ⟨fun i => As.getD (EW.idxOf i) ⟨0, 0, none⟩, ⟨fun i hi => ?_⟩⟩
  have hj : EW.idxOf i < EW.length := List.idxOf_lt_length_of_mem hi
  have hge : EW[EW.idxOf i]? = some i := by rw [List.getElem?_eq_getElem hj, List.getElem_idxOf]
  have ha : As[EW.idxOf i]? = some (As[EW.idxOf i]'(by omega)) := List.getElem?_eq_getElem _
  have hx : l[EW.idxOf i]? = some (l[EW.idxOf i]'(by omega)) := List.getElem?_eq_getElem _
  have hg : Tryd.prog.globalNamed (l[EW.idxOf i]'(by omega)).1 = some (GE.getD i 0) := by
    have := congrArg (fun z => z[EW.idxOf i]?) hn
    simp only [List.getElem?_map, hx, hge, Option.map_some] at this
    simpa using this
  show W.cell? _ = some (.iface _ (.pointer (some (As.getD _ _))))
  rw [show As.getD (EW.idxOf i) ⟨0, 0, none⟩ = As[EW.idxOf i]'(by omega) by rw [List.getD_eq_getElem?_getD, ha]; rfl]
  exact k4 _ _ _ hx ha _ hg
end Go.Proofs.YtapgglmdnggopaaDoor.Hand
/- errors.As of a rule's error, of a sentinel, of nil; dovetailkit.Rule. (The steps are those of a worked proof, turned to this program.) -/
namespace Go.Proofs.YtapgglmdnggopaaDoor.Hand
open Go.RowKit Go.Proofs.YtapgglmdnggopaaDoorW.PrintWords Go.Proofs.YtapgglmdnggopaaDoorW.PrintMore Go.Proofs.YtapgglmdnggopaaDoor.Math
open Go.Extern.Stop Go.Stop Go.Extern

theorem asR_nil (t : Value) (w : World) :
    Calls Tryd.prog 82 #[.nilIface, t] w fun e w' => e = .returned (.bool false) ∧ w' = w := by
  go_enter Tryd.func82, Tryd.ntmps82
  go_wp2
  go_ret
  exact ⟨rfl, rfl⟩
/-! ### CLOSED FACTS ON THE MODEL's ENTRIES FOR internal/reflectlite, at this program's types: 25: *p.E · 27: **p.E · 23: error · 45: reflectlite's rtype · 1: how many package-level variables the dump has -/
theorem asR_valueOf27 (t : Addr) (w : World) : (ReflectliteValue.unpack (.iface 147 (.pointer (some t)))).run Tryd.prog w
    = .ok (.agg #[.pointer (some ⟨19, 147, none⟩), .pointer (some ⟨w.heap.size, 0, none⟩), .int .u64 150]) (w.alloc (.cells #[.pointer (some t)] 147)) := by kernel_rfl
theorem asR_type27 (a : Addr) (w : World) : (ReflectliteValue.methodAny (ReflectliteValue.valueError "reflectlite.Value.Type" 0) (fun t _ _ _ => ReflectliteType.toType t) #[.agg #[.pointer (some ⟨19, 147, none⟩), .pointer (some a), .int .u64 150]]).run Tryd.prog w
    = .ok (.iface 174 (.agg #[.pointer (some ⟨19, 147, none⟩)])) w := by kernel_rfl
theorem asR_methodKind (h : Value) (w : World) : (Go.method 349 174 (.agg #[h]) "Kind").run Tryd.prog w = .ok (141, h) w := by kernel_rfl
theorem asR_kind27 (w : World) : ((ReflectliteType.abiMethod fun t => (fun a : Nat => Value.int IntKind.u8 (a : Int)) <$> Rtype.kind t) #[.pointer (some ⟨19, 147, none⟩)]).run Tryd.prog w = .ok (.int .u8 22) w := by kernel_rfl
theorem asR_kind25 (w : World) : ((ReflectliteType.abiMethod fun t => (fun a : Nat => Value.int IntKind.u8 (a : Int)) <$> Rtype.kind t) #[.pointer (some ⟨19, 145, none⟩)]).run Tryd.prog w = .ok (.int .u8 22) w := by kernel_rfl

/-! ### THE ENTRIES THAT READ OR WRITE MEMORY: laws with a premise on the cell (after Derived/Lib/ReflectliteSlice.lean's manner: each unfolding a lemma of its own, by rfl) -/
theorem asR_rlm (z : Sem Value) (f : TypeId → Addr → Nat → Nat → Sem Value) (v : Value) :
    ReflectliteValue.method z f #[v] = (do match ← ReflectliteValue.parts v with | none => z | some (t, a, fl) => f t a fl (fl % 32)) := rfl
theorem asR_parts27 (a : Addr) (w : World) : (ReflectliteValue.parts (.agg #[.pointer (some ⟨19, 147, none⟩), .pointer (some a), .int .u64 150])).run Tryd.prog w = .ok (some (147, a, 150)) w := by kernel_rfl
/-- (Value).IsNil at the Value of a **p.E that is not nil. -/
theorem asR_isNil27 (a p : Addr) (W : World) (ha : W.cell? a = some (.pointer (some p))) :
    (ReflectliteValue.method (ReflectliteValue.valueError "reflectlite.Value.IsNil" 0) ReflectliteValue.isNil #[.agg #[.pointer (some ⟨19, 147, none⟩), .pointer (some a), .int .u64 150]]).run Tryd.prog W = .ok (.bool false) W := by
  rw [asR_rlm]
  simp only [Sem.run_bind, asR_parts27, Result.andThen]
  simp [ReflectliteValue.isNil, loadVar, isAgg, underlying, Tryd.underlying147, ha, Result.andThen]

theorem asR_methodElem (h : Value) (w : World) : (Go.method 349 174 (.agg #[h]) "Elem").run Tryd.prog w = .ok (153, .agg #[h]) w := by kernel_rfl
theorem asR_methodImplements (h : Value) (w : World) : (Go.method 349 174 (.agg #[h]) "Implements").run Tryd.prog w = .ok (154, .agg #[h]) w := by kernel_rfl
theorem asR_methodAssignableTo (h : Value) (w : World) : (Go.method 349 174 (.agg #[h]) "AssignableTo").run Tryd.prog w = .ok (151, .agg #[h]) w := by kernel_rfl
theorem asR_elem27 (w : World) : (ReflectliteType.method ReflectliteType.elem #[.agg #[.pointer (some ⟨19, 147, none⟩)]]).run Tryd.prog w = .ok (.iface 174 (.agg #[.pointer (some ⟨19, 145, none⟩)])) w := by kernel_rfl
theorem asR_implements25 (w : World) : (ReflectliteType.relation "Implements" ReflectliteType.implements_ #[.agg #[.pointer (some ⟨19, 145, none⟩)], .iface 174 (.agg #[.pointer (some ⟨19, 32, none⟩)])]).run Tryd.prog w = .ok (.bool true) w := by kernel_rfl
theorem asR_typeOf25 (v : Value) (w : World) : (ReflectliteType.typeOf #[.iface 145 v]).run Tryd.prog w = .ok (.iface 174 (.agg #[.pointer (some ⟨19, 145, none⟩)])) w := by kernel_rfl
theorem asR_assignable25 (w : World) : (ReflectliteType.relation "AssignableTo" ReflectliteType.assignableTo #[.agg #[.pointer (some ⟨19, 145, none⟩)], .iface 174 (.agg #[.pointer (some ⟨19, 145, none⟩)])]).run Tryd.prog w = .ok (.bool true) w := by kernel_rfl
theorem asR_valueOf25 (e : Addr) (w : World) : (ReflectliteValue.unpack (.iface 145 (.pointer (some e)))).run Tryd.prog w
    = .ok (.agg #[.pointer (some ⟨19, 145, none⟩), .pointer (some ⟨w.heap.size, 0, none⟩), .int .u64 150]) (w.alloc (.cells #[.pointer (some e)] 145)) := by kernel_rfl

theorem asR_elemOf27 (w : World) : (Rtype.elem? 147).run Tryd.prog w = .ok (some 145) w := by kernel_rfl
theorem asR_mk25 (p : Addr) (w : World) : (ReflectliteValue.mk 145 p ReflectliteValue.flagAddr).run Tryd.prog w = .ok (.agg #[.pointer (some ⟨19, 145, none⟩), .pointer (some p), .int .u64 406]) w := by kernel_rfl
/-- (Value).Elem at the Value of a **p.E that is not nil: the Value of the *p.E variable that it points to, addressable. -/
theorem asR_elemV27 (a p : Addr) (W : World) (ha : W.cell? a = some (.pointer (some p))) :
    (ReflectliteValue.method (ReflectliteValue.valueError "reflectlite.Value.Elem" 0) ReflectliteValue.elem #[.agg #[.pointer (some ⟨19, 147, none⟩), .pointer (some a), .int .u64 150]]).run Tryd.prog W
      = .ok (.agg #[.pointer (some ⟨19, 145, none⟩), .pointer (some p), .int .u64 406]) W := by
  rw [asR_rlm]
  simp only [Sem.run_bind, asR_parts27, Result.andThen]
  simp [ReflectliteValue.elem, loadVar, isAgg, underlying, Tryd.underlying147, ha, Result.andThen, asR_elemOf27, asR_mk25]
theorem asR_rls (v x : Value) : ReflectliteValue.set #[v, x] = (do
    let (some (dst, a, fl), some (src, b, _)) := (← ReflectliteValue.parts v, ← ReflectliteValue.parts x)
      | unsupported (.noEntry "extern/(internal/reflectlite.Value).Set.zeroValue")
    if fl / ReflectliteValue.flagAddr % 2 == 0 then unsupported (.noEntry "extern/(internal/reflectlite.Value).Set.unaddressable")
    let val ← loadVar src b
    if ← Rtype.directlyAssignable dst src then storeVar dst a val
    else if ← Rtype.implements dst src then
      if (← Rtype.kind src) == 20 then
        match val with
        | .nilIface => unsupported (.noEntry "extern/reflectlite: a nil value of one interface type handed on as a value of another")
        | _ => storeVar dst a val
      else storeVar dst a (.iface src val)
    else panicString ("reflectlite.Set: value of type " ++ (← Rtype.spelt src) ++ " is not assignable to type " ++ (← Rtype.spelt dst))
    pure (.tuple #[])) := rfl
theorem asR_parts25a (a : Addr) (w : World) : (ReflectliteValue.parts (.agg #[.pointer (some ⟨19, 145, none⟩), .pointer (some a), .int .u64 406])).run Tryd.prog w = .ok (some (145, a, 406)) w := by kernel_rfl
theorem asR_parts25 (a : Addr) (w : World) : (ReflectliteValue.parts (.agg #[.pointer (some ⟨19, 145, none⟩), .pointer (some a), .int .u64 150])).run Tryd.prog w = .ok (some (145, a, 150)) w := by kernel_rfl
theorem asR_direct25 (w : World) : (Rtype.directlyAssignable 145 145).run Tryd.prog w = .ok true w := by kernel_rfl
theorem asR_size25 (w : World) : (sizeOf 145).run Tryd.prog w = .ok 1 w := by kernel_rfl
/-- (Value).Set: the *p.E variable at 'ta' gets what the Value's own variable 'b' holds. -/
theorem asR_set25 (ta b e : Addr) (old : Value) (W : World) (hb : W.cell? b = some (.pointer (some e))) (ht : W.cell? ta = some old) (hf : W.frozen? ta = false) :
    (ReflectliteValue.set #[.agg #[.pointer (some ⟨19, 145, none⟩), .pointer (some ta), .int .u64 406], .agg #[.pointer (some ⟨19, 145, none⟩), .pointer (some b), .int .u64 150]]).run Tryd.prog W
      = .ok (.tuple #[]) (W.setCell ta (.pointer (some e))) := by
  rw [asR_rls]
  simp only [Sem.run_bind, asR_parts25a, asR_parts25, Result.andThen]
  simp [ReflectliteValue.flagAddr, loadVar, isAgg, underlying, Tryd.underlying145, hb, Result.andThen, asR_direct25, storeVar, Value.cells, storeCells, Addr.add]
  rw [run_store Tryd.prog W ta _ _ (by rfl)]
  simp [ht, hf]

set_option maxHeartbeats 4000000 in
theorem asR_hit (e t : Addr) (old : Value) (w : World) (hg : w.cell? ⟨15, 0, none⟩ = some (.iface 174 (.agg #[.pointer (some ⟨19, 32, none⟩)]))) (ht0 : w.cell? t = some old) (hf0 : w.frozen? t = false) :
    Calls Tryd.prog 82 #[.iface 145 (.pointer (some e)), .iface 147 (.pointer (some t))] w fun ev w' => ev = .returned (.bool true) ∧ w' = ((((w.alloc (.cells #[.pointer (some t)] 147)).alloc (.cells #[.pointer (some ⟨19, 147, none⟩), .pointer (some ⟨w.heap.size, 0, none⟩), .int .u64 150] 166)).alloc (.cells #[.pointer (some ⟨19, 147, none⟩), .pointer (some ⟨w.heap.size, 0, none⟩), .int .u64 150] 166)).alloc (.cells #[.pointer (some e)] 145)).setCell t (.pointer (some e)) := by
  have h6 := @run_callFunc_extern Tryd.prog 92 _ (fun args => ReflectliteValue.unpack (args.getD 0 (.tuple #[]))) Tryd.func92 (by kernel_rfl) (by kernel_rfl) (by kernel_rfl) (by kernel_rfl)
  have h7 := @run_callFunc_extern Tryd.prog 93 _ (ReflectliteValue.methodAny (ReflectliteValue.valueError "reflectlite.Value.Type" 0) (fun t _ _ _ => ReflectliteType.toType t)) Tryd.func93 (by kernel_rfl) (by kernel_rfl) (by kernel_rfl) (by kernel_rfl)
  have h8 := @run_callFunc_extern Tryd.prog 94 _ (ReflectliteValue.method (ReflectliteValue.valueError "reflectlite.Value.IsNil" 0) ReflectliteValue.isNil) Tryd.func94 (by kernel_rfl) (by kernel_rfl) (by kernel_rfl) (by kernel_rfl)
  have h27 := @run_callFunc_extern Tryd.prog 141 _ (ReflectliteType.abiMethod fun t => do pure (.int .u8 (← Rtype.kind t))) Tryd.func141 (by kernel_rfl) (by kernel_rfl) (by kernel_rfl) (by kernel_rfl)
  have h37 := @run_callFunc_extern Tryd.prog 153 _ (ReflectliteType.method ReflectliteType.elem) Tryd.func153 (by kernel_rfl) (by kernel_rfl) (by kernel_rfl) (by kernel_rfl)
  have h38 := @run_callFunc_extern Tryd.prog 154 _ (ReflectliteType.relation "Implements" ReflectliteType.implements_) Tryd.func154 (by kernel_rfl) (by kernel_rfl) (by kernel_rfl) (by kernel_rfl)
  have h10 := @run_callFunc_extern Tryd.prog 83 _ ReflectliteType.typeOf Tryd.func83 (by kernel_rfl) (by kernel_rfl) (by kernel_rfl) (by kernel_rfl)
  have h35 := @run_callFunc_extern Tryd.prog 151 _ (ReflectliteType.relation "AssignableTo" ReflectliteType.assignableTo) Tryd.func151 (by kernel_rfl) (by kernel_rfl) (by kernel_rfl) (by kernel_rfl)
  have h11 := @run_callFunc_extern Tryd.prog 104 _ (ReflectliteValue.method (ReflectliteValue.valueError "reflectlite.Value.Elem" 0) ReflectliteValue.elem) Tryd.func104 (by kernel_rfl) (by kernel_rfl) (by kernel_rfl) (by kernel_rfl)
  have h12 := @run_callFunc_extern Tryd.prog 105 _ ReflectliteValue.set Tryd.func105 (by kernel_rfl) (by kernel_rfl) (by kernel_rfl) (by kernel_rfl)
  have tO := asR_typeOf25
  have mA := asR_methodAssignableTo
  have a25 := asR_assignable25
  have v25 := asR_valueOf25
  have f6 := asR_valueOf27
  have f7 := asR_type27
  have mK := asR_methodKind
  have mE := asR_methodElem
  have mI := asR_methodImplements
  have k27 := asR_kind27
  have k25 := asR_kind25
  have e27 := asR_elem27
  have i25 := asR_implements25
  have n8 := asR_isNil27 ⟨w.heap.size, 0, none⟩ t ((w.alloc (.cells #[.pointer (some t)] 147)).alloc (.cells #[.pointer (some ⟨19, 147, none⟩), .pointer (some ⟨w.heap.size, 0, none⟩), .int .u64 150] 166)) (by simp)
  have hlt : 15 < w.heap.size := by
    rcases Nat.lt_or_ge 15 w.heap.size with h | h0
    · exact h
    · simp [World.cell?, Array.getElem?_eq_none h0] at hg
  have hg2 : ((w.alloc (.cells #[.pointer (some t)] 147)).alloc (.cells #[.pointer (some ⟨19, 147, none⟩), .pointer (some ⟨w.heap.size, 0, none⟩), .int .u64 150] 166)).cell? ⟨15, 0, none⟩ = some (.iface 174 (.agg #[.pointer (some ⟨19, 32, none⟩)])) := by
    rw [World.cell?_alloc_lt _ _ ⟨15, 0, none⟩ (by simp; omega), World.cell?_alloc_lt _ _ ⟨15, 0, none⟩ hlt]; exact hg
  have htl : t.block < w.heap.size := by
    rcases Nat.lt_or_ge t.block w.heap.size with h | h
    · exact h
    · simp [World.cell?, Array.getElem?_eq_none h] at ht0
  have el := asR_elemV27 ⟨w.heap.size, 0, none⟩ t (((w.alloc (.cells #[.pointer (some t)] 147)).alloc (.cells #[.pointer (some ⟨19, 147, none⟩), .pointer (some ⟨w.heap.size, 0, none⟩), .int .u64 150] 166)).alloc (.cells #[.pointer (some ⟨19, 147, none⟩), .pointer (some ⟨w.heap.size, 0, none⟩), .int .u64 150] 166)) (by rw [World.cell?_alloc_lt _ _ ⟨w.heap.size, 0, none⟩ (by simp; omega)]; simp)
  have st := asR_set25 t ⟨w.heap.size + 1 + 1 + 1, 0, none⟩ e old ((((w.alloc (.cells #[.pointer (some t)] 147)).alloc (.cells #[.pointer (some ⟨19, 147, none⟩), .pointer (some ⟨w.heap.size, 0, none⟩), .int .u64 150] 166)).alloc (.cells #[.pointer (some ⟨19, 147, none⟩), .pointer (some ⟨w.heap.size, 0, none⟩), .int .u64 150] 166)).alloc (.cells #[.pointer (some e)] 145))
    (by rw [World.cell?_alloc_at _ _ _ _ (by simp)]; rfl)
    (by rw [World.cell?_alloc_lt _ _ t (by simp; omega), World.cell?_alloc_lt _ _ t (by simp; omega), World.cell?_alloc_lt _ _ t (by simp; omega), World.cell?_alloc_lt _ _ t htl]; exact ht0)
    (by rw [World.frozen?_alloc_old _ _ t (by simp; omega), World.frozen?_alloc_old _ _ t (by simp; omega), World.frozen?_alloc_old _ _ t (by simp; omega), World.frozen?_alloc_old _ _ t (Nat.ne_of_lt htl)]; exact hf0)
  go_enter Tryd.func82, Tryd.ntmps82
  go_wp2
  refine wp_loop_rounds 1 ?_
  rw [rounds_succ]
  go_wp2
  go_ret
  exact ⟨rfl, rfl⟩
theorem asR_typeOfS (v : Value) (w : World) : (ReflectliteType.typeOf #[.iface 219 v]).run Tryd.prog w = .ok (.iface 174 (.agg #[.pointer (some ⟨19, 219, none⟩)])) w := by kernel_rfl
theorem asR_assignableS (w : World) : (ReflectliteType.relation "AssignableTo" ReflectliteType.assignableTo #[.agg #[.pointer (some ⟨19, 219, none⟩)], .iface 174 (.agg #[.pointer (some ⟨19, 145, none⟩)])]).run Tryd.prog w = .ok (.bool false) w := by kernel_rfl
theorem asR_noAs (v : Value) (xT : TypeId) (w : World) : (Instr.typeAssert (.iface 219 v) xT 193 true).run Tryd.prog w = .ok (.tuple #[.nilIface, .bool false]) w := run_typeAssert_lacksB Tryd.underlying193 (by kernel_rfl) (by kernel_rfl) v xT w
set_option maxHeartbeats 4000000 in
theorem asR_sent (e t : Addr) (w : World) (hg : w.cell? ⟨15, 0, none⟩ = some (.iface 174 (.agg #[.pointer (some ⟨19, 32, none⟩)]))) (_htl : t.block < w.heap.size) :
    Calls Tryd.prog 82 #[.iface 219 (.pointer (some e)), .iface 147 (.pointer (some t))] w fun ev w' => ev = .returned (.bool false) ∧ Below w.heap.size w w' := by
  have h6 := @run_callFunc_extern Tryd.prog 92 _ (fun args => ReflectliteValue.unpack (args.getD 0 (.tuple #[]))) Tryd.func92 (by kernel_rfl) (by kernel_rfl) (by kernel_rfl) (by kernel_rfl)
  have h7 := @run_callFunc_extern Tryd.prog 93 _ (ReflectliteValue.methodAny (ReflectliteValue.valueError "reflectlite.Value.Type" 0) (fun t _ _ _ => ReflectliteType.toType t)) Tryd.func93 (by kernel_rfl) (by kernel_rfl) (by kernel_rfl) (by kernel_rfl)
  have h8 := @run_callFunc_extern Tryd.prog 94 _ (ReflectliteValue.method (ReflectliteValue.valueError "reflectlite.Value.IsNil" 0) ReflectliteValue.isNil) Tryd.func94 (by kernel_rfl) (by kernel_rfl) (by kernel_rfl) (by kernel_rfl)
  have h27 := @run_callFunc_extern Tryd.prog 141 _ (ReflectliteType.abiMethod fun t => do pure (.int .u8 (← Rtype.kind t))) Tryd.func141 (by kernel_rfl) (by kernel_rfl) (by kernel_rfl) (by kernel_rfl)
  have h37 := @run_callFunc_extern Tryd.prog 153 _ (ReflectliteType.method ReflectliteType.elem) Tryd.func153 (by kernel_rfl) (by kernel_rfl) (by kernel_rfl) (by kernel_rfl)
  have h38 := @run_callFunc_extern Tryd.prog 154 _ (ReflectliteType.relation "Implements" ReflectliteType.implements_) Tryd.func154 (by kernel_rfl) (by kernel_rfl) (by kernel_rfl) (by kernel_rfl)
  have h10 := @run_callFunc_extern Tryd.prog 83 _ ReflectliteType.typeOf Tryd.func83 (by kernel_rfl) (by kernel_rfl) (by kernel_rfl) (by kernel_rfl)
  have h35 := @run_callFunc_extern Tryd.prog 151 _ (ReflectliteType.relation "AssignableTo" ReflectliteType.assignableTo) Tryd.func151 (by kernel_rfl) (by kernel_rfl) (by kernel_rfl) (by kernel_rfl)
  have tO := asR_typeOfS
  have mA := asR_methodAssignableTo
  have a25 := asR_assignableS
  have nE := asR_noAs
  have uE := noUnwrapE
  have vE := noUnwrapsE
  have f6 := asR_valueOf27
  have f7 := asR_type27
  have mK := asR_methodKind
  have mE := asR_methodElem
  have mI := asR_methodImplements
  have k27 := asR_kind27
  have k25 := asR_kind25
  have e27 := asR_elem27
  have i25 := asR_implements25
  have n8 := asR_isNil27 ⟨w.heap.size, 0, none⟩ t ((w.alloc (.cells #[.pointer (some t)] 147)).alloc (.cells #[.pointer (some ⟨19, 147, none⟩), .pointer (some ⟨w.heap.size, 0, none⟩), .int .u64 150] 166)) (by simp)
  have hlt : 15 < w.heap.size := by
    rcases Nat.lt_or_ge 15 w.heap.size with h | h0
    · exact h
    · simp [World.cell?, Array.getElem?_eq_none h0] at hg
  have hg2 : ((w.alloc (.cells #[.pointer (some t)] 147)).alloc (.cells #[.pointer (some ⟨19, 147, none⟩), .pointer (some ⟨w.heap.size, 0, none⟩), .int .u64 150] 166)).cell? ⟨15, 0, none⟩ = some (.iface 174 (.agg #[.pointer (some ⟨19, 32, none⟩)])) := by
    rw [World.cell?_alloc_lt _ _ ⟨15, 0, none⟩ (by simp; omega), World.cell?_alloc_lt _ _ ⟨15, 0, none⟩ hlt]; exact hg
  go_enter Tryd.func82, Tryd.ntmps82
  go_wp2
  refine wp_loop_rounds 1 ?_
  rw [rounds_succ]
  go_wp2
  go_ret
  exact ⟨rfl, below_alloc (below_alloc (below_alloc (Below.refl _ _) _) _) _⟩
/-- The handle of the type error, as package errors keeps it. -/
def ErrTyR (w : World) : Prop := w.cell? ⟨15, 0, none⟩ = some (.iface 174 (.agg #[.pointer (some ⟨19, 32, none⟩)]))
theorem ErrTyR.below {w w' : World} (h : ErrTyR w) (hb : Below w.heap.size w w') : ErrTyR w' := (hb.cell (World.block_lt_of_cell? w _ h)).trans h
theorem krule_nil (w : World) : Calls Tryd.prog 64 #[.nilIface] w fun e w' => e = .returned (.int .i64 (-1)) ∧ Below w.heap.size w w' := by
  go_enter Tryd.func64, Tryd.ntmps64
  go_wp2_with (go_at_call 82; refine (asR_nil _ _).mono ?_; rintro e w1 ⟨rfl, rfl⟩)
  go_ret
  exact ⟨rfl, below_alloc (Below.refl _ _) _⟩
theorem krule_sent (a : Addr) (w : World) (hT : ErrTyR w) : Calls Tryd.prog 64 #[.iface 219 (.pointer (some a))] w fun e w' => e = .returned (.int .i64 (-1)) ∧ Below w.heap.size w w' := by
  have hT1 := hT.below (below_alloc (Below.refl _ _) (.cells #[.pointer none] 145))
  have HA := Lib.hid (asR_sent a ⟨w.heap.size, 0, none⟩ _ hT1 (by simp))
  clear hT hT1
  go_enter Tryd.func64, Tryd.ntmps64
  go_wp2_with (go_at_call 82; refine HA.out.mono ?_; rintro e w1 ⟨rfl, hb⟩; have HB := Lib.hid (below_next (below_alloc (Below.refl w.heap.size w) _) hb); clear hb)
  go_ret
  exact ⟨rfl, HB.out⟩
theorem krule_rule (pb po : Nat) (i : Int) (w : World) (hT : ErrTyR w) (hc : w.cell? ⟨pb, po, none⟩ = some (.int .i64 i)) : Calls Tryd.prog 64 #[.iface 145 (.pointer (some ⟨pb, po, none⟩))] w fun e w' => e = .returned (.int .i64 i) ∧ Below w.heap.size w w' := by
  have hT1 := hT.below (below_alloc (Below.refl _ _) (.cells #[.pointer none] 145))
  obtain ⟨w1, hw1⟩ : ∃ w1, w.alloc (.cells #[.pointer none] 145) = w1 := ⟨_, rfl⟩
  have hb1 : Below w.heap.size w w1 := by rw [← hw1]; exact below_alloc (Below.refl _ _) _
  have ht0 : w1.cell? ⟨w.heap.size, 0, none⟩ = some (.pointer none) := by rw [← hw1]; simp
  have hf0 : w1.frozen? ⟨w.heap.size, 0, none⟩ = false := by rw [← hw1]; simp
  have hs1 : w.heap.size < w1.heap.size := by rw [← hw1]; simp
  have hpl := World.block_lt_of_cell? w _ hc
  rw [hw1] at hT1
  have hc1 := (hb1.cell hpl).trans hc
  have HA : Hid (Calls Tryd.prog 82 #[.iface 145 (.pointer (some ⟨pb, po, none⟩)), .iface 147 (.pointer (some ⟨w.heap.size, 0, none⟩))] w1 fun ev w' => ev = .returned (.bool true) ∧ w'.cell? ⟨w.heap.size, 0, none⟩ = some (.pointer (some ⟨pb, po, none⟩)) ∧ w'.cell? ⟨pb, po, none⟩ = some (.int .i64 i) ∧ Below w.heap.size w w') := Lib.hid ((asR_hit ⟨pb, po, none⟩ ⟨w.heap.size, 0, none⟩ (.pointer none) w1 hT1 ht0 hf0).mono (by
    rintro e w' ⟨rfl, rfl⟩
    obtain ⟨w2, hw2⟩ : ∃ w2, ((((w1.alloc (.cells #[.pointer (some ⟨w.heap.size, 0, none⟩)] 147)).alloc (.cells #[.pointer (some ⟨19, 147, none⟩), .pointer (some ⟨w1.heap.size, 0, none⟩), .int .u64 150] 166)).alloc (.cells #[.pointer (some ⟨19, 147, none⟩), .pointer (some ⟨w1.heap.size, 0, none⟩), .int .u64 150] 166)).alloc (.cells #[.pointer (some ⟨pb, po, none⟩)] 145)) = w2 := ⟨_, rfl⟩
    have hb2 : Below w1.heap.size w1 w2 := by rw [← hw2]; exact below_alloc (below_alloc (below_alloc (below_alloc (Below.refl _ _) _) _) _) _
    rw [hw2]
    have ht2 := (hb2.cell hs1).trans ht0
    refine ⟨rfl, World.cell?_setCell_same _ _ _ ht2, ?_, (below_next hb1 hb2).setCell (Nat.le_refl _) _⟩
    rw [World.cell?_setCell_other _ _ _ _ (by intro h; injection h with h; have hpl' : pb < w.heap.size := hpl; omega)]
    exact (hb2.cell (Nat.lt_trans hpl hs1)).trans hc1))
  have HW1 := Lib.hid hw1
  clear hT hT1 hb1 ht0 hf0 hs1 hpl hc1 hc hw1
  go_enter Tryd.func64, Tryd.ntmps64
  go_wp2_with (go_at_call 82; rw [HW1.out]; refine HA.out.mono ?_; rintro e w3 ⟨rfl, h1, h2, hb⟩; have HB := Lib.hid hb; clear hb)
  go_ret
  exact ⟨rfl, HB.out⟩
end Go.Proofs.YtapgglmdnggopaaDoor.Hand
/- What a row lays: the errors out of a longer list, the handle of the type error. -/
namespace Go.Proofs.YtapgglmdnggopaaDoor.Hand
open Go.ChangeShapes
open Go.RowKit Go.Proofs.YtapgglmdnggopaaDoorW.PrintWords Go.Proofs.YtapgglmdnggopaaDoorW.PrintMore Go.Proofs.YtapgglmdnggopaaDoor.Math

theorem laid_errsF (p : String × DataW Unit → Bool) {l : List (String × DataW Unit)} {W : World} (h : laidMetH Tryd.prog l W) (hp : (l.all fun x => x.2.handleName?.isNone) = true)
    (hp2 : ((l.filter p).all fun x => x.2.handleName?.isNone) = true)
    (hall : ((l.filter p).all fun x => sentB x.2 && (((Tryd.prog.globalNamed x.1).bind fun g => (Tryd.prog.globals[g]?).map (·.type)) == some 32)) = true)
    (hn : (l.filter p).map (fun x => Tryd.prog.globalNamed x.1) = GE.map some) : ∃ A, Errs W A := by
  rw [MakeChecks.laidMetH_plain _ _ _ hp] at h
  exact laid_errs' (l := l.filter p) (by rw [MakeChecks.laidMetH_plain _ _ _ hp2]; exact h.filter p) hp2 hall hn
theorem laidMetH_nons {P : Program} {l : List (String × DataW Unit)} {W : World} (h : laidMetH P l W) : laidMetH P (l.filter fun x => x.2.handleName?.isNone) W := by
  have hp : ((l.filter fun x => x.2.handleName?.isNone).all fun x => x.2.handleName?.isNone) = true := by
    rw [List.all_eq_true]
    intro x hx
    exact (List.mem_filter.1 hx).2
  rw [MakeChecks.laidMetH_plain _ _ _ hp]
  unfold laidMetH at h
  split at h
  · rename_i he
    rw [List.filter_eq_nil_iff] at he
    have e : (l.filter fun x => x.2.handleName?.isNone) = l := by
      rw [List.filter_eq_self]
      intro x hx
      have := he x hx
      cases hn : x.2.handleName? with
      | none => rfl
      | some s => rw [hn] at this; simp at this
    rw [e]
    exact h
  · exact h.1
theorem errTy_rt : (Tryd.prog.cutTypes.find? (·.1 == "internal/reflectlite.rtype")).map (·.2) = some 174 := by kernel_rfl
theorem errTy_named : Tryd.prog.globalNamed "errors.errorType" = some 15 := by kernel_rfl
theorem errTy_row : ((List.range Tryd.prog.types.size).filter fun t => Tryd.prog.rowNamed t [101, 114, 114, 111, 114]) = [32] := by kernel_rfl
theorem errTy_handle : typeHandle Tryd.prog 32 = .pointer (some ⟨19, 32, none⟩) := by kernel_rfl
theorem laid_errTyR {l : List (String × DataW Unit)} {W : World} (h : laidMetH Tryd.prog l W) (hm : (l.filter fun x => x.2.handleName?.isSome) = [("errors.errorType", Rows.laid_errors_errorType)]) : ErrTyR W := by
  unfold laidMetH at h
  rw [hm] at h
  obtain ⟨name, u, ty, e1, e2, e3, e4, e5⟩ := h.2 _ (List.mem_singleton.2 rfl)
  have en : name = [101, 114, 114, 111, 114] := (Option.some.inj e1).symm
  subst en
  obtain rfl := Option.some.inj (errTy_rt.symm.trans e2)
  have hm : ty ∈ (List.range Tryd.prog.types.size).filter fun t => Tryd.prog.rowNamed t [101, 114, 114, 111, 114] := List.mem_filter.2 ⟨List.mem_range.2 e3, e4⟩
  rw [errTy_row] at hm
  obtain rfl := List.mem_singleton.1 hm
  rw [errTy_handle] at e5
  unfold ErrTyR
  simpa using World.var?_cell errTy_named e5 0
end Go.Proofs.YtapgglmdnggopaaDoor.Hand
/- Pure: folding a tree, with whatever the two functions keep. -/
namespace Go.Proofs.YtapgglmdnggopaaDoor.Math
variable {σ α : Type}

/-- A value is handed up. -/
def pushV (v : α) : List (List α) → List (List α)
  | ks :: K => (ks ++ [v]) :: K
  | [] => [[v]]
/-- What folding keeps: the next place, what the functions keep, the kids of the open steps. -/
def opsF (lf : σ → Int → Int → σ × α) (nf : σ → Int → List α → σ × α) : Ops (Int × σ × List (List α)) Int where
  ent _ s _ _ n := ((s.1, s.2.1, [] :: s.2.2), n)
  tok s _ _ x := (Hand.inc64 s.1, (lf s.2.1 s.1 x).1, pushV (lf s.2.1 s.1 x).2 s.2.2)
  lv s n := match s.2.2 with
    | ks :: K => (s.1, (nf s.2.1 n ks).1, pushV (nf s.2.1 n ks).2 K)
    | [] => s
theorem foldG_top (lf : σ → Int → Int → σ × α) (nf : σ → Int → List α → σ × α) (G : List (Int × List Int)) (rs : List Int) : ∀ (f : Nat) (any : Bool) (nt : Int) (up : Option (Int × Nat)) (deep i : Nat) (p : Int) (s : σ) (ks : List α) (K : List (List α)) (st' : Nat × Int × σ × List (List α)),
    nodeG (opsF lf nf) G rs f any nt up deep (i, p, s, ks :: K) = some st' → ∃ i' p' s' v, st' = (i', p', s', (ks ++ [v]) :: K) ∧ i < i' ∧ i' ≤ rs.length
  | 0, _, _, _, _, _, _, _, _, _, _, h => by simp [nodeG] at h
  | f + 1, any, nt, up, deep, i, p, s, ks, K, st', h => by
    rw [nodeG] at h
    split at h
    · cases h
    · rename_i n hn
      split at h
      · cases h
      · split at h
        · cases h
        · split at h
          · cases h
          · rename_i h1 h2 s1 hs
            have hlt : i < rs.length := (List.getElem?_eq_some_iff.1 hn).1
            have key : ∀ (φ : Int) (l : List Int) (k i2 : Nat) (p2 : Int) (s2 : σ) (kd : List α) (s3 : Nat × Int × σ × List (List α)), symsG (opsF lf nf) (fun u m st => nodeG (opsF lf nf) G rs f false m (some u) (deep + 1) st) φ k l (i2, p2, s2, kd :: ks :: K) = some s3 → i2 ≤ rs.length →
                ∃ i3 p3 s4 kd2, s3 = (i3, p3, s4, kd2 :: ks :: K) ∧ i2 ≤ i3 ∧ i3 ≤ rs.length := by
              intro φ l
              induction l with
              | nil =>
                intro k i2 p2 s2 kd s3 h h3
                simp only [symsG, Option.some.injEq] at h
                exact ⟨i2, p2, s2, kd, h.symm, Nat.le_refl _, h3⟩
              | cons x r ih =>
                intro k i2 p2 s2 kd s3 h h3
                rw [symsG] at h
                split at h
                · split at h
                  · cases h
                  · rename_i s5 h6
                    obtain ⟨i3, p3, s4, v, rfl, a1, a2⟩ := foldG_top lf nf G rs f false _ _ _ i2 p2 s2 kd (ks :: K) s5 h6
                    obtain ⟨i4, p4, s6, kd3, b1, b2, b3⟩ := ih _ i3 p3 s4 _ s3 h a2
                    exact ⟨i4, p4, s6, kd3, b1, by omega, b3⟩
                · exact ih _ i2 _ _ _ s3 h h3
            obtain ⟨i3, p3, s4, kd2, rfl, b2, b3⟩ := key _ _ _ _ _ _ _ _ hs (by show i + 1 ≤ rs.length; omega)
            simp only [Option.some.injEq] at h
            exact ⟨i3, p3, (nf s4 n kd2).1, (nf s4 n kd2).2, h.symm, by omega, b3⟩
theorem foldG_ok {lf : σ → Int → Int → σ × α} {nf : σ → Int → List α → σ × α} {G : List (Int × List Int)} {rs : List Int} {f : Nat} {any : Bool} {nt : Int} {up : Option (Int × Nat)} {deep i : Nat} {p : Int} {s : σ} {ks : List α} {K : List (List α)} {st' : Nat × Int × σ × List (List α)} (h : nodeG (opsF lf nf) G rs (f + 1) any nt up deep (i, p, s, ks :: K) = some st') :
    ∃ (j : Nat) (s3 : Nat × Int × σ × List (List α)), rs[i]? = some (j : Int) ∧ j < G.length ∧ symsG (opsF lf nf) (fun u m st => nodeG (opsF lf nf) G rs f false m (some u) (deep + 1) st) (j : Int) 0 (ruleD G (j : Int)).2 (i + 1, p, s, [] :: ks :: K) = some s3 ∧ st' = (s3.1, (opsF lf nf).lv s3.2 (j : Int)) := by
  rw [nodeG] at h
  split at h
  · cases h
  · rename_i n hn
    split at h
    · cases h
    · split at h
      · cases h
      · split at h
        · cases h
        · rename_i h1 h2 s1 hs
          refine ⟨n.toNat, s1, by rw [show ((n.toNat : Nat) : Int) = n by omega]; exact hn, by omega, ?_, ?_⟩
          · rw [show ((n.toNat : Nat) : Int) = n by omega]; exact hs
          · rw [show ((n.toNat : Nat) : Int) = n by omega]
            simp only [Option.some.injEq] at h
            exact h.symm
/-- How often the node's function has been asked. -/
theorem foldG_cnt {lf : σ → Int → Int → σ × α} {nf : σ → Int → List α → σ × α} {cnt : σ → Nat} (hl : ∀ s p x, cnt (lf s p x).1 ≤ cnt s) (hN : ∀ s n ks, cnt (nf s n ks).1 ≤ cnt s + 1) (G : List (Int × List Int)) (rs : List Int) : ∀ (f : Nat) (any : Bool) (nt : Int) (up : Option (Int × Nat)) (deep i : Nat) (p : Int) (s : σ) (ks : List α) (K : List (List α)) (i' : Nat) (p' : Int) (s' : σ) (K' : List (List α)),
    nodeG (opsF lf nf) G rs f any nt up deep (i, p, s, ks :: K) = some (i', p', s', K') → cnt s' + i ≤ cnt s + i'
  | 0, _, _, _, _, _, _, _, _, _, _, _, _, _, h => by simp [nodeG] at h
  | f + 1, any, nt, up, deep, i, p, s, ks, K, i', p', s', K', h => by
    obtain ⟨j, ⟨i3, p3, s3, K3⟩, hj, hjG, hs, he⟩ := foldG_ok h
    have key : ∀ (l : List Int) (k i2 : Nat) (p2 : Int) (s2 : σ) (kd : List α), symsG (opsF lf nf) (fun u m st => nodeG (opsF lf nf) G rs f false m (some u) (deep + 1) st) (j : Int) k l (i2, p2, s2, kd :: ks :: K) = some (i3, p3, s3, K3) → cnt s3 + i2 ≤ cnt s2 + i3 ∧ ∃ kd', K3 = kd' :: ks :: K := by
      intro l
      induction l with
      | nil =>
        intro k i2 p2 s2 kd h
        simp only [symsG, Option.some.injEq, Prod.mk.injEq] at h
        obtain ⟨rfl, rfl, rfl, rfl⟩ := h
        exact ⟨Nat.le_refl _, kd, rfl⟩
      | cons x r ih =>
        intro k i2 p2 s2 kd h
        rw [symsG] at h
        split at h
        · split at h
          · cases h
          · rename_i s5 h6
            obtain ⟨i4, p4, s4, v, rfl, a1, a2⟩ := foldG_top lf nf G rs f false _ _ _ i2 p2 s2 kd (ks :: K) s5 h6
            have b1 := foldG_cnt hl hN G rs f false _ _ _ i2 p2 s2 kd (ks :: K) i4 p4 s4 _ h6
            obtain ⟨b2, b3⟩ := ih _ i4 p4 s4 _ h
            exact ⟨by omega, b3⟩
        · obtain ⟨b2, b3⟩ := ih _ i2 _ _ _ h
          have b4 : cnt s3 + i2 ≤ cnt (lf s2 p2 x).1 + i3 := b2
          have := hl s2 p2 x
          exact ⟨by omega, b3⟩
    obtain ⟨b2, kd, rfl⟩ := key _ _ _ _ _ _ hs
    simp only [opsF, Prod.mk.injEq] at he
    obtain ⟨rfl, rfl, rfl, rfl⟩ := he
    have := hN s3 (j : Int) kd
    omega
/-- If the rules are a tree then folding goes through. -/
theorem foldG_walk {lf : σ → Int → Int → σ × α} {nf : σ → Int → List α → σ × α} {G : List (Int × List Int)} {rs : List Int} {any : Bool} {nt : Int} {d d' : DS} (p : Int) (s : σ) (h : walkG (opsD Hand.inc64) G rs any nt d = some d') : ∃ i p' s' v, nodeG (opsF lf nf) G rs rs.length any nt none 1 (0, p, s, [[]]) = some (i, p', s', [[v]]) ∧ walkG (opsF lf nf) G rs any nt (p, s, [[]]) = some (p', s', [[v]]) := by
  unfold walkG at h ⊢
  have hc := node_ctl (opsD Hand.inc64) (opsF lf nf) G rs rs.length any nt none none 1 1 0 d (p, s, [[]])
  cases h1 : nodeG (opsD Hand.inc64) G rs rs.length any nt none 1 (0, d) with
  | none => rw [h1] at h; cases h
  | some a =>
    rw [h1] at h hc
    cases h2 : nodeG (opsF lf nf) G rs rs.length any nt none 1 (0, p, s, [[]]) with
    | none => rw [h2] at hc; cases hc
    | some b =>
      rw [h2] at hc
      simp only [Option.map_some, Option.some.injEq] at hc
      simp only at h
      split at h
      · cases h
      · rename_i hl
        obtain ⟨i', p', s', v, rfl, -, -⟩ := foldG_top lf nf G rs rs.length any nt none 1 0 p s [] [] b h2
        refine ⟨i', p', s', v, rfl, ?_⟩
        simp only
        rw [if_neg (by simp only at hc; omega)]
        rfl
end Go.Proofs.YtapgglmdnggopaaDoor.Math
/- Contracts: fold.kin: whose kid each step is, and which symbol. -/
namespace Go.Proofs.YtapgglmdnggopaaDoor.Hand
open Go.RowKit Go.Proofs.YtapgglmdnggopaaDoorW.PrintWords Go.Proofs.YtapgglmdnggopaaDoorW.PrintMore Go.Proofs.YtapgglmdnggopaaDoorW.PrintLast Go.Proofs.YtapgglmdnggopaaDoor.Math

/-- kin's memory: the grammar, the tree, the two rows' variables, the next step, the function itself. -/
structure KinAt (w0 w : World) (b0 : Nat) (gc : Array Value) (tv fn : Value) (i : Nat) (s : List (Int × Int)) (vp vs : Value) : Prop where
  bg : w.heap[b0]? = some (.cells gc 25 (0, 0))
  bt : w.heap[b0 + 1]? = some (.cells #[tv] 26 (0, 0))
  bp : w.heap[b0 + 2]? = some (.cells #[vp] 30 (0, 0))
  bs : w.heap[b0 + 3]? = some (.cells #[vs] 30 (0, 0))
  ba : w.heap[b0 + 4]? = some (.cells #[.int .i64 (i : Int)] 3 (0, 0))
  bd : w.heap[b0 + 5]? = some (.cells #[fn] 140 (0, 0))
  rp : (Kd.int .i64).R 3 w (b0 + 6) (fun k => True ∧ some k ≠ vs.ownBlock) vp (s.map (·.1))
  rs : (Kd.int .i64).R 3 w (b0 + 6) (fun k => True ∧ some k ≠ vp.ownBlock) vs (s.map (·.2))
  bel : Below b0 w0 w
  sz : b0 + 6 ≤ w.heap.size
section
variable {w0 w w1 : World} {b0 i : Nat} {gc : Array Value} {tv fn vp vs v1 v2 : Value} {s : List (Int × Int)}
theorem KinAt.below (h : KinAt w0 w b0 gc tv fn i s vp vs) (hb : Below w.heap.size w w1) : KinAt w0 w1 b0 gc tv fn i s vp vs := by
  have hs := h.sz
  exact ⟨(hb.block _ (by omega)).trans h.bg, (hb.block _ (by omega)).trans h.bt, (hb.block _ (by omega)).trans h.bp, (hb.block _ (by omega)).trans h.bs, (hb.block _ (by omega)).trans h.ba, (hb.block _ (by omega)).trans h.bd, Kd.R_below h.rp hb, Kd.R_below h.rs hb, h.bel.trans (hb.mono (by omega)), by have := hb.size; omega⟩
theorem KinAt.setI (h : KinAt w0 w b0 gc tv fn i s vp vs) (j : Nat) : KinAt w0 (w.setCell ⟨b0 + 4, 0, none⟩ (.int .i64 (j : Int))) b0 gc tv fn j s vp vs := by
  have hf : ∀ k, k ≠ b0 + 4 → (w.setCell ⟨b0 + 4, 0, none⟩ (.int .i64 (j : Int))).heap[k]? = w.heap[k]? := fun k hk => Below.heap_setCell w ⟨b0 + 4, 0, none⟩ _ k hk
  refine ⟨(hf _ (by omega)).trans h.bg, (hf _ (by omega)).trans h.bt, (hf _ (by omega)).trans h.bp, (hf _ (by omega)).trans h.bs, by rw [blk_put h.ba]; rfl, (hf _ (by omega)).trans h.bd, ?_, ?_, h.bel.setCell (by show b0 ≤ b0 + 4; omega) _, by rw [World.size_setCell]; exact h.sz⟩
  · exact Kd.R_mono (Kd.R_far (Kd.R_bound h.rp) (p := ⟨b0 + 4, 0, none⟩) (fun k hk => by have := hk.2.1; show k ≠ b0 + 4; omega) _) (fun k hk => hk.1)
  · exact Kd.R_mono (Kd.R_far (Kd.R_bound h.rs) (p := ⟨b0 + 4, 0, none⟩) (fun k hk => by have := hk.2.1; show k ≠ b0 + 4; omega) _) (fun k hk => hk.1)
/-- Both rows have grown, and their variables are written. -/
theorem KinAt.grow (h : KinAt w0 w b0 gc tv fn i s vp vs) (hb : Below (b0 + 6) w w1) {x y : Int}
    (r1 : (Kd.int .i64).R 3 w1 (b0 + 6) (fun k => True ∧ some k ≠ v2.ownBlock) v1 ((s ++ [(x, y)]).map (·.1))) (r2 : (Kd.int .i64).R 3 w1 (b0 + 6) (fun k => True ∧ some k ≠ v1.ownBlock) v2 ((s ++ [(x, y)]).map (·.2))) :
    KinAt w0 ((w1.setCell ⟨b0 + 2, 0, none⟩ v1).setCell ⟨b0 + 3, 0, none⟩ v2) b0 gc tv fn i (s ++ [(x, y)]) v1 v2 := by
  have hf : ∀ k, k ≠ b0 + 2 → k ≠ b0 + 3 → ((w1.setCell ⟨b0 + 2, 0, none⟩ v1).setCell ⟨b0 + 3, 0, none⟩ v2).heap[k]? = w1.heap[k]? := fun k hk hk2 => (Below.heap_setCell _ ⟨b0 + 3, 0, none⟩ _ k hk2).trans (Below.heap_setCell w1 ⟨b0 + 2, 0, none⟩ _ k hk)
  have hk : ∀ k, k < b0 + 6 → w1.heap[k]? = w.heap[k]? := fun k hk => hb.block k hk
  refine ⟨((hf _ (by omega) (by omega)).trans (hk _ (by omega))).trans h.bg, ((hf _ (by omega) (by omega)).trans (hk _ (by omega))).trans h.bt, ?_, ?_, ((hf _ (by omega) (by omega)).trans (hk _ (by omega))).trans h.ba, ((hf _ (by omega) (by omega)).trans (hk _ (by omega))).trans h.bd, ?_, ?_, ((h.bel.trans (hb.mono (by omega))).setCell (by show b0 ≤ b0 + 2; omega) _).setCell (by show b0 ≤ b0 + 3; omega) _, by rw [World.size_setCell, World.size_setCell]; have := hb.size; have := h.sz; omega⟩
  · rw [Below.heap_setCell _ ⟨b0 + 3, 0, none⟩ _ _ (by show b0 + 2 ≠ b0 + 3; omega), blk_put ((hk _ (by omega)).trans h.bp)]; rfl
  · have e : (w1.setCell ⟨b0 + 2, 0, none⟩ v1).heap[b0 + 3]? = some (.cells #[vs] 30 (0, 0)) := by
      rw [Below.heap_setCell _ ⟨b0 + 2, 0, none⟩ _ _ (by show b0 + 3 ≠ b0 + 2; omega)]; exact (hk _ (by omega)).trans h.bs
    rw [blk_put e]; rfl
  · exact Kd.R_mono (Kd.R_step (Kd.R_bound r1) (fun k hk2 _ => hf k (by have := hk2.2.1; omega) (by have := hk2.2.1; omega))) (fun k hk2 => hk2.1)
  · exact Kd.R_mono (Kd.R_step (Kd.R_bound r2) (fun k hk2 _ => hf k (by have := hk2.2.1; omega) (by have := hk2.2.1; omega))) (fun k hk2 => hk2.1)
theorem KinAt.cells (h : KinAt w0 w b0 gc tv fn i s vp vs) : w.cell? ⟨b0 + 1, 0, none⟩ = some tv ∧ w.cell? ⟨b0 + 2, 0, none⟩ = some vp ∧ w.cell? ⟨b0 + 3, 0, none⟩ = some vs ∧ w.cell? ⟨b0 + 4, 0, none⟩ = some (.int .i64 (i : Int)) ∧ w.cell? ⟨b0 + 5, 0, none⟩ = some fn :=
  ⟨by simp [World.cell?, h.bt], by simp [World.cell?, h.bp], by simp [World.cell?, h.bs], by simp [World.cell?, h.ba], by simp [World.cell?, h.bd]⟩
theorem KinAt.frz (h : KinAt w0 w b0 gc tv fn i s vp vs) : w.frozen? ⟨b0 + 2, 0, none⟩ = false ∧ w.frozen? ⟨b0 + 3, 0, none⟩ = false ∧ w.frozen? ⟨b0 + 4, 0, none⟩ = false := by
  refine ⟨?_, ?_, ?_⟩
  · simp [World.frozen?, h.bp]
  · simp [World.frozen?, h.bs]
  · simp [World.frozen?, h.ba]
end
/-- The two rows within one statement: both grow, neither is the other. -/
structure KReg (w2 w : World) (B : Nat) (v1 v2 : Value) (l1 l2 : List Int) : Prop where
  r1 : (Kd.int .i64).R 3 w B (fun k => True ∧ some k ≠ v2.ownBlock) v1 l1
  r2 : (Kd.int .i64).R 3 w B (fun k => True ∧ some k ≠ v1.ownBlock) v2 l2
  bel : Below B w2 w
  sz : B ≤ w.heap.size
section
variable {w2 w w1 : World} {B : Nat} {v1 v2 u : Value} {l1 l2 l : List Int}
theorem KReg.alloc (h : KReg w2 w B v1 v2 l1 l2) (o : Obj) : KReg w2 (w.alloc o) B v1 v2 l1 l2 :=
  ⟨Kd.R_below h.r1 (below_alloc (Below.refl _ _) _), Kd.R_below h.r2 (below_alloc (Below.refl _ _) _), h.bel.alloc h.sz _, by rw [World.size_alloc]; have := h.sz; omega⟩
theorem KReg.one (h : KReg w2 w B v1 v2 l1 l2) (ho : (Kd.int .i64).R 3 w1 B (fun k => True ∧ some k ≠ v2.ownBlock) u l) (hb : Below B w2 w1) (hg : w.grownBy w1 v1.ownBlock) (hat : u.ownBlock = v1.ownBlock ∨ ∃ b, u.ownBlock = some b ∧ w.heap.size ≤ b) : KReg w2 w1 B u v2 l l2 := by
  refine ⟨ho, Kd.R_mono (Kd.R_grown (Kd.R_bound h.r2) hg (fun k hk => hk.1.2)) (fun k hk => ⟨trivial, fun e => ?_⟩), hb, Nat.le_trans h.sz hg.size⟩
  rcases hat with h1 | ⟨b, h1, h2⟩
  · exact hk.1.2 (e.trans h1)
  · have e2 : some k = some b := e.trans h1
    injection e2 with e2
    have := hk.2.2.1
    omega
theorem KReg.two (h : KReg w2 w B v1 v2 l1 l2) (ho : (Kd.int .i64).R 3 w1 B (fun k => True ∧ some k ≠ v1.ownBlock) u l) (hb : Below B w2 w1) (hg : w.grownBy w1 v2.ownBlock) (hat : u.ownBlock = v2.ownBlock ∨ ∃ b, u.ownBlock = some b ∧ w.heap.size ≤ b) : KReg w2 w1 B v1 u l1 l := by
  refine ⟨Kd.R_mono (Kd.R_grown (Kd.R_bound h.r1) hg (fun k hk => hk.1.2)) (fun k hk => ⟨trivial, fun e => ?_⟩), ho, hb, Nat.le_trans h.sz hg.size⟩
  rcases hat with h1 | ⟨b, h1, h2⟩
  · exact hk.1.2 (e.trans h1)
  · have e2 : some k = some b := e.trans h1
    injection e2 with e2
    have := hk.2.2.1
    omega
/-- What has just been built stays while the first row grows. -/
theorem KReg.lit (h : KReg w2 w B v1 v2 l1 l2) {p : Nat} {o : Obj} (hp : w.heap[p]? = some o) (hlt : ∀ k, v1.ownBlock = some k → k ≠ p) (hg : w.grownBy w1 v1.ownBlock) : w1.heap[p]? = some o := by
  have _ := h.sz
  exact (hg.block p (Array.getElem?_eq_some_iff.1 hp).1 (fun e => hlt p e.symm rfl)).trans hp
end
theorem lit1_C {W : World} {p : Nat} {x : Int} (h : W.heap[p]? = some (.cells #[.int .i64 x] 3 (0, 0))) : (Kd.int .i64).C W (some ⟨p, 0, none⟩) 1 [x] := by
  refine ⟨rfl, by omega, fun _ => ⟨_, rfl, fun j q hj => ?_⟩⟩
  cases j with
  | zero =>
    simp only [List.getElem?_cons_zero, Option.some.injEq] at hj
    subst hj
    refine ⟨[.int .i64 x], rfl, rfl, fun i u hu => ?_⟩
    cases i with
    | zero =>
      simp only [List.getElem?_cons_zero, Option.some.injEq] at hu
      subst hu
      simp [World.cell?, h, Addr.add]
    | succ i => simp at hu
  | succ j => simp at hj
def upLt (up : Option (Nat × Nat)) (i : Nat) : Prop := match up with | none => i = 0 | some u => u.1 < i
def upI (up : Option (Nat × Nat)) : Int × Int := match up with | none => (-1, 0) | some (p, k) => ((p : Int), (k : Int))
/-- What kin's function leaves. -/
def KinP (w0 : World) (b0 : Nat) (gc : Array Value) (tv fn : Value) (st : Nat × List (Int × Int)) (e : Ending) (w' : World) : Prop :=
  e = .returned (.tuple #[]) ∧ ∃ vp vs, KinAt w0 w' b0 gc tv fn st.1 st.2 vp vs
theorem nodeK_ok {G : List (Int × List Int)} {rs : List Int} {f : Nat} {any : Bool} {nt : Int} {up : Option (Nat × Nat)} {deep i : Nat} {s : List (Int × Int)} {st' : Nat × List (Int × Int)} (h : nodeG opsK G rs (f + 1) any nt up deep (i, s) = some st') :
    ∃ (j : Nat), rs[i]? = some (j : Int) ∧ j < G.length ∧ symsG opsK (fun u m st => nodeG opsK G rs f false m (some u) (deep + 1) st) i 0 (ruleD G (j : Int)).2 (i + 1, s ++ [upI up]) = some st' := by
  rw [nodeG] at h
  split at h
  · cases h
  · rename_i n hn
    split at h
    · cases h
    · split at h
      · cases h
      · split at h
        · cases h
        · rename_i h1 h2 s1 hs
          refine ⟨n.toNat, by rw [show ((n.toNat : Nat) : Int) = n by omega]; exact hn, by omega, ?_⟩
          rw [show ((n.toNat : Nat) : Int) = n by omega]
          have e : s1 = st' := by
            simp only [Option.some.injEq] at h
            rw [← h]
            rfl
          subst e
          cases up <;> exact hs
/-- The loop over a step's symbols. -/
structure KLoop (w0 wr : World) (b0 : Nat) (gc : Array Value) (tv fn : Value) (rs : List Int) (G : List (Int × List Int)) (f deep i : Nat) (r : List Int) (st' : Nat × List (Int × Int)) (kk : Nat) (s2 : Nat × List (Int × Int)) (vp vs : Value) : Prop where
  at_ : KinAt w0 wr b0 gc tv fn s2.1 s2.2 vp vs
  tl : s2.2.length = s2.1
  ok : KinOk s2.2
  lo : i + 1 ≤ s2.1
  hi : s2.1 ≤ rs.length
  eq : symsG opsK (fun u m st => nodeG opsK G rs f false m (some u) (deep + 1) st) i kk (r.drop kk) s2 = some st'
section
variable {w0 wr w' : World} {b0 : Nat} {gc : Array Value} {tv fn : Value} {rs : List Int} {G : List (Int × List Int)} {f deep i : Nat} {r : List Int} {st' : Nat × List (Int × Int)} {kk : Nat} {s2 : Nat × List (Int × Int)} {vp vs vp' vs' : Value} {y : Int}
theorem KLoop.node (h : KLoop w0 wr b0 gc tv fn rs G f deep i r st' kk s2 vp vs) (hd : r.drop kk = y :: r.drop (kk + 1)) (hy : y < 0) :
    ∃ s3, nodeG opsK G rs f false (-1 - y) (some (i, kk)) (deep + 1) s2 = some s3 ∧ (∀ w' vp' vs', KinAt w0 w' b0 gc tv fn s3.1 s3.2 vp' vs' → KLoop w0 w' b0 gc tv fn rs G f deep i r st' (kk + 1) s3 vp' vs') := by
  have e := h.eq
  rw [hd, symsG, if_pos hy] at e
  cases h1 : nodeG opsK G rs f false (-1 - y) (some (i, kk)) (deep + 1) s2 with
  | none => rw [h1] at e; cases e
  | some s3 =>
    rw [h1] at e
    obtain ⟨a1, a2, a3, a4⟩ := kin_ok G rs f false _ (some (i, kk)) _ s2 s3 h1 h.tl h.ok h.lo
    have := h.lo
    exact ⟨s3, rfl, fun w' vp' vs' hw => ⟨hw, a3, a4, by omega, a2, e⟩⟩
theorem KLoop.tok (h : KLoop w0 wr b0 gc tv fn rs G f deep i r st' kk s2 vp vs) (hd : r.drop kk = y :: r.drop (kk + 1)) (hy : ¬ y < 0) : KLoop w0 wr b0 gc tv fn rs G f deep i r st' (kk + 1) s2 vp vs := by
  refine ⟨h.at_, h.tl, h.ok, h.lo, h.hi, ?_⟩
  rw [← h.eq, hd, symsG, if_neg hy]
  rfl
theorem KLoop.fin (h : KLoop w0 wr b0 gc tv fn rs G f deep i r st' kk s2 vp vs) (hk : r.length ≤ kk) : s2 = st' := by
  have e := h.eq
  rw [List.drop_eq_nil_of_le hk, symsG] at e
  exact Option.some.inj e
end
/-- What stands still while kin runs. -/
structure KinIn (w0 : World) (g : Gr) (AR : Option Addr) (t : List (Int × Int × Int)) (tA : Option Addr) : Prop where
  rules : KRule.C w0 AR g.rules.length g.rules
  tree : KStep.C w0 tA t.length t
  len : t.length ≤ 200000
  few : g.rules.length ≤ 120
  short : ∀ r ∈ g.rules, r.2.length ≤ 32
def kinF (b0 : Nat) : Value := .func (.func 77) #[] #[.pointer (some ⟨b0 + 4, 0, none⟩), .pointer (some ⟨b0 + 2, 0, none⟩), .pointer (some ⟨b0 + 3, 0, none⟩), .pointer (some ⟨b0, 0, none⟩), .pointer (some ⟨b0 + 1, 0, none⟩), .pointer (some ⟨b0 + 5, 0, none⟩)]
set_option maxHeartbeats 4000000 in
set_option maxRecDepth 100000 in
theorem kin1_step (w0 : World) (b0 : Nat) (g : Gr) (AT AN AR tA : Option Addr) (cT cN cR tc : Nat) (t : List (Int × Int × Int)) (hI : KinIn w0 g AR t tA) (hb0 : Hid (b0 = w0.heap.size)) (f : Nat)
    (ih : ∀ (any : Bool) (nt : Int) (up : Option (Nat × Nat)) (deep i : Nat) (s : List (Int × Int)) (vp vs : Value) (w : World) (st' : Nat × List (Int × Int)), nodeG opsK g.rules (t.map (·.1)) f any nt up deep (i, s) = some st' → s.length = i → KinOk s → upLt up i →
      KinAt w0 w b0 #[.slice AT g.terms.length cT, .slice AN g.nonterms.length cN, .int .i64 g.ax, .slice AR g.rules.length cR] (.slice tA t.length tc) (kinF b0) i s vp vs →
      Calls Tryd.prog 77 #[.int .i64 (upI up).1, .int .i64 (upI up).2, .pointer (some ⟨b0 + 4, 0, none⟩), .pointer (some ⟨b0 + 2, 0, none⟩), .pointer (some ⟨b0 + 3, 0, none⟩), .pointer (some ⟨b0, 0, none⟩), .pointer (some ⟨b0 + 1, 0, none⟩), .pointer (some ⟨b0 + 5, 0, none⟩)] w
        (KinP w0 b0 #[.slice AT g.terms.length cT, .slice AN g.nonterms.length cN, .int .i64 g.ax, .slice AR g.rules.length cR] (.slice tA t.length tc) (kinF b0) st'))
    (any : Bool) (nt : Int) (up : Option (Nat × Nat)) (deep i : Nat) (s : List (Int × Int)) (vp vs : Value) (w : World) (st' : Nat × List (Int × Int)) (hn : nodeG opsK g.rules (t.map (·.1)) (f + 1) any nt up deep (i, s) = some st') (hsl : s.length = i) (hok : KinOk s) (hup : upLt up i)
    (h : KinAt w0 w b0 #[.slice AT g.terms.length cT, .slice AN g.nonterms.length cN, .int .i64 g.ax, .slice AR g.rules.length cR] (.slice tA t.length tc) (kinF b0) i s vp vs) :
    Calls Tryd.prog 77 #[.int .i64 (upI up).1, .int .i64 (upI up).2, .pointer (some ⟨b0 + 4, 0, none⟩), .pointer (some ⟨b0 + 2, 0, none⟩), .pointer (some ⟨b0 + 3, 0, none⟩), .pointer (some ⟨b0, 0, none⟩), .pointer (some ⟨b0 + 1, 0, none⟩), .pointer (some ⟨b0 + 5, 0, none⟩)] w
      (KinP w0 b0 #[.slice AT g.terms.length cT, .slice AN g.nonterms.length cN, .int .i64 g.ax, .slice AR g.rules.length cR] (.slice tA t.length tc) (kinF b0) st') := by
  have IH := Lib.hid ih
  have HI := Lib.hid hI
  obtain ⟨j, hj, hjG, hsy⟩ := nodeK_ok hn
  have hlt : i < t.length := by
    have := (List.getElem?_eq_some_iff.1 hj).1
    simpa using this
  have hKO : KinOk (s ++ [upI up]) := by
    intro m hm
    by_cases hm2 : m < s.length
    · rw [List.getElem_append_left hm2]; exact hok m hm2
    · rw [List.getElem_append_right (by omega)]
      have hm3 : m = i := by simp at hm; omega
      subst hm3
      cases up with
      | none => exact .inl ⟨hup, by simp [upI]⟩
      | some u => have hup' : u.1 < m := hup; exact .inr ⟨by omega, by simp [upI], by simp [upI]; omega⟩
  obtain ⟨pa, ka, hpk⟩ : ∃ p k, upI up = (p, k) := ⟨_, _, rfl⟩
  have hlen := hI.len
  have hfew := hI.few
  clear ih hI hn hok hup
  rw [hpk] at hsy hKO ⊢
  have HSy := Lib.hid hsy
  have HKO := Lib.hid hKO
  have HSl := Lib.hid hsl
  clear hsy hKO hpk hsl
  have HH := Lib.hid h
  obtain ⟨-, -, -, k4, -⟩ := h.cells
  obtain ⟨-, -, z4⟩ := h.frz
  clear h
  go_enter Tryd.func77, Tryd.ntmps77
  go_upto_region 2 with (fail)
  obtain ⟨w2, hw2⟩ : ∃ w2, w.setCell ⟨b0 + 4, 0, none⟩ (.int .i64 ((i : Int) + 1)) = w2 := ⟨_, rfl⟩
  have h2 : KinAt w0 w2 b0 #[.slice AT g.terms.length cT, .slice AN g.nonterms.length cN, .int .i64 g.ax, .slice AR g.rules.length cR] (.slice tA t.length tc) (kinF b0) (i + 1) s vp vs := by
    rw [← hw2]
    have := HH.out.setI (i + 1)
    rwa [show ((i + 1 : Nat) : Int) = (i : Int) + 1 by omega] at this
  rw [hw2]
  clear hw2 k4 z4
  obtain ⟨A1, c1, e1⟩ := Kd.R_slice h2.rp
  obtain ⟨A2, c2, e2⟩ := Kd.R_slice h2.rs
  obtain ⟨n1, hn1⟩ : ∃ n, (s.map (·.1)).length = n := ⟨_, rfl⟩
  obtain ⟨n2, hn2⟩ : ∃ n, (s.map (·.2)).length = n := ⟨_, rfl⟩
  rw [hn1] at e1
  rw [hn2] at e2
  subst e1 e2
  have HN1 : Hid (((s.map (·.1)).length + 1) * 8 ≤ 140737488355328) := Lib.hid (by have := HSl.out; rw [List.length_map]; omega)
  have HN2 : Hid (((s.map (·.2)).length + 1) * 8 ≤ 140737488355328) := Lib.hid (by have := HSl.out; rw [List.length_map]; omega)
  have H2 := Lib.hid h2
  have K0 : Hid (KReg w2 w2.drew (b0 + 6) (.slice A1 n1 c1) (.slice A2 n2 c2) (s.map (·.1)) (s.map (·.2))) := Lib.hid ⟨Kd.R_drew h2.rp, Kd.R_drew h2.rs, below_drew (Below.refl _ _), by have := h2.sz; simpa using this⟩
  have q2 := h2.cells.2.1
  have q3 := h2.cells.2.2.1
  clear hn1 hn2 h2
  have d2 : w2.drew.cell? ⟨b0 + 2, 0, none⟩ = some (.slice A1 n1 c1) := by rw [World.cell?_drew]; exact q2
  have d3 : w2.drew.cell? ⟨b0 + 3, 0, none⟩ = some (.slice A2 n2 c2) := by rw [World.cell?_drew]; exact q3
  refine start_ (n := 10) (S := fun w' => w'.cell? ⟨b0 + 2, 0, none⟩ = some (.slice A1 n1 c1) ∧ w'.cell? ⟨b0 + 3, 0, none⟩ = some (.slice A2 n2 c2)) (ds := [7, 8, 9]) #[false, false, false, false, false, false, false, false, false, false] (by kernel_rfl) rfl rfl ⟨d2, d3⟩ (fun hHeld => ?_)
  obtain ⟨W0, hW0⟩ : ∃ W, w2.drew = W := ⟨_, rfl⟩
  rw [hW0] at hHeld K0 ⊢
  clear hW0 d2 d3
  refine pure_ (i := 1) (N := some 17) (v := ?_) (a' := ?_) #[false, true, false, false, false, false, false, false, false, false] rfl rfl (by kernel_rfl) (fun _ _ _ h => h) (Or.inl ⟨by rfl, ?_⟩) ?_ ?_
  rotate_left
  · intro w'
    go_simp
    with_reducible rfl
  rotate_left
  · simp only [Act.put, List.setIfInBounds_toArray, List.set_cons_zero, List.set_cons_succ]
    rfl
  refine pure_ (i := 5) (N := some 21) (v := ?_) (a' := ?_) #[false, true, false, false, false, true, false, false, false, false] rfl rfl (by kernel_rfl) (fun _ _ _ h => h) (Or.inl ⟨by rfl, ?_⟩) ?_ ?_
  rotate_left
  · intro w'
    go_simp
    with_reducible rfl
  rotate_left
  · simp only [Act.put, List.setIfInBounds_toArray, List.set_cons_zero, List.set_cons_succ]
    rfl
  refine take_ (i := 0) (N := some 16) (v := ?_) (a' := ?_) #[true, true, false, false, false, true, false, false, false, false] rfl rfl (by kernel_rfl) (fun _ _ _ h => h) (Or.inl ⟨by rfl, ?_⟩) hHeld ?_ ?_
  rotate_left
  · rintro w' ⟨s0, s1⟩
    go_simp
    with_reducible rfl
  rotate_left
  · simp only [Act.put, List.setIfInBounds_toArray, List.set_cons_zero, List.set_cons_succ]
    rfl
  refine take_ (i := 4) (N := some 20) (v := ?_) (a' := ?_) #[true, true, false, false, true, true, false, false, false, false] rfl rfl (by kernel_rfl) (fun _ _ _ h => h) (Or.inl ⟨by rfl, ?_⟩) hHeld ?_ ?_
  rotate_left
  · rintro w' ⟨s0, s1⟩
    go_simp
    with_reducible rfl
  rotate_left
  · simp only [Act.put, List.setIfInBounds_toArray, List.set_cons_zero, List.set_cons_succ]
    rfl
  refine join_ (σ := Nat × Nat × Value) 3 #[true, true, true, true, true, true, true, false, false, false] (fun s => [(18, .slice (some ⟨s.1, 0, none⟩) 1 1), (19, s.2.2), (22, .slice (some ⟨s.2.1, 0, none⟩) 1 1)]) (fun s1 w' => Hid (KReg w2 w' (b0 + 6) s1.2.2 (.slice A2 n2 c2) (s.map (·.1) ++ [pa]) (s.map (·.2))) ∧ Hid (w'.heap[s1.2.1]? = some (.cells #[.int .i64 ka] 3 (0, 0)))) ?_ ?_
  rotate_left
  · intro hCont
    refine two_ (i := 2) (j := 6) (Ni := some 18) (Nj := some 22) #[true, true, true, false, true, true, false, false, false, false] #[true, true, false, false, true, true, true, false, false, false] rfl rfl rfl rfl (by kernel_rfl) (by decide) (by decide) (fun K hK => ?_) (fun K hK => ?_)
    · skip
      refine value_ (w1 := ?_) (v := ?_) (by rfl) rfl ?_ ?_
      rotate_left 2
      · go_simp
        constructor
        · rfl
        · rfl
      have K2 := Lib.hid (K0.out.alloc (.cells #[.int .i64 pa] 3))
      refine hK.out _ _ ⟨(K2.out.bel.cell (show b0 + 2 < b0 + 6 by omega)).trans q2, (K2.out.bel.cell (show b0 + 3 < b0 + 6 by omega)).trans q3⟩ (fun hHeld => ?_)
      clear hK K
      refine norm_ (a' := ?_) ?_ ?_
      rotate_left
      · show Act.put _ (some 18) _ = _
        simp only [Act.put, List.setIfInBounds_toArray, List.set_cons_zero, List.set_cons_succ]
        rfl
      refine two_ (i := 3) (j := 6) (Ni := some 19) (Nj := some 22) #[true, true, true, true, true, true, false, false, false, false] #[true, true, true, false, true, true, true, false, false, false] rfl rfl rfl rfl (by kernel_rfl) (by decide) (by decide) (fun K hK => ?_) (fun K hK => ?_)
      · skip
        have HL : Hid ((W0.alloc (.cells #[.int .i64 pa] 3)).heap[W0.heap.size]? = some (.cells #[.int .i64 pa] 3 (0, 0))) := Lib.hid (heap_alloc_new W0 (.cells #[.int .i64 pa] 3))
        refine Kd.R_append_rows_step (Kd.int .i64) (w0 := w2) (b0 + 6) (by rfl) (.tmp 16) (.tmp 18) 30 3 (.int .i64 0) 8 rfl Tryd.underlying30 infoInt rfl (by decide) (by omega) (.slice A1 n1 c1) (s.map (·.1)) [pa] (some ⟨W0.heap.size, 0, none⟩) 1 1 (fun k => True ∧ some k ≠ (Value.slice A2 n2 c2).ownBlock) (fun _ => False) rfl rfl K2.out.r1 (lit1_C HL.out) (fun _ _ h => h) (fun _ h => h.elim) (fun k hk => ⟨trivial, fun e => by have := Kd.R_lt K2.out.r2 k e.symm; omega⟩) K2.out.bel K2.out.sz HN1.out ?_
        intro v4 w4 ho hb hg hat
        have K4 := Lib.hid (K2.out.one ho hb hg hat)
        clear ho hb hg hat
        refine hK.out _ _ ⟨(K4.out.bel.cell (show b0 + 2 < b0 + 6 by omega)).trans q2, (K4.out.bel.cell (show b0 + 3 < b0 + 6 by omega)).trans q3⟩ (fun hHeld => ?_)
        clear hK K
        refine norm_ (a' := ?_) ?_ ?_
        rotate_left
        · show Act.put _ (some 19) _ = _
          simp only [Act.put, List.setIfInBounds_toArray, List.set_cons_zero, List.set_cons_succ]
          rfl
        refine one_ (i := 6) (N := some 22) #[true, true, true, true, true, true, true, false, false, false] rfl rfl (by kernel_rfl) (by decide) (fun K hK => ?_)
        refine value_ (w1 := ?_) (v := ?_) (by rfl) rfl ?_ ?_
        rotate_left 2
        · go_simp
          constructor
          · rfl
          · rfl
        have K46 := Lib.hid (K4.out.alloc (.cells #[.int .i64 ka] 3))
        refine hK.out _ _ ⟨(K46.out.bel.cell (show b0 + 2 < b0 + 6 by omega)).trans q2, (K46.out.bel.cell (show b0 + 3 < b0 + 6 by omega)).trans q3⟩ (fun hHeld => ?_)
        clear hK K
        refine norm_ (a' := ?_) ?_ ?_
        rotate_left
        · show Act.put _ (some 22) _ = _
          simp only [Act.put, List.setIfInBounds_toArray, List.set_cons_zero, List.set_cons_succ]
          rfl
        exact norm_ (by simp only [putAll, Act.put, List.setIfInBounds_toArray, List.set_cons_zero, List.set_cons_succ]) (hCont ⟨W0.heap.size, w4.heap.size, v4⟩ _ ⟨Lib.hid K46.out, Lib.hid (heap_alloc_new w4 (.cells #[.int .i64 ka] 3))⟩)
      · skip
        refine value_ (w1 := ?_) (v := ?_) (by rfl) rfl ?_ ?_
        rotate_left 2
        · go_simp
          constructor
          · rfl
          · rfl
        have K26 := Lib.hid (K2.out.alloc (.cells #[.int .i64 ka] 3))
        refine hK.out _ _ ⟨(K26.out.bel.cell (show b0 + 2 < b0 + 6 by omega)).trans q2, (K26.out.bel.cell (show b0 + 3 < b0 + 6 by omega)).trans q3⟩ (fun hHeld => ?_)
        clear hK K
        refine norm_ (a' := ?_) ?_ ?_
        rotate_left
        · show Act.put _ (some 22) _ = _
          simp only [Act.put, List.setIfInBounds_toArray, List.set_cons_zero, List.set_cons_succ]
          rfl
        refine one_ (i := 3) (N := some 19) #[true, true, true, true, true, true, true, false, false, false] rfl rfl (by kernel_rfl) (by decide) (fun K hK => ?_)
        have HL : Hid (((W0.alloc (.cells #[.int .i64 pa] 3)).alloc (.cells #[.int .i64 ka] 3)).heap[W0.heap.size]? = some (.cells #[.int .i64 pa] 3 (0, 0))) := Lib.hid (blk_below (heap_alloc_new W0 (.cells #[.int .i64 pa] 3)) (below_alloc (Below.refl _ _) (.cells #[.int .i64 ka] 3)))
        refine Kd.R_append_rows_step (Kd.int .i64) (w0 := w2) (b0 + 6) (by rfl) (.tmp 16) (.tmp 18) 30 3 (.int .i64 0) 8 rfl Tryd.underlying30 infoInt rfl (by decide) (by omega) (.slice A1 n1 c1) (s.map (·.1)) [pa] (some ⟨W0.heap.size, 0, none⟩) 1 1 (fun k => True ∧ some k ≠ (Value.slice A2 n2 c2).ownBlock) (fun _ => False) rfl rfl K26.out.r1 (lit1_C HL.out) (fun _ _ h => h) (fun _ h => h.elim) (fun k hk => ⟨trivial, fun e => by have := Kd.R_lt K26.out.r2 k e.symm; omega⟩) K26.out.bel K26.out.sz HN1.out ?_
        intro v4 w4 ho hb hg hat
        have K4 := Lib.hid (K26.out.one ho hb hg hat)
        have L4 := Lib.hid (K26.out.lit (p := W0.heap.size + 1) (by have e := heap_alloc_new (W0.alloc (.cells #[.int .i64 pa] 3)) (.cells #[.int .i64 ka] 3); rwa [World.size_alloc] at e) (fun k hk e => by have := Kd.R_lt K2.out.r1 k hk; rw [World.size_alloc] at this; omega) hg)
        clear ho hb hg hat
        refine hK.out _ _ ⟨(K4.out.bel.cell (show b0 + 2 < b0 + 6 by omega)).trans q2, (K4.out.bel.cell (show b0 + 3 < b0 + 6 by omega)).trans q3⟩ (fun hHeld => ?_)
        clear hK K
        refine norm_ (a' := ?_) ?_ ?_
        rotate_left
        · show Act.put _ (some 19) _ = _
          simp only [Act.put, List.setIfInBounds_toArray, List.set_cons_zero, List.set_cons_succ]
          rfl
        exact norm_ (by simp only [putAll, Act.put, List.setIfInBounds_toArray, List.set_cons_zero, List.set_cons_succ]) (hCont ⟨W0.heap.size, W0.heap.size + 1, v4⟩ _ ⟨K4, L4⟩)
    · skip
      refine value_ (w1 := ?_) (v := ?_) (by rfl) rfl ?_ ?_
      rotate_left 2
      · go_simp
        constructor
        · rfl
        · rfl
      have K6 := Lib.hid (K0.out.alloc (.cells #[.int .i64 ka] 3))
      refine hK.out _ _ ⟨(K6.out.bel.cell (show b0 + 2 < b0 + 6 by omega)).trans q2, (K6.out.bel.cell (show b0 + 3 < b0 + 6 by omega)).trans q3⟩ (fun hHeld => ?_)
      clear hK K
      refine norm_ (a' := ?_) ?_ ?_
      rotate_left
      · show Act.put _ (some 22) _ = _
        simp only [Act.put, List.setIfInBounds_toArray, List.set_cons_zero, List.set_cons_succ]
        rfl
      refine one_ (i := 2) (N := some 18) #[true, true, true, false, true, true, true, false, false, false] rfl rfl (by kernel_rfl) (by decide) (fun K hK => ?_)
      refine value_ (w1 := ?_) (v := ?_) (by rfl) rfl ?_ ?_
      rotate_left 2
      · go_simp
        constructor
        · rfl
        · rfl
      have K62 := Lib.hid (K6.out.alloc (.cells #[.int .i64 pa] 3))
      refine hK.out _ _ ⟨(K62.out.bel.cell (show b0 + 2 < b0 + 6 by omega)).trans q2, (K62.out.bel.cell (show b0 + 3 < b0 + 6 by omega)).trans q3⟩ (fun hHeld => ?_)
      clear hK K
      refine norm_ (a' := ?_) ?_ ?_
      rotate_left
      · show Act.put _ (some 18) _ = _
        simp only [Act.put, List.setIfInBounds_toArray, List.set_cons_zero, List.set_cons_succ]
        rfl
      refine one_ (i := 3) (N := some 19) #[true, true, true, true, true, true, true, false, false, false] rfl rfl (by kernel_rfl) (by decide) (fun K hK => ?_)
      have HL : Hid (((W0.alloc (.cells #[.int .i64 ka] 3)).alloc (.cells #[.int .i64 pa] 3)).heap[W0.heap.size + 1]? = some (.cells #[.int .i64 pa] 3 (0, 0))) := Lib.hid (by have e := heap_alloc_new (W0.alloc (.cells #[.int .i64 ka] 3)) (.cells #[.int .i64 pa] 3); rwa [World.size_alloc] at e)
      refine Kd.R_append_rows_step (Kd.int .i64) (w0 := w2) (b0 + 6) (by rfl) (.tmp 16) (.tmp 18) 30 3 (.int .i64 0) 8 rfl Tryd.underlying30 infoInt rfl (by decide) (by omega) (.slice A1 n1 c1) (s.map (·.1)) [pa] (some ⟨W0.heap.size + 1, 0, none⟩) 1 1 (fun k => True ∧ some k ≠ (Value.slice A2 n2 c2).ownBlock) (fun _ => False) rfl rfl K62.out.r1 (lit1_C HL.out) (fun _ _ h => h) (fun _ h => h.elim) (fun k hk => ⟨trivial, fun e => by have := Kd.R_lt K62.out.r2 k e.symm; omega⟩) K62.out.bel K62.out.sz HN1.out ?_
      intro v4 w4 ho hb hg hat
      have K4 := Lib.hid (K62.out.one ho hb hg hat)
      have L4 := Lib.hid (K62.out.lit (blk_below (heap_alloc_new W0 (.cells #[.int .i64 ka] 3)) (below_alloc (Below.refl _ _) (.cells #[.int .i64 pa] 3))) (fun k hk e => by have := Kd.R_lt K0.out.r1 k hk; omega) hg)
      clear ho hb hg hat
      refine hK.out _ _ ⟨(K4.out.bel.cell (show b0 + 2 < b0 + 6 by omega)).trans q2, (K4.out.bel.cell (show b0 + 3 < b0 + 6 by omega)).trans q3⟩ (fun hHeld => ?_)
      clear hK K
      refine norm_ (a' := ?_) ?_ ?_
      rotate_left
      · show Act.put _ (some 19) _ = _
        simp only [Act.put, List.setIfInBounds_toArray, List.set_cons_zero, List.set_cons_succ]
        rfl
      exact norm_ (by simp only [putAll, Act.put, List.setIfInBounds_toArray, List.set_cons_zero, List.set_cons_succ]) (hCont ⟨W0.heap.size + 1, W0.heap.size, v4⟩ _ ⟨K4, L4⟩)
  rintro ⟨ba, bb, v4⟩ w4 ⟨K4, L4⟩
  have hHeld : w4.cell? ⟨b0 + 2, 0, none⟩ = some (.slice A1 n1 c1) ∧ w4.cell? ⟨b0 + 3, 0, none⟩ = some (.slice A2 n2 c2) := ⟨(K4.out.bel.cell (show b0 + 2 < b0 + 6 by omega)).trans q2, (K4.out.bel.cell (show b0 + 3 < b0 + 6 by omega)).trans q3⟩
  refine norm_ (a' := ?_) ?_ ?_
  rotate_left
  · simp only [putAll, Act.put, List.setIfInBounds_toArray, List.set_cons_zero, List.set_cons_succ]
    rfl
  refine last_ (i := 7) (N := some 23) #[true, true, true, true, true, true, true, true, false, false] rfl rfl (by kernel_rfl) (by decide) (fun K hK => ?_)
  refine Kd.R_append_rows_step (Kd.int .i64) (w0 := w2) (b0 + 6) (by rfl) (.tmp 20) (.tmp 22) 30 3 (.int .i64 0) 8 rfl Tryd.underlying30 infoInt rfl (by decide) (by omega) (.slice A2 n2 c2) (s.map (·.2)) [ka] (some ⟨bb, 0, none⟩) 1 1 (fun k => True ∧ some k ≠ v4.ownBlock) (fun _ => False) rfl rfl K4.out.r2 (lit1_C L4.out) (fun _ _ h => h) (fun _ h => h.elim) (fun k hk => ⟨trivial, fun e => by have := Kd.R_lt K4.out.r1 k e.symm; omega⟩) K4.out.bel K4.out.sz HN2.out ?_
  intro v5 w5 ho hb hg hat
  have K5 := Lib.hid (K4.out.two ho hb hg hat)
  clear ho hb hg hat
  obtain ⟨A4, c4, e4⟩ := Kd.R_slice K5.out.r1
  obtain ⟨A5, c5, e5⟩ := Kd.R_slice K5.out.r2
  obtain ⟨n4, hn4⟩ : ∃ n, (s.map (·.1) ++ [pa]).length = n := ⟨_, rfl⟩
  obtain ⟨n5, hn5⟩ : ∃ n, (s.map (·.2) ++ [ka]).length = n := ⟨_, rfl⟩
  rw [hn4] at e4
  rw [hn5] at e5
  subst e4 e5
  clear hn4 hn5
  have f2 : w5.frozen? ⟨b0 + 2, 0, none⟩ = false := by have e := (K5.out.bel.block (b0 + 2) (by omega)).trans H2.out.bp; simp [World.frozen?, e]
  have f3 : w5.frozen? ⟨b0 + 3, 0, none⟩ = false := by have e := (K5.out.bel.block (b0 + 3) (by omega)).trans H2.out.bs; simp [World.frozen?, e]
  have g2 : w5.cell? ⟨b0 + 2, 0, none⟩ = some (.slice A1 n1 c1) := (K5.out.bel.cell (show b0 + 2 < b0 + 6 by omega)).trans q2
  have g3 : w5.cell? ⟨b0 + 3, 0, none⟩ = some (.slice A2 n2 c2) := (K5.out.bel.cell (show b0 + 3 < b0 + 6 by omega)).trans q3
  refine hK.out _ _ ?_
  clear hK K
  refine norm_ (a' := ?_) ?_ ?_
  rotate_left
  · show Act.put _ (some 23) _ = _
    simp only [Act.put, List.setIfInBounds_toArray, List.set_cons_zero, List.set_cons_succ]
    rfl
  refine last_ (i := 8) (N := none) #[true, true, true, true, true, true, true, true, true, false] rfl rfl (by kernel_rfl) (by decide) (fun K hK => ?_)
  refine skip_ (w1 := ?_) (by rfl) rfl ?_ ?_
  rotate_left
  · go_simp
    rfl
  refine hK.out _ _ ?_
  clear hK K
  refine last_ (i := 9) (N := none) #[true, true, true, true, true, true, true, true, true, true] rfl rfl (by kernel_rfl) (by decide) (fun K hK => ?_)
  refine skip_ (w1 := ?_) (by rfl) rfl ?_ ?_
  rotate_left
  · go_simp
    rfl
  refine hK.out _ _ ?_
  clear hK K
  refine done_ (by kernel_rfl) ?_
  obtain ⟨w6, hw6⟩ : ∃ w6, (w5.setCell ⟨b0 + 2, 0, none⟩ (.slice A4 n4 c4)).setCell ⟨b0 + 3, 0, none⟩ (.slice A5 n5 c5) = w6 := ⟨_, rfl⟩
  have h6 : KinAt w0 w6 b0 #[.slice AT g.terms.length cT, .slice AN g.nonterms.length cN, .int .i64 g.ax, .slice AR g.rules.length cR] (.slice tA t.length tc) (kinF b0) (i + 1) (s ++ [(pa, ka)]) (.slice A4 n4 c4) (.slice A5 n5 c5) := by
    rw [← hw6]
    exact H2.out.grow K5.out.bel (by rw [List.map_append]; exact K5.out.r1) (by rw [List.map_append]; exact K5.out.r2)
  rw [hw6]
  clear hw6 f2 f3 g2 g3 K5 K4 L4 K0 q2 q3 H2 HN1 HN2 hHeld HH
  have hB6 : Below w0.heap.size w0 w6 := by rw [← hb0.out]; exact h6.bel
  have HRu := Lib.hid (Kd.C_below HI.out.rules hB6)
  have HTr := Lib.hid (Kd.C_below HI.out.tree hB6)
  have hj2 : (t.getD i (0, 0, 0)).1 = (j : Int) := by
    have e := (List.getElem?_eq_some_iff.1 hj).2
    rw [List.getElem_map] at e
    rw [List.getD_eq_getElem?_getD, List.getElem?_eq_getElem hlt]
    exact e
  obtain ⟨ta, x0, y0, z0, rfl, k0, -, -, HX⟩ := at_step HTr.out i hlt
  rw [HX.out] at hj2
  simp only at hj2
  subst hj2
  obtain ⟨adr, x, B, c, r, rfl, -, k20, hrc, hr, HD⟩ := at_rule HRu.out j hjG
  have hrule : (ruleD g.rules (j : Int)).2 = r := by unfold ruleD; rw [Int.toNat_natCast, HD.out]
  have hgl : w6.cell? ⟨b0, 3, none⟩ = some (.slice (some adr) g.rules.length cR) := (gr_blk h6.bg).2.2.2
  have t1 := h6.cells.1
  have HL : Hid (KLoop w0 w6 b0 #[.slice AT g.terms.length cT, .slice AN g.nonterms.length cN, .int .i64 g.ax, .slice (some adr) g.rules.length cR] (.slice (some ta) t.length tc) (kinF b0) (t.map (·.1)) g.rules f deep i r st' 0 (i + 1, s ++ [(pa, ka)]) (.slice A4 n4 c4) (.slice A5 n5 c5)) := Lib.hid
    ⟨h6, by have := HSl.out; simp; omega, HKO.out, Nat.le_refl _, by rw [List.length_map]; exact hlt, by rw [List.drop_zero, ← hrule]; exact HSy.out⟩
  have hl32 : r.length ≤ 32 := HI.out.short (x, r) (by rw [← HD.out]; exact getD_mem _ _ _ hjG)
  have HRr : Hid (∀ W, Below b0 w0 W → (Kd.int .i64).C W B r.length r) := Lib.hid (fun W hW => by
    obtain ⟨adr2, x2, B2, c2, r2, e1, -, k2, hrc2, hr2, HD2⟩ := at_rule (Kd.C_below HI.out.rules (by rw [← hb0.out]; exact hW)) j hjG
    obtain rfl := Option.some.inj e1
    have e3 := HD.out.symm.trans HD2.out
    simp only [Prod.mk.injEq] at e3
    obtain ⟨-, rfl⟩ := e3
    obtain ⟨adr3, x3, B3, c3, r3, e3, -, k3, -, -, -⟩ := at_rule HI.out.rules j hjG
    obtain rfl := Option.some.inj e3
    have hlt3 := World.block_lt_of_cell? _ _ k3
    have u6 := (hB6.cell hlt3).trans k3
    have uW := ((show Below w0.heap.size w0 W by rw [← hb0.out]; exact hW).cell hlt3).trans k3
    rw [k20] at u6
    rw [k2] at uW
    injection u6 with u6
    injection u6 with u6 u7 u8
    injection uW with uW
    injection uW with uW u9 u10
    rw [u6, ← uW]
    exact hr2)
  clear h6 hj HKO HSl HSy hrule hB6 HTr HRu HD HX hr
  go_wp2
  go_quiet (fail)
  rename Nat => q7
  obtain ⟨w7, hw7⟩ : ∃ w7, w6.drewN q7 = w7 := ⟨_, rfl⟩
  have HL7 : Hid (KLoop w0 w7 b0 #[.slice AT g.terms.length cT, .slice AN g.nonterms.length cN, .int .i64 g.ax, .slice (some adr) g.rules.length cR] (.slice (some ta) t.length tc) (kinF b0) (t.map (·.1)) g.rules f deep i r st' 0 (i + 1, s ++ [(pa, ka)]) (.slice A4 n4 c4) (.slice A5 n5 c5)) := Lib.hid (by
    rw [← hw7]
    exact ⟨HL.out.at_.below (pw_below_drewN (Below.refl _ _) _), HL.out.tl, HL.out.ok, HL.out.lo, HL.out.hi, HL.out.eq⟩)
  rw [hw7]
  clear hw7 HL hgl t1 k0 k20
  go_wp2
  go_loopw [35] (fun k wr => ∃ (kk : Nat) (s2 : Nat × List (Int × Int)) (vp2 vs2 : Value), kk ≤ r.length ∧ k = .int .i64 (kk : Int) ∧ Hid (KLoop w0 wr b0 #[.slice AT g.terms.length cT, .slice AN g.nonterms.length cN, .int .i64 g.ax, .slice (some adr) g.rules.length cR] (.slice (some ta) t.length tc) (kinF b0) (t.map (·.1)) g.rules f deep i r st' kk s2 vp2 vs2)) (fun k _ => r.length - (intOf k).toNat)
  case atStart => exact ⟨0, _, _, _, by omega, rfl, HL7⟩
  case round =>
    obtain ⟨kk, s2, vp2, vs2, hkk, rfl, HN2⟩ := hrel
    obtain ⟨w8, rfl⟩ : ∃ w8, wr = w8 := ⟨_, rfl⟩
    clear HL7
    by_cases hlk : kk < r.length
    · obtain ⟨adx, y, rfl, hy, HY⟩ := at_scalar (HRr.out _ HN2.out.at_.bel) kk hlk 0
      have hdrop : r.drop kk = y :: r.drop (kk + 1) := by
        rw [List.drop_eq_getElem_cons hlk]
        have := HY.out
        rw [List.getD_eq_getElem?_getD, List.getElem?_eq_getElem hlk] at this
        rw [← this]
        rfl
      have HDr := Lib.hid hdrop
      clear hdrop
      by_cases hneg : y < 0
      · obtain ⟨s3, hs3, hnext⟩ := HN2.out.node HDr.out hneg
        have HNx := Lib.hid hnext
        have HC : Hid (Calls Tryd.prog 77 #[.int .i64 (i : Int), .int .i64 (kk : Int), .pointer (some ⟨b0 + 4, 0, none⟩), .pointer (some ⟨b0 + 2, 0, none⟩), .pointer (some ⟨b0 + 3, 0, none⟩), .pointer (some ⟨b0, 0, none⟩), .pointer (some ⟨b0 + 1, 0, none⟩), .pointer (some ⟨b0 + 5, 0, none⟩)] wr
            (KinP w0 b0 #[.slice AT g.terms.length cT, .slice AN g.nonterms.length cN, .int .i64 g.ax, .slice (some adr) g.rules.length cR] (.slice (some ta) t.length tc) (kinF b0) s3)) := Lib.hid (IH.out false (-1 - y) (some (i, kk)) (deep + 1) s2.1 s2.2 vp2 vs2 wr s3 hs3 HN2.out.tl HN2.out.ok HN2.out.lo HN2.out.at_)
        have c5f := HN2.out.at_.cells.2.2.2.2
        unfold kinF at c5f
        clear hnext hs3
        go_wp2_with (go_at_call 77; (with_reducible refine HC.out.mono ?_); rintro e w9 ⟨rfl, vp3, vs3, h9⟩; have H9 := Lib.hid h9; clear h9)
        go_roundw
        case rel => exact ⟨kk + 1, s3, vp3, vs3, by omega, by go_num, Lib.hid (HNx.out _ _ _ H9.out)⟩
        case measure => simp [intOf]; omega
      · have HT := Lib.hid (HN2.out.tok HDr.out hneg)
        go_wp2
        go_roundw
        case rel => exact ⟨kk + 1, s2, vp2, vs2, by omega, by go_num, HT⟩
        case measure => simp [intOf]; omega
    · have HF := Lib.hid (HN2.out.fin (by omega))
      go_wp2
      go_end0
      exact ⟨rfl, vp2, vs2, by rw [← HF.out]; exact HN2.out.at_⟩
/-- kin's function, on any steps that are a tree. -/
theorem kin1_calls (w0 : World) (b0 : Nat) (g : Gr) (AT AN AR tA : Option Addr) (cT cN cR tc : Nat) (t : List (Int × Int × Int)) (hI : KinIn w0 g AR t tA) (hb0 : Hid (b0 = w0.heap.size)) : ∀ (f : Nat) (any : Bool) (nt : Int) (up : Option (Nat × Nat)) (deep i : Nat) (s : List (Int × Int)) (vp vs : Value) (w : World) (st' : Nat × List (Int × Int)), nodeG opsK g.rules (t.map (·.1)) f any nt up deep (i, s) = some st' → s.length = i → KinOk s → upLt up i →
      KinAt w0 w b0 #[.slice AT g.terms.length cT, .slice AN g.nonterms.length cN, .int .i64 g.ax, .slice AR g.rules.length cR] (.slice tA t.length tc) (kinF b0) i s vp vs →
      Calls Tryd.prog 77 #[.int .i64 (upI up).1, .int .i64 (upI up).2, .pointer (some ⟨b0 + 4, 0, none⟩), .pointer (some ⟨b0 + 2, 0, none⟩), .pointer (some ⟨b0 + 3, 0, none⟩), .pointer (some ⟨b0, 0, none⟩), .pointer (some ⟨b0 + 1, 0, none⟩), .pointer (some ⟨b0 + 5, 0, none⟩)] w
        (KinP w0 b0 #[.slice AT g.terms.length cT, .slice AN g.nonterms.length cN, .int .i64 g.ax, .slice AR g.rules.length cR] (.slice tA t.length tc) (kinF b0) st')
  | 0, any, nt, up, deep, i, s, vp, vs, w, st', hn, _, _, _, _ => by rw [nodeG] at hn; cases hn
  | f + 1, any, nt, up, deep, i, s, vp, vs, w, st', hn, hsl, hok, hup, h =>
    kin1_step w0 b0 g AT AN AR tA cT cN cR tc t hI hb0 f (fun any nt up deep i s vp vs w st' => kin1_calls w0 b0 g AT AN AR tA cT cN cR tc t hI hb0 f any nt up deep i s vp vs w st') any nt up deep i s vp vs w st' hn hsl hok hup h
end Go.Proofs.YtapgglmdnggopaaDoor.Hand
/- Literals in memory: rows of numbers, of texts, of rules, of steps, block by block. -/
namespace Go.Proofs.YtapgglmdnggopaaDoor.Hand
open Go.RowKit Go.Proofs.YtapgglmdnggopaaDoorW.PrintWords Go.Proofs.YtapgglmdnggopaaDoorW.PrintMore Go.Proofs.YtapgglmdnggopaaDoor.Math

theorem allocs_heap : ∀ (os : List Obj) (w : World), (os.foldl World.alloc w).heap = w.heap ++ os.toArray
  | [], w => by simp
  | o :: os, w => by
    rw [List.foldl_cons, allocs_heap os (w.alloc o)]
    show (w.heap.push o) ++ os.toArray = _
    simp
theorem allocs_get (w : World) (os : List Obj) (k : Nat) {o : Obj} (h : os[k]? = some o) : (os.foldl World.alloc w).heap[w.heap.size + k]? = some o := by
  rw [allocs_heap, Array.getElem?_append_right (by omega)]
  simpa using h
theorem allocs_below (w : World) : ∀ (os : List Obj), Below w.heap.size w (os.foldl World.alloc w) := by
  intro os
  have key : ∀ (os : List Obj) (w1 : World), Below w.heap.size w w1 → Below w.heap.size w (os.foldl World.alloc w1) := by
    intro os
    induction os with
    | nil => intro w1 h; exact h
    | cons o os ih => intro w1 h; exact ih _ (below_alloc h o)
  exact key os w (Below.refl _ _)
theorem add_blk (b j : Nat) : (⟨b, 0, none⟩ : Addr).add j = ⟨b, j, none⟩ := by
  unfold Addr.add
  by_cases h : j = 0 <;> simp [h]
theorem blk_C {α : Type} {enc : α → Value} (h1 : ∀ x, (enc x).oneCell' = true) {xs : List α} {W : World} {b : Nat} {T : TypeId} (hk : W.heap[b]? = some (.cells (xs.map enc).toArray T (0, 0))) (hx : xs.length ≤ 9223372036854775807) : (Kd.scalar enc h1).C W (some ⟨b, 0, none⟩) xs.length xs := by
  refine ⟨rfl, hx, fun _ => ⟨⟨b, 0, none⟩, rfl, fun j p hj => ⟨[enc p], rfl, rfl, fun i u hu => ?_⟩⟩⟩
  have h0 : i = 0 := by
    have := (List.getElem?_eq_some_iff.1 hu).1
    simp at this
    exact this
  subst h0
  simp at hu
  subst hu
  show W.cell? ((⟨b, 0, none⟩ : Addr).add (j * 1 + 0)) = _
  rw [Nat.mul_one, Nat.add_zero, add_blk]
  exact blk_cell hk j (by simp [hj]) (h1 p)
theorem blk_rules {w : World} {b : Nat} {l : List (Int × List Int)} (hm : l.length ≤ 1000) (h : ∀ j r, l[j]? = some r → w.cell? ⟨b, j * 2, none⟩ = some (.int .i64 r.1) ∧ ∃ A, w.cell? ⟨b, j * 2 + 1, none⟩ = some (.slice A r.2.length r.2.length) ∧ Kd.C (Kd.int .i64) w A r.2.length r.2) : KRule.C w (some ⟨b, 0, none⟩) l.length l := by
  refine ⟨rfl, by omega, fun _ => ⟨_, rfl, fun j r hj => ?_⟩⟩
  obtain ⟨h1, A, h2, h3⟩ := h j r hj
  refine ⟨[.int .i64 r.1, .slice A r.2.length r.2.length], rfl, ⟨[.int .i64 r.1], [.slice A r.2.length r.2.length], rfl, rfl, A, r.2.length, rfl, Nat.le_refl _, h3⟩, fun i u hu => ?_⟩
  rw [show KRule.sz = 2 from rfl, add_blk]
  match i, hu with
  | 0, hu => simp at hu; subst hu; exact h1
  | 1, hu => simp at hu; subst hu; exact h2
  | i + 2, hu => simp at hu
theorem blk_steps {w : World} {b : Nat} {l : List (Int × Int × Int)} (hm : l.length ≤ 1000) (h : ∀ j r, l[j]? = some r → w.cell? ⟨b, j * 3, none⟩ = some (.int .i64 r.1) ∧ w.cell? ⟨b, j * 3 + 1, none⟩ = some (.int .i64 r.2.1) ∧ w.cell? ⟨b, j * 3 + 2, none⟩ = some (.int .i64 r.2.2)) : KStep.C w (some ⟨b, 0, none⟩) l.length l := by
  refine ⟨rfl, by omega, fun _ => ⟨_, rfl, fun j r hj => ?_⟩⟩
  obtain ⟨h1, h2, h3⟩ := h j r hj
  refine ⟨[.int .i64 r.1, .int .i64 r.2.1, .int .i64 r.2.2], rfl, ⟨[.int .i64 r.1], [.int .i64 r.2.1, .int .i64 r.2.2], rfl, rfl, [.int .i64 r.2.1], [.int .i64 r.2.2], rfl, rfl, rfl⟩, fun i u hu => ?_⟩
  rw [show KStep.sz = 3 from rfl, add_blk]
  match i, hu with
  | 0, hu => simp at hu; subst hu; exact h1
  | 1, hu => simp at hu; subst hu; exact h2
  | 2, hu => simp at hu; subst hu; exact h3
  | i + 3, hu => simp at hu
end Go.Proofs.YtapgglmdnggopaaDoor.Hand
/- Contract: fold.kin. -/
namespace Go.Proofs.YtapgglmdnggopaaDoor.Hand
open Go.RowKit Go.Proofs.YtapgglmdnggopaaDoorW.PrintWords Go.Proofs.YtapgglmdnggopaaDoorW.PrintMore Go.Proofs.YtapgglmdnggopaaDoor.Math

/-- What kin answers. -/
def KinR (w : World) (s : List (Int × Int)) (e : Ending) (w' : World) : Prop :=
  ∃ vp vs, e = .returned (.tuple #[vp, vs]) ∧ (Kd.int .i64).R 3 w' w.heap.size (fun k => True ∧ some k ≠ vs.ownBlock) vp (s.map (·.1)) ∧ (Kd.int .i64).R 3 w' w.heap.size (fun k => True ∧ some k ≠ vp.ownBlock) vs (s.map (·.2)) ∧ Below w.heap.size w w'
theorem setCell_same {w : World} {g t : Nat} {v : Value} (h : w.heap[g]? = some (.cells #[v] t (0, 0))) : (w.setCell ⟨g, 0, none⟩ v).heap = w.heap := by
  apply Array.ext_getElem?
  intro k
  by_cases hk : k = g
  · subst hk
    rw [blk_put h, h]
    rfl
  · exact Below.heap_setCell w ⟨g, 0, none⟩ v k hk
set_option maxHeartbeats 1000000 in
theorem kin_calls (g : Gr) (gv : Value) (t : List (Int × Int × Int)) (tA : Option Addr) (tc : Nat) (w : World) (hv : GramAt w gv g) (ht : KStep.C w tA t.length t) (hlen : t.length ≤ 200000) (hfew : g.rules.length ≤ 120) (hshort : ∀ r ∈ g.rules, r.2.length ≤ 32) (any : Bool) (nt : Int) (s : List (Int × Int)) (hs : walkG opsK g.rules (t.map (·.1)) any nt [] = some s) :
    Calls Tryd.prog 55 #[gv, .slice tA t.length tc] w (KinR w s) := by
  obtain ⟨AT, cT, AN, cN, AR, cR, rfl, -, -, -, -, -, q6⟩ := hv
  have hI : KinIn w g AR t tA := ⟨q6, ht, hlen, hfew, hshort⟩
  obtain ⟨n, hn⟩ : ∃ n, nodeG opsK g.rules (t.map (·.1)) t.length any nt none 1 (0, []) = some (n, s) := by
    unfold walkG at hs
    rw [List.length_map] at hs
    cases h : nodeG opsK g.rules (t.map (·.1)) t.length any nt none 1 (0, []) with
    | none => rw [h] at hs; cases hs
    | some a =>
      rw [h] at hs
      simp only at hs
      split at hs
      · cases hs
      · injection hs with hs
        subst hs
        exact ⟨a.1, rfl⟩
  obtain ⟨b0, hb0⟩ : ∃ b, w.heap.size = b := ⟨_, rfl⟩
  have HB0 := Lib.hid hb0
  have hk := fun (w6 : World) (h6 : KinAt w w6 b0 #[.slice AT g.terms.length cT, .slice AN g.nonterms.length cN, .int .i64 g.ax, .slice AR g.rules.length cR] (.slice tA t.length tc) (kinF b0) 0 [] (.slice none 0 0) (.slice none 0 0)) => kin1_calls w b0 g AT AN AR tA cT cN cR tc t hI (Lib.hid hb0.symm) t.length any nt none 1 0 [] _ _ w6 (n, s) hn rfl (fun j hj => absurd hj (by simp)) rfl h6
  have HKc := Lib.hid hk
  clear hk hI q6 ht hs hn
  go_enter Tryd.func55, Tryd.ntmps55
  go_upto_region 3 with (fail)
  obtain ⟨w5, hw5⟩ : ∃ w5, (((((w.alloc (.cells #[.slice AT g.terms.length cT, .slice AN g.nonterms.length cN, .int .i64 g.ax, .slice AR g.rules.length cR] 25)).alloc (.cells #[.slice tA t.length tc] 26)).alloc (.cells #[.slice none 0 0] 30)).alloc (.cells #[.slice none 0 0] 30)).alloc (.cells #[.int .i64 0] 3)).alloc (.cells #[.nilFunc] 140) = w5 := ⟨_, rfl⟩
  simp only [Nat.add_assoc, Nat.reduceAdd]
  rw [hw5]
  have hA : w5.heap[b0]? = some (.cells #[.slice AT g.terms.length cT, .slice AN g.nonterms.length cN, .int .i64 g.ax, .slice AR g.rules.length cR] 25 (0, 0)) ∧ w5.heap[b0 + 1]? = some (.cells #[.slice tA t.length tc] 26 (0, 0)) ∧ w5.heap[b0 + 2]? = some (.cells #[.slice none 0 0] 30 (0, 0)) ∧ w5.heap[b0 + 3]? = some (.cells #[.slice none 0 0] 30 (0, 0)) ∧ w5.heap[b0 + 4]? = some (.cells #[.int .i64 0] 3 (0, 0)) ∧ w5.heap[b0 + 5]? = some (.cells #[.nilFunc] 140 (0, 0)) ∧ w5.heap.size = b0 + 6 := by
    subst hb0
    rw [← hw5]
    have al := fun k o h => allocs_get w [(.cells #[.slice AT g.terms.length cT, .slice AN g.nonterms.length cN, .int .i64 g.ax, .slice AR g.rules.length cR] 25), (.cells #[.slice tA t.length tc] 26), (.cells #[.slice none 0 0] 30), (.cells #[.slice none 0 0] 30), (.cells #[.int .i64 0] 3), (.cells #[.nilFunc] 140)] k (o := o) h
    exact ⟨al 0 _ rfl, al 1 _ rfl, al 2 _ rfl, al 3 _ rfl, al 4 _ rfl, al 5 _ rfl, by simp only [World.size_alloc]⟩
  have hB5 : Below b0 w w5 := by
    rw [← hw5, ← hb0]
    exact allocs_below w [(.cells #[.slice AT g.terms.length cT, .slice AN g.nonterms.length cN, .int .i64 g.ax, .slice AR g.rules.length cR] 25), (.cells #[.slice tA t.length tc] 26), (.cells #[.slice none 0 0] 30), (.cells #[.slice none 0 0] 30), (.cells #[.int .i64 0] 3), (.cells #[.nilFunc] 140)]
  clear hw5
  obtain ⟨a0, a1, a2, a3, a4, a5, a6⟩ := hA
  have f5 : w5.frozen? ⟨b0 + 5, 0, none⟩ = false := by simp [World.frozen?, a5]
  have c5 : w5.cell? ⟨b0 + 5, 0, none⟩ = some .nilFunc := by simp [World.cell?, a5]
  have HK6 : Hid (KinAt w (w5.setCell ⟨b0 + 5, 0, none⟩ (kinF b0)) b0 #[.slice AT g.terms.length cT, .slice AN g.nonterms.length cN, .int .i64 g.ax, .slice AR g.rules.length cR] (.slice tA t.length tc) (kinF b0) 0 [] (.slice none 0 0) (.slice none 0 0)) := Lib.hid (by
    have hf : ∀ k, k ≠ b0 + 5 → (w5.setCell ⟨b0 + 5, 0, none⟩ (kinF b0)).heap[k]? = w5.heap[k]? := fun k hk => Below.heap_setCell w5 ⟨b0 + 5, 0, none⟩ _ k hk
    exact ⟨(hf _ (by omega)).trans a0, (hf _ (by omega)).trans a1, (hf _ (by omega)).trans a2, (hf _ (by omega)).trans a3, (hf _ (by omega)).trans a4, by rw [blk_put a5]; rfl, Kd.R_nil _ _ _ _ _, Kd.R_nil _ _ _ _ _, hB5.setCell (by show b0 ≤ b0 + 5; omega) _, by rw [World.size_setCell, a6]; omega⟩)
  clear a0 a1 a2 a3 a4 a5 a6 hB5
  obtain ⟨w6, hw6⟩ : ∃ w6, w5.setCell ⟨b0 + 5, 0, none⟩ (kinF b0) = w6 := ⟨_, rfl⟩
  rw [hw6] at HK6
  have HC := Lib.hid (HKc.out w6 HK6.out)
  simp only [upI] at HC
  have hst : (store ⟨b0 + 5, 0, none⟩ (kinF b0)).run Tryd.prog w5 = .ok () w6 := by
    rw [← hw6]
    unfold kinF
    rw [run_store _ _ _ _ _ rfl]
    simp [c5, f5]
  unfold kinF at hst
  clear hw6
  go_upto_region 4 with (fail)
  have c7 := HK6.out.cells.2.2.2.2
  unfold kinF at c7
  clear hst f5 c5
  go_wp2_with (go_at_call 77; (with_reducible refine HC.out.mono ?_); rintro e w7 ⟨rfl, vp, vs, h7⟩; have H7 := Lib.hid h7; clear h7)
  obtain ⟨-, k2, k3, -, -⟩ := H7.out.cells
  obtain ⟨z2, z3, -⟩ := H7.out.frz
  obtain ⟨A1, c1, e1⟩ := Kd.R_slice H7.out.rp
  obtain ⟨A2, c2, e2⟩ := Kd.R_slice H7.out.rs
  obtain ⟨n1, hn1⟩ : ∃ m, (List.map (fun x : Int × Int => x.1) (n, s).2).length = m := ⟨_, rfl⟩
  obtain ⟨n2, hn2⟩ : ∃ m, (List.map (fun x : Int × Int => x.2) (n, s).2).length = m := ⟨_, rfl⟩
  rw [hn1] at e1
  rw [hn2] at e2
  subst e1 e2
  clear hn1 hn2
  go_region
  obtain ⟨w8, hw8⟩ : ∃ w8, ((w7.setCell ⟨b0 + 2, 0, none⟩ (.slice A1 n1 c1)).setCell ⟨b0 + 3, 0, none⟩ (.slice A2 n2 c2)).drew = w8 := ⟨_, rfl⟩
  have hh : w8.heap = w7.heap := by
    rw [← hw8]
    show ((w7.setCell ⟨b0 + 2, 0, none⟩ (.slice A1 n1 c1)).setCell ⟨b0 + 3, 0, none⟩ (.slice A2 n2 c2)).heap = _
    rw [setCell_same (t := 30) (by rw [setCell_same H7.out.bp]; exact H7.out.bs), setCell_same H7.out.bp]
  have hb8 : Below b0 w w8 := by
    rw [← hw8]
    exact ((H7.out.bel.setCell (by show b0 ≤ b0 + 2; omega) _).setCell (by show b0 ≤ b0 + 3; omega) _).drew
  rw [hw8]
  have j2 : w8.cell? ⟨b0 + 2, 0, none⟩ = some (.slice A1 n1 c1) := by simp [World.cell?, hh, H7.out.bp]
  have j3 : w8.cell? ⟨b0 + 3, 0, none⟩ = some (.slice A2 n2 c2) := by simp [World.cell?, hh, H7.out.bs]
  have HF : Hid (KinR w s (.returned (.tuple #[.slice A1 n1 c1, .slice A2 n2 c2])) w8) := Lib.hid ⟨_, _, rfl,
    Kd.R_step (Kd.R_lower H7.out.rp (by rw [hb0]; omega)) (fun k _ _ => by rw [hh]), Kd.R_step (Kd.R_lower H7.out.rs (by rw [hb0]; omega)) (fun k _ _ => by rw [hh]), by rw [hb0]; exact hb8⟩
  clear hw8 hh hb8 k2 k3 z2 z3
  go_wp2
  (try simp only [Exit.inBlock, Exit.then])
  refine bodyPost_ret (v := .tuple #[.slice A1 n1 c1, .slice A2 n2 c2]) (by simp [results, Tryd.results55, go_sem, j2, j3]) rfl HF.out
end Go.Proofs.YtapgglmdnggopaaDoor.Hand
/- Contract: fold.Parents. -/
namespace Go.Proofs.YtapgglmdnggopaaDoor.Hand
open Go.RowKit Go.Proofs.YtapgglmdnggopaaDoorW.PrintWords Go.Proofs.YtapgglmdnggopaaDoorW.PrintMore Go.Proofs.YtapgglmdnggopaaDoor.Math

theorem knownE_yes {g : Gr} {t : List (Int × Int × Int)} (h : knownE g t = (0, -1)) : MayIs g t.length ∧ t ≠ [] ∧ ∃ d, treeD g t = some d ∧ d.tree = t := by
  unfold knownE at h
  split at h
  · rename_i h0; rw [h] at h0; exact absurd rfl h0
  · rename_i h0
    split at h
    · cases h
    · rename_i h1
      refine ⟨dmayN_zero (by omega), fun e => h1 (.inl e), ?_⟩
      cases h2 : treeD g t with
      | none => rw [h2] at h; cases h
      | some d =>
        rw [h2] at h
        simp only at h
        by_cases h3 : d.tree = t
        · exact ⟨d, rfl, h3⟩
        · rw [if_neg h3] at h; cases h
theorem knownE_zero {g : Gr} {t : List (Int × Int × Int)} (h : (knownE g t).1 = 0) : knownE g t = (0, -1) := by
  unfold knownE at h ⊢
  split at h
  · rename_i h0; exact absurd h h0
  · rename_i h0
    rw [if_neg h0]
    split at h
    · cases h
    · rename_i h1
      rw [if_neg h1]
      cases h2 : treeD g t with
      | none => rw [h2] at h; cases h
      | some d =>
        rw [h2] at h
        simp only at h ⊢
        by_cases h3 : d.tree = t
        · rw [if_pos h3]
        · rw [if_neg h3] at h; cases h
/-- Whose kid each step is, and which symbol; of what is no tree: nothing. -/
noncomputable def kinD (g : Gr) (t : List (Int × Int × Int)) : List (Int × Int) :=
  if (knownE g t).1 = 0 then (walkG opsK g.rules (t.map (·.1)) true 0 []).getD [] else []
theorem kinD_no {g : Gr} {t : List (Int × Int × Int)} (h : (knownE g t).1 ≠ 0) : kinD g t = [] := by unfold kinD; rw [if_neg h]
theorem kinD_yes {g : Gr} {t : List (Int × Int × Int)} (h : knownE g t = (0, -1)) : walkG opsK g.rules (t.map (·.1)) true 0 [] = some (kinD g t) ∧ (kinD g t).length = t.length ∧ KinOk (kinD g t) := by
  obtain ⟨-, -, d, hd, -⟩ := knownE_yes h
  obtain ⟨s, h1, h2, h3⟩ := kin_walk (show walkG (opsD inc64) g.rules (t.map (·.1)) true 0 _ = some d from hd)
  have e : kinD g t = s := by unfold kinD; rw [h, if_pos rfl, h1]; rfl
  rw [e]
  exact ⟨h1, by rw [h2, List.length_map], h3⟩
set_option maxHeartbeats 1000000 in
theorem parents_calls (gv : Value) (g : Gr) (tA : Option Addr) (tc : Nat) (t : List (Int × Int × Int)) (w : World) (A : Nat → Addr) (hE : Errs w A) (hv : GramAt w gv g) (ht : KStep.C w tA t.length t) (htc : t.length ≤ tc) :
    Calls Tryd.prog 12 #[gv, .slice tA t.length tc] w fun e w' => ∃ v u, e = .returned (.tuple #[v, u]) ∧ (Kd.int .i64).R 3 w' w.heap.size (fun _ => True) v ((kinD g t).map (·.1)) ∧ ErrV w' A u (knownE g t).1 (knownE g t).2 ∧ Below w.heap.size w w' := by
  have HV := Lib.hid hv
  obtain ⟨AT, cT, AN, cN, AR, cR, rfl, q1, q2, q3, q4, q5, q6⟩ := hv
  obtain ⟨w1, hw1⟩ : ∃ w1, w.alloc (.cells #[.slice AT g.terms.length cT, .slice AN g.nonterms.length cN, .int .i64 g.ax, .slice AR g.rules.length cR] 25) = w1 := ⟨_, rfl⟩
  have hb1 : Below w.heap.size w w1 := by rw [← hw1]; exact below_alloc (Below.refl _ _) _
  have hk1 : w1.heap[w.heap.size]? = some (.cells #[.slice AT g.terms.length cT, .slice AN g.nonterms.length cN, .int .i64 g.ax, .slice AR g.rules.length cR] 25 (0, 0)) := by rw [← hw1]; exact heap_alloc_new w _
  obtain ⟨c0, c1, c2, c3⟩ := gr_blk hk1
  have HB1 := Lib.hid hb1
  have HK1 := Lib.hid hk1
  have HC := Lib.hid (drules_calls _ g tA tc t w1 A (hE.below hb1) (HV.out.below hb1) (Kd.C_below ht hb1) htc)
  have HT := Lib.hid (Kd.C_below ht hb1)
  have HE := Lib.hid (hE.below hb1)
  clear hb1 hk1 q4 q5 q6 ht hE
  by_cases h0 : knownE g t = (0, -1)
  · have HM := Lib.hid (knownE_yes h0)
    have HY := Lib.hid (kinD_yes h0)
    have H0 := Lib.hid h0
    clear h0
    go_enter Tryd.func12, Tryd.ntmps12
    go_wp2_with (first
      | (go_at_call 55; refine (HKc.out).mono ?_; rintro e w3 ⟨vp, vs, rfl, h1, -, hb⟩; have HR := Lib.hid (Kd.R_mono h1 (fun _ _ => trivial)); have HB3 := Lib.hid hb; clear h1 hb)
      | (go_at_call 54; (refine HC.out.mono ?_; rintro e w2 ⟨v1, u, rfl, -, hu, hb2⟩; rw [H0.out] at hu; obtain ⟨-, rfl⟩ := hu.nil_iff.resolve_right (fun h => absurd h.1 (by decide)); have HB2 := Lib.hid hb2; obtain ⟨d0, d1, d2, d3⟩ := gr_blk (blk_below HK1.out hb2); have HKc := Lib.hid (kin_calls g _ t tA tc w2 (HV.out.below (below_next HB1.out hb2)) (Kd.C_below HT.out hb2) (by have := HM.out.1.len; omega) HM.out.1.right.rules (fun r hr => ruleN_len (HM.out.1.right.ruleN r hr)) true 0 _ HY.out.1); clear hb2)))
    go_ret2
    exact ⟨_, _, rfl, Kd.R_lower HR.out (below_next HB1.out HB2.out).size, by rw [H0.out]; exact .none, below_next HB1.out (below_next HB2.out HB3.out)⟩
  · have HN : Hid ((knownE g t).1 ≠ 0) := Lib.hid (fun h => h0 (knownE_zero h))
    clear h0
    go_enter Tryd.func12, Tryd.ntmps12
    go_wp2_with (go_at_call 54; refine HC.out.mono ?_; rintro e w2 ⟨v1, u, rfl, -, hu, hb2⟩; rcases hu.nil_iff with ⟨h, _⟩ | ⟨_, t1, x, rfl⟩; exact absurd h HN.out; have HU := Lib.hid hu; have HB2 := Lib.hid hb2; clear hu hb2)
    go_ret2
    exact ⟨_, _, rfl, by rw [kinD_no HN.out]; exact Kd.R_nil _ _ _ _ _, HU.out, below_next HB1.out HB2.out⟩
end Go.Proofs.YtapgglmdnggopaaDoor.Hand
/- The known grammar and tree of dovetaillaw28: what folding comes to. -/
namespace Go.Proofs.YtapgglmdnggopaaDoor.Hand
open Go.RowKit Go.Proofs.YtapgglmdnggopaaDoorW.PrintWords Go.Proofs.YtapgglmdnggopaaDoorW.PrintMore Go.Proofs.YtapgglmdnggopaaDoor.Math

def knG : Gr := ⟨[⟨#[43]⟩, ⟨#[105]⟩], [⟨#[69]⟩, ⟨#[84]⟩], 0, [(0, [-1, 0, -2]), (0, [-2]), (1, [1])]⟩
def knT : List (Int × Int × Int) := [(0, 0, 3), (1, 0, 1), (2, 0, 1), (2, 2, 3)]
theorem kn2 (x y : UInt8) (h : x ≠ y) : NamesOk [⟨#[x]⟩, ⟨#[y]⟩] := by
  intro i hi
  have : i = 0 ∨ i = 1 := by simp at hi; omega
  rcases this with rfl | rfl
  · exact ⟨by show (1 : Nat) ≠ 0; decide, by show (1 : Nat) ≤ 32; decide, by simp⟩
  · refine ⟨by show (1 : Nat) ≠ 0; decide, by show (1 : Nat) ≤ 32; decide, ?_⟩
    intro e
    have e : (⟨#[y]⟩ : ByteArray) = ⟨#[x]⟩ := by simpa using e
    injection e with e
    have := congrArg (fun a => a[0]?) e
    simp at this
    exact h this.symm
theorem kn_gram : checkN knG = (0, -1) := by
  unfold checkN
  have hn1 : NamesOk knG.terms := kn2 _ _ (by decide)
  have hn2 : NamesOk knG.nonterms := kn2 _ _ (by decide)
  rw [if_neg (by simp [knG]), if_neg (by simp [hn1, hn2]), if_neg (by simp [knG])]
  decide
theorem kn_may (n : Nat) (h : n ≤ 100) : dmayN knG n = (0, -1) := by
  unfold dmayN
  rw [kn_gram, if_neg (by simp), if_neg (by decide), if_neg (by omega)]
theorem kn_tree : treeD knG knT = some ⟨3, knT, [1, 0, 1], 3⟩ := by simp [treeD, grownD, walkG, nodeG, symsG, opsD, knG, knT, ruleD, inc64, wrap64]
theorem kn_known : knownE knG knT = (0, -1) := by
  unfold knownE
  rw [show knT.length = 4 from rfl, kn_may 4 (by omega), if_neg (by simp), if_neg (by decide), kn_tree]
  simp
theorem kn_nil : knownE knG [] = (11, -1) := by
  unfold knownE
  rw [show ([] : List (Int × Int × Int)).length = 0 from rfl, kn_may 0 (by omega), if_neg (by simp), if_pos (.inl rfl)]
theorem kn_kinW : walkG opsK knG.rules (knT.map (·.1)) true 0 [] = some [(-1, 0), (0, 0), (1, 0), (0, 2)] := by simp [walkG, nodeG, symsG, opsK, knG, knT, ruleD]
theorem kn_kin : kinD knG knT = [(-1, 0), (0, 0), (1, 0), (0, 2)] := by
  unfold kinD
  rw [kn_known, if_pos rfl, kn_kinW]
  rfl
/-- The sum of numbers, as an int is. -/
def sum64 : List Int → Int → Int
  | [], a => a
  | x :: r, a => sum64 r (wrap64 (a + x))
theorem kn_fold : walkG (opsF (fun (s : Unit) _ _ => (s, (1 : Int))) (fun s _ ks => (s, sum64 ks 0))) knG.rules (knT.map (·.1)) true 0 (0, (), [[]]) = some (3, (), [[3]]) := by
  simp [walkG, nodeG, symsG, opsF, pushV, knG, knT, ruleD, inc64, wrap64, sum64]
end Go.Proofs.YtapgglmdnggopaaDoor.Hand
/- A slice's head; lists by their elements. -/
namespace Go.Proofs.YtapgglmdnggopaaDoor.Hand
open Go.RowKit Go.Proofs.YtapgglmdnggopaaDoorW.PrintWords Go.Proofs.YtapgglmdnggopaaDoorW.PrintMore Go.Proofs.YtapgglmdnggopaaDoor.Math

theorem list_of {α : Type} {p : Nat → α → Prop} : ∀ {n : Nat} (_ : ∀ i, i < n → ∃ x, p i x), ∃ l : List α, l.length = n ∧ ∀ i x, l[i]? = some x → p i x
  | 0, _ => ⟨[], rfl, fun i x h => by simp at h⟩
  | n + 1, h => by
    obtain ⟨l, hl, hp⟩ := list_of (n := n) (fun i hi => h i (by omega))
    obtain ⟨x, hx⟩ := h n (by omega)
    refine ⟨l ++ [x], by simp [hl], fun i y hy => ?_⟩
    rcases Nat.lt_or_ge i l.length with hi | hi
    · rw [List.getElem?_append_left hi] at hy; exact hp i y hy
    · rw [List.getElem?_append_right hi] at hy
      have h0 : i - l.length = 0 := by
        rcases Nat.eq_zero_or_pos (i - l.length) with h | h
        · exact h
        · rw [List.getElem?_eq_none (by simp; omega)] at hy; cases hy
      rw [h0] at hy
      simp at hy
      subst hy
      have : i = n := by omega
      subst this
      exact hx
/-- A slice's head: where, how many, room. -/
structure Hd where
  ad : Option Addr
  n : Nat
  c : Nat
def Hd.v (h : Hd) : Value := .slice h.ad h.n h.c
end Go.Proofs.YtapgglmdnggopaaDoor.Hand
/- Slices by their heads: what is there up to the room, what is read; what one append does to them. -/
namespace Go.Proofs.YtapgglmdnggopaaDoor.Hand
open Go.RowKit Go.Proofs.YtapgglmdnggopaaDoorW.PrintWords Go.Proofs.YtapgglmdnggopaaDoorW.PrintMore Go.Proofs.YtapgglmdnggopaaDoor.Math

/-- Rows of slices, by their heads. -/
def KH : Kd Hd := Kd.scalar Hd.v (fun _ => rfl)
def hd0 : Hd := ⟨none, 0, 0⟩
def Hd.blk (h : Hd) : Option Nat := h.ad.map (·.block)
/-- What may change: the blocks of S, and what is new. -/
structure Chg (S : Nat → Prop) (w w' : World) : Prop where
  os : w'.os = w.os
  tape : w'.tape = w.tape
  output : w'.output = w.output
  size : w.heap.size ≤ w'.heap.size
  block : ∀ k, k < w.heap.size → ¬ S k → w'.heap[k]? = w.heap[k]?
section
variable {S S' : Nat → Prop} {w w1 w2 : World}
theorem Chg.refl (S : Nat → Prop) (w : World) : Chg S w w := ⟨rfl, rfl, rfl, Nat.le_refl _, fun _ _ _ => rfl⟩
theorem Chg.trans (h : Chg S w w1) (k : Chg S w1 w2) : Chg S w w2 := ⟨k.os.trans h.os, k.tape.trans h.tape, k.output.trans h.output, Nat.le_trans h.size k.size, fun i hi hs => (k.block i (Nat.lt_of_lt_of_le hi h.size) hs).trans (h.block i hi hs)⟩
theorem Chg.of_below (S : Nat → Prop) (h : Below w.heap.size w w1) : Chg S w w1 := ⟨h.os, h.tape, h.output, h.size, fun k hk _ => h.block k hk⟩
theorem Chg.mono (h : Chg S w w1) (hs : ∀ k, k < w.heap.size → S k → S' k) : Chg S' w w1 := ⟨h.os, h.tape, h.output, h.size, fun k hk hn => h.block k hk (fun q => hn (hs k hk q))⟩
theorem Chg.of_grown {row : Option Nat} (h : w.grownBy w1 row) : Chg (fun k => row = some k) w w1 := ⟨h.os, h.tape, h.output, h.size, fun k hk hn => h.block k hk (fun e => hn e.symm)⟩
theorem Chg.below {B : Nat} (h : Chg S w w1) (hB : B ≤ w.heap.size) (hs : ∀ k, k < B → ¬ S k) : Below B w w1 := ⟨h.os, h.tape, h.output, h.size, fun k hk => h.block k (Nat.lt_of_lt_of_le hk hB) (hs k hk)⟩
theorem Chg.set (w : World) (p : Addr) (v : Value) : Chg (fun k => k = p.block) w (w.setCell p v) := ⟨rfl, rfl, rfl, by rw [World.size_setCell]; exact Nat.le_refl _, fun k _ hk => Below.heap_setCell w p v k hk⟩
/-- The same, where the later step's blocks are new or of S. -/
theorem Chg.next (h : Chg S w w1) (k : Chg S' w1 w2) (hs : ∀ i, i < w.heap.size → S' i → S i) : Chg S w w2 := ⟨k.os.trans h.os, k.tape.trans h.tape, k.output.trans h.output, Nat.le_trans h.size k.size, fun i hi hn => (k.block i (Nat.lt_of_lt_of_le hi h.size) (fun q => hn (hs i hi q))).trans (h.block i hi hn)⟩
theorem blk_add (ad : Addr) (k : Nat) : (ad.add k).block = ad.block := by unfold Addr.add; split <;> rfl
theorem C_blk {α : Type} {enc : α → Value} {h1 : ∀ x, (enc x).oneCell' = true} {A : Option Addr} {n : Nat} {l : List α} (h : (Kd.scalar enc h1).C w A n l) (hk : ∀ ad, A = some ad → w1.heap[ad.block]? = w.heap[ad.block]?) : (Kd.scalar enc h1).C w1 A n l := by
  obtain ⟨e1, e2, e3⟩ := h
  refine ⟨e1, e2, fun hn => ?_⟩
  obtain ⟨ad, ha, hc⟩ := e3 hn
  refine ⟨ad, ha, fun j p hj => ?_⟩
  obtain ⟨cs, q1, q2, q3⟩ := hc j p hj
  refine ⟨cs, q1, q2, fun i u hu => ?_⟩
  exact (World.cell?_of_block (w := w) (w' := w1) (by rw [blk_add]; exact hk ad ha)).trans (q3 i u hu)
end
/-- A slice's cells are there up to its room, and may be written. -/
def HdOk (w : World) (h : Hd) : Prop :=
  (h.ad = none ∧ h.n = 0 ∧ h.c = 0) ∨ ∃ g o, h.ad = some ⟨g, o, none⟩ ∧ h.n ≤ h.c ∧ h.c ≤ maxLen ∧ g < w.heap.size ∧ (∀ j, j < h.c → (w.cell? ⟨g, o + j, none⟩).isSome = true) ∧ ∀ j, w.frozen? ⟨g, j, none⟩ = false
/-- What its first n cells are. -/
def HdRead (w : World) (h : Hd) (n : Nat) (f : Nat → Value) : Prop := ∀ g o, h.ad = some ⟨g, o, none⟩ → ∀ k, k < n → w.cell? ⟨g, o + k, none⟩ = some (f k)
theorem isSome_set {w : World} {p q : Addr} {v : Value} (h : (w.cell? q).isSome = true) : ((w.setCell p v).cell? q).isSome = true := by
  by_cases e : p = q
  · subst e
    obtain ⟨x, hx⟩ := Option.isSome_iff_exists.1 h
    rw [World.cell?_setCell_same w p v hx]; rfl
  · rw [World.cell?_setCell_other w p q v e]; exact h
theorem HdOk.set {w : World} {h : Hd} (hh : HdOk w h) (p : Addr) (v : Value) : HdOk (w.setCell p v) h := by
  rcases hh with hh | ⟨g, o, h1, h2, h3, h4, h5, h6⟩
  · exact .inl hh
  · exact .inr ⟨g, o, h1, h2, h3, by rw [World.size_setCell]; exact h4, fun j hj => isSome_set (h5 j hj), fun j => by rw [World.frozen?_setCell]; exact h6 j⟩
theorem HdOk.blk_lt {w : World} {h : Hd} (hh : HdOk w h) {g : Nat} (hg : h.blk = some g) : g < w.heap.size := by
  unfold Hd.blk at hg
  rcases hh with ⟨h1, _⟩ | ⟨g', o, h1, h2, h3, h4, h5⟩
  · rw [h1] at hg; cases hg
  · rw [h1] at hg
    simp at hg
    omega
theorem HdOk.keep {w w1 : World} {h : Hd} (hh : HdOk w h) (hs : w.heap.size ≤ w1.heap.size) (hk : ∀ g, h.blk = some g → w1.heap[g]? = w.heap[g]?) : HdOk w1 h := by
  rcases hh with hh | ⟨g, o, h1, h2, h3, h4, h5, h6⟩
  · exact .inl hh
  · have e := hk g (by unfold Hd.blk; rw [h1]; rfl)
    exact .inr ⟨g, o, h1, h2, h3, by omega, fun j hj => by rw [World.cell?_of_block (a := ⟨g, o + j, none⟩) e]; exact h5 j hj, fun j => by rw [World.frozen?_of_block (a := ⟨g, j, none⟩) e]; exact h6 j⟩
theorem HdRead.keep {w w1 : World} {h : Hd} {n : Nat} {f : Nat → Value} (hh : HdRead w h n f) (hk : ∀ g, h.blk = some g → w1.heap[g]? = w.heap[g]?) : HdRead w1 h n f := by
  intro g o hg k hlt
  rw [World.cell?_of_block (a := ⟨g, o + k, none⟩) (hk g (by unfold Hd.blk; rw [hg]; rfl))]
  exact hh g o hg k hlt
theorem HdRead.mono {w : World} {h : Hd} {n m : Nat} {f : Nat → Value} (hh : HdRead w h n f) (hm : m ≤ n) : HdRead w h m f := fun g o hg k hlt => hh g o hg k (by omega)
theorem HdRead.ext {w : World} {h : Hd} {n : Nat} {f f' : Nat → Value} (hh : HdRead w h n f) (hm : ∀ k, k < n → f k = f' k) : HdRead w h n f' := fun g o hg k hlt => by rw [← hm k hlt]; exact hh g o hg k hlt
theorem HdOk.drewN {w : World} {h : Hd} (hh : HdOk w h) (n : Nat) : HdOk (w.drewN n) h := hh.keep (by simp [World.drewN]) (fun g _ => rfl)
/-- What one append leaves. -/
structure AppRel (W : World) (l : Hd) (x : Value) (l1 : Hd) (w1 : World) : Prop where
  n : l1.n = l.n + 1
  ok : HdOk w1 l1
  rd : ∀ f, HdRead W l l.n f → HdRead w1 l1 (l.n + 1) (fun k => if k < l.n then f k else x)
  chg : Chg (fun k => l.blk = some k) W w1
  old : ∀ h, HdOk W h → HdOk w1 h
  own : (l1.ad = l.ad ∧ ∀ h m f, HdOk W h → h.blk ≠ l.blk ∨ (h.ad = l.ad ∧ m ≤ l.n) → HdRead W h m f → HdRead w1 h m f) ∨ ((∃ g, l1.blk = some g ∧ W.heap.size ≤ g) ∧ ∀ k, k < W.heap.size → w1.heap[k]? = W.heap[k]?)
  some : l1.ad ≠ none
theorem AppRel.reads {W : World} {l : Hd} {x : Value} {l1 : Hd} {w1 : World} (h : AppRel W l x l1 w1) {h2 : Hd} {m : Nat} {f : Nat → Value} (h0 : HdOk W h2) (hne : h2.blk ≠ l.blk ∨ (h2.ad = l.ad ∧ m ≤ l.n)) (hr : HdRead W h2 m f) : HdRead w1 h2 m f := by
  rcases h.own with ⟨_, q⟩ | ⟨_, q⟩
  · exact q h2 m f h0 hne hr
  · exact hr.keep (fun g hg => q g (h0.blk_lt hg))
theorem news_one (W : World) (x : Value) (E : TypeId) : ∀ j u, [x][j]? = some u → (W.alloc (.cells #[x] E)).cell? ((⟨W.heap.size, 0, none⟩ : Addr).add j) = some u := by
  intro j u hu
  have h0 : j = 0 := by
    have := (List.getElem?_eq_some_iff.1 hu).1
    simp at this
    exact this
  subst h0
  simp at hu
  subst hu
  simp [Addr.add, go_sem]
theorem own_hd {w : World} {base : Nat} {E : TypeId} {v : Value} {n : Nat} {xs : List Value} (h : w.ownsRow base E 1 v n xs) (hn : 0 < n) : ∃ h1 : Hd, v = h1.v ∧ h1.n = n ∧ HdOk w h1 ∧ (∃ g, h1.blk = some g ∧ base ≤ g) ∧ ∀ k u, xs[k]? = some u → ∀ g o, h1.ad = some ⟨g, o, none⟩ → w.cell? ⟨g, o + k, none⟩ = some u := by
  obtain ⟨h1, h2⟩ := h
  rcases h2 with ⟨_, h2⟩ | ⟨g, cap, cur, rfl, hb, hg, hn', hc, hs, ht⟩
  · omega
  · refine ⟨⟨some ⟨g, 0, none⟩, n, cap⟩, rfl, rfl, .inr ⟨g, 0, rfl, hn', hc, (Array.getElem?_eq_some_iff.1 hg).1, fun j hj => ?_, fun j => ?_⟩, ⟨g, rfl, hb⟩, fun k u hu g' o' e => ?_⟩
    · have hj' : j < cap := hj; rw [Nat.zero_add, cell_of_row w g j cur E (0, 0) hg, Array.getElem?_eq_getElem (by omega)]; rfl
    · simp [World.frozen?, hg]
    · injection e with e
      injection e with e1 e2
      subst e1 e2
      rw [Nat.zero_add, cell_of_row w g k cur E (0, 0) hg]
      rw [← ht, List.getElem?_take] at hu
      split at hu
      · simpa using hu
      · cases hu
section
variable {ops : Array Oper} {rest : List Oper} {o : Oper} {a : Act} {Q : Exit → Act → World → Prop}
theorem wp_app {W : World} (hgd : o.guard = none) (s x : Operand) (t E : TypeId) (z : Value) (bytes : Nat) (ho : o.op = .call { callee := .builtin .append, args := #[s, x], argTypes := #[t, t] })
    (ht : Tryd.prog.underlying t = some (.slice E)) (hinfo : (Tryd.prog.info? E).map (fun i => (i.zero, i.size, i.bytes)) = some (some z, 1, bytes)) (hz : z.cells.size = 1) (hb0 : 0 < bytes)
    (l : Hd) (xv : Value) (hs : a.eval s = l.v) (hx : a.eval x = .slice (some ⟨W.heap.size, 0, none⟩) 1 1) (h1 : xv.oneCell' = true) (HO : HdOk W l) (hl : (l.n + 1) * bytes ≤ 140737488355328)
    (K : ∀ l1 w1, AppRel W l xv l1 w1 → wpList Tryd.prog ops Q rest (a.put o.dst l1.v) w1) : wpList Tryd.prog ops Q (o :: rest) a (W.alloc (.cells #[xv] E)) := by
  obtain ⟨i0, hi, hzz⟩ := Option.map_eq_some_iff.1 hinfo
  simp only [Prod.mk.injEq] at hzz
  obtain ⟨hz0, hz1, hz2⟩ := hzz
  have hlen : l.n + 1 ≤ 140737488355328 := Nat.le_trans (Nat.le_mul_of_pos_right _ hb0) hl
  have hmx : l.n + 1 ≤ maxLen := by simp only [maxLen]; omega
  have hold : ∀ k, k < W.heap.size → (W.alloc (.cells #[xv] E)).heap[k]? = W.heap[k]? := fun k hk => heap_alloc_old W (.cells #[xv] E) hk
  have hsz : (W.alloc (.cells #[xv] E)).heap.size = W.heap.size + 1 := World.size_alloc _ _
  have grow : ∀ (olds : List Value), olds.length = l.n → (∀ g o', l.ad = some ⟨g, o', none⟩ → ∀ j u, olds[j]? = some u → W.cell? ⟨g, o' + j, none⟩ = some u) → ∀ v' w', w'.ownsRow (W.alloc (.cells #[xv] E)).heap.size E 1 v' (l.n + 1) (olds ++ [xv]) → (W.alloc (.cells #[xv] E)).grownBy w' none → wpList Tryd.prog ops Q rest (a.put o.dst v') w' := by
    intro olds hol hor v' w' hown hg
    obtain ⟨l1, rfl, e1, e2, ⟨g, e3, e3'⟩, e4⟩ := own_hd hown (by omega)
    have hall : ∀ k, k < W.heap.size → w'.heap[k]? = W.heap[k]? := fun k hk => (hg.block k (by omega) (by simp)).trans (hold k hk)
    have hss : W.heap.size ≤ w'.heap.size := by have := hg.size; omega
    refine K l1 w' ⟨e1, e2, fun f hf g o' hgo k hk => ?_, ⟨by rw [hg.os]; rfl, by rw [hg.tape]; rfl, by rw [hg.output]; rfl, hss, fun k hk _ => hall k hk⟩, fun h hh => hh.keep hss (fun g hg => hall g (hh.blk_lt hg)), .inr ⟨⟨g, e3, by omega⟩, hall⟩, fun e => by unfold Hd.blk at e3; rw [e] at e3; cases e3⟩
    show w'.cell? ⟨g, o' + k, none⟩ = some (if k < l.n then f k else xv)
    by_cases hk2 : k < l.n
    · rw [if_pos hk2]
      have hlt : k < olds.length := by omega
      have q := e4 k olds[k] (by rw [List.getElem?_append_left hlt, List.getElem?_eq_getElem hlt]) g o' hgo
      rw [q]
      rcases HO with ⟨_, h0, _⟩ | ⟨g2, o2, a1, _⟩
      · omega
      · have q2 := hor g2 o2 a1 k olds[k] (List.getElem?_eq_getElem hlt)
        rw [hf g2 o2 a1 k hk2] at q2
        exact q2.symm
    · rw [if_neg hk2]
      obtain rfl : k = l.n := by omega
      exact e4 l.n xv (by rw [List.getElem?_append_right (by omega), hol]; simp) g o' hgo
  rcases HO with ⟨h0, h2, h3⟩ | ⟨g, o', h0, h2, h3, h4, h5, h6⟩
  · refine wpList_append_grows (P := Tryd.prog) _ hgd s x t ho E i0 z 1 bytes ht hi hz0 hz1 hz2 hz (by decide) l.ad l.n l.c [] hs (fun _ => ⟨h2, h3⟩) (by simp [h2]) (fun b _ j u hj => by simp at hj) ⟨W.heap.size, 0, none⟩ 1 1 [xv] hx rfl (news_one W xv E) (by simpa using h1) (by omega) hmx hl ?_
    exact grow [] (by simp [h2]) (fun g o' e => by rw [h0] at e; cases e)
  · obtain ⟨olds, hol, hor⟩ : ∃ olds : List Value, olds.length = l.n ∧ ∀ j u, olds[j]? = some u → W.cell? ⟨g, o' + j, none⟩ = some u := by
      obtain ⟨ol, q1, q2⟩ := list_of (n := l.n) (p := fun i y => W.cell? ⟨g, o' + i, none⟩ = some y) (fun i hi => Option.isSome_iff_exists.1 (h5 i (by omega)))
      exact ⟨ol, q1, q2⟩
    have hcell : ∀ p : Addr, p.block < W.heap.size → (W.alloc (.cells #[xv] E)).cell? p = W.cell? p := fun p hp => World.cell?_of_block (hold p.block hp)
    refine wpList_append_arg (P := Tryd.prog) _ hgd s x t ho E i0 z 1 bytes ht hi hz0 hz1 hz2 hz (by decide) g o' l.n l.c olds (by rw [hs]; unfold Hd.v; rw [h0]) (by simp [hol]) (fun j u hj => (hcell _ h4).trans (hor j u hj)) ⟨W.heap.size, 0, none⟩ 1 1 [xv] hx rfl (news_one W xv E) (by simpa using h1) (fun hr j hj => ?_) hmx hl (fun hr => ?_) (fun _ => ?_)
    · have hj0 : j = 0 := by simp at hj; exact hj
      subst hj0
      rw [Nat.mul_one, Nat.add_zero, hcell _ h4]
      exact ⟨h5 l.n (by omega), by rw [World.frozen?_of_block (w := W) (a := ⟨g, o' + l.n, none⟩) (hold g h4)]; exact h6 _⟩
    · have e : (W.alloc (.cells #[xv] E)).setCells g (o' + l.n * 1) [xv] = (W.alloc (.cells #[xv] E)).setCell ⟨g, o' + l.n, none⟩ xv := by rw [Nat.mul_one]; rfl
      rw [e]
      have hne : ∀ k, k < W.heap.size → k ≠ g → ((W.alloc (.cells #[xv] E)).setCell ⟨g, o' + l.n, none⟩ xv).heap[k]? = W.heap[k]? := fun k hk hkg => (Below.heap_setCell _ ⟨g, o' + l.n, none⟩ xv k hkg).trans (hold k hk)
      have hal : ∀ h, HdOk W h → HdOk (W.alloc (.cells #[xv] E)) h := fun h hh => hh.keep (by omega) (fun g hg => hold g (hh.blk_lt hg))
      have hss : W.heap.size ≤ ((W.alloc (.cells #[xv] E)).setCell ⟨g, o' + l.n, none⟩ xv).heap.size := by rw [World.size_setCell]; omega
      have hrd : ∀ h m f, HdOk W h → h.blk ≠ l.blk ∨ (h.ad = l.ad ∧ m ≤ l.n) → HdRead W h m f → HdRead ((W.alloc (.cells #[xv] E)).setCell ⟨g, o' + l.n, none⟩ xv) h m f := by
        intro h m f hh hne2 hr2 g2 o2 hg2 k hk
        have hlt2 : g2 < W.heap.size := hh.blk_lt (by unfold Hd.blk; rw [hg2]; rfl)
        rw [World.cell?_setCell_other _ _ _ _ ?_, hcell _ hlt2]
        · exact hr2 g2 o2 hg2 k hk
        · intro e
          injection e with e1 e2
          subst e1
          rcases hne2 with hne2 | ⟨q1, q2⟩
          · exact hne2 (by unfold Hd.blk; rw [hg2, h0]; rfl)
          · rw [hg2, h0] at q1
            injection q1 with q1
            injection q1 with _ q1
            omega
      have hok : HdOk (W.alloc (.cells #[xv] E)) ⟨l.ad, l.n + 1, l.c⟩ := .inr ⟨g, o', h0, hr, h3, by omega, fun j hj => by rw [hcell _ h4]; exact h5 j hj, fun j => by rw [World.frozen?_of_block (w := W) (a := ⟨g, j, none⟩) (hold g h4)]; exact h6 j⟩
      rw [← h0]
      refine K ⟨l.ad, l.n + 1, l.c⟩ _ ⟨rfl, hok.set _ _, fun f hf g2 o2 hgo k hk => ?_, ⟨rfl, rfl, rfl, hss, fun k hk hn => hne k hk (fun e => hn (by unfold Hd.blk; rw [h0, e]; rfl))⟩, fun h hh => (hal h hh).set _ _, .inl ⟨rfl, hrd⟩, fun e => by rw [h0] at e; cases e⟩
      have hgo' : l.ad = some ⟨g2, o2, none⟩ := hgo
      have e12 : g = g2 ∧ o' = o2 := by rw [h0] at hgo'; simpa using hgo'
      clear hgo hgo'
      obtain ⟨rfl, rfl⟩ := e12
      show World.cell? _ _ = some (if k < l.n then f k else xv)
      by_cases hk2 : k < l.n
      · rw [if_pos hk2, World.cell?_setCell_other _ _ _ _ (fun e => by injection e with _ e; omega), hcell _ h4]
        exact hf g o' h0 k hk2
      · rw [if_neg hk2]
        obtain rfl : k = l.n := by omega
        obtain ⟨y, hy⟩ := Option.isSome_iff_exists.1 (h5 l.n (by omega))
        exact World.cell?_setCell_same _ _ _ ((hcell ⟨g, o' + l.n, none⟩ h4).trans hy)
    · exact grow olds hol (fun g2 o2 e => by rw [h0] at e; injection e with e; injection e with e1 e2; subst e1 e2; exact hor)
/-- The same, the box's number told otherwise. -/
theorem wp_app' {W : World} (hgd : o.guard = none) (s x : Operand) (t E : TypeId) (z : Value) (bytes : Nat) (ho : o.op = .call { callee := .builtin .append, args := #[s, x], argTypes := #[t, t] })
    (ht : Tryd.prog.underlying t = some (.slice E)) (hinfo : (Tryd.prog.info? E).map (fun i => (i.zero, i.size, i.bytes)) = some (some z, 1, bytes)) (hz : z.cells.size = 1) (hb0 : 0 < bytes)
    (l : Hd) (xv : Value) (b : Nat) (hb : W.heap.size = b) (hs : a.eval s = l.v) (hx : a.eval x = .slice (some ⟨b, 0, none⟩) 1 1) (h1 : xv.oneCell' = true) (HO : HdOk W l) (hl : (l.n + 1) * bytes ≤ 140737488355328)
    (K : ∀ l1 w1, AppRel W l xv l1 w1 → wpList Tryd.prog ops Q rest (a.put o.dst l1.v) w1) : wpList Tryd.prog ops Q (o :: rest) a (W.alloc (.cells #[xv] E)) := by
  subst hb
  exact wp_app hgd s x t E z bytes ho ht hinfo hz hb0 l xv hs hx h1 HO hl K
end
end Go.Proofs.YtapgglmdnggopaaDoor.Hand
/- Contracts: fold's walk of a tree, whatever the two functions are and keep. -/
namespace Go.Proofs.YtapgglmdnggopaaDoor.Hand
open Go.RowKit Go.Proofs.YtapgglmdnggopaaDoorW.PrintWords Go.Proofs.YtapgglmdnggopaaDoorW.PrintMore Go.Proofs.YtapgglmdnggopaaDoor.Math

section
variable {σ α : Type}
/-- The two functions: what they are called with (argsL, argsN), what they answer (lf, nf), what they keep (Cl: their memory and which blocks are theirs). b0: what lies below is the caller's. -/
structure FoldIn (P : Program) (kl kn : FuncId) (argsL argsN : Value → Value → Array Value) (val : α → Value) (d : Kd α) (E : TypeId) (cnt : σ → Nat) (lf : σ → Int → Int → σ × α) (nf : σ → Int → List α → σ × α) (Cl : σ → World → (Nat → Prop) → Prop) (wB w0 : World) (g : Gr) (AR : Option Addr) (t : List (Int × Int × Int)) (tA : Option Addr) : Prop where
  tree : KStep.C wB tA t.length t
  rules : KRule.C wB AR g.rules.length g.rules
  ord : wB.heap.size ≤ w0.heap.size
  stay : ∀ s W own W', Cl s W own → W.heap.size ≤ W'.heap.size → (∀ k, k < W.heap.size → own k ∨ k < w0.heap.size → W'.heap[k]? = W.heap[k]?) → Cl s W' own
  low : ∀ s W own k, Cl s W own → own k → k < W.heap.size
  leaf : ∀ s W own p x, Cl s W own → 0 ≤ x → x ≤ 100 → w0.heap.size ≤ W.heap.size → Below wB.heap.size wB W → Calls P kl (argsL (.int .i64 p) (.int .i64 x)) W fun e W' => e = .returned (val (lf s p x).2) ∧ ∃ own', Cl (lf s p x).1 W' own' ∧ Chg own W W' ∧ ∀ k, own' k → own k ∨ W.heap.size ≤ k
  cntL : ∀ s p x, cnt (lf s p x).1 ≤ cnt s
  cntN : ∀ s n ks, cnt (nf s n ks).1 ≤ cnt s + 1
  node : ∀ s W own (j : Nat) ks v, Cl s W own → cnt s < t.length → j < g.rules.length → ks.length = (ruleD g.rules (j : Int)).2.length → w0.heap.size ≤ W.heap.size → Below wB.heap.size wB W → d.R E W w0.heap.size (fun k => ¬ own k) v ks → Calls P kn (argsN (.int .i64 (j : Int)) v) W fun e W' => e = .returned (val (nf s (j : Int) ks).2) ∧ ∃ own', Cl (nf s (j : Int) ks).1 W' own' ∧ Chg (fun k => own k ∨ v.ownBlock = some k) W W' ∧ ∀ k, own' k → own k ∨ v.ownBlock = some k ∨ W.heap.size ≤ k
  len : t.length ≤ 200000
  few : g.rules.length ≤ 120
  short : ∀ r ∈ g.rules, r.2.length ≤ 32
  syms : ∀ r ∈ g.rules, ∀ s ∈ r.2, -100 ≤ s ∧ s ≤ 100
/-- The folder: its block; the functions' memory; what lies below is as it was. -/
structure FInv (Cl : σ → World → (Nat → Prop) → Prop) (wB w0 : World) (FT : TypeId) (bF : Nat) (gt gn gr : Value) (ax : Int) (tv LF NF : Value) (i : Nat) (p : Int) (s : σ) (own : Nat → Prop) (w : World) : Prop where
  blk : w.heap[bF]? = some (.cells #[gt, gn, .int .i64 ax, gr, tv, .int .i64 (i : Int), .int .i64 p, LF, NF] FT (0, 0))
  cl : Cl s w own
  nown : ¬ own bF
  hb : w0.heap.size ≤ bF
  up : ∀ k, own k → wB.heap.size ≤ k
  base : Below wB.heap.size wB w
variable {P : Program} {kl kn : FuncId} {argsL argsN : Value → Value → Array Value} {val : α → Value} {d : Kd α} {E : TypeId} {cnt : σ → Nat} {lf : σ → Int → Int → σ × α} {nf : σ → Int → List α → σ × α} {Cl : σ → World → (Nat → Prop) → Prop} {own own' : Nat → Prop} {wB w0 w w' : World} {g : Gr} {AR tA : Option Addr} {t : List (Int × Int × Int)} {FT : TypeId} {bF : Nat} {gt gn gr tv LF NF : Value} {ax : Int} {i : Nat} {p : Int} {s s' : σ}
theorem FInv.lt (h : FInv Cl wB w0 FT bF gt gn gr ax tv LF NF i p s own w) : bF < w.heap.size := (Array.getElem?_eq_some_iff.1 h.blk).1
theorem FInv.size (h : FInv Cl wB w0 FT bF gt gn gr ax tv LF NF i p s own w) : w0.heap.size ≤ w.heap.size := by have := h.lt; have := h.hb; omega
/-- What is made, and drawn, besides. -/
theorem FInv.below (hI : FoldIn P kl kn argsL argsN val d E cnt lf nf Cl wB w0 g AR t tA) (h : FInv Cl wB w0 FT bF gt gn gr ax tv LF NF i p s own w) (hb : Below w.heap.size w w') : FInv Cl wB w0 FT bF gt gn gr ax tv LF NF i p s own w' :=
  ⟨(hb.block _ h.lt).trans h.blk, hI.stay s w own w' h.cl hb.size (fun k hk _ => hb.block k hk), h.nown, h.hb, h.up, below_next h.base hb⟩
/-- Blocks that are nobody's are written. -/
theorem FInv.keep {S : Nat → Prop} (hI : FoldIn P kl kn argsL argsN val d E cnt lf nf Cl wB w0 g AR t tA) (h : FInv Cl wB w0 FT bF gt gn gr ax tv LF NF i p s own w) (hc : Chg S w w') (hk : ∀ k, S k → ¬ own k ∧ w0.heap.size ≤ k ∧ k ≠ bF) : FInv Cl wB w0 FT bF gt gn gr ax tv LF NF i p s own w' :=
  ⟨(hc.block _ h.lt (fun q => (hk _ q).2.2 rfl)).trans h.blk, hI.stay s w own w' h.cl hc.size (fun k h1 h2 => hc.block k h1 (fun q => by rcases h2 with h2 | h2; exact (hk k q).1 h2; have := (hk k q).2.1; omega)), h.nown, h.hb, h.up, h.base.trans (hc.below (Nat.le_trans hI.ord h.size) (fun k h1 q => by have := (hk k q).2.1; have := hI.ord; omega))⟩
theorem FInv.set (hI : FoldIn P kl kn argsL argsN val d E cnt lf nf Cl wB w0 g AR t tA) (h : FInv Cl wB w0 FT bF gt gn gr ax tv LF NF i p s own w) (j : Nat) (u : Value) : ∀ k, k < w.heap.size → own k ∨ k < w0.heap.size → (w.setCell ⟨bF, j, none⟩ u).heap[k]? = w.heap[k]? := fun k _ h2 => Below.heap_setCell w ⟨bF, j, none⟩ u k (by
  have _ := hI.len
  show k ≠ bF
  intro e
  subst e
  rcases h2 with h2 | h2
  · exact h.nown h2
  · have := h.hb; omega)
theorem FInv.setI (hI : FoldIn P kl kn argsL argsN val d E cnt lf nf Cl wB w0 g AR t tA) (h : FInv Cl wB w0 FT bF gt gn gr ax tv LF NF i p s own w) (j : Nat) : FInv Cl wB w0 FT bF gt gn gr ax tv LF NF j p s own (w.setCell ⟨bF, 5, none⟩ (.int .i64 (j : Int))) :=
  ⟨by rw [blk_put h.blk]; rfl, hI.stay s w own _ h.cl (by rw [World.size_setCell]; exact Nat.le_refl _) (h.set hI 5 _), h.nown, h.hb, h.up, h.base.setCell (Nat.le_trans hI.ord h.hb) _⟩
theorem FInv.setP (hI : FoldIn P kl kn argsL argsN val d E cnt lf nf Cl wB w0 g AR t tA) (h : FInv Cl wB w0 FT bF gt gn gr ax tv LF NF i p s own w) (q : Int) : FInv Cl wB w0 FT bF gt gn gr ax tv LF NF i q s own (w.setCell ⟨bF, 6, none⟩ (.int .i64 q)) :=
  ⟨by rw [blk_put h.blk]; rfl, hI.stay s w own _ h.cl (by rw [World.size_setCell]; exact Nat.le_refl _) (h.set hI 6 _), h.nown, h.hb, h.up, h.base.setCell (Nat.le_trans hI.ord h.hb) _⟩
/-- A function has been called: S is what it may have written. -/
theorem FInv.called {S : Nat → Prop} (ord : wB.heap.size ≤ w0.heap.size) (h : FInv Cl wB w0 FT bF gt gn gr ax tv LF NF i p s own w) (hc : Chg S w w') (hS : ∀ k, S k → own k ∨ (w0.heap.size ≤ k ∧ k ≠ bF)) (hC : Cl s' w' own') (ho : ∀ k, own' k → own k ∨ (w0.heap.size ≤ k ∧ k ≠ bF)) : FInv Cl wB w0 FT bF gt gn gr ax tv LF NF i p s' own' w' := by
  refine ⟨(hc.block _ h.lt (fun q => ?_)).trans h.blk, hC, fun q => ?_, h.hb, fun k q => ?_, h.base.trans (hc.below (Nat.le_trans ord h.size) (fun k hk q => ?_))⟩
  · rcases hS _ q with a | ⟨_, a⟩
    · exact h.nown a
    · exact a rfl
  · rcases ho _ q with a | ⟨_, a⟩
    · exact h.nown a
    · exact a rfl
  · rcases ho k q with a | ⟨a, _⟩
    · exact h.up k a
    · omega
  · rcases hS k q with a | ⟨a, _⟩
    · have := h.up k a; omega
    · omega
theorem FInv.cells (h : FInv Cl wB w0 FT bF gt gn gr ax tv LF NF i p s own w) (h1 : gr.oneCell' = true) (h2 : tv.oneCell' = true) (h3 : LF.oneCell' = true) (h4 : NF.oneCell' = true) :
    w.cell? ⟨bF, 3, none⟩ = some gr ∧ w.cell? ⟨bF, 4, none⟩ = some tv ∧ w.cell? ⟨bF, 5, none⟩ = some (.int .i64 (i : Int)) ∧ w.cell? ⟨bF, 6, none⟩ = some (.int .i64 p) ∧ w.cell? ⟨bF, 7, none⟩ = some LF ∧ w.cell? ⟨bF, 8, none⟩ = some NF ∧ ∀ j, w.frozen? ⟨bF, j, none⟩ = false :=
  ⟨blk_cell h.blk 3 rfl h1, blk_cell h.blk 4 rfl h2, blk_cell h.blk 5 rfl rfl, blk_cell h.blk 6 rfl rfl, blk_cell h.blk 7 rfl h3, blk_cell h.blk 8 rfl h4, fun j => blk_free h.blk j⟩
/-- What a step leaves. -/
def FStepP (Cl : σ → World → (Nat → Prop) → Prop) (wB w0 : World) (FT : TypeId) (bF : Nat) (gt gn gr : Value) (ax : Int) (tv LF NF : Value) (val : α → Value) (i' : Nat) (p' : Int) (s' : σ) (v : α) (own : Nat → Prop) (w : World) (e : Ending) (w' : World) : Prop :=
  e = .returned (val v) ∧ ∃ own', FInv Cl wB w0 FT bF gt gn gr ax tv LF NF i' p' s' own' w' ∧ Chg (fun k => k = bF ∨ own k) w w' ∧ ∀ k, own' k → own k ∨ w.heap.size ≤ k
/-- A step's kids so far. -/
structure FKid (Cl : σ → World → (Nat → Prop) → Prop) (wB w0 : World) (FT : TypeId) (bF : Nat) (gt gn gr : Value) (ax : Int) (tv LF NF : Value) (d : Kd α) (E : TypeId) (own : Nat → Prop) (w : World)
    (i2 : Nat) (p2 : Int) (s2 : σ) (kids : List α) (own2 : Nat → Prop) (v : Value) (wr : World) : Prop where
  inv : FInv Cl wB w0 FT bF gt gn gr ax tv LF NF i2 p2 s2 own2 wr
  row : d.R E wr w0.heap.size (fun k => ¬ own2 k ∧ k ≠ bF) v kids
  new : ∀ k, v.ownBlock = some k → w.heap.size ≤ k
  chg : Chg (fun k => k = bF ∨ own k) w wr
  sub : ∀ k, own2 k → own k ∨ w.heap.size ≤ k
variable {own2 own4 : Nat → Prop} {i2 i4 : Nat} {p2 p4 : Int} {s2 s4 : σ} {kids : List α} {v v1 : Value} {wr w1 : World} {x : α}
theorem FKid.below (hI : FoldIn P kl kn argsL argsN val d E cnt lf nf Cl wB w0 g AR t tA) (h : FKid Cl wB w0 FT bF gt gn gr ax tv LF NF d E own w i2 p2 s2 kids own2 v wr) (hb : Below wr.heap.size wr w1) : FKid Cl wB w0 FT bF gt gn gr ax tv LF NF d E own w i2 p2 s2 kids own2 v w1 :=
  ⟨h.inv.below hI hb, Kd.R_below h.row hb, h.new, h.chg.trans (Chg.of_below _ hb), h.sub⟩
/-- Something has been called. -/
theorem FKid.call {S : Nat → Prop} (h : FKid Cl wB w0 FT bF gt gn gr ax tv LF NF d E own w i2 p2 s2 kids own2 v wr) (hi : FInv Cl wB w0 FT bF gt gn gr ax tv LF NF i4 p4 s4 own4 w1) (hc : Chg S wr w1) (hS : ∀ k, S k → k = bF ∨ own2 k) (ho : ∀ k, own4 k → own2 k ∨ wr.heap.size ≤ k) : FKid Cl wB w0 FT bF gt gn gr ax tv LF NF d E own w i4 p4 s4 kids own4 v w1 := by
  refine ⟨hi, Kd.R_mono (Kd.R_step (Kd.R_bound h.row) (fun k hk hlt => hc.block k hlt (fun q => ?_))) (fun k hk => ⟨fun q => ?_, hk.1.2⟩), h.new, h.chg.next hc (fun k hk q => ?_), fun k q => ?_⟩
  · rcases hS k q with e | e
    · exact hk.1.2 e
    · exact hk.1.1 e
  · rcases ho k q with e | e
    · exact hk.1.1 e
    · have := hk.2.2.1; omega
  · rcases hS k q with e | e
    · exact .inl e
    · rcases h.sub k e with e | e
      · exact .inr e
      · omega
  · rcases ho k q with e | e
    · exact h.sub k e
    · exact .inr (Nat.le_trans h.chg.size e)
/-- One kid more. -/
theorem FKid.grow (hI : FoldIn P kl kn argsL argsN val d E cnt lf nf Cl wB w0 g AR t tA) (h : FKid Cl wB w0 FT bF gt gn gr ax tv LF NF d E own w i2 p2 s2 kids own2 v wr) (ho : d.R E w1 w0.heap.size (fun k => ¬ own2 k ∧ k ≠ bF) v1 (kids ++ [x])) (hg : wr.grownBy w1 v.ownBlock) (hat : v1.ownBlock = v.ownBlock ∨ ∃ b, v1.ownBlock = some b ∧ wr.heap.size ≤ b) : FKid Cl wB w0 FT bF gt gn gr ax tv LF NF d E own w i2 p2 s2 (kids ++ [x]) own2 v1 w1 := by
  refine ⟨h.inv.keep hI (Chg.of_grown hg) (fun k hk => ⟨(h.row.1 k hk).1, Kd.R_base h.row k hk, (h.row.1 k hk).2⟩), ho, fun k hk => ?_, h.chg.next (Chg.of_grown hg) (fun k hk q => ?_), h.sub⟩
  · rcases hat with e | ⟨b, e, hb⟩
    · exact h.new k (e ▸ hk)
    · rw [e] at hk
      injection hk with hk
      subst hk
      exact Nat.le_trans h.chg.size hb
  · have := h.new k q; omega
theorem FKid.setP (hI : FoldIn P kl kn argsL argsN val d E cnt lf nf Cl wB w0 g AR t tA) (h : FKid Cl wB w0 FT bF gt gn gr ax tv LF NF d E own w i2 p2 s2 kids own2 v wr) (q : Int) : FKid Cl wB w0 FT bF gt gn gr ax tv LF NF d E own w i2 q s2 kids own2 v (wr.setCell ⟨bF, 6, none⟩ (.int .i64 q)) :=
  ⟨h.inv.setP hI q, Kd.R_far h.row (fun _ hk => hk.2) _, h.new, h.chg.trans ((Chg.set _ ⟨bF, 6, none⟩ _).mono (fun _ _ hk => .inl hk)), h.sub⟩
/-- The loop over a step's symbols. -/
structure FLoop (cnt : σ → Nat) (Cl : σ → World → (Nat → Prop) → Prop) (wB w0 : World) (FT : TypeId) (bF : Nat) (gt gn gr : Value) (ax : Int) (tv LF NF : Value) (d : Kd α) (E : TypeId) (lf : σ → Int → Int → σ × α) (nf : σ → Int → List α → σ × α) (G : List (Int × List Int)) (rs : List Int) (f deep i j : Nat) (r : List Int) (ks : List α) (K : List (List α)) (s3 : Nat × Int × σ × List (List α)) (own : Nat → Prop) (w : World)
    (kk i2 : Nat) (p2 : Int) (s2 : σ) (kids : List α) (own2 : Nat → Prop) (v : Value) (wr : World) : Prop where
  kid : FKid Cl wB w0 FT bF gt gn gr ax tv LF NF d E own w i2 p2 s2 kids own2 v wr
  len : kids.length = kk
  cn : cnt s2 + 1 ≤ i2
  hi : i2 ≤ rs.length
  eq : symsG (opsF lf nf) (fun u m st => nodeG (opsF lf nf) G rs f false m (some u) (deep + 1) st) (j : Int) kk (r.drop kk) (i2, p2, s2, kids :: ks :: K) = some s3
variable {G : List (Int × List Int)} {rs : List Int} {f deep j kk : Nat} {r : List Int} {ks : List α} {K : List (List α)} {s3 : Nat × Int × σ × List (List α)} {y : Int}
theorem FLoop.node (hl : ∀ s p x, cnt (lf s p x).1 ≤ cnt s) (hN : ∀ s n ks, cnt (nf s n ks).1 ≤ cnt s + 1) (h : FLoop cnt Cl wB w0 FT bF gt gn gr ax tv LF NF d E lf nf G rs f deep i j r ks K s3 own w kk i2 p2 s2 kids own2 v wr) (hd : r.drop kk = y :: r.drop (kk + 1)) (hy : y < 0) :
    ∃ i4 p4 s4 vv, nodeG (opsF lf nf) G rs f false (-1 - y) (some ((j : Int), kk)) (deep + 1) (i2, p2, s2, kids :: ks :: K) = some (i4, p4, s4, (kids ++ [vv]) :: ks :: K) ∧
      ∀ own4 v5 w5, FKid Cl wB w0 FT bF gt gn gr ax tv LF NF d E own w i4 p4 s4 (kids ++ [vv]) own4 v5 w5 → FLoop cnt Cl wB w0 FT bF gt gn gr ax tv LF NF d E lf nf G rs f deep i j r ks K s3 own w (kk + 1) i4 p4 s4 (kids ++ [vv]) own4 v5 w5 := by
  have e := h.eq
  rw [hd, symsG, if_pos hy] at e
  cases h1 : nodeG (opsF lf nf) G rs f false (-1 - y) (some ((j : Int), kk)) (deep + 1) (i2, p2, s2, kids :: ks :: K) with
  | none => rw [h1] at e; cases e
  | some st =>
    rw [h1] at e
    obtain ⟨i4, p4, s4, vv, rfl, -, a2⟩ := foldG_top lf nf G rs f _ _ _ _ _ _ _ _ _ _ h1
    have a3 := foldG_cnt hl hN G rs f _ _ _ _ _ _ _ _ _ _ _ _ _ h1
    exact ⟨i4, p4, s4, vv, rfl, fun own4 v5 w5 hk => ⟨hk, by have := h.len; simp; omega, by have := h.cn; omega, a2, e⟩⟩
theorem FLoop.tok (hl : ∀ s p x, cnt (lf s p x).1 ≤ cnt s) (h : FLoop cnt Cl wB w0 FT bF gt gn gr ax tv LF NF d E lf nf G rs f deep i j r ks K s3 own w kk i2 p2 s2 kids own2 v wr) (hd : r.drop kk = y :: r.drop (kk + 1)) (hy : ¬ y < 0) :
    ∀ own4 v5 w5, FKid Cl wB w0 FT bF gt gn gr ax tv LF NF d E own w i2 (inc64 p2) (lf s2 p2 y).1 (kids ++ [(lf s2 p2 y).2]) own4 v5 w5 → FLoop cnt Cl wB w0 FT bF gt gn gr ax tv LF NF d E lf nf G rs f deep i j r ks K s3 own w (kk + 1) i2 (inc64 p2) (lf s2 p2 y).1 (kids ++ [(lf s2 p2 y).2]) own4 v5 w5 := by
  have e := h.eq
  rw [hd, symsG, if_neg hy] at e
  exact fun own4 v5 w5 hk => ⟨hk, by have := h.len; simp; omega, by have := h.cn; have := hl s2 p2 y; omega, h.hi, e⟩
theorem FLoop.fin (h : FLoop cnt Cl wB w0 FT bF gt gn gr ax tv LF NF d E lf nf G rs f deep i j r ks K s3 own w kk i2 p2 s2 kids own2 v wr) (hk : r.length ≤ kk) : s3 = (i2, p2, s2, kids :: ks :: K) := by
  have e := h.eq
  rw [List.drop_eq_nil_of_le hk, symsG] at e
  exact (Option.some.inj e).symm
/-- A leaf's function has been called. -/
theorem FKid.leaf (ord : wB.heap.size ≤ w0.heap.size) (h : FKid Cl wB w0 FT bF gt gn gr ax tv LF NF d E own w i2 p2 s2 kids own2 v wr) (hC : Cl s4 w1 own4) (hc : Chg own2 wr w1) (ho : ∀ k, own4 k → own2 k ∨ wr.heap.size ≤ k) : FKid Cl wB w0 FT bF gt gn gr ax tv LF NF d E own w i2 p2 s4 kids own4 v w1 :=
  h.call (h.inv.called ord hc (fun k hk => .inl hk) hC (fun k q => (ho k q).imp id (fun e => ⟨Nat.le_trans h.inv.size e, fun e2 => by have := h.inv.lt; omega⟩))) hc (fun k hk => .inr hk) ho
theorem FInv.two (h : FInv Cl wB w0 FT bF gt gn gr ax tv LF NF i p s own w) (h3 : LF.oneCell' = true) : w.cell? ⟨bF, 7, none⟩ = some LF ∧ w.cell? ⟨bF, 6, none⟩ = some (.int .i64 p) := ⟨blk_cell h.blk 7 rfl h3, blk_cell h.blk 6 rfl rfl⟩
/-- The node's function has been called: it has the kids. -/
theorem FKid.node (ord : wB.heap.size ≤ w0.heap.size) (h : FKid Cl wB w0 FT bF gt gn gr ax tv LF NF d E own w i2 p2 s2 kids own2 v wr) (hC : Cl s4 w1 own4) (hc : Chg (fun k => own2 k ∨ v.ownBlock = some k) wr w1) (ho : ∀ k, own4 k → own2 k ∨ v.ownBlock = some k ∨ wr.heap.size ≤ k) :
    FInv Cl wB w0 FT bF gt gn gr ax tv LF NF i2 p2 s4 own4 w1 ∧ Chg (fun k => k = bF ∨ own k) w w1 ∧ ∀ k, own4 k → own k ∨ w.heap.size ≤ k := by
  have hv : ∀ k, v.ownBlock = some k → w0.heap.size ≤ k ∧ k ≠ bF := fun k hk => ⟨Kd.R_base h.row k hk, (h.row.1 k hk).2⟩
  refine ⟨h.inv.called ord hc (fun k hk => hk.imp id (hv k)) hC (fun k q => ?_), h.chg.next hc (fun k hk q => ?_), fun k q => ?_⟩
  · rcases ho k q with e | e | e
    · exact .inl e
    · exact .inr (hv k e)
    · exact .inr ⟨Nat.le_trans h.inv.size e, fun e2 => by have := h.inv.lt; omega⟩
  · rcases q with e | e
    · rcases h.sub k e with e | e
      · exact .inr e
      · omega
    · have := h.new k e; omega
  · rcases ho k q with e | e | e
    · exact h.sub k e
    · exact .inr (h.new k e)
    · exact .inr (Nat.le_trans h.chg.size e)
theorem FInv.nodeF (h : FInv Cl wB w0 FT bF gt gn gr ax tv LF NF i p s own w) (h4 : NF.oneCell' = true) : w.cell? ⟨bF, 8, none⟩ = some NF := blk_cell h.blk 8 rfl h4
end
end Go.Proofs.YtapgglmdnggopaaDoor.Hand
