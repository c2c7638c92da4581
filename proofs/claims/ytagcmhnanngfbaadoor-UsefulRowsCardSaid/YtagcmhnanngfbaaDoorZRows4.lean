/- The texts that the statement's proof stands on, part 4: XOpens XLaid XUwords XUseB XKnown XUrows. -/
import Derived.Test.YtagcmhnanngfbaaDoorZRows3
import Derived.Deep.Slices
import Derived.ChangeSame
import Derived.SizedLaws
import Derived.Lib.SmallJoins
import Derived.Test.YtagcmhnanngfbaaDoorRows
import Derived.Stop.LaidErr
import Derived.LaidSub
import Derived.LaidMore
import Derived.Stop.Joined
import Derived.MakeChecks
import Derived.Deep.RegionHeld3
/- Arguments of whatever kind, opened: the reading of memory gives the plain datum that it spells. -/
namespace Go.Proofs.YtagcmhnanngfbaaDoor.Hand
open Go.ChangeShapes Go.WideShapes Go.ChangeAt
open Go.RowKit Go.Proofs.YtagcmhnanngfbaaDoorW.PrintWords Go.Proofs.YtagcmhnanngfbaaDoorW.PrintMore Go.Proofs.YtagcmhnanngfbaaDoor.Math

/-- Whatever reads by this type spells a datum of this kind. -/
def Opens {α : Type} (t : TypeId) (d : Kd α) (good : α → Prop) : Prop :=
  ∀ (H : Type) (enc : TypeId × Value → H) (W : World) (base : Nat) (spare : Nat → Bool) (held : Bool) (fuel : Nat) (cs : List Value) (x : DataW H × List MemPlace), DataW.trod enc Tryd.prog W base spare held fuel t cs = some x →
    (∀ n ∈ x.1.weights Tryd.prog t, n ≤ reachBytes) → ∃ a, d.K W a cs ∧ good a
theorem Opens.int {t : TypeId} {k : IntKind} (ht : Tryd.prog.underlying t = some (.int k)) : Opens t (Kd.int k) (fun a => (Lit.int k a).wf = true) := by
  intro H enc W base spare held fuel cs x h _
  obtain ⟨n, rfl, _, hw⟩ := DataW.trod_int ht h
  exact ⟨n, rfl, hw⟩
theorem Opens.string {t : TypeId} (ht : Tryd.prog.underlying t = some .string) : Opens t Kd.string (fun s => s.size ≤ 140737488351232) := by
  intro H enc W base spare held fuel cs x h hw
  obtain ⟨s, rfl, rfl, _⟩ := DataW.trod_string ht h
  refine ⟨s, rfl, ?_⟩
  have := hw s.data.toList.length (by simp [DataW.weights])
  simpa [reachBytes] using this
theorem list_of {α : Type} {p : Nat → α → Prop} : ∀ {n : Nat} (_ : ∀ i, i < n → ∃ x, p i x), ∃ l : List α, l.length = n ∧ ∀ i x, l[i]? = some x → p i x
  | 0, _ => ⟨[], rfl, fun i x h => by simp at h⟩
  | n + 1, h => by
    obtain ⟨l, hl, hp⟩ := list_of (n := n) (fun i hi => h i (by omega))
    obtain ⟨x, hx⟩ := h n (by omega)
    refine ⟨l ++ [x], by simp [hl], fun i y hy => ?_⟩
    rcases Nat.lt_or_ge i l.length with hi | hi
    · rw [List.getElem?_append_left hi] at hy; exact hp i y hy
    · rw [List.getElem?_append_right hi] at hy
      have h0 : i - l.length = 0 := by
        rcases Nat.eq_zero_or_pos (i - l.length) with h | h
        · exact h
        · rw [List.getElem?_eq_none (by simp; omega)] at hy; cases hy
      rw [h0] at hy
      simp at hy
      subst hy
      have : i = n := by omega
      subst this
      exact hx
theorem weightsAll_mem {H : Type} {P : Program} {e : TypeId} {d : DataW H} {n : Nat} : ∀ {l : List (DataW H)}, d ∈ l → n ∈ d.weights P e → n ∈ DataW.weightsAll P e l
  | [], h, _ => by cases h
  | a :: r, h, hn => by
    simp only [DataW.weightsAll, List.mem_append]
    rcases List.mem_cons.1 h with rfl | h
    · exact .inl hn
    · exact .inr (weightsAll_mem h hn)
theorem Opens.slice {α : Type} {t e : TypeId} {B : Nat} {d : Kd α} {good : α → Prop} (ht : Tryd.prog.underlying t = some (.slice e)) (he : Opens e d good) (hc : Tryd.prog.cellsOf e = d.sz) (hB : Tryd.prog.bytesOf e = B) :
    Opens t (Kd.slice e d) (fun l => l.length * B ≤ 140737488351232 ∧ ∀ x ∈ l, good x) := by
  intro H enc W base spare held fuel cs x h hw
  rcases Deep.open_slice ht h with ⟨rfl, rfl⟩ | ⟨a, len, cap, m, n, D, Pl, rfl, hb, hl, hm, hmm, rfl, hx⟩
  · exact ⟨[], ⟨none, 0, rfl, Nat.le_refl _, Kd.C_nil d W⟩, by simp, fun x hx => absurd hx (List.not_mem_nil)⟩
  · have hlm : len ≤ m := by rw [hmm]; split <;> omega
    simp only [DataW.weights, ht] at hw
    have hw1 := hw _ (List.mem_cons_self ..)
    simp only [List.length_map, List.length_range] at hw1
    have hw2 : ∀ i, i < len → ∀ k ∈ (D i).weights Tryd.prog e, k ≤ reachBytes := fun i hi k hk =>
      hw k (List.mem_cons_of_mem _ (List.mem_append_left _ (weightsAll_mem (List.mem_map.2 ⟨i, List.mem_range.2 hi, rfl⟩) hk)))
    obtain ⟨l, hll, hp⟩ := list_of (n := len) (p := fun i p => good p ∧ ∃ cs', d.K W p cs' ∧ ∀ j u, cs'[j]? = some u → W.cell? (a.add (i * d.sz + j)) = some u) (fun i hi => by
      obtain ⟨cs', h1, h2⟩ := hx i (by omega)
      obtain ⟨p, hk, hg⟩ := he H enc W base spare held n cs' _ h2 (hw2 i hi)
      obtain ⟨_, hlen, hcell⟩ := World.cells?_some h1
      refine ⟨p, hg, cs', hk, fun j u hu => ?_⟩
      have hj : j < Tryd.prog.cellsOf e := by rw [← hlen]; exact (List.getElem?_eq_some_iff.1 hu).1
      have := hcell j hj
      rw [Deep.add_add, hu, hc] at this
      exact this)
    subst hll
    refine ⟨l, ⟨some a, cap, rfl, hl, rfl, ?_, fun _ => ⟨a, rfl, fun j p hj => ?_⟩⟩, ?_, fun x hx => ?_⟩
    · have : maxLen = 9223372036854775807 := by decide
      omega
    · obtain ⟨_, cs', hk, hcell⟩ := hp j p hj
      exact ⟨cs', d.K_len hk, hk, hcell⟩
    · rw [hB] at hw1
      have h3 : l.length * B ≤ (l.length + (m - l.length)) * B := Nat.mul_le_mul_right _ (by omega)
      have h4 : (reachBytes : Nat) = 140737488351232 := by decide
      omega
    · obtain ⟨i, hi⟩ := List.getElem?_of_mem hx
      exact (hp i x hi).1
theorem Opens.pair {α β : Type} {t : TypeId} {f0 f1 : Field} {a : Kd α} {b : Kd β} {ga : α → Prop} {gb : β → Prop} (ht : Tryd.prog.underlying t = some (.struct #[f0, f1])) (o0 : f0.offset = 0) (o1 : f1.offset = a.sz) (c0 : Tryd.prog.cellsOf f0.type = a.sz) (c1 : Tryd.prog.cellsOf f1.type = b.sz) (ct : Tryd.prog.cellsOf t = a.sz + b.sz)
    (h0 : Opens f0.type a ga) (h1 : Opens f1.type b gb) : Opens t (Kd.pair a b) (fun x => ga x.1 ∧ gb x.2) := by
  intro H enc W base spare held fuel cs x h hw
  obtain ⟨y0, y1, n, rfl, hl, k0, k1⟩ := trod_struct2 ht h
  simp only [DataW.weights, ht, List.map_cons, List.map_nil, DataW.weightsEach, List.append_nil] at hw
  rw [o0, c0, List.drop_zero] at k0
  rw [o1, c1] at k1
  obtain ⟨x0, q0, g0⟩ := h0 H enc W base spare held n _ _ k0 (fun n hn => hw n (List.mem_append_left _ hn))
  obtain ⟨x1, q1, g1⟩ := h1 H enc W base spare held n _ _ k1 (fun n hn => hw n (List.mem_append_right _ hn))
  refine ⟨(x0, x1), ⟨cs.take a.sz, (cs.drop a.sz).take b.sz, ?_, q0, q1⟩, g0, g1⟩
  rw [List.take_of_length_le (show (cs.drop a.sz).length ≤ b.sz by rw [List.length_drop, hl, ct]; omega), List.take_append_drop]
section
set_option maxRecDepth 20000
variable {H : Type} {enc : TypeId × Value → H} {W : World} {base : Nat} {r : Reach} {b0 : Nat} {spare : Nat → Bool} {held : Bool} {v : Value} {d : DataW H} {ps : List MemPlace} {ts : List TypeId} {ds : List (DataW H)} {j : Nat}

theorem openSlice {α : Type} {t e : TypeId} {B : Nat} {k : Kd α} {good : α → Prop} (hu : Tryd.prog.underlying t = some (.slice e)) (he : Opens e k good) (hc : Tryd.prog.cellsOf e = k.sz) (hB : Tryd.prog.bytesOf e = B)
    (hsz : (DataW.weightsEach Tryd.prog ts ds).all (· ≤ reachBytes) = true) (ht : ts[j]? = some t) (hd : ds[j]? = some d) (hv : Value.okWide Tryd.prog W r b0 t v) (h : DataW.Trod enc Tryd.prog W base spare held t v d ps) :
    ∃ (A : Option Addr) (c : Nat) (l : List α), v = .slice A l.length c ∧ k.C W A l.length l ∧ l.length * B ≤ 140737488351232 ∧ l.length ≤ c ∧ ∀ x ∈ l, good x := by
  obtain ⟨a, len, cap, rfl⟩ := okWide_slice hu hv
  obtain ⟨fuel, hf⟩ := h
  obtain ⟨l, ⟨A, c, hcs, hlc, hC⟩, hb, hg⟩ := (Opens.slice hu he hc hB) H enc W base spare held fuel _ _ hf (fun n hn => by
    have := List.all_eq_true.1 hsz n (DataW.weights_mem_each ht hd n hn)
    simpa using this)
  simp [Value.cells] at hcs
  obtain ⟨rfl, rfl, rfl⟩ := hcs
  exact ⟨_, _, l, rfl, hC, hb, hlc, hg⟩
theorem opens_i64 : Opens 3 (Kd.int .i64) (fun a => (Lit.int .i64 a).wf = true) := Opens.int Tryd.underlying3
theorem opens_ints : Opens 38 (Kd.slice 3 (Kd.int .i64)) (fun l => l.length * 8 ≤ 140737488351232 ∧ ∀ x ∈ l, (Lit.int .i64 x).wf = true) := Opens.slice Tryd.underlying38 opens_i64 (by kernel_rfl) (by kernel_rfl)
theorem openInts (hsz : (DataW.weightsEach Tryd.prog ts ds).all (· ≤ reachBytes) = true) (ht : ts[j]? = some 38) (hd : ds[j]? = some d) (hv : Value.okWide Tryd.prog W r b0 38 v) (h : DataW.Trod enc Tryd.prog W base spare held 38 v d ps) :
    ∃ (A : Option Addr) (c : Nat) (l : List Int), v = .slice A l.length c ∧ Kd.C (Kd.int .i64) W A l.length l ∧ l.length * 8 ≤ 140737488351232 ∧ l.length ≤ c ∧ ∀ x ∈ l, (Lit.int .i64 x).wf = true :=
  openSlice Tryd.underlying38 opens_i64 (by kernel_rfl) (by kernel_rfl) hsz ht hd hv h
theorem opens_strings : Opens 22 (Kd.slice 9 Kd.string) (fun l => l.length * 16 ≤ 140737488351232 ∧ ∀ x ∈ l, x.size ≤ 140737488351232) := Opens.slice Tryd.underlying22 (Opens.string Tryd.underlying9) (by kernel_rfl) (by kernel_rfl)
theorem openStrings (hsz : (DataW.weightsEach Tryd.prog ts ds).all (· ≤ reachBytes) = true) (ht : ts[j]? = some 22) (hd : ds[j]? = some d) (hv : Value.okWide Tryd.prog W r b0 22 v) (h : DataW.Trod enc Tryd.prog W base spare held 22 v d ps) :
    ∃ (A : Option Addr) (c : Nat) (l : List ByteArray), v = .slice A l.length c ∧ Kd.C Kd.string W A l.length l ∧ l.length * 16 ≤ 140737488351232 ∧ l.length ≤ c ∧ ∀ x ∈ l, x.size ≤ 140737488351232 :=
  openSlice Tryd.underlying22 (Opens.string Tryd.underlying9) (by kernel_rfl) (by kernel_rfl) hsz ht hd hv h
theorem opens_rule : Opens 56 KRule (fun x => (Lit.int .i64 x.1).wf = true ∧ x.2.length * 8 ≤ 140737488351232 ∧ ∀ s ∈ x.2, (Lit.int .i64 s).wf = true) := Opens.pair Tryd.underlying56 rfl rfl (by kernel_rfl) (by kernel_rfl) (by kernel_rfl) opens_i64 opens_ints
theorem openRules (hsz : (DataW.weightsEach Tryd.prog ts ds).all (· ≤ reachBytes) = true) (ht : ts[j]? = some 23) (hd : ds[j]? = some d) (hv : Value.okWide Tryd.prog W r b0 23 v) (h : DataW.Trod enc Tryd.prog W base spare held 23 v d ps) :
    ∃ (A : Option Addr) (c : Nat) (l : List (Int × List Int)), v = .slice A l.length c ∧ KRule.C W A l.length l ∧ l.length * 32 ≤ 140737488351232 ∧ l.length ≤ c ∧ ∀ x ∈ l, (Lit.int .i64 x.1).wf = true ∧ x.2.length * 8 ≤ 140737488351232 ∧ ∀ s ∈ x.2, (Lit.int .i64 s).wf = true :=
  openSlice Tryd.underlying23 opens_rule (by kernel_rfl) (by kernel_rfl) hsz ht hd hv h
/-- What the weights allow. -/
structure GramB (g : Gr) : Prop where
  terms : g.terms.length * 16 ≤ 140737488351232
  nonterms : g.nonterms.length * 16 ≤ 140737488351232
  rules : g.rules.length * 32 ≤ 140737488351232
  right : ∀ r ∈ g.rules, r.2.length * 8 ≤ 140737488351232
  ax : (Lit.int .i64 g.ax).wf = true
  nums : ∀ r ∈ g.rules, (Lit.int .i64 r.1).wf = true ∧ ∀ s ∈ r.2, (Lit.int .i64 s).wf = true
  names : (∀ s ∈ g.terms, s.size ≤ 140737488351232) ∧ ∀ s ∈ g.nonterms, s.size ≤ 140737488351232
theorem openGrammar (hsz : (DataW.weightsEach Tryd.prog ts ds).all (· ≤ reachBytes) = true) (ht : ts[j]? = some 25) (hd : ds[j]? = some d) (hv : Value.okWide Tryd.prog W r b0 25 v) (h : DataW.Trod enc Tryd.prog W base spare held 25 v d ps) :
    ∃ (g : Gr) (u : Value), v = u ∧ GramAt W u g ∧ GramB g := by
  obtain ⟨v0, v1, v2, v3, y0, y1, y2, y3, n, rfl, rfl, rfl, h0, h1, h2, h3⟩ := Joins.open_agg4 Tryd.underlying25 (by kernel_rfl) (by kernel_rfl) hv h
  have hw : ∀ k ∈ (DataW.agg [y0.1, y1.1, y2.1, y3.1]).weights Tryd.prog 25, k ≤ reachBytes := fun k hk => by
    have := List.all_eq_true.1 hsz k (DataW.weights_mem_each ht hd k hk)
    simpa using this
  simp only [DataW.weights, Tryd.underlying25, List.map_cons, List.map_nil, DataW.weightsEach, List.append_nil, List.mem_append] at hw
  obtain ⟨lT, ⟨AT, cT, e0, p0, q0⟩, b0, g0⟩ := opens_strings H enc W base spare held n _ _ h0 (fun k hk => hw k (.inl hk))
  obtain ⟨lN, ⟨AN, cN, e1, p1, q1⟩, b1, g1⟩ := opens_strings H enc W base spare held n _ _ h1 (fun k hk => hw k (.inr (.inl hk)))
  obtain ⟨ax, e2, _, b2⟩ := DataW.trod_int Tryd.underlying3 h2
  obtain ⟨lR, ⟨AR, cR, e3, p3, q3⟩, b3, g3⟩ := (Opens.slice Tryd.underlying23 opens_rule (by kernel_rfl) (by kernel_rfl) : Opens _ (Kd.slice 56 KRule) (fun l => l.length * 32 ≤ 140737488351232 ∧ _)) H enc W base spare held n _ _ h3 (fun k hk => hw k (.inr (.inr (.inr hk))))
  simp only [List.cons.injEq, and_true] at e0 e1 e2 e3
  subst e0 e1 e2 e3
  exact ⟨⟨lT, lN, ax, lR⟩, _, rfl, ⟨AT, cT, AN, cN, AR, cR, rfl, p0, p1, p3, q0, q1, q3⟩, ⟨b0, b1, b3, fun r hr => (g3 r hr).2.1, b2, fun r hr => ⟨(g3 r hr).1, (g3 r hr).2.2⟩, g0, g1⟩⟩
end
end Go.Proofs.YtagcmhnanngfbaaDoor.Hand
/- The package's errors, as the row lists them: each variable holds a pointer of its own. -/
namespace Go.Proofs.YtagcmhnanngfbaaDoor.Hand
open Go.ChangeShapes
open Go.RowKit Go.Proofs.YtagcmhnanngfbaaDoorW.PrintWords Go.Proofs.YtagcmhnanngfbaaDoorW.PrintMore Go.Proofs.YtagcmhnanngfbaaDoor.Math

theorem laid_list {P : Program} {W : World} {nm : String} {ti tp te ts : TypeId} {ms : Array (String × TypeId)} {f : Field}
    (hi : P.underlying ti = some (.interface ms)) (hrow : ∀ u, P.typeName? 3 u = some nm → u = tp)
    (hp : P.underlying tp = some (.pointer te)) (he : P.underlying te = some (.struct #[f])) (hft : f.type = ts) (hfo : f.offset = 0) (hs : P.underlying ts = some .string) (hc : P.cellsOf te = 1) (hcs : P.cellsOf ts = 1) :
    ∀ (l : List (String × DataW Unit)) (ps : List MemPlace), DataW.LaidVars P W l ps → ps.Nodup →
      (∀ b off, MemPlace.cell b off ∈ ps → (∃ c t, W.heap[b]? = some (.cells c t (0, 0))) ∧ ∀ u v, W.cell? ⟨b, off, none⟩ = some (.iface u v) → Value.okWide P W .any 0 u v) →
      (∀ x ∈ l, (∃ text, x.2 = .iface nm (.ptr (.agg [.lit (.string text)]))) ∧ ∃ g, P.globalNamed x.1 = some g ∧ (P.globals[g]?).map (·.type) = some ti) →
      ∃ As : List Addr, As.length = l.length ∧ (∀ a ∈ As, MemPlace.cell a.block a.off ∈ ps) ∧ As.Nodup ∧ ∀ (i : Nat) (x : String × DataW Unit) (a : Addr), l[i]? = some x → As[i]? = some a → ∀ g, P.globalNamed x.1 = some g → W.cell? ⟨g, 0, none⟩ = some (.iface tp (.pointer (some a)))
  | [], ps, _, _, _, _ => ⟨[], rfl, fun a h => absurd h (List.not_mem_nil), List.nodup_nil, fun i x a h => by rw [List.getElem?_nil] at h; cases h⟩
  | (n, d) :: r, ps, h, hnd, hrows, hall => by
    obtain ⟨g, t, cs, fuel, p, q, hg, ht, hv, hd, hr, rfl⟩ := h
    obtain ⟨⟨text, hd2⟩, g2, hg2, ht2⟩ := hall (n, d) (List.mem_cons_self ..)
    simp only at hd2 hg2
    subst hd2
    obtain rfl := Option.some.inj (hg.symm.trans hg2)
    obtain rfl := Option.some.inj (ht.symm.trans ht2)
    obtain ⟨l0⟩ := cs
    have ok0 : ∀ u v, l0 = [.iface u v] → Value.okWide P W .any 0 u v := fun u v e => by
      subst e
      exact (hrows g 0 (by simp [MemPlace.row])).2 u v (by simpa using World.var?_cell hg hv 0)
    obtain ⟨a0, s0, rfl, hc0, hs0, hz0, rfl⟩ := errorString_of_trod hi hrow hp he hft hfo hs hc hcs hd ok0
    have hq : q.Nodup := (List.nodup_append.1 hnd).2.1
    obtain ⟨As, k1, k2, k3, k4⟩ := laid_list hi hrow hp he hft hfo hs hc hcs r q hr hq (fun b off hm => hrows b off (List.mem_append_right _ hm)) (fun x hx => hall x (List.mem_cons_of_mem _ hx))
    have hcell : W.cell? ⟨g, 0, none⟩ = some (.iface tp (.pointer (some a0))) := by simpa using World.var?_cell hg hv 0
    refine ⟨a0 :: As, by simp [k1], ?_, ?_, ?_⟩
    · intro a ha
      rcases List.mem_cons.1 ha with rfl | ha
      · exact List.mem_append_left _ (List.mem_append_right _ (by simp [MemPlace.row]))
      · exact List.mem_append_right _ (k2 a ha)
    · refine List.nodup_cons.2 ⟨fun hm => ?_, k3⟩
      exact (List.nodup_append.1 hnd).2.2 _ (List.mem_append_right _ (by simp [MemPlace.row] : MemPlace.cell a0.block a0.off ∈ MemPlace.row a0 1)) _ (k2 a0 hm) rfl
    · intro i x a hx ha g' hg'
      cases i with
      | zero =>
        simp only [List.getElem?_cons_zero, Option.some.injEq] at hx ha
        subst hx ha
        obtain rfl := Option.some.inj (hg.symm.trans hg')
        exact hcell
      | succ i =>
        simp only [List.getElem?_cons_succ] at hx ha
        exact k4 i x a hx ha g' hg'
theorem star_err : "*" ++ "errors.errorString" = "*errors.errorString" := by decide
theorem laid_errs {l : List (String × DataW Unit)} {W : World} (h : laidMetH Tryd.prog l W) (hp : (l.all fun x => x.2.handleName?.isNone) = true)
    (hall : ∀ x ∈ l, (∃ text, x.2 = .iface "*errors.errorString" (.ptr (.agg [.lit (.string text)]))) ∧ ∃ g, Tryd.prog.globalNamed x.1 = some g ∧ (Tryd.prog.globals[g]?).map (·.type) = some 30)
    (hn : l.map (fun x => Tryd.prog.globalNamed x.1) = GE.map some) : ∃ A, Errs W A := by
  rw [MakeChecks.laidMetH_plain _ _ _ hp] at h
  obtain ⟨ps, hv, hnd, hrows⟩ := h
  obtain ⟨As, k1, k2, k3, k4⟩ := laid_list Tryd.underlying30 (tp := 141) (fun u hu => typeName_ptr_named (nm := "errors.errorString") (by rw [star_err]; kernel_rfl) (by kernel_rfl) (by decide) u (by rw [star_err]; exact hu)) Tryd.underlying141 Tryd.underlying166 rfl rfl Tryd.underlying9 (by kernel_rfl) (by kernel_rfl) l ps hv hnd hrows hall
  have hl : l.length = 15 := by have := congrArg List.length hn; simpa [GE] using this
  have hget : ∀ i, i < 15 → ∃ a, As[i]? = some a ∧ As.getD i ⟨0, 0, none⟩ = a := fun i hi => ⟨As[i]'(by omega), List.getElem?_eq_getElem _, by simp [List.getD, List.getElem?_eq_getElem (show i < As.length by omega)]⟩
  refine ⟨fun i => As.getD i ⟨0, 0, none⟩, ⟨fun i hi => ?_, fun i hi => ?_, fun i j hi hj e => ?_⟩⟩
  · obtain ⟨a, e1, e2⟩ := hget i hi
    have hx : l[i]? = some l[i] := List.getElem?_eq_getElem _
    have hg : Tryd.prog.globalNamed (l[i]'(by omega)).1 = some (GE.getD i 0) := by
      have := congrArg (fun z => z[i]?) hn
      simp only [List.getElem?_map, hx, Option.map_some] at this
      have h2 : GE[i]? = some (GE.getD i 0) := by
        have hi2 : i < GE.length := by simpa [GE] using hi
        simp [List.getD, List.getElem?_eq_getElem hi2]
      rw [h2] at this
      simpa using this
    show W.cell? _ = some (.iface _ (.pointer (some (As.getD i _))))
    rw [e2]
    exact k4 i _ a hx e1 _ hg
  · obtain ⟨a, e1, e2⟩ := hget i hi
    show ∃ c t, W.heap[(As.getD i _).block]? = _
    rw [e2]
    exact (hrows a.block a.off (k2 a (List.mem_of_getElem? e1))).1
  · obtain ⟨a, e1, e2⟩ := hget i hi
    obtain ⟨b, e3, e4⟩ := hget j hj
    have e : As.getD i _ = As.getD j _ := e
    rw [e2, e4] at e
    subst e
    exact (List.getElem?_inj (show i < As.length by omega) k3).1 (e1.trans e3.symm)
/-- Is it the datum of an error of errors.New? -/
def sentB (d : DataW Unit) : Bool := match d with | .iface nm (.ptr (.agg [.lit (.string _)])) => nm == "*errors.errorString" | _ => false
theorem sentB_spec {d : DataW Unit} (h : sentB d = true) : ∃ text, d = .iface "*errors.errorString" (.ptr (.agg [.lit (.string text)])) := by
  unfold sentB at h
  split at h
  · rename_i nm text
    exact ⟨text, by rw [beq_iff_eq.1 h]⟩
  · cases h
theorem laid_errs' {l : List (String × DataW Unit)} {W : World} (h : laidMetH Tryd.prog l W) (hp : (l.all fun x => x.2.handleName?.isNone) = true)
    (hall : (l.all fun x => sentB x.2 && (((Tryd.prog.globalNamed x.1).bind fun g => (Tryd.prog.globals[g]?).map (·.type)) == some 30)) = true)
    (hn : l.map (fun x => Tryd.prog.globalNamed x.1) = GE.map some) : ∃ A, Errs W A := by
  refine laid_errs h hp (fun x hx => ?_) hn
  have h1 := List.all_eq_true.1 hall x hx
  rw [Bool.and_eq_true, beq_iff_eq] at h1
  obtain ⟨g, hg, ht⟩ := Option.bind_eq_some_iff.1 h1.2
  exact ⟨sentB_spec h1.1, g, hg, ht⟩
end Go.Proofs.YtagcmhnanngfbaaDoor.Hand
/- The walk of UsefulWords. -/
namespace Go.Proofs.YtagcmhnanngfbaaDoor.Hand
open Go.RowKit Go.Proofs.YtagcmhnanngfbaaDoorW.PrintWords Go.Proofs.YtagcmhnanngfbaaDoorW.PrintMore Go.Proofs.YtagcmhnanngfbaaDoor.Math

/-- A list of integers at hand. -/
def ListV (w : World) (v : Value) (l : List Int) : Prop := ∃ A c, v = .slice A l.length c ∧ Kd.C (Kd.int .i64) w A l.length l
theorem ListV.below {w w' : World} {v : Value} {l : List Int} (h : ListV w v l) (hb : Below w.heap.size w w') : ListV w' v l := by
  obtain ⟨A, c, h1, h2⟩ := h
  exact ⟨A, c, h1, Kd.C_below h2 hb⟩
theorem ListV.nil (w : World) : ListV w (.slice none 0 0) [] := ⟨none, 0, rfl, rfl, by simp, fun h => absurd h (by simp)⟩
theorem ListV.row {w : World} {gm N : Nat} {L : Nat → Int} (h : Row w gm N (fun q => .int .i64 (L q))) (hN : N ≤ 60) : ListV w (.slice (some ⟨gm, 0, none⟩) N N) ((List.range N).map L) := by
  have hl : ((List.range N).map L).length = N := by simp
  refine ⟨some ⟨gm, 0, none⟩, N, by rw [hl], rfl, by omega, fun _ => ⟨_, rfl, fun j q hj => ?_⟩⟩
  have hjN : j < N := by
    have := (List.getElem?_eq_some_iff.1 hj).1
    omega
  have hq : L j = q := by
    rw [List.getElem?_map, List.getElem?_range hjN] at hj
    exact Option.some.inj hj
  refine ⟨[.int .i64 q], rfl, rfl, fun i u hu => ?_⟩
  cases i with
  | zero =>
    have hu' : Value.int .i64 q = u := by simpa using hu
    subst hu'
    have := h.cell j hjN
    rw [hq] at this
    have e : (Addr.add ⟨gm, 0, none⟩ (j * (Kd.int .i64).sz + 0)) = ⟨gm, j, none⟩ := by
      rw [show (Kd.int .i64).sz = 1 from rfl]
      unfold Addr.add
      split
      · rename_i h0; rw [show j = 0 by omega]
      · simp
    rw [e]
    exact this
  | succ i => simp at hu
section
open Classical
/-- The lengths of shortest words. -/
noncomputable def lenF (g : Gr) : Nat → Int := if h : ∃ L, LenIs g.rules g.nonterms.length L then Classical.choose h else fun _ => -1
theorem lenF_eq {g : Gr} {L : Nat → Int} (h : LenIs g.rules g.nonterms.length L) {k : Nat} (hk : k < g.nonterms.length) : L k = lenF g k := by
  have he : ∃ L, LenIs g.rules g.nonterms.length L := ⟨L, h⟩
  unfold lenF
  rw [dif_pos he]
  exact h.eq (Classical.choose_spec he) hk
noncomputable def shL (g : Gr) : List Int := if (checkN g).1 = 0 then (List.range g.nonterms.length).map (lenF g) else []
theorem shL_eq {g : Gr} {L : Nat → Int} (hc : (checkN g).1 = 0) (h : LenIs g.rules g.nonterms.length L) : (List.range g.nonterms.length).map L = shL g := by
  unfold shL
  rw [if_pos hc]
  exact List.map_congr_left (fun k hk => lenF_eq h (List.mem_range.1 hk))
noncomputable def wdF (g : Gr) (x : Nat) : List Int := if h : ∃ q, WordIs g.rules x q then Classical.choose h else []
theorem wdF_eq {g : Gr} {x : Nat} {q : List Int} (h : WordIs g.rules x q) : q = wdF g x := by
  have he : ∃ q, WordIs g.rules x q := ⟨q, h⟩
  unfold wdF
  rw [dif_pos he]
  exact h.eq (Classical.choose_spec he)
/-- Which error Word tells; the row. -/
noncomputable def wdK (g : Gr) (x : Int) : Nat := if (checkN g).1 ≠ 0 then (checkN g).1 else if x < 0 ∨ (g.nonterms.length : Int) ≤ x then 1 else if lenF g x.toNat < 0 then 15 else if 65536 < lenF g x.toNat then 12 else 0
noncomputable def wdL (g : Gr) (x : Int) : List Int := if wdK g x = 0 then wdF g x.toNat else []
theorem wdK_err {g : Gr} {x : Int} (h : ¬ (checkN g).1 = 0) : wdK g x = (checkN g).1 := by unfold wdK; rw [if_pos h]
theorem wdK_arg {g : Gr} {x : Int} (h : (checkN g).1 = 0) (hx : x < 0 ∨ (g.nonterms.length : Int) ≤ x) : wdK g x = 1 := by unfold wdK; rw [if_neg (by simp [h]), if_pos hx]
theorem wdK_in {g : Gr} {x : Int} (h : (checkN g).1 = 0) (h0 : 0 ≤ x) (h1 : x < g.nonterms.length) : wdK g x = if lenF g x.toNat < 0 then 15 else if 65536 < lenF g x.toNat then 12 else 0 := by unfold wdK; rw [if_neg (by simp [h]), if_neg (by omega)]
theorem wdL_no {g : Gr} {x : Int} (h : ¬ wdK g x = 0) : wdL g x = [] := by unfold wdL; rw [if_neg h]
theorem wdL_yes {g : Gr} {x : Int} (h : wdK g x = 0) {q : List Int} (hq : WordIs g.rules x.toNat q) : q = wdL g x := by unfold wdL; rw [if_pos h]; exact wdF_eq hq
end
theorem ushortL_calls (v : Value) (g : Gr) (w : World) (A : Nat → Addr) (hE : Errs w A) (hv : GramAt w v g) :
    Calls Tryd.prog 17 #[v] w fun e w' => ∃ B c u r, e = .returned (.tuple #[.slice B (shL g).length c, u]) ∧ Kd.C (Kd.int .i64) w' B (shL g).length (shL g) ∧ ErrV w' A u (checkN g).1 r ∧ Below w.heap.size w w' := by
  refine (ushortest_calls v g w A hE hv).mono ?_
  rintro e w' (⟨u, rfl, hk, hu, hb⟩ | ⟨gm, L, rfl, hk, hr, hL, hg, hb⟩)
  · have hl : shL g = [] := by unfold shL; rw [if_neg hk]
    rw [hl]
    obtain ⟨B, c, e1, e2⟩ := ListV.nil w'
    exact ⟨B, c, u, _, by rw [e1], e2, hu, hb⟩
  · obtain ⟨z1, z2, _⟩ := checkN_zero hk
    obtain ⟨B, c, e1, e2⟩ := ListV.row hr (by omega)
    rw [shL_eq hk hL] at e1 e2
    exact ⟨B, c, .nilIface, -1, by rw [e1], e2, by rw [hk]; exact .none, hb⟩
theorem rshortL_calls (v : Value) (g : Gr) (w : World) (hv : GramAt w v g) :
    Calls Tryd.prog 18 #[v] w fun e w' => ∃ B c, e = .returned (.tuple #[.slice B (shL g).length c, .int .i64 ((checkN g).1 : Nat)]) ∧ Kd.C (Kd.int .i64) w' B (shL g).length (shL g) ∧ Below w.heap.size w w' := by
  refine (rshortest_calls v g w hv).mono ?_
  rintro e w' (⟨rfl, hk, hb⟩ | ⟨gm, L, rfl, hk, hr, hL, hg, hb⟩)
  · have hl : shL g = [] := by unfold shL; rw [if_neg hk]
    rw [hl]
    obtain ⟨B, c, e1, e2⟩ := ListV.nil w'
    exact ⟨B, c, by rw [e1], e2, hb⟩
  · obtain ⟨z1, z2, _⟩ := checkN_zero hk
    obtain ⟨B, c, e1, e2⟩ := ListV.row hr (by omega)
    rw [shL_eq hk hL] at e1 e2
    exact ⟨B, c, by rw [e1, hk]; rfl, e2, hb⟩
theorem uwordL_calls (v : Value) (g : Gr) (x : Int) (w : World) (A : Nat → Addr) (hE : Errs w A) (hv : GramAt w v g) :
    Calls Tryd.prog 19 #[v, .int .i64 x] w fun e w' => ∃ B c u r, e = .returned (.tuple #[.slice B (wdL g x).length c, u]) ∧ Kd.C (Kd.int .i64) w' B (wdL g x).length (wdL g x) ∧ ErrV w' A u (wdK g x) r ∧ Below w.heap.size w w' := by
  refine (uword_calls v g x w A hE hv).mono ?_
  rintro e w' ⟨v', u, rfl, hb, h⟩
  have nil : ∀ r, wdK g x = r → ¬ r = 0 → v' = .slice none 0 0 → ∀ q, ErrV w' A u r q → ∃ B c u' r', Ending.returned (.tuple #[v', u]) = .returned (.tuple #[.slice B (wdL g x).length c, u']) ∧ Kd.C (Kd.int .i64) w' B (wdL g x).length (wdL g x) ∧ ErrV w' A u' (wdK g x) r' ∧ Below w.heap.size w w' := by
    intro r hr h0 hv' q hu
    rw [wdL_no (by rw [hr]; exact h0), hr, hv']
    obtain ⟨B, c, e1, e2⟩ := ListV.nil w'
    exact ⟨B, c, u, q, by rw [e1], e2, hu, hb⟩
  rcases h with ⟨h1, h2, h3⟩ | ⟨h1, h2, h3, h4⟩ | ⟨h1, h2, h3, L, hL, h4⟩
  · exact nil _ (wdK_err h1) h1 h2 _ h3
  · exact nil _ (wdK_arg h1 h2) (by decide) h3 _ h4
  · have hk := wdK_in h1 h2 h3
    have hl := lenF_eq hL (k := x.toNat) (by omega)
    rw [← hl] at hk
    rcases h4 with ⟨i1, i2, i3⟩ | ⟨i1, i2, i3⟩ | ⟨i1, i2, i3, ad, c, q, i4, i5, i6⟩
    · exact nil _ (by rw [hk, if_pos i1]) (by decide) i2 _ i3
    · exact nil _ (by rw [hk, if_neg (by omega), if_pos i1]) (by decide) i2 _ i3
    · have hz : wdK g x = 0 := by rw [hk, if_neg (by omega), if_neg (by omega)]
      have hq := wdL_yes hz i4
      rw [← hq, hz]
      exact ⟨some ad, c, u, -1, by rw [i5], i6, by rw [i3]; exact .none, hb⟩
theorem rwordL_calls (v : Value) (g : Gr) (x : Int) (w : World) (hv : GramAt w v g) :
    Calls Tryd.prog 20 #[v, .int .i64 x] w fun e w' => ∃ B c, e = .returned (.tuple #[.slice B (wdL g x).length c, .int .i64 (wdK g x : Nat)]) ∧ Kd.C (Kd.int .i64) w' B (wdL g x).length (wdL g x) ∧ Below w.heap.size w w' := by
  refine (rword_calls v g x w hv).mono ?_
  rintro e w' ⟨v', u, rfl, hb, h⟩
  have nil : ∀ r : Nat, wdK g x = r → ¬ r = 0 → v' = .slice none 0 0 → u = (r : Int) → ∃ B c, Ending.returned (.tuple #[v', .int .i64 u]) = .returned (.tuple #[.slice B (wdL g x).length c, .int .i64 (wdK g x : Nat)]) ∧ Kd.C (Kd.int .i64) w' B (wdL g x).length (wdL g x) ∧ Below w.heap.size w w' := by
    intro r hr h0 hv' hu
    rw [wdL_no (by rw [hr]; exact h0), hr, hv', hu]
    obtain ⟨B, c, e1, e2⟩ := ListV.nil w'
    exact ⟨B, c, by rw [e1], e2, hb⟩
  rcases h with ⟨h1, h2, h3⟩ | ⟨h1, h2, h3, h4⟩ | ⟨h1, h2, h3, L, hL, h4⟩
  · exact nil _ (wdK_err h1) h1 h2 h3
  · exact nil 1 (wdK_arg h1 h2) (by decide) h3 h4
  · have hk := wdK_in h1 h2 h3
    have hl := lenF_eq hL (k := x.toNat) (by omega)
    rw [← hl] at hk
    rcases h4 with ⟨i1, i2, i3⟩ | ⟨i1, i2, i3⟩ | ⟨i1, i2, i3, ad, c, q, i4, i5, i6⟩
    · exact nil 15 (by rw [hk, if_pos i1]) (by decide) i2 i3
    · exact nil 12 (by rw [hk, if_neg (by omega), if_pos i1]) (by decide) i2 i3
    · have hz : wdK g x = 0 := by rw [hk, if_neg (by omega), if_neg (by omega)]
      have hq := wdL_yes hz i4
      rw [← hq, hz]
      exact ⟨some ad, c, by rw [i5, i3]; rfl, i6, hb⟩
theorem ints_same (A B : Option Addr) (c d : Nat) (l : List Int) (w : World) (hr : Kd.C (Kd.int .i64) w A l.length l) (hq : Kd.C (Kd.int .i64) w B l.length l) : Quiet 21 #[.slice A l.length c, .slice B l.length d] w (.bool true) := by
  have := ints_calls A B c d l l w hr hq
  rwa [decide_eq_true rfl] at this
set_option maxHeartbeats 1600000 in
set_option maxRecDepth 20000 in
theorem usefulWords_walk {w : World} (g : Gr) (v : Value) (hg : GramAt w v g ∧ GramB g) (x : Int) (hE : ∃ A, Errs w A) :
    Calls Tryd.prog 4 #[v, .int .i64 x] w fun e w' => e = .returned (.bool true) ∧ Below w.heap.size w w' := by
  obtain ⟨hv, hB⟩ := hg
  obtain ⟨A, hE⟩ := hE
  have HV := Lib.hid hv
  obtain ⟨AT, cT, AN, cN, AR, cR, rfl, q1, q2, q3, q4, q5, q6⟩ := hv
  clear q4 q5 q6
  obtain ⟨w1, hw1⟩ : ∃ w1, w.alloc (.cells #[.slice AT g.terms.length cT, .slice AN g.nonterms.length cN, .int .i64 g.ax, .slice AR g.rules.length cR] 25) = w1 := ⟨_, rfl⟩
  have hb1 : Below w.heap.size w w1 := by rw [← hw1]; exact below_alloc (Below.refl _ _) _
  have hk1 : w1.heap[w.heap.size]? = some (.cells #[.slice AT g.terms.length cT, .slice AN g.nonterms.length cN, .int .i64 g.ax, .slice AR g.rules.length cR] 25 (0, 0)) := by rw [← hw1]; exact heap_alloc_new w _
  obtain ⟨c0, c1, c2, c3⟩ := blk_cells2 hk1
  have HB1 := Lib.hid hb1
  have HK1 := Lib.hid hk1
  have HG1 := Lib.hid (HV.out.below hb1)
  have HE1 := Lib.hid (hE.below hb1)
  have HLG := Lib.hid (lentGrammar_calls _ g w1 HG1.out (by have := hB.terms; omega) (by have := hB.nonterms; omega) (by have := hB.rules; omega) (fun r hr => by have := hB.right r hr; omega))
  clear hb1 hk1 hE hB
  go_enter Tryd.func4, Tryd.ntmps4
  go_upto_region 2 with (go_at_call 10; refine HLG.out.mono ?_; rintro e w2 ⟨u, rfl, hu, hb2⟩; have HU := Aside0.mk hu; have HB2 := Lib.hid hb2; obtain ⟨BT, dT, BN, dN, BR, dR, rfl, -⟩ := hu; clear hb2 c0 c1 c2 c3)
  obtain ⟨w4, hw4⟩ : ∃ w4, w2.alloc (.cells #[.slice BT g.terms.length dT, .slice BN g.nonterms.length dN, .int .i64 g.ax, .slice BR g.rules.length dR] 25) = w4 := ⟨_, rfl⟩
  rw [hw4]
  have hb4 : Below w2.heap.size w2 w4 := by rw [← hw4]; exact below_alloc (Below.refl _ _) _
  have hk4 : w4.heap[w2.heap.size]? = some (.cells #[.slice BT g.terms.length dT, .slice BN g.nonterms.length dN, .int .i64 g.ax, .slice BR g.rules.length dR] 25 (0, 0)) := by rw [← hw4]; exact heap_alloc_new w2 _
  obtain ⟨d0, d1, d2, d3⟩ := blk_cells2 hk4
  have h14 : Below w1.heap.size w1 w4 := below_next HB2.out hb4
  have HE4 := Lib.hid (HE1.out.below h14)
  have HG4 := Lib.hid (HG1.out.below h14)
  have HU4 := Lib.hid (HU.out.below hb4)
  have HKg := Lib.hid (gblk_keep' HK1.out h14)
  have HKu := Lib.hid hk4
  have HB4 := Lib.hid (below_next HB1.out h14)
  clear hw4 hb4 hk4 h14 hw1 HLG
  go_upto_region 6 with (first
    | (go_at_call 17; refine (ushortL_calls _ g w4 A HE4.out HU4.out.plain).mono ?_; rintro e w5 ⟨B5, n5, u5, r5, rfl, hc5, hu5, hb5⟩; have HC5 := Lib.hid hc5; have HU5 := Lib.hid hu5; have HB5 := Lib.hid hb5; obtain ⟨e0, e1, e2, e3⟩ := blk_cells2 (gblk_keep' HKg.out hb5); clear hu5 hb5 hc5 d0 d1 d2 d3)
    | (go_at_call 18; refine (rshortL_calls _ g w5 (HG4.out.below HB5.out)).mono ?_; rintro e w6 ⟨B6, n6, rfl, hc6, hb6⟩; have HC6 := Lib.hid hc6; have P6 := Lib.hid hb6; have HB6 := Lib.hid (below_next HB5.out hb6); obtain ⟨d0, d1, d2, d3⟩ := blk_cells2 (gblk_keep' HKu.out HB6.out); clear hc6 hb6 e0 e1 e2 e3)
    | (go_at_call 19; refine (uwordL_calls _ g x w6 A (HE4.out.below HB6.out) (HU4.out.below HB6.out).plain).mono ?_; rintro e w7 ⟨B7, n7, u7, r7, rfl, hc7, hu7, hb7⟩; have HC7 := Lib.hid hc7; have HU7 := Lib.hid hu7; have Q7 := Lib.hid hb7; have P7 := Lib.hid (below_next P6.out hb7); have HB7 := Lib.hid (below_next HB6.out hb7); obtain ⟨e0, e1, e2, e3⟩ := blk_cells2 (gblk_keep' HKg.out HB7.out); clear hc7 hu7 hb7 d0 d1 d2 d3)
    | (go_at_call 20; refine (rwordL_calls _ g x w7 (HG4.out.below HB7.out)).mono ?_; rintro e w8 ⟨B8, n8, rfl, hc8, hb8⟩; have HC8 := Lib.hid hc8; have P8 := Lib.hid (below_next P7.out hb8); have Q8 := Lib.hid (below_next Q7.out hb8); have R8 := Lib.hid hb8; have HB8 := Lib.hid (below_next HB7.out hb8); clear hc8 hb8 e0 e1 e2 e3))
  obtain ⟨l, hl⟩ : ∃ y, shL g = y := ⟨_, rfl⟩
  obtain ⟨m, hm⟩ : ∃ y, wdL g x = y := ⟨_, rfl⟩
  obtain ⟨k, hk⟩ : ∃ k, (checkN g).1 = k := ⟨_, rfl⟩
  obtain ⟨k2, hk2⟩ : ∃ k, wdK g x = k := ⟨_, rfl⟩
  rw [hl, hm, hk, hk2]
  rw [hl] at HC5 HC6
  rw [hm] at HC7 HC8
  rw [hk] at HU5
  rw [hk2] at HU7
  clear hl hm hk hk2
  have f1 : ((k : Int) == (k : Int)) = true := beq_self_eq_true _
  have f2 : ((k2 : Int) == (k2 : Int)) = true := beq_self_eq_true _
  go_wp2_with (first
    | (go_at_call 16; refine (keptGrammar_calls _ _ g w12 (HU4.out.below HB12.out) (HG4.out.below HB12.out)).mono ?_; rintro e w13 ⟨rfl, hb13⟩; have HB13 := Lib.hid (below_next HB12.out hb13); clear hb13 d0 d1 d2 d3 e0 e1 e2 e3)
    | (go_at_call 21; refine (ints_same B7 B8 n7 n8 m w11 (Kd.C_below HC7.out R11.out) (Kd.C_below HC8.out T11.out)).mono ?_; rintro e w12 ⟨rfl, n1, hw⟩; have HB12 := Lib.hid (show Below w4.heap.size w4 w12 by rw [hw]; exact pw_below_drewN HB11.out _); obtain ⟨d0, d1, d2, d3⟩ := blk_cells2 (gblk_keep' HKu.out HB12.out); obtain ⟨e0, e1, e2, e3⟩ := blk_cells2 (gblk_keep' HKg.out HB12.out); clear hw)
    | (go_at_call 15; refine (kind_calls (HE4.out.below HB10.out) (HU7.out.below R10.out)).mono ?_; rintro e w11 ⟨rfl, hb11⟩; have R11 := Lib.hid (below_next R10.out hb11); have T11 := Lib.hid (below_next T10.out hb11); have HB11 := Lib.hid (below_next HB10.out hb11); clear hb11)
    | (go_at_call 21; refine (ints_same B5 B6 n5 n6 l w9 (Kd.C_below HC5.out P9.out) (Kd.C_below HC6.out Q9.out)).mono ?_; rintro e w10 ⟨rfl, n1, hw⟩; have HB10 := Lib.hid (show Below w4.heap.size w4 w10 by rw [hw]; exact pw_below_drewN HB9.out _); have R10 := Lib.hid (show Below w7.heap.size w7 w10 by rw [hw]; exact pw_below_drewN R9.out _); have T10 := Lib.hid (show Below w8.heap.size w8 w10 by rw [hw]; exact pw_below_drewN T9.out _); clear hw)
    | (go_at_call 15; refine (kind_calls (HE4.out.below HB8.out) (HU5.out.below P8.out)).mono ?_; rintro e w9 ⟨rfl, hb9⟩; have P9 := Lib.hid (below_next P8.out hb9); have Q9 := Lib.hid (below_next Q8.out hb9); have R9 := Lib.hid (below_next R8.out hb9); have T9 := Lib.hid hb9; have HB9 := Lib.hid (below_next HB8.out hb9); clear hb9))
  go_ret
  exact ⟨rfl, below_next HB4.out HB13.out⟩
end Go.Proofs.YtagcmhnanngfbaaDoor.Hand
/- Contracts of package useful: Productive, Reached, Useful. -/
namespace Go.Proofs.YtagcmhnanngfbaaDoor.Hand
open Go.RowKit Go.Proofs.YtagcmhnanngfbaaDoorW.PrintWords Go.Proofs.YtagcmhnanngfbaaDoorW.PrintMore Go.Proofs.YtagcmhnanngfbaaDoor.Math

theorem RD.congr {R : List (Int × List Int)} {ax : Nat} {I J : Nat → Prop} (h : ∀ r ∈ R, AllIn I r.2 ↔ AllIn J r.2) {k : Nat} : RD R ax I k ↔ RD R ax J k := ⟨RD.imp (fun r hr => (h r hr).1), RD.imp (fun r hr => (h r hr).2)⟩
theorem allIn_congr {g : Gr} (hg : GOk g) {I J : Nat → Prop} (h : ∀ k, k < g.nonterms.length → (I k ↔ J k)) : ∀ r ∈ g.rules, AllIn I r.2 ↔ AllIn J r.2 := by
  intro r hr
  constructor <;> intro ha s hs h0
  · exact (h _ (by have := hg.right.sym hr hs; omega)).1 (ha s hs h0)
  · exact (h _ (by have := hg.right.sym hr hs; omega)).2 (ha s hs h0)
/-- What the document says: which 0: productive, 1: reached, 2: useful. -/
noncomputable def usP (g : Gr) : Nat → Nat → Prop
  | 0 => PD g.rules
  | 1 => RD g.rules g.ax.toNat (fun _ => True)
  | _ => fun k => PD g.rules k ∧ RD g.rules g.ax.toNat (PD g.rules) k
open Classical in
noncomputable def usN (g : Gr) (x : Nat) : Nat := if (checkN g).1 = 0 then setOf g.nonterms.length (usP g x) else 0
theorem meet_setOf {N : Nat} (hN : N ≤ 64) {P Q : Nat → Prop} : setOf N P &&& setOf N Q = setOf N (fun k => P k ∧ Q k) := ((setOf_is hN P).meet (setOf_is hN Q)).of hN
theorem setOf_congr {N : Nat} (hN : N ≤ 64) {P Q : Nat → Prop} (h : ∀ k, k < N → (P k ↔ Q k)) : setOf N P = setOf N Q := ((setOf_is hN P).imp h).of hN
theorem setOf_lt {N : Nat} (hN : N ≤ 64) (P : Nat → Prop) : setOf N P < 18446744073709551616 := lt_u64 (setOf_is hN P).lt hN
theorem four_step {a0 a1 a2 a3 : Addr} {v0 v1 v2 v3 : Value} {w3 W w' : World} (h : W.cell? a0 = some v0 ∧ W.cell? a1 = some v1 ∧ W.cell? a2 = some v2 ∧ W.cell? a3 = some v3 ∧ Aside0 (Below w3.heap.size w3 W)) (hb : Below W.heap.size W w') :
    w'.cell? a0 = some v0 ∧ w'.cell? a1 = some v1 ∧ w'.cell? a2 = some v2 ∧ w'.cell? a3 = some v3 ∧ Aside0 (Below w3.heap.size w3 w') := by
  obtain ⟨h0, h1, h2, h3, h4⟩ := h
  exact ⟨(hb.cell (World.block_lt_of_cell? _ _ h0)).trans h0, (hb.cell (World.block_lt_of_cell? _ _ h1)).trans h1, (hb.cell (World.block_lt_of_cell? _ _ h2)).trans h2, (hb.cell (World.block_lt_of_cell? _ _ h3)).trans h3, ⟨below_next h4.out hb⟩⟩
theorem four_drew {p0 p1 p2 p3 : Prop} {w3 W : World} (_h : Aside0 (p0 ∧ p1 ∧ p2 ∧ p3 ∧ Aside0 (Below w3.heap.size w3 W))) (n : Nat) : Below W.heap.size W (W.drewN n) := pw_below_drewN (Below.refl _ _) n
theorem uuseful_calls (v : Value) (g : Gr) (w : World) (hv : GramAt w v g) (hc : GOk g) :
    Calls Tryd.prog 39 #[v] w fun e w' => e = .returned (.int .u64 ((setOf g.nonterms.length (usP g 2) : Nat) : Int)) ∧ Below w.heap.size w w' := by
  have hN : g.nonterms.length ≤ 64 := by have := hc.size; omega
  have HV := Lib.hid hv
  obtain ⟨AT, cT, AN, cN, AR, cR, rfl, q1, q2, q3, q4, q5, q6⟩ := hv
  obtain ⟨w1, hw1⟩ : ∃ w1, w.alloc (.cells #[.slice AT g.terms.length cT, .slice AN g.nonterms.length cN, .int .i64 g.ax, .slice AR g.rules.length cR] 25) = w1 := ⟨_, rfl⟩
  have hb1 : Below w.heap.size w w1 := by rw [← hw1]; exact below_alloc (Below.refl _ _) _
  have hk1 : w1.heap[w.heap.size]? = some (.cells #[.slice AT g.terms.length cT, .slice AN g.nonterms.length cN, .int .i64 g.ax, .slice AR g.rules.length cR] 25 (0, 0)) := by rw [← hw1]; exact heap_alloc_new w _
  obtain ⟨c0, c1, c2, c3⟩ := blk_cells2 hk1
  have HB1 := Lib.hid hb1
  have HK1 := Lib.hid hk1
  have HG := Lib.hid (HV.out.below hb1)
  have HM := Lib.hid (uproductive_calls _ g w1 HG.out hc)
  have HR2 := Lib.hid (fun (W : World) (hW : Below w1.heap.size w1 W) => ureached_calls _ g (setOf g.nonterms.length (PD g.rules)) W (setOf_lt hN _) (HG.out.below hW) hc)
  have HMe := Lib.hid (fun W => meet_calls (setOf g.nonterms.length (PD g.rules)) (setOf g.nonterms.length (RD g.rules g.ax.toNat (fun k => (setOf g.nonterms.length (PD g.rules)).testBit k = true))) (setOf_lt hN _) (setOf_lt hN _) W)
  have HE : Hid (setOf g.nonterms.length (PD g.rules) &&& setOf g.nonterms.length (RD g.rules g.ax.toNat (fun k => (setOf g.nonterms.length (PD g.rules)).testBit k = true)) = setOf g.nonterms.length (usP g 2)) := Lib.hid (by
    rw [meet_setOf hN]
    refine setOf_congr hN (fun k hk => ?_)
    show _ ↔ PD g.rules k ∧ RD g.rules g.ax.toNat (PD g.rules) k
    rw [RD.congr (allIn_congr hc (fun k hk => (setOf_is hN (PD g.rules)).is k hk))])
  clear hb1 hk1 q4 q5 q6 hc hN
  obtain ⟨p, hp⟩ : ∃ p, setOf g.nonterms.length (PD g.rules) = p := ⟨_, rfl⟩
  rw [hp] at HM HR2 HMe HE
  obtain ⟨r, hr⟩ : ∃ r, setOf g.nonterms.length (RD g.rules g.ax.toNat (fun k => p.testBit k = true)) = r := ⟨_, rfl⟩
  rw [hr] at HR2 HMe HE
  clear hp hr
  go_enter Tryd.func39, Tryd.ntmps39
  go_wp2_with (first
    | (go_at_call 36; refine HM.out.mono ?_; rintro e w2 ⟨rfl, hb2⟩; have HB2 := Lib.hid hb2; obtain ⟨d0, d1, d2, d3⟩ := blk_cells2 (gblk_keep' HK1.out hb2); clear hb2 c0 c1 c2 c3)
    | (go_at_call 37; refine (HR2.out w2 HB2.out).mono ?_; rintro e w3 ⟨rfl, hb3⟩; have HB3 := Lib.hid (below_next HB2.out hb3); clear hb3 d0 d1 d2 d3)
    | (go_at_call 58; refine (HMe.out _).mono ?_; rintro e w' ⟨rfl, n, rfl⟩))
  go_ret
  exact ⟨ret_int (by rw [HE.out]), pw_below_drewN (below_next HB1.out HB3.out) _⟩
theorem uProductive_calls (v : Value) (g : Gr) (w : World) (A : Nat → Addr) (hE : Errs w A) (hv : GramAt w v g) :
    Calls Tryd.prog 11 #[v] w fun e w' => ∃ u r, e = .returned (.tuple #[.int .u64 ((usN g 0 : Nat) : Int), u]) ∧ ErrV w' A u (checkN g).1 r ∧ Below w.heap.size w w' := by
  have HV := Lib.hid hv
  obtain ⟨AT, cT, AN, cN, AR, cR, rfl, q1, q2, q3, q4, q5, q6⟩ := hv
  obtain ⟨w1, hw1⟩ : ∃ w1, w.alloc (.cells #[.slice AT g.terms.length cT, .slice AN g.nonterms.length cN, .int .i64 g.ax, .slice AR g.rules.length cR] 25) = w1 := ⟨_, rfl⟩
  have hb1 : Below w.heap.size w w1 := by rw [← hw1]; exact below_alloc (Below.refl _ _) _
  have hk1 : w1.heap[w.heap.size]? = some (.cells #[.slice AT g.terms.length cT, .slice AN g.nonterms.length cN, .int .i64 g.ax, .slice AR g.rules.length cR] 25 (0, 0)) := by rw [← hw1]; exact heap_alloc_new w _
  obtain ⟨c0, c1, c2, c3⟩ := blk_cells2 hk1
  have HB1 := Lib.hid hb1
  have HK1 := Lib.hid hk1
  have HG := Lib.hid (HV.out.below hb1)
  have HCk := Lib.hid (check_calls _ g w1 A (hE.below hb1) HG.out)
  clear hb1 hk1 hE q4 q5 q6
  by_cases hok : (checkN g).1 = 0
  · have HOK := Lib.hid hok
    have HU : Hid (usN g 0 = setOf g.nonterms.length (usP g 0)) := Lib.hid (by unfold usN; rw [if_pos hok])
    have hN : g.nonterms.length ≤ 64 := by have := (GOk.of hok).size; omega
    have HM := Lib.hid (fun (W : World) (hW : Below w1.heap.size w1 W) => (show Calls Tryd.prog 36 _ W fun e w' => e = .returned (.int .u64 ((setOf g.nonterms.length (usP g 0) : Nat) : Int)) ∧ Below W.heap.size W w' from uproductive_calls _ g W (HG.out.below hW) (GOk.of hok)))
    clear hok
    go_enter Tryd.func11, Tryd.ntmps11
    go_wp2_with (first | (go_at_call 35; refine HCk.out.mono ?_; rintro e w2 ⟨u, rfl, hu, hb2⟩; have HB2 := Lib.hid hb2; obtain rfl := hu.nil_of HOK.out; obtain ⟨d0, d1, d2, d3⟩ := blk_cells2 (gblk_keep' HK1.out hb2); clear hu hb2 c0 c1 c2 c3) | (go_at_call 36; refine (HM.out w2 HB2.out).mono ?_; rintro e w3 ⟨rfl, hb3⟩; have HB3 := Lib.hid hb3; clear hb3))
    go_ret2
    exact ⟨.nilIface, -1, by rw [HU.out]; rfl, by rw [HOK.out]; exact .none, below_next (below_next HB1.out HB2.out) HB3.out⟩
  · have HU : Hid (usN g 0 = 0) := Lib.hid (by unfold usN; rw [if_neg hok])
    have HOK := Lib.hid hok
    clear hok
    go_enter Tryd.func11, Tryd.ntmps11
    go_wp2_with (go_at_call 35; refine HCk.out.mono ?_; rintro e w2 ⟨u, rfl, hu, hb2⟩; have HU2 := Lib.hid hu; have HB2 := Lib.hid hb2; obtain ⟨T, p, hT, rfl⟩ := hu.iface_of HOK.out; clear hu hb2 hT)
    go_ret2
    exact ⟨_, _, by rw [HU.out]; rfl, HU2.out, below_next HB1.out HB2.out⟩
theorem uUseful_calls (v : Value) (g : Gr) (w : World) (A : Nat → Addr) (hE : Errs w A) (hv : GramAt w v g) :
    Calls Tryd.prog 13 #[v] w fun e w' => ∃ u r, e = .returned (.tuple #[.int .u64 ((usN g 2 : Nat) : Int), u]) ∧ ErrV w' A u (checkN g).1 r ∧ Below w.heap.size w w' := by
  have HV := Lib.hid hv
  obtain ⟨AT, cT, AN, cN, AR, cR, rfl, q1, q2, q3, q4, q5, q6⟩ := hv
  obtain ⟨w1, hw1⟩ : ∃ w1, w.alloc (.cells #[.slice AT g.terms.length cT, .slice AN g.nonterms.length cN, .int .i64 g.ax, .slice AR g.rules.length cR] 25) = w1 := ⟨_, rfl⟩
  have hb1 : Below w.heap.size w w1 := by rw [← hw1]; exact below_alloc (Below.refl _ _) _
  have hk1 : w1.heap[w.heap.size]? = some (.cells #[.slice AT g.terms.length cT, .slice AN g.nonterms.length cN, .int .i64 g.ax, .slice AR g.rules.length cR] 25 (0, 0)) := by rw [← hw1]; exact heap_alloc_new w _
  obtain ⟨c0, c1, c2, c3⟩ := blk_cells2 hk1
  have HB1 := Lib.hid hb1
  have HK1 := Lib.hid hk1
  have HG := Lib.hid (HV.out.below hb1)
  have HCk := Lib.hid (check_calls _ g w1 A (hE.below hb1) HG.out)
  clear hb1 hk1 hE q4 q5 q6
  by_cases hok : (checkN g).1 = 0
  · have HOK := Lib.hid hok
    have HU : Hid (usN g 2 = setOf g.nonterms.length (usP g 2)) := Lib.hid (by unfold usN; rw [if_pos hok])
    have hN : g.nonterms.length ≤ 64 := by have := (GOk.of hok).size; omega
    have HM := Lib.hid (fun (W : World) (hW : Below w1.heap.size w1 W) => (uuseful_calls _ g W (HG.out.below hW) (GOk.of hok)))
    clear hok
    go_enter Tryd.func13, Tryd.ntmps13
    go_wp2_with (first | (go_at_call 35; refine HCk.out.mono ?_; rintro e w2 ⟨u, rfl, hu, hb2⟩; have HB2 := Lib.hid hb2; obtain rfl := hu.nil_of HOK.out; obtain ⟨d0, d1, d2, d3⟩ := blk_cells2 (gblk_keep' HK1.out hb2); clear hu hb2 c0 c1 c2 c3) | (go_at_call 39; refine (HM.out w2 HB2.out).mono ?_; rintro e w3 ⟨rfl, hb3⟩; have HB3 := Lib.hid hb3; clear hb3))
    go_ret2
    exact ⟨.nilIface, -1, by rw [HU.out]; rfl, by rw [HOK.out]; exact .none, below_next (below_next HB1.out HB2.out) HB3.out⟩
  · have HU : Hid (usN g 2 = 0) := Lib.hid (by unfold usN; rw [if_neg hok])
    have HOK := Lib.hid hok
    clear hok
    go_enter Tryd.func13, Tryd.ntmps13
    go_wp2_with (go_at_call 35; refine HCk.out.mono ?_; rintro e w2 ⟨u, rfl, hu, hb2⟩; have HU2 := Lib.hid hu; have HB2 := Lib.hid hb2; obtain ⟨T, p, hT, rfl⟩ := hu.iface_of HOK.out; clear hu hb2 hT)
    go_ret2
    exact ⟨_, _, by rw [HU.out]; rfl, HU2.out, below_next HB1.out HB2.out⟩
set_option maxHeartbeats 1000000 in
set_option maxRecDepth 20000 in
theorem uReached_calls (v : Value) (g : Gr) (w : World) (A : Nat → Addr) (hE : Errs w A) (hv : GramAt w v g) :
    Calls Tryd.prog 12 #[v] w fun e w' => ∃ u r, e = .returned (.tuple #[.int .u64 ((usN g 1 : Nat) : Int), u]) ∧ ErrV w' A u (checkN g).1 r ∧ Below w.heap.size w w' := by
  have HV := Lib.hid hv
  obtain ⟨AT, cT, AN, cN, AR, cR, rfl, q1, q2, q3, q4, q5, q6⟩ := hv
  obtain ⟨w1, hw1⟩ : ∃ w1, w.alloc (.cells #[.slice AT g.terms.length cT, .slice AN g.nonterms.length cN, .int .i64 g.ax, .slice AR g.rules.length cR] 25) = w1 := ⟨_, rfl⟩
  have hb1 : Below w.heap.size w w1 := by rw [← hw1]; exact below_alloc (Below.refl _ _) _
  have hk1 : w1.heap[w.heap.size]? = some (.cells #[.slice AT g.terms.length cT, .slice AN g.nonterms.length cN, .int .i64 g.ax, .slice AR g.rules.length cR] 25 (0, 0)) := by rw [← hw1]; exact heap_alloc_new w _
  obtain ⟨c0, c1, c2, c3⟩ := blk_cells2 hk1
  have HB1 := Lib.hid hb1
  have HK1 := Lib.hid hk1
  have HG := Lib.hid (HV.out.below hb1)
  have HCk := Lib.hid (check_calls _ g w1 A (hE.below hb1) HG.out)
  clear hb1 hk1 hE q4 q5 q6
  by_cases hok : (checkN g).1 = 0
  · have HOK := Lib.hid hok
    have HU : Hid (usN g 1 = setOf g.nonterms.length (usP g 1)) := Lib.hid (by unfold usN; rw [if_pos hok])
    have hN : g.nonterms.length ≤ 64 := by have := (GOk.of hok).size; omega
    have HM := Lib.hid (fun (W : World) (hW : Below w1.heap.size w1 W) => ((ureached_calls _ g (fullN 64) W (by decide) (HG.out.below hW) (GOk.of hok)).mono (R' := fun e w' => e = .returned (.int .u64 ((setOf g.nonterms.length (usP g 1) : Nat) : Int)) ∧ Below W.heap.size W w') (by
      rintro e w' ⟨rfl, hb⟩
      refine ⟨?_, hb⟩
      rw [setOf_congr hN (fun k hk => RD.congr (allIn_congr (GOk.of hok) (fun k hk => (show (fullN 64).testBit k = true ↔ True by rw [show fullN 64 = 18446744073709551615 from by decide, max_test, decide_eq_true (by omega : k < 64)]; simp))))]
      rfl)))
    clear hok
    go_enter Tryd.func12, Tryd.ntmps12
    go_wp2_with (first | (go_at_call 35; refine HCk.out.mono ?_; rintro e w2 ⟨u, rfl, hu, hb2⟩; have HB2 := Lib.hid hb2; obtain rfl := hu.nil_of HOK.out; obtain ⟨d0, d1, d2, d3⟩ := blk_cells2 (gblk_keep' HK1.out hb2); clear hu hb2 c0 c1 c2 c3))
    go_region_held3 (fun w' => w'.cell? ⟨w.heap.size, 0, none⟩ = some (.slice AT g.terms.length cT) ∧ w'.cell? ⟨w.heap.size, 1, none⟩ = some (.slice AN g.nonterms.length cN) ∧ w'.cell? ⟨w.heap.size, 2, none⟩ = some (.int .i64 g.ax) ∧ w'.cell? ⟨w.heap.size, 3, none⟩ = some (.slice AR g.rules.length cR) ∧ Aside0 (Below w2.heap.size w2 w'))
      (first
        | (refine ⟨?_, ?_, ?_, ?_, ⟨below_drew1 (Below.refl _ _)⟩⟩ <;> assumption)
        | exact four_step hS.out hb.out
        | (refine ⟨?_, ?_, ?_, ?_, ⟨pw_below_drewN (Below.refl _ _) _⟩⟩ <;> (rw [World.cell?_drewN]; assumption)))
      (first
        | (go_at_call 38; have hS := Aside0.mk (by assumption : _ ∧ _ ∧ _ ∧ _ ∧ Aside0 (Below w2.heap.size w2 _)); refine (full_calls 64 _).mono ?_; rintro e w' ⟨rfl, n, rfl⟩; have hb := Aside0.mk (four_drew hS n))
        | (go_at_call 37; have hS := Aside0.mk (by assumption : _ ∧ _ ∧ _ ∧ _ ∧ Aside0 (Below w2.heap.size w2 _)); refine (HM.out _ (below_next HB2.out hS.out.2.2.2.2.out)).mono ?_; rintro e w3 ⟨rfl, hb3⟩; have hb := Aside0.mk hb3; have HB3 := Aside0.mk (below_next hS.out.2.2.2.2.out hb3); clear hb3))
    go_wp2
    go_ret2
    exact ⟨.nilIface, -1, by rw [HU.out]; rfl, by rw [HOK.out]; exact .none, below_next (below_next HB1.out HB2.out) HB3.out⟩
  · have HU : Hid (usN g 1 = 0) := Lib.hid (by unfold usN; rw [if_neg hok])
    have HOK := Lib.hid hok
    clear hok
    go_enter Tryd.func12, Tryd.ntmps12
    go_wp2_with (go_at_call 35; refine HCk.out.mono ?_; rintro e w2 ⟨u, rfl, hu, hb2⟩; have HU2 := Lib.hid hu; have HB2 := Lib.hid hb2; obtain ⟨T, p, hT, rfl⟩ := hu.iface_of HOK.out; clear hu hb2 hT)
    go_ret2
    exact ⟨_, _, by rw [HU.out]; rfl, HU2.out, below_next HB1.out HB2.out⟩
end Go.Proofs.YtagcmhnanngfbaaDoor.Hand
/- The grammar that the document names in chapter 7: what is useful of it, its shortest rows. -/
namespace Go.Proofs.YtagcmhnanngfbaaDoor.Hand
open Go.RowKit Go.Proofs.YtagcmhnanngfbaaDoorW.PrintWords Go.Proofs.YtagcmhnanngfbaaDoorW.PrintMore Go.Proofs.YtagcmhnanngfbaaDoor.Math

theorem e12 : (-1 - -2 : Int).toNat = 1 := by decide
theorem e13 : (-1 - -3 : Int).toNat = 2 := by decide
def R7 : List (Int × List Int) := [(0, [0, -2]), (0, [-3]), (0, [1]), (1, [0]), (2, [-3, 1]), (3, [0])]
def g7 : Gr := { terms := [⟨#[97]⟩, ⟨#[98]⟩], nonterms := [⟨#[83]⟩, ⟨#[65]⟩, ⟨#[66]⟩, ⟨#[67]⟩], ax := 0, rules := R7 }
theorem g7_names2 (a b : ByteArray) (h1 : a.size = 1) (h2 : b.size = 1) (h : a ≠ b) : NamesOk [a, b] := by
  intro i hi
  have : i = 0 ∨ i = 1 := by simp at hi; omega
  rcases this with rfl | rfl
  · exact ⟨by simp [h1], by simp [h1], by simp⟩
  · exact ⟨by simp [h2], by simp [h2], by simpa using fun e => h e.symm⟩
theorem ba_ne {x y : UInt8} (h : x ≠ y) : (⟨#[x]⟩ : ByteArray) ≠ ⟨#[y]⟩ := by
  intro e
  injection e with e
  have := congrArg (fun a => a[0]?) e
  simp at this
  exact h this
theorem g7_names4 (a b c d : ByteArray) (h1 : a.size = 1) (h2 : b.size = 1) (h3 : c.size = 1) (h4 : d.size = 1) (e1 : b ≠ a) (e2 : c ≠ a) (e3 : c ≠ b) (e4 : d ≠ a) (e5 : d ≠ b) (e6 : d ≠ c) : NamesOk [a, b, c, d] := by
  intro i hi
  have : i = 0 ∨ i = 1 ∨ i = 2 ∨ i = 3 := by simp at hi; omega
  rcases this with rfl | rfl | rfl | rfl
  · exact ⟨by simp [h1], by simp [h1], by simp⟩
  · exact ⟨by simp [h2], by simp [h2], by simpa using e1⟩
  · exact ⟨by simp [h3], by simp [h3], by simpa using ⟨e2, e3⟩⟩
  · exact ⟨by simp [h4], by simp [h4], by simpa using ⟨e4, e5, e6⟩⟩
theorem g7_check : checkN g7 = (0, -1) := by
  unfold checkN
  have hn1 : NamesOk g7.terms := g7_names2 _ _ rfl rfl (ba_ne (by decide))
  have hn2 : NamesOk g7.nonterms := g7_names4 _ _ _ _ rfl rfl rfl rfl (ba_ne (by decide)) (ba_ne (by decide)) (ba_ne (by decide)) (ba_ne (by decide)) (ba_ne (by decide)) (ba_ne (by decide))
  rw [if_neg (by simp [g7, R7]), if_neg (by simp [hn1, hn2]), if_neg (by simp [g7])]
  decide
theorem R7_mem {r : Int × List Int} (h : r ∈ R7) : r = (0, [0, -2]) ∨ r = (0, [-3]) ∨ r = (0, [1]) ∨ r = (1, [0]) ∨ r = (2, [-3, 1]) ∨ r = (3, [0]) := by simpa [R7] using h
theorem g7_pd0 : PD R7 0 := PD.mk (R := R7) (0, [1]) (by simp [R7]) (fun s hs h => by simp at hs; omega)
theorem g7_pd1 : PD R7 1 := PD.mk (R := R7) (1, [0]) (by simp [R7]) (fun s hs h => by simp at hs; omega)
theorem g7_pd2 : ¬ PD R7 2 := by
  intro h
  refine PD.closed (S := fun k => k ≠ 2) (fun r hr ha => ?_) h rfl
  rcases R7_mem hr with rfl | rfl | rfl | rfl | rfl | rfl
  · exact (by decide : (0 : Int).toNat ≠ 2)
  · exact (by decide : (0 : Int).toNat ≠ 2)
  · exact (by decide : (0 : Int).toNat ≠ 2)
  · exact (by decide : (1 : Int).toNat ≠ 2)
  · have h2 := ha (-3) (by simp) (by decide)
    rw [e13] at h2
    exact absurd rfl h2
  · exact (by decide : (3 : Int).toNat ≠ 2)
theorem g7_rd1 : RD R7 0 (PD R7) 1 := by
  have h : RD R7 0 (PD R7) (-1 - -2 : Int).toNat := RD.step (R := R7) (ax := 0) (I := PD R7) (0, [0, -2]) (by simp [R7]) (show RD R7 0 (PD R7) 0 from .base) (fun s hs h0 => by
    simp at hs
    rcases hs with rfl | rfl
    · omega
    · rw [e12]; exact g7_pd1) (-2) (by simp) (by decide)
  rwa [e12] at h
theorem g7_rd3 {k : Nat} (h : RD R7 0 (PD R7) k) : k < 2 := by
  refine RD.closed (S := fun k => k < 2) (by decide) (fun r hr h1 ha s hs h0 => ?_) h
  rcases R7_mem hr with rfl | rfl | rfl | rfl | rfl | rfl
  · simp at hs
    rcases hs with rfl | rfl
    · omega
    · decide
  · have h2 := ha (-3) (by simp) (by decide)
    rw [e13] at h2
    exact absurd h2 g7_pd2
  · simp at hs; omega
  · simp at hs; omega
  · exact absurd h1 (by decide)
  · simp at hs; omega
theorem g7_useful : usN g7 2 = 3 := by
  unfold usN
  rw [if_pos (by rw [g7_check])]
  have h1 : SetIs 4 3 (usP g7 2) := by
    refine ⟨by decide, fun k hk => ?_⟩
    have hr : usP g7 2 k ↔ (PD R7 k ∧ RD R7 0 (PD R7) k) := Iff.rfl
    rw [hr]
    have : k = 0 ∨ k = 1 ∨ k = 2 ∨ k = 3 := by omega
    rcases this with rfl | rfl | rfl | rfl
    · exact ⟨fun _ => ⟨g7_pd0, .base⟩, fun _ => by decide⟩
    · exact ⟨fun _ => ⟨g7_pd1, g7_rd1⟩, fun _ => by decide⟩
    · exact ⟨fun h => absurd h (by decide), fun h => absurd (g7_rd3 h.2) (by decide)⟩
    · exact ⟨fun h => absurd h (by decide), fun h => absurd (g7_rd3 h.2) (by decide)⟩
  exact (h1.of (by decide)).symm
def L7 (k : Nat) : Int := ([1, 1, -1, 1] : List Int).getD k (-1)
def W7 (k : Nat) : Option (List Int) := ([some [1], some [0], none, some [0]] : List (Option (List Int))).getD k none
theorem wd7_0 : WD R7 0 [1] := ⟨(0, [1]), by simp [R7], rfl, .tok (by decide) .nil⟩
theorem wd7_1 : WD R7 1 [0] := ⟨(1, [0]), by simp [R7], rfl, .tok (by decide) .nil⟩
theorem wd7_3 : WD R7 3 [0] := ⟨(3, [0]), by simp [R7], rfl, .tok (by decide) .nil⟩
theorem g7_len : LenIs R7 4 L7 := by
  refine LenIs.of (fun k hk => ?_) (fun i hi => ?_)
  · have : k = 0 ∨ k = 1 ∨ k = 2 ∨ k = 3 := by omega
    rcases this with rfl | rfl | rfl | rfl
    · exact ⟨by decide, by decide, fun _ => ⟨_, wd7_0, by decide⟩⟩
    · exact ⟨by decide, by decide, fun _ => ⟨_, wd7_1, by decide⟩⟩
    · exact ⟨by decide, by decide, fun h => absurd h (by decide)⟩
    · exact ⟨by decide, by decide, fun _ => ⟨_, wd7_3, by decide⟩⟩
  · have : i = 0 ∨ i = 1 ∨ i = 2 ∨ i = 3 ∨ i = 4 ∨ i = 5 := by simp [R7] at hi; omega
    unfold CRl
    rcases this with rfl | rfl | rfl | rfl | rfl | rfl <;> decide
theorem g7_word : WordIs R7 0 [1] := by
  have hS : SoundM R7 4 L7 W7 := by
    intro k hk w hw
    have : k = 0 ∨ k = 1 ∨ k = 2 ∨ k = 3 := by omega
    rcases this with rfl | rfl | rfl | rfl
    · obtain rfl : [1] = w := Option.some.inj hw
      exact ⟨wd7_0, by decide, by decide⟩
    · obtain rfl : [0] = w := Option.some.inj hw
      exact ⟨wd7_1, by decide, by decide⟩
    · cases hw
    · obtain rfl : [0] = w := Option.some.inj hw
      exact ⟨wd7_3, by decide, by decide⟩
  have hsy : ∀ r ∈ R7, ∀ z ∈ r.2, -((4 : Nat) : Int) ≤ z := by
    intro r hr z hz
    rcases R7_mem hr with rfl | rfl | rfl | rfl | rfl | rfl <;> (simp at hz; omega)
  have hc : ∀ i, i < R7.length → CRm R7 L7 W7 i := by
    intro i hi
    have : i = 0 ∨ i = 1 ∨ i = 2 ∨ i = 3 ∨ i = 4 ∨ i = 5 := by simp [R7] at hi; omega
    unfold CRm
    rcases this with rfl | rfl | rfl | rfl | rfl | rfl
    · intro _ _ q hq _
      have e : bldM L7 W7 (L7 (R7.getD 0 (0, [])).1.toNat) (some []) (R7.getD 0 (0, [])).2 = none := by decide
      rw [e] at hq; cases hq
    · intro _ _ q hq _
      have e : bldM L7 W7 (L7 (R7.getD 1 (0, [])).1.toNat) (some []) (R7.getD 1 (0, [])).2 = none := by decide
      rw [e] at hq; cases hq
    · intro _ _ q hq _
      have e : bldM L7 W7 (L7 (R7.getD 2 (0, [])).1.toNat) (some []) (R7.getD 2 (0, [])).2 = some [1] := by decide
      rw [e] at hq
      obtain rfl := Option.some.inj hq
      exact ⟨[1], rfl, by decide⟩
    · intro _ _ q hq _
      have e : bldM L7 W7 (L7 (R7.getD 3 (0, [])).1.toNat) (some []) (R7.getD 3 (0, [])).2 = some [0] := by decide
      rw [e] at hq
      obtain rfl := Option.some.inj hq
      exact ⟨[0], rfl, by decide⟩
    · intro h
      exact absurd h (by decide)
    · intro _ _ q hq _
      have e : bldM L7 W7 (L7 (R7.getD 5 (0, [])).1.toNat) (some []) (R7.getD 5 (0, [])).2 = some [0] := by decide
      rw [e] at hq
      obtain rfl := Option.some.inj hq
      exact ⟨[0], rfl, by decide⟩
  obtain ⟨u, hu, hw⟩ := CRm.least g7_len hS hsy hc (k := 0) (by decide) (by decide) (by decide)
  obtain rfl : [1] = u := Option.some.inj hu
  exact hw
theorem g7_shL : shL g7 = [1, 1, -1, 1] := by
  rw [← shL_eq (g := g7) (L := L7) (by rw [g7_check]) g7_len]
  decide
theorem g7_k0 : wdK g7 0 = 0 := by
  rw [wdK_in (by rw [g7_check]) (by decide) (by decide), ← lenF_eq (g := g7) g7_len (k := (0 : Int).toNat) (by decide)]
  decide
theorem g7_l0 : wdL g7 0 = [1] := (wdL_yes g7_k0 (q := [1]) g7_word).symm
theorem g7_k2 : wdK g7 2 = 15 := by
  rw [wdK_in (by rw [g7_check]) (by decide) (by decide), ← lenF_eq (g := g7) g7_len (k := (2 : Int).toNat) (by decide)]
  decide
theorem g7_l2 : wdL g7 2 = [] := wdL_no (by rw [g7_k2]; decide)

/-- Rules by their cells. -/
theorem rules_C {w : World} {b : Nat} {l : List (Int × List Int)} (hm : l.length ≤ 1000) (h : ∀ j r, l[j]? = some r → w.cell? ⟨b, j * 2, none⟩ = some (.int .i64 r.1) ∧ ∃ A, w.cell? ⟨b, j * 2 + 1, none⟩ = some (.slice A r.2.length r.2.length) ∧ Kd.C (Kd.int .i64) w A r.2.length r.2) : KRule.C w (some ⟨b, 0, none⟩) l.length l := by
  refine ⟨rfl, by omega, fun _ => ⟨_, rfl, fun j r hj => ?_⟩⟩
  obtain ⟨h1, A, h2, h3⟩ := h j r hj
  refine ⟨[.int .i64 r.1, .slice A r.2.length r.2.length], rfl, ⟨[.int .i64 r.1], [.slice A r.2.length r.2.length], rfl, rfl, A, r.2.length, rfl, Nat.le_refl _, h3⟩, fun i u hu => ?_⟩
  have e : ∀ i, (Addr.add ⟨b, 0, none⟩ (j * KRule.sz + i)) = ⟨b, j * 2 + i, none⟩ := by
    intro i
    rw [show KRule.sz = 2 from rfl]
    unfold Addr.add
    split
    · rename_i h0; rw [h0]
    · simp
  rw [e]
  match i, hu with
  | 0, hu => simp at hu; subst hu; exact h1
  | 1, hu => simp at hu; subst hu; exact h2
  | i + 2, hu => simp at hu
def lit7 (w : World) : World := ((((((((((w.alloc (.cells #[.string ⟨#[97]⟩, .string ⟨#[98]⟩] 9)).alloc (.cells #[.string ⟨#[83]⟩, .string ⟨#[65]⟩, .string ⟨#[66]⟩, .string ⟨#[67]⟩] 9)).alloc (.cells #[.int .i64 0, .int .i64 (-2)] 3)).alloc (.cells #[.int .i64 (-3)] 3)).alloc (.cells #[.int .i64 1] 3)).alloc (.cells #[.int .i64 0] 3)).alloc (.cells #[.int .i64 (-3), .int .i64 1] 3)).alloc (.cells #[.int .i64 0] 3)).alloc (.cells #[.int .i64 0, .slice (some ⟨w.heap.size + 1 + 1, 0, none⟩) 2 2, .int .i64 0, .slice (some ⟨w.heap.size + 1 + 1 + 1, 0, none⟩) 1 1, .int .i64 0, .slice (some ⟨w.heap.size + 1 + 1 + 1 + 1, 0, none⟩) 1 1, .int .i64 1, .slice (some ⟨w.heap.size + 1 + 1 + 1 + 1 + 1, 0, none⟩) 1 1, .int .i64 2, .slice (some ⟨w.heap.size + 1 + 1 + 1 + 1 + 1 + 1, 0, none⟩) 2 2, .int .i64 3, .slice (some ⟨w.heap.size + 1 + 1 + 1 + 1 + 1 + 1 + 1, 0, none⟩) 1 1] 56)).alloc (.cells #[.slice (some ⟨w.heap.size, 0, none⟩) 2 2, .slice (some ⟨w.heap.size + 1, 0, none⟩) 4 4, .int .i64 0, .slice (some ⟨w.heap.size + 1 + 1 + 1 + 1 + 1 + 1 + 1 + 1, 0, none⟩) 6 6] 25))
theorem lit7_is (w : World) : GramAt (lit7 w) (.agg #[.slice (some ⟨w.heap.size, 0, none⟩) 2 2, .slice (some ⟨w.heap.size + 1, 0, none⟩) 4 4, .int .i64 0, .slice (some ⟨w.heap.size + 1 + 1 + 1 + 1 + 1 + 1 + 1 + 1, 0, none⟩) 6 6]) g7 ∧ Below w.heap.size w (lit7 w) ∧ (lit7 w).heap[w.heap.size + 1 + 1 + 1 + 1 + 1 + 1 + 1 + 1 + 1]? = some (.cells #[.slice (some ⟨w.heap.size, 0, none⟩) 2 2, .slice (some ⟨w.heap.size + 1, 0, none⟩) 4 4, .int .i64 0, .slice (some ⟨w.heap.size + 1 + 1 + 1 + 1 + 1 + 1 + 1 + 1, 0, none⟩) 6 6] 25 (0, 0)) := by
  unfold lit7
  have z1 : (w.alloc (.cells #[.string ⟨#[97]⟩, .string ⟨#[98]⟩] 9)).heap.size = w.heap.size + 1 := by rw [World.size_alloc]
  have b1 := below_alloc (Below.refl w.heap.size w) (.cells #[.string ⟨#[97]⟩, .string ⟨#[98]⟩] 9)
  have c1 : Kd.C Kd.string (w.alloc (.cells #[.string ⟨#[97]⟩, .string ⟨#[98]⟩] 9)) (some ⟨w.heap.size, 0, none⟩) 2 [⟨#[97]⟩, ⟨#[98]⟩] := by
    have := lit_C (enc := Value.string) (fun _ => rfl) [⟨#[97]⟩, ⟨#[98]⟩] w 9 (by decide)
    exact this
  generalize (w.alloc (.cells #[.string ⟨#[97]⟩, .string ⟨#[98]⟩] 9)) = w1 at *
  have z2 : (w1.alloc (.cells #[.string ⟨#[83]⟩, .string ⟨#[65]⟩, .string ⟨#[66]⟩, .string ⟨#[67]⟩] 9)).heap.size = w.heap.size + 1 + 1 := by rw [World.size_alloc, z1]
  have b2 := below_alloc (Below.refl w1.heap.size w1) (.cells #[.string ⟨#[83]⟩, .string ⟨#[65]⟩, .string ⟨#[66]⟩, .string ⟨#[67]⟩] 9)
  have c2 : Kd.C Kd.string (w1.alloc (.cells #[.string ⟨#[83]⟩, .string ⟨#[65]⟩, .string ⟨#[66]⟩, .string ⟨#[67]⟩] 9)) (some ⟨w.heap.size + 1, 0, none⟩) 4 [⟨#[83]⟩, ⟨#[65]⟩, ⟨#[66]⟩, ⟨#[67]⟩] := by
    have := lit_C (enc := Value.string) (fun _ => rfl) [⟨#[83]⟩, ⟨#[65]⟩, ⟨#[66]⟩, ⟨#[67]⟩] w1 9 (by decide)
    rw [z1] at this
    exact this
  generalize (w1.alloc (.cells #[.string ⟨#[83]⟩, .string ⟨#[65]⟩, .string ⟨#[66]⟩, .string ⟨#[67]⟩] 9)) = w2 at *
  have z3 : (w2.alloc (.cells #[.int .i64 0, .int .i64 (-2)] 3)).heap.size = w.heap.size + 1 + 1 + 1 := by rw [World.size_alloc, z2]
  have b3 := below_alloc (Below.refl w2.heap.size w2) (.cells #[.int .i64 0, .int .i64 (-2)] 3)
  have c3 : Kd.C (Kd.int .i64) (w2.alloc (.cells #[.int .i64 0, .int .i64 (-2)] 3)) (some ⟨w.heap.size + 1 + 1, 0, none⟩) 2 [0, -2] := by
    have := lit_C (enc := Value.int .i64) (fun _ => rfl) [0, -2] w2 3 (by decide)
    rw [z2] at this
    exact this
  generalize (w2.alloc (.cells #[.int .i64 0, .int .i64 (-2)] 3)) = w3 at *
  have z4 : (w3.alloc (.cells #[.int .i64 (-3)] 3)).heap.size = w.heap.size + 1 + 1 + 1 + 1 := by rw [World.size_alloc, z3]
  have b4 := below_alloc (Below.refl w3.heap.size w3) (.cells #[.int .i64 (-3)] 3)
  have c4 : Kd.C (Kd.int .i64) (w3.alloc (.cells #[.int .i64 (-3)] 3)) (some ⟨w.heap.size + 1 + 1 + 1, 0, none⟩) 1 [-3] := by
    have := lit_C (enc := Value.int .i64) (fun _ => rfl) [-3] w3 3 (by decide)
    rw [z3] at this
    exact this
  generalize (w3.alloc (.cells #[.int .i64 (-3)] 3)) = w4 at *
  have z5 : (w4.alloc (.cells #[.int .i64 1] 3)).heap.size = w.heap.size + 1 + 1 + 1 + 1 + 1 := by rw [World.size_alloc, z4]
  have b5 := below_alloc (Below.refl w4.heap.size w4) (.cells #[.int .i64 1] 3)
  have c5 : Kd.C (Kd.int .i64) (w4.alloc (.cells #[.int .i64 1] 3)) (some ⟨w.heap.size + 1 + 1 + 1 + 1, 0, none⟩) 1 [1] := by
    have := lit_C (enc := Value.int .i64) (fun _ => rfl) [1] w4 3 (by decide)
    rw [z4] at this
    exact this
  generalize (w4.alloc (.cells #[.int .i64 1] 3)) = w5 at *
  have z6 : (w5.alloc (.cells #[.int .i64 0] 3)).heap.size = w.heap.size + 1 + 1 + 1 + 1 + 1 + 1 := by rw [World.size_alloc, z5]
  have b6 := below_alloc (Below.refl w5.heap.size w5) (.cells #[.int .i64 0] 3)
  have c6 : Kd.C (Kd.int .i64) (w5.alloc (.cells #[.int .i64 0] 3)) (some ⟨w.heap.size + 1 + 1 + 1 + 1 + 1, 0, none⟩) 1 [0] := by
    have := lit_C (enc := Value.int .i64) (fun _ => rfl) [0] w5 3 (by decide)
    rw [z5] at this
    exact this
  generalize (w5.alloc (.cells #[.int .i64 0] 3)) = w6 at *
  have z7 : (w6.alloc (.cells #[.int .i64 (-3), .int .i64 1] 3)).heap.size = w.heap.size + 1 + 1 + 1 + 1 + 1 + 1 + 1 := by rw [World.size_alloc, z6]
  have b7 := below_alloc (Below.refl w6.heap.size w6) (.cells #[.int .i64 (-3), .int .i64 1] 3)
  have c7 : Kd.C (Kd.int .i64) (w6.alloc (.cells #[.int .i64 (-3), .int .i64 1] 3)) (some ⟨w.heap.size + 1 + 1 + 1 + 1 + 1 + 1, 0, none⟩) 2 [-3, 1] := by
    have := lit_C (enc := Value.int .i64) (fun _ => rfl) [-3, 1] w6 3 (by decide)
    rw [z6] at this
    exact this
  generalize (w6.alloc (.cells #[.int .i64 (-3), .int .i64 1] 3)) = w7 at *
  have z8 : (w7.alloc (.cells #[.int .i64 0] 3)).heap.size = w.heap.size + 1 + 1 + 1 + 1 + 1 + 1 + 1 + 1 := by rw [World.size_alloc, z7]
  have b8 := below_alloc (Below.refl w7.heap.size w7) (.cells #[.int .i64 0] 3)
  have c8 : Kd.C (Kd.int .i64) (w7.alloc (.cells #[.int .i64 0] 3)) (some ⟨w.heap.size + 1 + 1 + 1 + 1 + 1 + 1 + 1, 0, none⟩) 1 [0] := by
    have := lit_C (enc := Value.int .i64) (fun _ => rfl) [0] w7 3 (by decide)
    rw [z7] at this
    exact this
  generalize (w7.alloc (.cells #[.int .i64 0] 3)) = w8 at *
  have z9 : (w8.alloc (.cells #[.int .i64 0, .slice (some ⟨w.heap.size + 1 + 1, 0, none⟩) 2 2, .int .i64 0, .slice (some ⟨w.heap.size + 1 + 1 + 1, 0, none⟩) 1 1, .int .i64 0, .slice (some ⟨w.heap.size + 1 + 1 + 1 + 1, 0, none⟩) 1 1, .int .i64 1, .slice (some ⟨w.heap.size + 1 + 1 + 1 + 1 + 1, 0, none⟩) 1 1, .int .i64 2, .slice (some ⟨w.heap.size + 1 + 1 + 1 + 1 + 1 + 1, 0, none⟩) 2 2, .int .i64 3, .slice (some ⟨w.heap.size + 1 + 1 + 1 + 1 + 1 + 1 + 1, 0, none⟩) 1 1] 56)).heap.size = w.heap.size + 1 + 1 + 1 + 1 + 1 + 1 + 1 + 1 + 1 := by rw [World.size_alloc, z8]
  have b9 := below_alloc (Below.refl w8.heap.size w8) (.cells #[.int .i64 0, .slice (some ⟨w.heap.size + 1 + 1, 0, none⟩) 2 2, .int .i64 0, .slice (some ⟨w.heap.size + 1 + 1 + 1, 0, none⟩) 1 1, .int .i64 0, .slice (some ⟨w.heap.size + 1 + 1 + 1 + 1, 0, none⟩) 1 1, .int .i64 1, .slice (some ⟨w.heap.size + 1 + 1 + 1 + 1 + 1, 0, none⟩) 1 1, .int .i64 2, .slice (some ⟨w.heap.size + 1 + 1 + 1 + 1 + 1 + 1, 0, none⟩) 2 2, .int .i64 3, .slice (some ⟨w.heap.size + 1 + 1 + 1 + 1 + 1 + 1 + 1, 0, none⟩) 1 1] 56)
  have c9 : ∀ q, (w8.alloc (.cells #[.int .i64 0, .slice (some ⟨w.heap.size + 1 + 1, 0, none⟩) 2 2, .int .i64 0, .slice (some ⟨w.heap.size + 1 + 1 + 1, 0, none⟩) 1 1, .int .i64 0, .slice (some ⟨w.heap.size + 1 + 1 + 1 + 1, 0, none⟩) 1 1, .int .i64 1, .slice (some ⟨w.heap.size + 1 + 1 + 1 + 1 + 1, 0, none⟩) 1 1, .int .i64 2, .slice (some ⟨w.heap.size + 1 + 1 + 1 + 1 + 1 + 1, 0, none⟩) 2 2, .int .i64 3, .slice (some ⟨w.heap.size + 1 + 1 + 1 + 1 + 1 + 1 + 1, 0, none⟩) 1 1] 56)).cell? ⟨w.heap.size + 1 + 1 + 1 + 1 + 1 + 1 + 1 + 1, q, none⟩ = (#[.int .i64 0, .slice (some ⟨w.heap.size + 1 + 1, 0, none⟩) 2 2, .int .i64 0, .slice (some ⟨w.heap.size + 1 + 1 + 1, 0, none⟩) 1 1, .int .i64 0, .slice (some ⟨w.heap.size + 1 + 1 + 1 + 1, 0, none⟩) 1 1, .int .i64 1, .slice (some ⟨w.heap.size + 1 + 1 + 1 + 1 + 1, 0, none⟩) 1 1, .int .i64 2, .slice (some ⟨w.heap.size + 1 + 1 + 1 + 1 + 1 + 1, 0, none⟩) 2 2, .int .i64 3, .slice (some ⟨w.heap.size + 1 + 1 + 1 + 1 + 1 + 1 + 1, 0, none⟩) 1 1] : Array Value)[q]? := by
    intro q
    rw [← z8]
    exact World.cell?_alloc_new _ _ _ _
  generalize (w8.alloc (.cells #[.int .i64 0, .slice (some ⟨w.heap.size + 1 + 1, 0, none⟩) 2 2, .int .i64 0, .slice (some ⟨w.heap.size + 1 + 1 + 1, 0, none⟩) 1 1, .int .i64 0, .slice (some ⟨w.heap.size + 1 + 1 + 1 + 1, 0, none⟩) 1 1, .int .i64 1, .slice (some ⟨w.heap.size + 1 + 1 + 1 + 1 + 1, 0, none⟩) 1 1, .int .i64 2, .slice (some ⟨w.heap.size + 1 + 1 + 1 + 1 + 1 + 1, 0, none⟩) 2 2, .int .i64 3, .slice (some ⟨w.heap.size + 1 + 1 + 1 + 1 + 1 + 1 + 1, 0, none⟩) 1 1] 56)) = w9 at *
  have z10 : (w9.alloc (.cells #[.slice (some ⟨w.heap.size, 0, none⟩) 2 2, .slice (some ⟨w.heap.size + 1, 0, none⟩) 4 4, .int .i64 0, .slice (some ⟨w.heap.size + 1 + 1 + 1 + 1 + 1 + 1 + 1 + 1, 0, none⟩) 6 6] 25)).heap.size = w.heap.size + 1 + 1 + 1 + 1 + 1 + 1 + 1 + 1 + 1 + 1 := by rw [World.size_alloc, z9]
  have b10 := below_alloc (Below.refl w9.heap.size w9) (.cells #[.slice (some ⟨w.heap.size, 0, none⟩) 2 2, .slice (some ⟨w.heap.size + 1, 0, none⟩) 4 4, .int .i64 0, .slice (some ⟨w.heap.size + 1 + 1 + 1 + 1 + 1 + 1 + 1 + 1, 0, none⟩) 6 6] 25)
  have c10 : (w9.alloc (.cells #[.slice (some ⟨w.heap.size, 0, none⟩) 2 2, .slice (some ⟨w.heap.size + 1, 0, none⟩) 4 4, .int .i64 0, .slice (some ⟨w.heap.size + 1 + 1 + 1 + 1 + 1 + 1 + 1 + 1, 0, none⟩) 6 6] 25)).heap[w.heap.size + 1 + 1 + 1 + 1 + 1 + 1 + 1 + 1 + 1]? = some (.cells #[.slice (some ⟨w.heap.size, 0, none⟩) 2 2, .slice (some ⟨w.heap.size + 1, 0, none⟩) 4 4, .int .i64 0, .slice (some ⟨w.heap.size + 1 + 1 + 1 + 1 + 1 + 1 + 1 + 1, 0, none⟩) 6 6] 25 (0, 0)) := by rw [← z9]; exact heap_alloc_new _ _
  generalize (w9.alloc (.cells #[.slice (some ⟨w.heap.size, 0, none⟩) 2 2, .slice (some ⟨w.heap.size + 1, 0, none⟩) 4 4, .int .i64 0, .slice (some ⟨w.heap.size + 1 + 1 + 1 + 1 + 1 + 1 + 1 + 1, 0, none⟩) 6 6] 25)) = w10 at *
  have h10 := b10
  have h9 := below_next b9 h10
  have h8 := below_next b8 h9
  have h7 := below_next b7 h8
  have h6 := below_next b6 h7
  have h5 := below_next b5 h6
  have h4 := below_next b4 h5
  have h3 := below_next b3 h4
  have h2 := below_next b2 h3
  have h1 := below_next b1 h2
  have d1 := Kd.C_below c1 h2
  have d2 := Kd.C_below c2 h3
  have d3 := Kd.C_below c3 h4
  have d4 := Kd.C_below c4 h5
  have d5 := Kd.C_below c5 h6
  have d6 := Kd.C_below c6 h7
  have d7 := Kd.C_below c7 h8
  have d8 := Kd.C_below c8 h9
  have d9 : ∀ q v, (#[.int .i64 0, .slice (some ⟨w.heap.size + 1 + 1, 0, none⟩) 2 2, .int .i64 0, .slice (some ⟨w.heap.size + 1 + 1 + 1, 0, none⟩) 1 1, .int .i64 0, .slice (some ⟨w.heap.size + 1 + 1 + 1 + 1, 0, none⟩) 1 1, .int .i64 1, .slice (some ⟨w.heap.size + 1 + 1 + 1 + 1 + 1, 0, none⟩) 1 1, .int .i64 2, .slice (some ⟨w.heap.size + 1 + 1 + 1 + 1 + 1 + 1, 0, none⟩) 2 2, .int .i64 3, .slice (some ⟨w.heap.size + 1 + 1 + 1 + 1 + 1 + 1 + 1, 0, none⟩) 1 1] : Array Value)[q]? = some v → w10.cell? ⟨w.heap.size + 1 + 1 + 1 + 1 + 1 + 1 + 1 + 1, q, none⟩ = some v := fun q v hv => (h10.cell (World.block_lt_of_cell? _ _ ((c9 q).trans hv))).trans ((c9 q).trans hv)
  refine ⟨⟨_, 2, _, 4, _, 6, rfl, by decide, by decide, by decide, d1, d2, ?_⟩, h1, c10⟩
  refine rules_C (l := R7) (by decide) (fun j r hj => ?_)
  match j, hj with
  | 0, hj => obtain rfl : (0, [0, -2]) = r := Option.some.inj hj; exact ⟨d9 0 _ rfl, _, d9 1 _ rfl, d3⟩
  | 1, hj => obtain rfl : (0, [-3]) = r := Option.some.inj hj; exact ⟨d9 2 _ rfl, _, d9 3 _ rfl, d4⟩
  | 2, hj => obtain rfl : (0, [1]) = r := Option.some.inj hj; exact ⟨d9 4 _ rfl, _, d9 5 _ rfl, d5⟩
  | 3, hj => obtain rfl : (1, [0]) = r := Option.some.inj hj; exact ⟨d9 6 _ rfl, _, d9 7 _ rfl, d6⟩
  | 4, hj => obtain rfl : (2, [-3, 1]) = r := Option.some.inj hj; exact ⟨d9 8 _ rfl, _, d9 9 _ rfl, d7⟩
  | 5, hj => obtain rfl : (3, [0]) = r := Option.some.inj hj; exact ⟨d9 10 _ rfl, _, d9 11 _ rfl, d8⟩
  | j + 6, hj => simp [R7] at hj
set_option maxHeartbeats 2000000 in
set_option maxRecDepth 20000 in
theorem known_calls (w : World) (A : Nat → Addr) (hE : Errs w A) :
    Calls Tryd.prog 25 #[] w fun e w' => e = .returned (.bool true) ∧ Below w.heap.size w w' := by
  obtain ⟨hg, hb, hk⟩ := lit7_is w
  have HG1 := Lib.hid hg
  have HB1 := Lib.hid hb
  have HK1 := Lib.hid hk
  have HE1 := Lib.hid (hE.below hb)
  clear hE hg hb hk
  go_enter Tryd.func25, Tryd.ntmps25
  go_upto_region 2 with fail
  rw [show (((((((((w.alloc (.cells #[.string ⟨#[97]⟩, .string ⟨#[98]⟩] 9)).alloc (.cells #[.string ⟨#[83]⟩, .string ⟨#[65]⟩, .string ⟨#[66]⟩, .string ⟨#[67]⟩] 9)).alloc (.cells #[.int .i64 0, .int .i64 (-2)] 3)).alloc (.cells #[.int .i64 (-3)] 3)).alloc (.cells #[.int .i64 1] 3)).alloc (.cells #[.int .i64 0] 3)).alloc (.cells #[.int .i64 (-3), .int .i64 1] 3)).alloc (.cells #[.int .i64 0] 3)).alloc (.cells #[.int .i64 0, .slice (some ⟨w.heap.size + 1 + 1, 0, none⟩) 2 2, .int .i64 0, .slice (some ⟨w.heap.size + 1 + 1 + 1, 0, none⟩) 1 1, .int .i64 0, .slice (some ⟨w.heap.size + 1 + 1 + 1 + 1, 0, none⟩) 1 1, .int .i64 1, .slice (some ⟨w.heap.size + 1 + 1 + 1 + 1 + 1, 0, none⟩) 1 1, .int .i64 2, .slice (some ⟨w.heap.size + 1 + 1 + 1 + 1 + 1 + 1, 0, none⟩) 2 2, .int .i64 3, .slice (some ⟨w.heap.size + 1 + 1 + 1 + 1 + 1 + 1 + 1, 0, none⟩) 1 1] 56)).alloc (.cells #[.slice (some ⟨w.heap.size, 0, none⟩) 2 2, .slice (some ⟨w.heap.size + 1, 0, none⟩) 4 4, .int .i64 0, .slice (some ⟨w.heap.size + 1 + 1 + 1 + 1 + 1 + 1 + 1 + 1, 0, none⟩) 6 6] 25) = lit7 w from rfl]
  obtain ⟨w1, hw1⟩ : ∃ w1, lit7 w = w1 := ⟨_, rfl⟩
  rw [hw1] at HG1 HB1 HK1 HE1 ⊢
  obtain ⟨bT, e0⟩ : ∃ b, w.heap.size = b := ⟨_, rfl⟩
  rw [e0] at HG1 HK1 ⊢
  obtain ⟨bG, e1⟩ : ∃ b, bT + 1 + 1 + 1 + 1 + 1 + 1 + 1 + 1 + 1 = b := ⟨_, rfl⟩
  rw [e1] at HK1 ⊢
  obtain ⟨bR, e2⟩ : ∃ b, bT + 1 + 1 + 1 + 1 + 1 + 1 + 1 + 1 = b := ⟨_, rfl⟩
  rw [e2] at HG1 HK1 ⊢
  obtain ⟨bN, e3⟩ : ∃ b, bT + 1 = b := ⟨_, rfl⟩
  rw [e3] at HG1 HK1 ⊢
  have E0 := Lib.hid e0
  clear hw1 e0 e1 e2 e3
  obtain ⟨c0, c1, c2, c3⟩ := blk_cells2 HK1.out
  go_upto_region 6 with (first
    | (go_at_call 13; refine (uUseful_calls _ g7 w1 A HE1.out HG1.out).mono ?_; rintro e w2 ⟨u2, r2, rfl, hu2, hb2⟩; have HU2 := Lib.hid hu2; have HB2 := Lib.hid hb2; rw [g7_check] at hu2; obtain rfl := hu2.nil_of rfl; obtain ⟨d0, d1, d2, d3⟩ := blk_cells2 (gblk_keep' HK1.out hb2); rw [g7_useful]; clear hu2 hb2 c0 c1 c2 c3)
    | (go_at_call 17; refine (ushortL_calls _ g7 w2 A (HE1.out.below HB2.out) (HG1.out.below HB2.out)).mono ?_; rintro e w3 ⟨B3, n3, u3, r3, rfl, hc3, hu3, hb3⟩; rw [g7_shL] at hc3 ⊢; rw [g7_check] at hu3; have HC3 := Lib.hid hc3; have HB3 := Lib.hid (below_next HB2.out hb3); obtain rfl := hu3.nil_of rfl; obtain ⟨e0, e1, e2, e3⟩ := blk_cells2 (gblk_keep' HK1.out HB3.out); clear hu3 hb3 hc3 d0 d1 d2 d3)
    | (go_at_call 19; refine (uwordL_calls _ g7 2 w4 A (HE1.out.below HB4.out) (HG1.out.below HB4.out)).mono ?_; rintro e w5 ⟨B5, n5, u5, r5, rfl, hc5, hu5, hb5⟩; rw [g7_l2] at hc5 ⊢; rw [g7_k2] at hu5; have HU5 := Lib.hid hu5; have P5 := Lib.hid (below_next P4.out hb5); have Q5 := Lib.hid hb5; have HB5 := Lib.hid (below_next HB4.out hb5); clear hu5 hb5 hc5 d0 d1 d2 d3)
    | (go_at_call 19; refine (uwordL_calls _ g7 0 w3 A (HE1.out.below HB3.out) (HG1.out.below HB3.out)).mono ?_; rintro e w4 ⟨B4, n4, u4, r4, rfl, hc4, hu4, hb4⟩; rw [g7_l0] at hc4 ⊢; rw [g7_k0] at hu4; have HC4 := Lib.hid hc4; have P4 := Lib.hid hb4; have HB4 := Lib.hid (below_next HB3.out hb4); obtain rfl := hu4.nil_of rfl; obtain ⟨d0, d1, d2, d3⟩ := blk_cells2 (gblk_keep' HK1.out HB4.out); clear hu4 hb4 hc4 e0 e1 e2 e3))
  have HI1 := Lib.hid (fun (W : World) (hW : Below w5.heap.size w5 W) => ints_same B3 (some ⟨W.heap.size, 0, none⟩) n3 4 [1, 1, -1, 1] (W.alloc (.cells #[.int .i64 1, .int .i64 1, .int .i64 (-1), .int .i64 1] 3)) (Kd.C_below (Kd.C_below (Kd.C_below HC3.out P5.out) hW) (below_alloc (Below.refl _ _) _)) (lit_C (enc := Value.int .i64) (fun _ => rfl) [1, 1, -1, 1] W 3 (by decide)))
  have HI2 := Lib.hid (fun (W : World) (hW : Below w5.heap.size w5 W) => ints_same B4 (some ⟨W.heap.size, 0, none⟩) n4 1 [1] (W.alloc (.cells #[.int .i64 1] 3)) (Kd.C_below (Kd.C_below (Kd.C_below HC4.out Q5.out) hW) (below_alloc (Below.refl _ _) _)) (lit_C (enc := Value.int .i64) (fun _ => rfl) [1] W 3 (by decide)))
  go_wp2_with (first
    | (go_at_call 15; refine (kind_calls (HE1.out.below (below_next HB5.out R7.out)) (HU5.out.below R7.out)).mono ?_; rintro e w8 ⟨rfl, hb8⟩; have HB8 := Lib.hid (below_next (below_next HB5.out R7.out) hb8); clear hb8)
    | (go_at_call 21; refine (HI2.out w6 R6.out).mono ?_; rintro e w7 ⟨rfl, n1, hw⟩; have R7 := Lib.hid (show Below w5.heap.size w5 w7 by rw [hw]; exact pw_below_drewN (below_alloc R6.out _) _); clear hw)
    | (go_at_call 21; refine (HI1.out w5 (Below.refl _ _)).mono ?_; rintro e w6 ⟨rfl, n1, hw⟩; have R6 := Lib.hid (show Below w5.heap.size w5 w6 by rw [hw]; exact pw_below_drewN (below_alloc (Below.refl _ _) _) _); clear hw))
  go_ret
  exact ⟨rfl, below_next HB1.out HB8.out⟩
end Go.Proofs.YtagcmhnanngfbaaDoor.Hand
/- UsefulRows: the walk. -/
namespace Go.Proofs.YtagcmhnanngfbaaDoor.Hand
open Go.RowKit Go.Proofs.YtagcmhnanngfbaaDoorW.PrintWords Go.Proofs.YtagcmhnanngfbaaDoorW.PrintMore Go.Proofs.YtagcmhnanngfbaaDoor.Math

theorem usN_lt (g : Gr) (x : Nat) : usN g x < 18446744073709551616 := by
  unfold usN
  split
  · rename_i h; exact setOf_lt (by have := (GOk.of h).size; omega) _
  · decide
theorem us_bit {g : Gr} {L : Nat → Int} (hok : (checkN g).1 = 0) (hL : LenIs g.rules g.nonterms.length L) {i : Nat} (hi : i < g.nonterms.length) : (bits BinOp.and IntKind.u64 (((usN g 0 : Nat) : Int) / 2 ^ i) 1 == 1) = decide (0 ≤ L i) := by
  have hC := GOk.of hok
  have hN : g.nonterms.length ≤ 64 := by have := hC.size; omega
  have h1 : (usN g 0).testBit i = true ↔ 0 ≤ L i := by
    rw [← hL.prod hC.right hi]
    unfold usN
    rw [if_pos hok]
    exact (setOf_is hN (usP g 0)).is i hi
  have e : (((usN g 0 : Nat) : Int) / 2 ^ i) = ((usN g 0 / 2 ^ i : Nat) : Int) := by push_cast; rfl
  have h3 : bits BinOp.and IntKind.u64 ((usN g 0 / 2 ^ i : Nat) : Int) 1 = ((usN g 0 / 2 ^ i % 2 : Nat) : Int) := by
    have := bits_and (usN g 0 / 2 ^ i) 1 (Nat.lt_of_le_of_lt (Nat.div_le_self _ _) (usN_lt g 0)) (by decide)
    rwa [Nat.and_one_is_mod] at this
  rw [e, h3]
  rw [Bool.eq_iff_iff, decide_eq_true_eq, ← h1, Nat.testBit_eq_decide_div_mod_eq, decide_eq_true_eq, beq_iff_eq]
  omega
set_option maxHeartbeats 4000000 in
set_option maxRecDepth 100000 in
theorem usefulRows_walk {w : World} (g : Gr) (v : Value) (hg : GramAt w v g ∧ GramB g) (hE : ∃ A, Errs w A) :
    Calls Tryd.prog 6 #[v] w fun e w' => e = .returned (.bool true) ∧ Below w.heap.size w w' := by
  obtain ⟨hv, hB⟩ := hg
  obtain ⟨A, hE⟩ := hE
  have HV := Lib.hid hv
  obtain ⟨AT, cT, AN, cN, AR, cR, rfl, q1, q2, q3, q4, q5, q6⟩ := hv
  have hlr := q6.2.1
  obtain ⟨w1, hw1⟩ : ∃ w1, w.alloc (.cells #[.slice AT g.terms.length cT, .slice AN g.nonterms.length cN, .int .i64 g.ax, .slice AR g.rules.length cR] 25) = w1 := ⟨_, rfl⟩
  have hb1 : Below w.heap.size w w1 := by rw [← hw1]; exact below_alloc (Below.refl _ _) _
  have hk1 : w1.heap[w.heap.size]? = some (.cells #[.slice AT g.terms.length cT, .slice AN g.nonterms.length cN, .int .i64 g.ax, .slice AR g.rules.length cR] 25 (0, 0)) := by rw [← hw1]; exact heap_alloc_new w _
  have HB1 := Lib.hid hb1
  have HK1 := Lib.hid hk1
  have HG1 := Lib.hid (HV.out.below hb1)
  have HE1 := Lib.hid (hE.below hb1)
  have HR1 := Lib.hid (Kd.C_below q6 hb1)
  have HLG := Lib.hid (fun (W : World) (hW : Below w1.heap.size w1 W) => lentGrammar_calls _ g W (HG1.out.below hW) (by have := hB.terms; omega) (by have := hB.nonterms; omega) (by have := hB.rules; omega) (fun r hr => by have := hB.right r hr; omega))
  have HKn := Lib.hid (known_calls w1 A HE1.out)
  clear hb1 hk1 hE hB q4 q5 q6
  by_cases hok : (checkN g).1 = 0
  · have HOK := Lib.hid hok
    have HC := Lib.hid (GOk.of hok)
    have hN60 : g.nonterms.length ≤ 60 := by have := HC.out.size; omega
    obtain ⟨n0, hn0⟩ : ∃ n, usN g 0 = n := ⟨_, rfl⟩
    have L0 := Lib.hid (show n0 < 18446744073709551616 by rw [← hn0]; exact usN_lt g 0)
    have HN0 := Lib.hid hn0
    clear hok hn0
    go_enter Tryd.func6, Tryd.ntmps6
    go_upto_region 9 with (first
      | (go_at_call 25; refine HKn.out.mono ?_; rintro e w3 ⟨rfl, hb3⟩; have HB3 := Lib.hid hb3; obtain ⟨d0, d1, d2, d3⟩ := blk_cells2 (gblk_keep' HK1.out hb3); clear hb3)
      | (go_at_call 11; refine (uProductive_calls _ g w6 A (HE1.out.below HB6.out) HLt6.out).mono ?_; rintro e w7 ⟨u7, r7, rfl, hu7, hb7⟩; rw [HN0.out]; have HB7 := Lib.hid (below_next HB6.out hb7); rw [HOK.out] at hu7; obtain rfl := hu7.nil_of rfl; have HRow7 := Lib.hid (HRow5.out.below (below_next HQ6.out hb7)); clear d0 d1 d2 d3; obtain ⟨d0, d1, d2, d3⟩ := blk_cells2 (gblk_keep' HK1.out HB7.out); clear hu7 hb7)
      | (go_at_call 17; refine (ushortest_calls _ g w4 A (HE1.out.below HB4.out) HLt4.out).mono ?_; rintro e w5 h5; obtain ⟨gm, L, rfl, hrow5, hL5, hgm5, hb5⟩ := h5.ok HOK.out; have HRow5 := Lib.hid hrow5; have HL := Lib.hid hL5; have HGm := Lib.hid hgm5; have HB5 := Lib.hid (below_next HB4.out hb5); clear d0 d1 d2 d3; obtain ⟨d0, d1, d2, d3⟩ := blk_cells2 (gblk_keep' HK1.out HB5.out); clear hrow5 hL5 hgm5 hb5)
      | (go_at_call 10; refine (HLG.out w5 HB5.out).mono ?_; rintro e w6 ⟨u6, rfl, hu6, hb6⟩; have HLt6 := Lib.hid hu6.plain; have HB6 := Lib.hid (below_next HB5.out hb6); have HQ6 := Lib.hid hb6; clear hu6 hb6)
      | (go_at_call 10; refine (HLG.out w3 HB3.out).mono ?_; rintro e w4 ⟨u4, rfl, hu4, hb4⟩; have HLt4 := Lib.hid hu4.plain; have HB4 := Lib.hid (below_next HB3.out hb4); clear hu4 hb4))
    have HLt := Lib.hid (fun i (hi : i < g.nonterms.length) => us_bit HOK.out HL.out hi)
    rw [HN0.out] at HLt
    go_wp2
    go_loopw [7] (fun x wr => ∃ i : Nat, i ≤ g.nonterms.length ∧ x = .int .i64 i ∧ Aside0 (Below w7.heap.size w7 wr)) (fun x _ => g.nonterms.length - (intOf x).toNat)
    case atStart => exact ⟨0, by omega, rfl, ⟨Below.refl _ _⟩⟩
    case round =>
      obtain ⟨i, hi, rfl, HBr⟩ := hrel
      obtain ⟨wo, rfl⟩ : ∃ wo : World, wo = wr := ⟨_, rfl⟩
      have HBo := Lib.hid (below_next HB7.out HBr.out)
      have HKo := Lib.hid (gblk_keep' HK1.out HBo.out)
      have HRwo := Lib.hid (HRow7.out.below HBr.out)
      by_cases hlt : i < g.nonterms.length
      · have hbit := HLt.out i hlt
        obtain ⟨n, hn⟩ : ∃ n, L i = n := ⟨_, rfl⟩
        have hn1 := (HL.out.1 i hlt).1
        have hn2 := (HL.out.1 i hlt).2.1
        rw [hn] at hbit hn1 hn2
        have HN := Lib.hid hn
        clear d0 d1 d2 d3
        obtain ⟨d0, d1, d2, d3⟩ := blk_cells2 HKo.out
        have HWm := Lib.hid (fun (W : World) (hW : Below w1.heap.size w1 W) (u : Value) (hu : GramAt W u g) (h0 : 0 ≤ n) (h1 : n ≤ 65536) => uword_mid u g i W A (HE1.out.below hW) hu HOK.out hlt HL.out (by rw [hn]; exact h0) (by rw [hn]; exact h1))
        have HWn := Lib.hid (fun (W : World) (hW : Below w1.heap.size w1 W) (u : Value) (hu : GramAt W u g) (h0 : n < 0) => uword_neg u g i W A (HE1.out.below hW) hu HOK.out hlt HL.out (by rw [hn]; exact h0))
        have HWb := Lib.hid (fun (W : World) (hW : Below w1.heap.size w1 W) (u : Value) (hu : GramAt W u g) (h0 : 65536 < n) => uword_big u g i W A (HE1.out.below hW) hu HOK.out hlt HL.out (by rw [hn]; exact h0))
        clear hn
        have hcase : n = -1 ∨ n = 65537 ∨ (0 ≤ n ∧ n ≤ 65536) := by omega
        rcases hcase with rfl | rfl | ⟨hm0, hm1⟩
        · rw [decide_eq_false (by omega)] at hbit
          go_upto_region 13 with (first
            | (go_at_call 10; refine (HLG.out wo HBo.out).mono ?_; rintro e w8 ⟨u8, rfl, hu8, hb8⟩; have HLt8 := Lib.hid hu8.plain; have HB8 := Lib.hid hb8; have HBB8 := Lib.hid (below_next HBo.out hb8); clear hu8 hb8)
            | (go_at_call 19; refine (HWn.out w8 HBB8.out _ HLt8.out (by omega)).mono ?_; rintro e w9 ⟨u9, rfl, hu9, hb9⟩; have HU9 := Lib.hid hu9; have HB9 := Lib.hid (below_next HB8.out hb9); have HBB9 := Lib.hid (below_next HBB8.out hb9); obtain ⟨T9, p9, hT9, rfl⟩ := hu9.iface_of (by decide); clear hu9 hb9 hT9 d0 d1 d2 d3))
          have hc := (HRwo.out.below HB9.out).cell i hlt
          rw [HN.out] at hc
          go_wp2_with (go_at_call 15; refine (kind_calls (HE1.out.below HBB9.out) HU9.out).mono ?_; rintro e w10 ⟨rfl, hb10⟩; have HB10 := Lib.hid (below_next HB9.out hb10); clear hb10 hc; have hc := (HRwo.out.below HB10.out).cell i hlt; rw [HN.out] at hc)
          go_roundw
          case rel => exact ⟨i + 1, by omega, by go_num, ⟨below_next HBr.out HB10.out⟩⟩
          case measure => simp [intOf]; omega
        · rw [decide_eq_true (by omega)] at hbit
          go_upto_region 13 with (first
            | (go_at_call 10; refine (HLG.out wo HBo.out).mono ?_; rintro e w8 ⟨u8, rfl, hu8, hb8⟩; have HLt8 := Lib.hid hu8.plain; have HB8 := Lib.hid hb8; have HBB8 := Lib.hid (below_next HBo.out hb8); clear hu8 hb8)
            | (go_at_call 19; refine (HWb.out w8 HBB8.out _ HLt8.out (by omega)).mono ?_; rintro e w9 ⟨u9, rfl, hu9, hb9⟩; have HU9 := Lib.hid hu9; have HB9 := Lib.hid (below_next HB8.out hb9); have HBB9 := Lib.hid (below_next HBB8.out hb9); obtain ⟨T9, p9, hT9, rfl⟩ := hu9.iface_of (by decide); clear hu9 hb9 hT9 d0 d1 d2 d3))
          have hc := (HRwo.out.below HB9.out).cell i hlt
          rw [HN.out] at hc
          go_wp2_with (go_at_call 15; refine (kind_calls (HE1.out.below HBB9.out) HU9.out).mono ?_; rintro e w10 ⟨rfl, hb10⟩; have HB10 := Lib.hid (below_next HB9.out hb10); clear hb10 hc; have hc := (HRwo.out.below HB10.out).cell i hlt; rw [HN.out] at hc)
          go_roundw
          case rel => exact ⟨i + 1, by omega, by go_num, ⟨below_next HBr.out HB10.out⟩⟩
          case measure => simp [intOf]; omega
        · rw [decide_eq_true hm0] at hbit
          go_upto_region 13 with (first
            | (go_at_call 10; refine (HLG.out wo HBo.out).mono ?_; rintro e w8 ⟨u8, rfl, hu8, hb8⟩; have HLt8 := Lib.hid hu8.plain; have HB8 := Lib.hid hb8; have HBB8 := Lib.hid (below_next HBo.out hb8); clear hu8 hb8)
            | (go_at_call 19; refine (HWm.out w8 HBB8.out _ HLt8.out hm0 hm1).mono ?_; rintro e w9 ⟨ad9, c9, q9, rfl, hq9, hder9, hc9, hb9⟩; have HQ9 := Lib.hid hq9; have HD9 := Lib.hid hder9; have HC9 := Lib.hid hc9; have HB9 := Lib.hid (below_next HB8.out hb9); have HBB9 := Lib.hid (below_next HBB8.out hb9); clear hq9 hder9 hc9 hb9 d0 d1 d2 d3))
          have hc := (HRwo.out.below HB9.out).cell i hlt
          rw [HN.out] at hc
          have hq := HQ9.out
          rw [HN.out] at hq
          obtain ⟨d0, d1, d2, d3⟩ := blk_cells2 (gblk_keep' HK1.out HBB9.out)
          have z1 : (n == 65537) = false := by rw [beq_eq_false_iff_ne]; omega
          have z2 : (((q9.length : Nat) : Int) != n) = false := by rw [bne_eq_false_iff_eq]; exact hq
          have HFew := Lib.hid (few_calls _ g (some ad9) c9 q9.length w9 (by omega) (HG1.out.below HBB9.out))
          have HDe := Lib.hid (fun (W : World) (hW : Below w9.heap.size w9 W) (h8 : q9.length ≤ 8) => derives_calls _ g i (some ad9) c9 q9 W (HG1.out.below (below_next HBB9.out hW)) HC.out hlt h8 (Kd.C_below HC9.out hW))
          rw [tb_yes HD9.out] at HDe
          have HQI := Lib.hid hq
          clear hq
          cases hfb : fewB g q9.length
          · rw [hfb] at HFew
            clear hfb
            go_wp2_with (go_at_call 26; refine HFew.out.mono ?_; rintro e w10 ⟨rfl, hb10⟩; have HB10 := Lib.hid hb10; clear hb10)
            go_roundw
            case rel => exact ⟨i + 1, by omega, by go_num, ⟨below_next HBr.out (below_next HB9.out HB10.out)⟩⟩
            case measure => simp [intOf]; omega
          · have h8 := Lib.hid (fewB_le hfb)
            rw [hfb] at HFew
            clear hfb
            go_wp2_with (first
              | (go_at_call 26; refine HFew.out.mono ?_; rintro e w10 ⟨rfl, hb10⟩; have HB10 := Lib.hid hb10; clear d0 d1 d2 d3; obtain ⟨d0, d1, d2, d3⟩ := blk_cells2 (gblk_keep' HK1.out (below_next HBB9.out hb10)); clear hb10)
              | (go_at_call 27; refine (HDe.out w10 HB10.out h8.out).mono ?_; rintro e w11 ⟨rfl, hb11⟩; have HB11 := Lib.hid (below_next HB10.out hb11); clear hb11))
            go_roundw
            case rel => exact ⟨i + 1, by omega, by go_num, ⟨below_next HBr.out (below_next HB9.out HB11.out)⟩⟩
            case measure => simp [intOf]; omega
      · have HBz := Lib.hid (HBo.out)
        clear d0 d1 d2 d3
        obtain ⟨d0, d1, d2, d3⟩ := blk_cells2 HKo.out
        go_wp2
        go_loop [10, 11, 12, 13] (fun x s k y => ∃ i : Nat, i ≤ g.rules.length ∧ x = .int .i64 i) (fun x _ _ _ => g.rules.length - (intOf x).toNat)
        case atStart => exact ⟨0, by omega, rfl⟩
        case round =>
          obtain ⟨i, hi, rfl⟩ := hrel
          by_cases hlt : i < g.rules.length
          · obtain ⟨ad, x', B, c, r, rfl, k1, k2, hrc, hr, HDr⟩ := at_rule (Kd.C_below HR1.out HBo.out) i hlt
            have hRr : Hid ((x', r) ∈ g.rules) := Lib.hid (by rw [← HDr.out]; exact getD_mem g.rules i _ hlt)
            have hx0 : 0 ≤ x' := (HC.out.right.left hRr.out).1
            have hxN : x' < g.nonterms.length := (HC.out.right.left hRr.out).2
            have hr32 : r.length ≤ 32 := ruleN_len (HC.out.right (x', r) hRr.out)
            have HRr := Lib.hid hr
            clear hr
            go_wp2
            go_loop [11, 12, 13] (fun s k y => ∃ j : Nat, j ≤ r.length ∧ k = .int .i64 j ∧ Hid (sumS L (r.take j) = intOf s) ∧ ∃ z, s = .int .i64 z) (fun _ k _ => r.length - (intOf k).toNat)
            case atStart => exact ⟨0, by omega, rfl, Lib.hid (by simp [sumS, intOf]), _, rfl⟩
            case round =>
              obtain ⟨j, hj, rfl, HSm, z, rfl⟩ := hrel
              have hS : sumS L (r.take j) = z := HSm.out
              have hz := sumS_ge L (r.take j)
              have htl : (r.take j).length ≤ 32 := by rw [List.length_take]; omega
              rw [hS] at hz
              obtain ⟨hz1, hz2⟩ := hz
              have HSz := Lib.hid hS
              clear hS HSm
              by_cases hz0 : 0 ≤ z
              · by_cases hjl : j < r.length
                · obtain ⟨ad3, y, rfl, hcy, HY⟩ := at_scalar HRr.out j hjl 0
                  have HSn : Hid (sumS L (r.take (j + 1)) = stepS L z y) := Lib.hid (by rw [take_snocD r j 0 hjl, sumS_snoc, HSz.out, HY.out])
                  have hym : Hid (y ∈ r) := Lib.hid (by rw [← HY.out]; exact getD_mem r j 0 hjl)
                  have hys := (HC.out.right.sym hRr.out hym.out).1
                  by_cases hy0 : 0 ≤ y
                  · have HV2 : Hid (stepS L z y = z + 1) := Lib.hid (by unfold stepS; rw [if_neg (by omega), if_pos hy0])
                    go_wp2
                    go_round
                    case rel => exact ⟨j + 1, by omega, by go_num, Lib.hid (by rw [HSn.out, HV2.out]; rfl), _, rfl⟩
                    case measure => simp [intOf]; omega
                  · have hk0 : 0 ≤ -1 - y := by omega
                    have hkN : -1 - y < (g.nonterms.length : Int) := by omega
                    have hc2 := HRwo.out.cell (-1 - y).toNat (by omega)
                    obtain ⟨n2, hn2⟩ : ∃ n, L (-1 - y).toNat = n := ⟨_, rfl⟩
                    rw [hn2] at hc2
                    have hn3 : -1 ≤ n2 := by rw [← hn2]; exact (HL.out.1 _ (by omega)).1
                    have hn4 : n2 ≤ 65537 := by rw [← hn2]; exact (HL.out.1 _ (by omega)).2.1
                    by_cases hneg : n2 < 0
                    · have HV2 : Hid (stepS L z y = -1) := Lib.hid (by unfold stepS; rw [if_neg (by omega), if_neg hy0, hn2, if_pos hneg])
                      clear hn2
                      go_wp2
                      go_round
                      case rel => exact ⟨j + 1, by omega, by go_num, Lib.hid (by rw [HSn.out, HV2.out]; rfl), _, rfl⟩
                      case measure => simp [intOf]; omega
                    · have HV2 : Hid (stepS L z y = if z + n2 < 65537 then z + n2 else 65537) := Lib.hid (by unfold stepS; rw [if_neg (by omega), if_neg hy0, hn2, if_neg hneg])
                      clear hn2
                      by_cases hcap : z + n2 < 65537
                      · go_wp2
                        go_round
                        case rel => exact ⟨j + 1, by omega, by go_num, Lib.hid (by rw [HSn.out, HV2.out, if_pos hcap]; first | rfl | (simp [intOf]; omega)), _, by first | rfl | go_num⟩
                        case measure => simp [intOf]; omega
                      · go_wp2
                        go_round
                        case rel => exact ⟨j + 1, by omega, by go_num, Lib.hid (by rw [HSn.out, HV2.out, if_neg hcap]; first | rfl | (simp [intOf]; omega)), _, by first | rfl | go_num⟩
                        case measure => simp [intOf]; omega
                · have HFin : Hid (0 ≤ L x'.toNat ∧ L x'.toNat ≤ z) := Lib.hid (by
                    have h1 : sumS L r = z := by have := HSz.out; rwa [List.take_of_length_le (by omega)] at this
                    have h2 := sumS_sum L r (by omega)
                    have h3 := HL.out.rule HC.out.right hRr.out h2.1
                    simp only at h3
                    omega)
                  have hc2 := HRwo.out.cell x'.toNat (by omega)
                  obtain ⟨n2, hn2⟩ : ∃ n, L x'.toNat = n := ⟨_, rfl⟩
                  rw [hn2] at hc2 HFin
                  have hn3 : 0 ≤ n2 := HFin.out.1
                  have hn4 : n2 ≤ z := HFin.out.2
                  clear hn2
                  go_wp2
                  go_round
                  case rel => exact ⟨i + 1, by omega, by go_num⟩
                  case measure => simp [intOf]; omega
              · by_cases hjl : j < r.length
                · go_wp2
                  go_round
                  case rel => exact ⟨i + 1, by omega, by go_num⟩
                  case measure => simp [intOf]; omega
                · go_wp2
                  go_round
                  case rel => exact ⟨i + 1, by omega, by go_num⟩
                  case measure => simp [intOf]; omega
          · go_wp2
            go_ret
            exact ⟨rfl, below_next HB1.out HBo.out⟩
  · have HOK := Lib.hid hok
    have hu0 : usN g 0 = 0 := by unfold usN; rw [if_neg hok]
    have HU0 := Lib.hid hu0
    clear hok hu0
    go_enter Tryd.func6, Tryd.ntmps6
    go_wp2_with (first
      | (go_at_call 25; refine HKn.out.mono ?_; rintro e w3 ⟨rfl, hb3⟩; have HB3 := Lib.hid hb3; obtain ⟨d0, d1, d2, d3⟩ := blk_cells2 (gblk_keep' HK1.out hb3); clear hb3)
      | (go_at_call 11; refine (uProductive_calls _ g w6 A (HE1.out.below HB6.out) HLt6.out).mono ?_; rintro e w7 ⟨u7, r7, rfl, hu7, hb7⟩; rw [HU0.out]; have HB7 := Lib.hid (below_next HB6.out hb7); obtain ⟨T7, p7, hT7, rfl⟩ := hu7.iface_of HOK.out; clear d0 d1 d2 d3; obtain ⟨d0, d1, d2, d3⟩ := blk_cells2 (gblk_keep' HK1.out HB7.out); clear hu7 hb7 hT7)
      | (go_at_call 17; refine (ushortest_calls _ g w4 A (HE1.out.below HB4.out) HLt4.out).mono ?_; rintro e w5 h5; obtain ⟨u5, rfl, hu5, hb5⟩ := h5.bad HOK.out; have HB5 := Lib.hid (below_next HB4.out hb5); obtain ⟨T5, p5, hT5, rfl⟩ := hu5.iface_of HOK.out; clear d0 d1 d2 d3; obtain ⟨d0, d1, d2, d3⟩ := blk_cells2 (gblk_keep' HK1.out HB5.out); clear hu5 hb5 hT5)
      | (go_at_call 10; refine (HLG.out w5 HB5.out).mono ?_; rintro e w6 ⟨u6, rfl, hu6, hb6⟩; have HLt6 := Lib.hid hu6.plain; have HB6 := Lib.hid (below_next HB5.out hb6); clear hu6 hb6)
      | (go_at_call 10; refine (HLG.out w3 HB3.out).mono ?_; rintro e w4 ⟨u4, rfl, hu4, hb4⟩; have HLt4 := Lib.hid hu4.plain; have HB4 := Lib.hid (below_next HB3.out hb4); clear hu4 hb4))
    go_ret
    exact ⟨rfl, below_next HB1.out HB7.out⟩
end Go.Proofs.YtagcmhnanngfbaaDoor.Hand
