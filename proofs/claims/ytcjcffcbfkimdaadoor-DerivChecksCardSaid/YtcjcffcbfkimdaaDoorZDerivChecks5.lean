/- The texts that the statement's proof stands on, part 5: XOpens XOpenS XLaid XLaidR XChecks. -/
import Derived.Test.YtcjcffcbfkimdaaDoorZDerivChecks4
import Derived.Deep.Slices
import Derived.ChangeSame
import Derived.SizedLaws
import Derived.Lib.SmallJoins
import Derived.Deep.Strs
import Derived.Test.YtcjcffcbfkimdaaDoorRows
import Derived.Stop.LaidErr
import Derived.LaidSub
import Derived.LaidMore
import Derived.Stop.Joined
import Derived.MakeChecks
/- Arguments of whatever kind, opened: the reading of memory gives the plain datum that it spells. -/
namespace Go.Proofs.YtcjcffcbfkimdaaDoor.Hand
open Go.ChangeShapes Go.WideShapes Go.ChangeAt
open Go.RowKit Go.Proofs.YtcjcffcbfkimdaaDoorW.PrintWords Go.Proofs.YtcjcffcbfkimdaaDoorW.PrintMore Go.Proofs.YtcjcffcbfkimdaaDoor.Math

/-- Whatever reads by this type spells a datum of this kind. -/
def Opens {α : Type} (t : TypeId) (d : Kd α) (good : α → Prop) : Prop :=
  ∀ (H : Type) (enc : TypeId × Value → H) (W : World) (base : Nat) (spare : Nat → Bool) (held : Bool) (fuel : Nat) (cs : List Value) (x : DataW H × List MemPlace), DataW.trod enc Tryd.prog W base spare held fuel t cs = some x →
    (∀ n ∈ x.1.weights Tryd.prog t, n ≤ reachBytes) → ∃ a, d.K W a cs ∧ good a
theorem Opens.int {t : TypeId} {k : IntKind} (ht : Tryd.prog.underlying t = some (.int k)) : Opens t (Kd.int k) (fun a => (Lit.int k a).wf = true) := by
  intro H enc W base spare held fuel cs x h _
  obtain ⟨n, rfl, _, hw⟩ := DataW.trod_int ht h
  exact ⟨n, rfl, hw⟩
theorem Opens.string {t : TypeId} (ht : Tryd.prog.underlying t = some .string) : Opens t Kd.string (fun s => s.size ≤ 140737488351232) := by
  intro H enc W base spare held fuel cs x h hw
  obtain ⟨s, rfl, rfl, _⟩ := DataW.trod_string ht h
  refine ⟨s, rfl, ?_⟩
  have := hw s.data.toList.length (by simp [DataW.weights])
  simpa [reachBytes] using this
theorem weightsAll_mem {H : Type} {P : Program} {e : TypeId} {d : DataW H} {n : Nat} : ∀ {l : List (DataW H)}, d ∈ l → n ∈ d.weights P e → n ∈ DataW.weightsAll P e l
  | [], h, _ => by cases h
  | a :: r, h, hn => by
    simp only [DataW.weightsAll, List.mem_append]
    rcases List.mem_cons.1 h with rfl | h
    · exact .inl hn
    · exact .inr (weightsAll_mem h hn)
theorem Opens.slice {α : Type} {t e : TypeId} {B : Nat} {d : Kd α} {good : α → Prop} (ht : Tryd.prog.underlying t = some (.slice e)) (he : Opens e d good) (hc : Tryd.prog.cellsOf e = d.sz) (hB : Tryd.prog.bytesOf e = B) :
    Opens t (Kd.slice e d) (fun l => l.length * B ≤ 140737488351232 ∧ ∀ x ∈ l, good x) := by
  intro H enc W base spare held fuel cs x h hw
  rcases Deep.open_slice ht h with ⟨rfl, rfl⟩ | ⟨a, len, cap, m, n, D, Pl, rfl, hb, hl, hm, hmm, rfl, hx⟩
  · exact ⟨[], ⟨none, 0, rfl, Nat.le_refl _, Kd.C_nil d W⟩, by simp, fun x hx => absurd hx (List.not_mem_nil)⟩
  · have hlm : len ≤ m := by rw [hmm]; split <;> omega
    simp only [DataW.weights, ht] at hw
    have hw1 := hw _ (List.mem_cons_self ..)
    simp only [List.length_map, List.length_range] at hw1
    have hw2 : ∀ i, i < len → ∀ k ∈ (D i).weights Tryd.prog e, k ≤ reachBytes := fun i hi k hk =>
      hw k (List.mem_cons_of_mem _ (List.mem_append_left _ (weightsAll_mem (List.mem_map.2 ⟨i, List.mem_range.2 hi, rfl⟩) hk)))
    obtain ⟨l, hll, hp⟩ := list_of (n := len) (p := fun i p => good p ∧ ∃ cs', d.K W p cs' ∧ ∀ j u, cs'[j]? = some u → W.cell? (a.add (i * d.sz + j)) = some u) (fun i hi => by
      obtain ⟨cs', h1, h2⟩ := hx i (by omega)
      obtain ⟨p, hk, hg⟩ := he H enc W base spare held n cs' _ h2 (hw2 i hi)
      obtain ⟨_, hlen, hcell⟩ := World.cells?_some h1
      refine ⟨p, hg, cs', hk, fun j u hu => ?_⟩
      have hj : j < Tryd.prog.cellsOf e := by rw [← hlen]; exact (List.getElem?_eq_some_iff.1 hu).1
      have := hcell j hj
      rw [Deep.add_add, hu, hc] at this
      exact this)
    subst hll
    refine ⟨l, ⟨some a, cap, rfl, hl, rfl, ?_, fun _ => ⟨a, rfl, fun j p hj => ?_⟩⟩, ?_, fun x hx => ?_⟩
    · have : maxLen = 9223372036854775807 := by decide
      omega
    · obtain ⟨_, cs', hk, hcell⟩ := hp j p hj
      exact ⟨cs', d.K_len hk, hk, hcell⟩
    · rw [hB] at hw1
      have h3 : l.length * B ≤ (l.length + (m - l.length)) * B := Nat.mul_le_mul_right _ (by omega)
      have h4 : (reachBytes : Nat) = 140737488351232 := by decide
      omega
    · obtain ⟨i, hi⟩ := List.getElem?_of_mem hx
      exact (hp i x hi).1
theorem Opens.pair {α β : Type} {t : TypeId} {f0 f1 : Field} {a : Kd α} {b : Kd β} {ga : α → Prop} {gb : β → Prop} (ht : Tryd.prog.underlying t = some (.struct #[f0, f1])) (o0 : f0.offset = 0) (o1 : f1.offset = a.sz) (c0 : Tryd.prog.cellsOf f0.type = a.sz) (c1 : Tryd.prog.cellsOf f1.type = b.sz) (ct : Tryd.prog.cellsOf t = a.sz + b.sz)
    (h0 : Opens f0.type a ga) (h1 : Opens f1.type b gb) : Opens t (Kd.pair a b) (fun x => ga x.1 ∧ gb x.2) := by
  intro H enc W base spare held fuel cs x h hw
  obtain ⟨y0, y1, n, rfl, hl, k0, k1⟩ := trod_struct2 ht h
  simp only [DataW.weights, ht, List.map_cons, List.map_nil, DataW.weightsEach, List.append_nil] at hw
  rw [o0, c0, List.drop_zero] at k0
  rw [o1, c1] at k1
  obtain ⟨x0, q0, g0⟩ := h0 H enc W base spare held n _ _ k0 (fun n hn => hw n (List.mem_append_left _ hn))
  obtain ⟨x1, q1, g1⟩ := h1 H enc W base spare held n _ _ k1 (fun n hn => hw n (List.mem_append_right _ hn))
  refine ⟨(x0, x1), ⟨cs.take a.sz, (cs.drop a.sz).take b.sz, ?_, q0, q1⟩, g0, g1⟩
  rw [List.take_of_length_le (show (cs.drop a.sz).length ≤ b.sz by rw [List.length_drop, hl, ct]; omega), List.take_append_drop]
section
set_option maxRecDepth 20000
variable {H : Type} {enc : TypeId × Value → H} {W : World} {base : Nat} {r : Reach} {b0 : Nat} {spare : Nat → Bool} {held : Bool} {v : Value} {d : DataW H} {ps : List MemPlace} {ts : List TypeId} {ds : List (DataW H)} {j : Nat}

theorem openSlice {α : Type} {t e : TypeId} {B : Nat} {k : Kd α} {good : α → Prop} (hu : Tryd.prog.underlying t = some (.slice e)) (he : Opens e k good) (hc : Tryd.prog.cellsOf e = k.sz) (hB : Tryd.prog.bytesOf e = B)
    (hsz : (DataW.weightsEach Tryd.prog ts ds).all (· ≤ reachBytes) = true) (ht : ts[j]? = some t) (hd : ds[j]? = some d) (hv : Value.okWide Tryd.prog W r b0 t v) (h : DataW.Trod enc Tryd.prog W base spare held t v d ps) :
    ∃ (A : Option Addr) (c : Nat) (l : List α), v = .slice A l.length c ∧ k.C W A l.length l ∧ l.length * B ≤ 140737488351232 ∧ l.length ≤ c ∧ ∀ x ∈ l, good x := by
  obtain ⟨a, len, cap, rfl⟩ := okWide_slice hu hv
  obtain ⟨fuel, hf⟩ := h
  obtain ⟨l, ⟨A, c, hcs, hlc, hC⟩, hb, hg⟩ := (Opens.slice hu he hc hB) H enc W base spare held fuel _ _ hf (fun n hn => by
    have := List.all_eq_true.1 hsz n (DataW.weights_mem_each ht hd n hn)
    simpa using this)
  simp [Value.cells] at hcs
  obtain ⟨rfl, rfl, rfl⟩ := hcs
  exact ⟨_, _, l, rfl, hC, hb, hlc, hg⟩
theorem opens_i64 : Opens 3 (Kd.int .i64) (fun a => (Lit.int .i64 a).wf = true) := Opens.int Tryd.underlying3
theorem opens_ints : Opens 26 (Kd.slice 3 (Kd.int .i64)) (fun l => l.length * 8 ≤ 140737488351232 ∧ ∀ x ∈ l, (Lit.int .i64 x).wf = true) := Opens.slice Tryd.underlying26 opens_i64 (by kernel_rfl) (by kernel_rfl)
theorem openInts (hsz : (DataW.weightsEach Tryd.prog ts ds).all (· ≤ reachBytes) = true) (ht : ts[j]? = some 26) (hd : ds[j]? = some d) (hv : Value.okWide Tryd.prog W r b0 26 v) (h : DataW.Trod enc Tryd.prog W base spare held 26 v d ps) :
    ∃ (A : Option Addr) (c : Nat) (l : List Int), v = .slice A l.length c ∧ Kd.C (Kd.int .i64) W A l.length l ∧ l.length * 8 ≤ 140737488351232 ∧ l.length ≤ c ∧ ∀ x ∈ l, (Lit.int .i64 x).wf = true :=
  openSlice Tryd.underlying26 opens_i64 (by kernel_rfl) (by kernel_rfl) hsz ht hd hv h
theorem opens_strings : Opens 22 (Kd.slice 9 Kd.string) (fun l => l.length * 16 ≤ 140737488351232 ∧ ∀ x ∈ l, x.size ≤ 140737488351232) := Opens.slice Tryd.underlying22 (Opens.string Tryd.underlying9) (by kernel_rfl) (by kernel_rfl)
theorem openStrings (hsz : (DataW.weightsEach Tryd.prog ts ds).all (· ≤ reachBytes) = true) (ht : ts[j]? = some 22) (hd : ds[j]? = some d) (hv : Value.okWide Tryd.prog W r b0 22 v) (h : DataW.Trod enc Tryd.prog W base spare held 22 v d ps) :
    ∃ (A : Option Addr) (c : Nat) (l : List ByteArray), v = .slice A l.length c ∧ Kd.C Kd.string W A l.length l ∧ l.length * 16 ≤ 140737488351232 ∧ l.length ≤ c ∧ ∀ x ∈ l, x.size ≤ 140737488351232 :=
  openSlice Tryd.underlying22 (Opens.string Tryd.underlying9) (by kernel_rfl) (by kernel_rfl) hsz ht hd hv h
theorem opens_rule : Opens 80 KRule (fun x => (Lit.int .i64 x.1).wf = true ∧ x.2.length * 8 ≤ 140737488351232 ∧ ∀ s ∈ x.2, (Lit.int .i64 s).wf = true) := Opens.pair Tryd.underlying80 rfl rfl (by kernel_rfl) (by kernel_rfl) (by kernel_rfl) opens_i64 opens_ints
theorem openRules (hsz : (DataW.weightsEach Tryd.prog ts ds).all (· ≤ reachBytes) = true) (ht : ts[j]? = some 23) (hd : ds[j]? = some d) (hv : Value.okWide Tryd.prog W r b0 23 v) (h : DataW.Trod enc Tryd.prog W base spare held 23 v d ps) :
    ∃ (A : Option Addr) (c : Nat) (l : List (Int × List Int)), v = .slice A l.length c ∧ KRule.C W A l.length l ∧ l.length * 32 ≤ 140737488351232 ∧ l.length ≤ c ∧ ∀ x ∈ l, (Lit.int .i64 x.1).wf = true ∧ x.2.length * 8 ≤ 140737488351232 ∧ ∀ s ∈ x.2, (Lit.int .i64 s).wf = true :=
  openSlice Tryd.underlying23 opens_rule (by kernel_rfl) (by kernel_rfl) hsz ht hd hv h
/-- What the weights allow. -/
structure GramB (g : Gr) : Prop where
  terms : g.terms.length * 16 ≤ 140737488351232
  nonterms : g.nonterms.length * 16 ≤ 140737488351232
  rules : g.rules.length * 32 ≤ 140737488351232
  right : ∀ r ∈ g.rules, r.2.length * 8 ≤ 140737488351232
  ax : (Lit.int .i64 g.ax).wf = true
  nums : ∀ r ∈ g.rules, (Lit.int .i64 r.1).wf = true ∧ ∀ s ∈ r.2, (Lit.int .i64 s).wf = true
  names : (∀ s ∈ g.terms, s.size ≤ 140737488351232) ∧ ∀ s ∈ g.nonterms, s.size ≤ 140737488351232
theorem openGrammar (hsz : (DataW.weightsEach Tryd.prog ts ds).all (· ≤ reachBytes) = true) (ht : ts[j]? = some 25) (hd : ds[j]? = some d) (hv : Value.okWide Tryd.prog W r b0 25 v) (h : DataW.Trod enc Tryd.prog W base spare held 25 v d ps) :
    ∃ (g : Gr) (u : Value), v = u ∧ GramAt W u g ∧ GramB g := by
  obtain ⟨v0, v1, v2, v3, y0, y1, y2, y3, n, rfl, rfl, rfl, h0, h1, h2, h3⟩ := Joins.open_agg4 Tryd.underlying25 (by kernel_rfl) (by kernel_rfl) hv h
  have hw : ∀ k ∈ (DataW.agg [y0.1, y1.1, y2.1, y3.1]).weights Tryd.prog 25, k ≤ reachBytes := fun k hk => by
    have := List.all_eq_true.1 hsz k (DataW.weights_mem_each ht hd k hk)
    simpa using this
  simp only [DataW.weights, Tryd.underlying25, List.map_cons, List.map_nil, DataW.weightsEach, List.append_nil, List.mem_append] at hw
  obtain ⟨lT, ⟨AT, cT, e0, p0, q0⟩, b0, g0⟩ := opens_strings H enc W base spare held n _ _ h0 (fun k hk => hw k (.inl hk))
  obtain ⟨lN, ⟨AN, cN, e1, p1, q1⟩, b1, g1⟩ := opens_strings H enc W base spare held n _ _ h1 (fun k hk => hw k (.inr (.inl hk)))
  obtain ⟨ax, e2, _, b2⟩ := DataW.trod_int Tryd.underlying3 h2
  obtain ⟨lR, ⟨AR, cR, e3, p3, q3⟩, b3, g3⟩ := (Opens.slice Tryd.underlying23 opens_rule (by kernel_rfl) (by kernel_rfl) : Opens _ (Kd.slice 80 KRule) (fun l => l.length * 32 ≤ 140737488351232 ∧ _)) H enc W base spare held n _ _ h3 (fun k hk => hw k (.inr (.inr (.inr hk))))
  simp only [List.cons.injEq, and_true] at e0 e1 e2 e3
  subst e0 e1 e2 e3
  exact ⟨⟨lT, lN, ax, lR⟩, _, rfl, ⟨AT, cT, AN, cN, AR, cR, rfl, p0, p1, p3, q0, q1, q3⟩, ⟨b0, b1, b3, fun r hr => (g3 r hr).2.1, b2, fun r hr => ⟨(g3 r hr).1, (g3 r hr).2.2⟩, g0, g1⟩⟩
end
end Go.Proofs.YtcjcffcbfkimdaaDoor.Hand
/- A list of steps, opened. -/
namespace Go.Proofs.YtcjcffcbfkimdaaDoor.Hand
open Go.ChangeShapes Go.WideShapes Go.ChangeAt
open Go.RowKit Go.Proofs.YtcjcffcbfkimdaaDoorW.PrintWords Go.Proofs.YtcjcffcbfkimdaaDoorW.PrintMore Go.Proofs.YtcjcffcbfkimdaaDoor.Math

theorem Opens.triple {α β γ : Type} {t : TypeId} {f0 f1 f2 : Field} {a : Kd α} {b : Kd β} {c : Kd γ} {ga : α → Prop} {gb : β → Prop} {gc : γ → Prop} (ht : Tryd.prog.underlying t = some (.struct #[f0, f1, f2])) (o0 : f0.offset = 0) (o1 : f1.offset = a.sz) (o2 : f2.offset = a.sz + b.sz)
    (c0 : Tryd.prog.cellsOf f0.type = a.sz) (c1 : Tryd.prog.cellsOf f1.type = b.sz) (c2 : Tryd.prog.cellsOf f2.type = c.sz) (ct : Tryd.prog.cellsOf t = a.sz + (b.sz + c.sz))
    (h0 : Opens f0.type a ga) (h1 : Opens f1.type b gb) (h2 : Opens f2.type c gc) : Opens t (Kd.pair a (Kd.pair b c)) (fun x => ga x.1 ∧ gb x.2.1 ∧ gc x.2.2) := by
  intro H enc W base spare held fuel cs x h hw
  obtain ⟨y0, y1, y2, n, rfl, hl, k0, k1, k2⟩ := Deep.trod_struct3 ht h
  simp only [DataW.weights, ht, List.map_cons, List.map_nil, DataW.weightsEach, List.append_nil] at hw
  rw [o0, c0, List.drop_zero] at k0
  rw [o1, c1] at k1
  rw [o2, c2] at k2
  obtain ⟨x0, q0, g0⟩ := h0 H enc W base spare held n _ _ k0 (fun n hn => hw n (List.mem_append_left _ hn))
  obtain ⟨x1, q1, g1⟩ := h1 H enc W base spare held n _ _ k1 (fun n hn => hw n (List.mem_append_right _ (List.mem_append_left _ hn)))
  obtain ⟨x2, q2, g2⟩ := h2 H enc W base spare held n _ _ k2 (fun n hn => hw n (List.mem_append_right _ (List.mem_append_right _ hn)))
  refine ⟨(x0, x1, x2), ⟨cs.take a.sz, (cs.drop a.sz).take b.sz ++ (cs.drop (a.sz + b.sz)).take c.sz, ?_, q0, _, _, rfl, q1, q2⟩, g0, g1, g2⟩
  rw [List.take_of_length_le (show (cs.drop (a.sz + b.sz)).length ≤ c.sz by rw [List.length_drop, hl, ct]; omega), ← List.drop_drop, List.take_append_drop, List.take_append_drop]
section
set_option maxRecDepth 20000
variable {H : Type} {enc : TypeId × Value → H} {W : World} {base : Nat} {r : Reach} {b0 : Nat} {spare : Nat → Bool} {held : Bool} {v : Value} {d : DataW H} {ps : List MemPlace} {ts : List TypeId} {ds : List (DataW H)} {j : Nat}
theorem opens_step : Opens 55 KStep (fun x => (Lit.int .i64 x.1).wf = true ∧ (Lit.int .i64 x.2.1).wf = true ∧ (Lit.int .i64 x.2.2).wf = true) := Opens.triple Tryd.underlying55 rfl rfl rfl (by kernel_rfl) (by kernel_rfl) (by kernel_rfl) (by kernel_rfl) opens_i64 opens_i64 opens_i64
theorem openSteps (hsz : (DataW.weightsEach Tryd.prog ts ds).all (· ≤ reachBytes) = true) (ht : ts[j]? = some 29) (hd : ds[j]? = some d) (hv : Value.okWide Tryd.prog W r b0 29 v) (h : DataW.Trod enc Tryd.prog W base spare held 29 v d ps) :
    ∃ (A : Option Addr) (c : Nat) (l : List (Int × Int × Int)), v = .slice A l.length c ∧ KStep.C W A l.length l ∧ l.length * 24 ≤ 140737488351232 ∧ l.length ≤ c ∧ ∀ x ∈ l, (Lit.int .i64 x.1).wf = true ∧ (Lit.int .i64 x.2.1).wf = true ∧ (Lit.int .i64 x.2.2).wf = true :=
  openSlice Tryd.underlying29 opens_step (by kernel_rfl) (by kernel_rfl) hsz ht hd hv h
end
end Go.Proofs.YtcjcffcbfkimdaaDoor.Hand
/- The package's errors, as the row lists them: each variable holds a pointer of its own. -/
namespace Go.Proofs.YtcjcffcbfkimdaaDoor.Hand
open Go.ChangeShapes
open Go.RowKit Go.Proofs.YtcjcffcbfkimdaaDoorW.PrintWords Go.Proofs.YtcjcffcbfkimdaaDoorW.PrintMore Go.Proofs.YtcjcffcbfkimdaaDoor.Math

theorem laid_list {P : Program} {W : World} {nm : String} {ti tp te ts : TypeId} {ms : Array (String × TypeId)} {f : Field}
    (hi : P.underlying ti = some (.interface ms)) (hrow : ∀ u, P.typeName? 3 u = some nm → u = tp)
    (hp : P.underlying tp = some (.pointer te)) (he : P.underlying te = some (.struct #[f])) (hft : f.type = ts) (hfo : f.offset = 0) (hs : P.underlying ts = some .string) (hc : P.cellsOf te = 1) (hcs : P.cellsOf ts = 1) :
    ∀ (l : List (String × DataW Unit)) (ps : List MemPlace), DataW.LaidVars P W l ps → ps.Nodup →
      (∀ b off, MemPlace.cell b off ∈ ps → (∃ c t, W.heap[b]? = some (.cells c t (0, 0))) ∧ ∀ u v, W.cell? ⟨b, off, none⟩ = some (.iface u v) → Value.okWide P W .any 0 u v) →
      (∀ x ∈ l, (∃ text, x.2 = .iface nm (.ptr (.agg [.lit (.string text)]))) ∧ ∃ g, P.globalNamed x.1 = some g ∧ (P.globals[g]?).map (·.type) = some ti) →
      ∃ As : List Addr, As.length = l.length ∧ (∀ a ∈ As, MemPlace.cell a.block a.off ∈ ps) ∧ As.Nodup ∧ ∀ (i : Nat) (x : String × DataW Unit) (a : Addr), l[i]? = some x → As[i]? = some a → ∀ g, P.globalNamed x.1 = some g → W.cell? ⟨g, 0, none⟩ = some (.iface tp (.pointer (some a)))
  | [], ps, _, _, _, _ => ⟨[], rfl, fun a h => absurd h (List.not_mem_nil), List.nodup_nil, fun i x a h => by rw [List.getElem?_nil] at h; cases h⟩
  | (n, d) :: r, ps, h, hnd, hrows, hall => by
    obtain ⟨g, t, cs, fuel, p, q, hg, ht, hv, hd, hr, rfl⟩ := h
    obtain ⟨⟨text, hd2⟩, g2, hg2, ht2⟩ := hall (n, d) (List.mem_cons_self ..)
    simp only at hd2 hg2
    subst hd2
    obtain rfl := Option.some.inj (hg.symm.trans hg2)
    obtain rfl := Option.some.inj (ht.symm.trans ht2)
    obtain ⟨l0⟩ := cs
    have ok0 : ∀ u v, l0 = [.iface u v] → Value.okWide P W .any 0 u v := fun u v e => by
      subst e
      exact (hrows g 0 (by simp [MemPlace.row])).2 u v (by simpa using World.var?_cell hg hv 0)
    obtain ⟨a0, s0, rfl, hc0, hs0, hz0, rfl⟩ := errorString_of_trod hi hrow hp he hft hfo hs hc hcs hd ok0
    have hq : q.Nodup := (List.nodup_append.1 hnd).2.1
    obtain ⟨As, k1, k2, k3, k4⟩ := laid_list hi hrow hp he hft hfo hs hc hcs r q hr hq (fun b off hm => hrows b off (List.mem_append_right _ hm)) (fun x hx => hall x (List.mem_cons_of_mem _ hx))
    have hcell : W.cell? ⟨g, 0, none⟩ = some (.iface tp (.pointer (some a0))) := by simpa using World.var?_cell hg hv 0
    refine ⟨a0 :: As, by simp [k1], ?_, ?_, ?_⟩
    · intro a ha
      rcases List.mem_cons.1 ha with rfl | ha
      · exact List.mem_append_left _ (List.mem_append_right _ (by simp [MemPlace.row]))
      · exact List.mem_append_right _ (k2 a ha)
    · refine List.nodup_cons.2 ⟨fun hm => ?_, k3⟩
      exact (List.nodup_append.1 hnd).2.2 _ (List.mem_append_right _ (by simp [MemPlace.row] : MemPlace.cell a0.block a0.off ∈ MemPlace.row a0 1)) _ (k2 a0 hm) rfl
    · intro i x a hx ha g' hg'
      cases i with
      | zero =>
        simp only [List.getElem?_cons_zero, Option.some.injEq] at hx ha
        subst hx ha
        obtain rfl := Option.some.inj (hg.symm.trans hg')
        exact hcell
      | succ i =>
        simp only [List.getElem?_cons_succ] at hx ha
        exact k4 i x a hx ha g' hg'
theorem star_err : "*" ++ "errors.errorString" = "*errors.errorString" := by decide
theorem laid_errs {l : List (String × DataW Unit)} {W : World} (h : laidMetH Tryd.prog l W) (hp : (l.all fun x => x.2.handleName?.isNone) = true)
    (hall : ∀ x ∈ l, (∃ text, x.2 = .iface "*errors.errorString" (.ptr (.agg [.lit (.string text)]))) ∧ ∃ g, Tryd.prog.globalNamed x.1 = some g ∧ (Tryd.prog.globals[g]?).map (·.type) = some 31)
    (hn : l.map (fun x => Tryd.prog.globalNamed x.1) = GE.map some) : ∃ A, Errs W A := by
  rw [MakeChecks.laidMetH_plain _ _ _ hp] at h
  obtain ⟨ps, hv, hnd, hrows⟩ := h
  obtain ⟨As, k1, k2, k3, k4⟩ := laid_list Tryd.underlying31 (tp := 175) (fun u hu => typeName_ptr_named (nm := "errors.errorString") (by rw [star_err]; kernel_rfl) (by kernel_rfl) (by decide) u (by rw [star_err]; exact hu)) Tryd.underlying175 Tryd.underlying193 rfl rfl Tryd.underlying9 (by kernel_rfl) (by kernel_rfl) l ps hv hnd hrows hall
  have hl : l.length = 15 := by have := congrArg List.length hn; simpa [GE] using this
  have hget : ∀ i, i < 15 → ∃ a, As[i]? = some a ∧ As.getD i ⟨0, 0, none⟩ = a := fun i hi => ⟨As[i]'(by omega), List.getElem?_eq_getElem _, by simp [List.getD, List.getElem?_eq_getElem (show i < As.length by omega)]⟩
  refine ⟨fun i => As.getD i ⟨0, 0, none⟩, ⟨fun i hi => ?_, fun i hi => ?_, fun i j hi hj e => ?_⟩⟩
  · obtain ⟨a, e1, e2⟩ := hget i hi
    have hx : l[i]? = some l[i] := List.getElem?_eq_getElem _
    have hg : Tryd.prog.globalNamed (l[i]'(by omega)).1 = some (GE.getD i 0) := by
      have := congrArg (fun z => z[i]?) hn
      simp only [List.getElem?_map, hx, Option.map_some] at this
      have h2 : GE[i]? = some (GE.getD i 0) := by
        have hi2 : i < GE.length := by simpa [GE] using hi
        simp [List.getD, List.getElem?_eq_getElem hi2]
      rw [h2] at this
      simpa using this
    show W.cell? _ = some (.iface _ (.pointer (some (As.getD i _))))
    rw [e2]
    exact k4 i _ a hx e1 _ hg
  · obtain ⟨a, e1, e2⟩ := hget i hi
    show ∃ c t, W.heap[(As.getD i _).block]? = _
    rw [e2]
    exact (hrows a.block a.off (k2 a (List.mem_of_getElem? e1))).1
  · obtain ⟨a, e1, e2⟩ := hget i hi
    obtain ⟨b, e3, e4⟩ := hget j hj
    have e : As.getD i _ = As.getD j _ := e
    rw [e2, e4] at e
    subst e
    exact (List.getElem?_inj (show i < As.length by omega) k3).1 (e1.trans e3.symm)
/-- Is it the datum of an error of errors.New? -/
def sentB (d : DataW Unit) : Bool := match d with | .iface nm (.ptr (.agg [.lit (.string _)])) => nm == "*errors.errorString" | _ => false
theorem sentB_spec {d : DataW Unit} (h : sentB d = true) : ∃ text, d = .iface "*errors.errorString" (.ptr (.agg [.lit (.string text)])) := by
  unfold sentB at h
  split at h
  · rename_i nm text
    exact ⟨text, by rw [beq_iff_eq.1 h]⟩
  · cases h
theorem laid_errs' {l : List (String × DataW Unit)} {W : World} (h : laidMetH Tryd.prog l W) (hp : (l.all fun x => x.2.handleName?.isNone) = true)
    (hall : (l.all fun x => sentB x.2 && (((Tryd.prog.globalNamed x.1).bind fun g => (Tryd.prog.globals[g]?).map (·.type)) == some 31)) = true)
    (hn : l.map (fun x => Tryd.prog.globalNamed x.1) = GE.map some) : ∃ A, Errs W A := by
  refine laid_errs h hp (fun x hx => ?_) hn
  have h1 := List.all_eq_true.1 hall x hx
  rw [Bool.and_eq_true, beq_iff_eq] at h1
  obtain ⟨g, hg, ht⟩ := Option.bind_eq_some_iff.1 h1.2
  exact ⟨sentB_spec h1.1, g, hg, ht⟩
/-- The same where the row lists but some of the errors. -/
theorem laid_errsW {l : List (String × DataW Unit)} {W : World} (h : laidMetH Tryd.prog l W) (hp : (l.all fun x => x.2.handleName?.isNone) = true)
    (hall0 : (l.all fun x => sentB x.2 && (((Tryd.prog.globalNamed x.1).bind fun g => (Tryd.prog.globals[g]?).map (·.type)) == some 31)) = true)
    (hn : l.map (fun x => Tryd.prog.globalNamed x.1) = EW.map (fun i => some (GE.getD i 0))) : ∃ A, ErrsW W A := by
  have hall : ∀ x ∈ l, (∃ text, x.2 = .iface "*errors.errorString" (.ptr (.agg [.lit (.string text)]))) ∧ ∃ g, Tryd.prog.globalNamed x.1 = some g ∧ (Tryd.prog.globals[g]?).map (·.type) = some 31 := fun x hx => by
    have h1 := List.all_eq_true.1 hall0 x hx
    rw [Bool.and_eq_true, beq_iff_eq] at h1
    obtain ⟨g, hg, ht⟩ := Option.bind_eq_some_iff.1 h1.2
    exact ⟨sentB_spec h1.1, g, hg, ht⟩
  rw [MakeChecks.laidMetH_plain _ _ _ hp] at h
  obtain ⟨ps, hv, hnd, hrows⟩ := h
  obtain ⟨As, k1, _, _, k4⟩ := laid_list Tryd.underlying31 (tp := 175) (fun u hu => typeName_ptr_named (nm := "errors.errorString") (by rw [star_err]; kernel_rfl) (by kernel_rfl) (by decide) u (by rw [star_err]; exact hu)) Tryd.underlying175 Tryd.underlying193 rfl rfl Tryd.underlying9 (by kernel_rfl) (by kernel_rfl) l ps hv hnd hrows hall
  have hl : l.length = EW.length := by have := congrArg List.length hn; simpa using this
  refine ⟨fun i => As.getD (EW.idxOf i) ⟨0, 0, none⟩, ⟨fun i hi => ?_⟩⟩
  have hj : EW.idxOf i < EW.length := List.idxOf_lt_length_of_mem hi
  have hge : EW[EW.idxOf i]? = some i := by rw [List.getElem?_eq_getElem hj, List.getElem_idxOf]
  have ha : As[EW.idxOf i]? = some (As[EW.idxOf i]'(by omega)) := List.getElem?_eq_getElem _
  have hx : l[EW.idxOf i]? = some (l[EW.idxOf i]'(by omega)) := List.getElem?_eq_getElem _
  have hg : Tryd.prog.globalNamed (l[EW.idxOf i]'(by omega)).1 = some (GE.getD i 0) := by
    have := congrArg (fun z => z[EW.idxOf i]?) hn
    simp only [List.getElem?_map, hx, hge, Option.map_some] at this
    simpa using this
  show W.cell? _ = some (.iface _ (.pointer (some (As.getD _ _))))
  rw [show As.getD (EW.idxOf i) ⟨0, 0, none⟩ = As[EW.idxOf i]'(by omega) by rw [List.getD_eq_getElem?_getD, ha]; rfl]
  exact k4 _ _ _ hx ha _ hg
end Go.Proofs.YtcjcffcbfkimdaaDoor.Hand
/- What a row lays: the errors out of a longer list, the handle of the type error. -/
namespace Go.Proofs.YtcjcffcbfkimdaaDoor.Hand
open Go.ChangeShapes
open Go.RowKit Go.Proofs.YtcjcffcbfkimdaaDoorW.PrintWords Go.Proofs.YtcjcffcbfkimdaaDoorW.PrintMore Go.Proofs.YtcjcffcbfkimdaaDoor.Math

theorem laid_errsF (p : String × DataW Unit → Bool) {l : List (String × DataW Unit)} {W : World} (h : laidMetH Tryd.prog l W) (hp : (l.all fun x => x.2.handleName?.isNone) = true)
    (hp2 : ((l.filter p).all fun x => x.2.handleName?.isNone) = true)
    (hall : ((l.filter p).all fun x => sentB x.2 && (((Tryd.prog.globalNamed x.1).bind fun g => (Tryd.prog.globals[g]?).map (·.type)) == some 31)) = true)
    (hn : (l.filter p).map (fun x => Tryd.prog.globalNamed x.1) = GE.map some) : ∃ A, Errs W A := by
  rw [MakeChecks.laidMetH_plain _ _ _ hp] at h
  exact laid_errs' (l := l.filter p) (by rw [MakeChecks.laidMetH_plain _ _ _ hp2]; exact h.filter p) hp2 hall hn
theorem laidMetH_nons {P : Program} {l : List (String × DataW Unit)} {W : World} (h : laidMetH P l W) : laidMetH P (l.filter fun x => x.2.handleName?.isNone) W := by
  have hp : ((l.filter fun x => x.2.handleName?.isNone).all fun x => x.2.handleName?.isNone) = true := by
    rw [List.all_eq_true]
    intro x hx
    exact (List.mem_filter.1 hx).2
  rw [MakeChecks.laidMetH_plain _ _ _ hp]
  unfold laidMetH at h
  split at h
  · rename_i he
    rw [List.filter_eq_nil_iff] at he
    have e : (l.filter fun x => x.2.handleName?.isNone) = l := by
      rw [List.filter_eq_self]
      intro x hx
      have := he x hx
      cases hn : x.2.handleName? with
      | none => rfl
      | some s => rw [hn] at this; simp at this
    rw [e]
    exact h
  · exact h.1
theorem errTy_rt : (Tryd.prog.cutTypes.find? (·.1 == "internal/reflectlite.rtype")).map (·.2) = some 137 := by kernel_rfl
theorem errTy_named : Tryd.prog.globalNamed "errors.errorType" = some 15 := by kernel_rfl
theorem errTy_row : ((List.range Tryd.prog.types.size).filter fun t => Tryd.prog.rowNamed t [101, 114, 114, 111, 114]) = [31] := by kernel_rfl
theorem errTy_handle : typeHandle Tryd.prog 31 = .pointer (some ⟨19, 31, none⟩) := by kernel_rfl
theorem laid_errTyR {l : List (String × DataW Unit)} {W : World} (h : laidMetH Tryd.prog l W) (hm : (l.filter fun x => x.2.handleName?.isSome) = [("errors.errorType", Rows.laid_errors_errorType)]) : ErrTyR W := by
  unfold laidMetH at h
  rw [hm] at h
  obtain ⟨name, u, ty, e1, e2, e3, e4, e5⟩ := h.2 _ (List.mem_singleton.2 rfl)
  have en : name = [101, 114, 114, 111, 114] := (Option.some.inj e1).symm
  subst en
  obtain rfl := Option.some.inj (errTy_rt.symm.trans e2)
  have hm : ty ∈ (List.range Tryd.prog.types.size).filter fun t => Tryd.prog.rowNamed t [101, 114, 114, 111, 114] := List.mem_filter.2 ⟨List.mem_range.2 e3, e4⟩
  rw [errTy_row] at hm
  obtain rfl := List.mem_singleton.1 hm
  rw [errTy_handle] at e5
  unfold ErrTyR
  simpa using World.var?_cell errTy_named e5 0
end Go.Proofs.YtcjcffcbfkimdaaDoor.Hand
/- The walk of DerivChecks: it answers true and leaves the memory that it was given as it was, where the errors' variables stand. -/
namespace Go.Proofs.YtcjcffcbfkimdaaDoor.Hand
open Go.RowKit Go.Proofs.YtcjcffcbfkimdaaDoorW.PrintWords Go.Proofs.YtcjcffcbfkimdaaDoorW.PrintMore Go.Proofs.YtcjcffcbfkimdaaDoor.Math

set_option maxHeartbeats 4000000 in
set_option maxRecDepth 20000 in
theorem derivChecks_walk {w : World} (g : Gr) (v : Value) (hg : GramAt w v g ∧ GramB g) (kA : Option Addr) (kc : Nat) (tk : List Int)
    (hk : Kd.C (Kd.int .i64) w kA tk.length tk ∧ tk.length * 8 ≤ 140737488351232 ∧ tk.length ≤ kc ∧ ∀ x ∈ tk, (Lit.int .i64 x).wf = true) (tA : Option Addr) (tc : Nat) (t : List (Int × Int × Int))
    (ht : KStep.C w tA t.length t ∧ t.length * 24 ≤ 140737488351232 ∧ t.length ≤ tc ∧ ∀ x ∈ t, (Lit.int .i64 x.1).wf = true ∧ (Lit.int .i64 x.2.1).wf = true ∧ (Lit.int .i64 x.2.2).wf = true) (hE : ∃ A, Errs w A) (hT : ErrTyR w) :
    Calls Tryd.prog 4 #[v, .slice kA tk.length kc, .slice tA t.length tc] w fun e w' => e = .returned (.bool true) ∧ Below w.heap.size w w' := by
  obtain ⟨hv, hB⟩ := hg
  obtain ⟨hkC, hk8, hkc, -⟩ := hk
  obtain ⟨htC, ht24, htc, -⟩ := ht
  obtain ⟨A, hE⟩ := hE
  have HV := Lib.hid hv
  obtain ⟨AT, cT, AN, cN, AR, cR, rfl, q1, q2, q3, q4, q5, q6⟩ := hv
  clear q4 q5 q6
  obtain ⟨w1, hw1⟩ : ∃ w1, w.alloc (.cells #[.slice AT g.terms.length cT, .slice AN g.nonterms.length cN, .int .i64 g.ax, .slice AR g.rules.length cR] 25) = w1 := ⟨_, rfl⟩
  have hb1 : Below w.heap.size w w1 := by rw [← hw1]; exact below_alloc (Below.refl _ _) _
  have hk1 : w1.heap[w.heap.size]? = some (.cells #[.slice AT g.terms.length cT, .slice AN g.nonterms.length cN, .int .i64 g.ax, .slice AR g.rules.length cR] 25 (0, 0)) := by rw [← hw1]; exact heap_alloc_new w _
  obtain ⟨c0, c1, c2, c3⟩ := gr_blk hk1
  have HB1 := Lib.hid hb1
  have HK1 := Lib.hid hk1
  have HG1 := Lib.hid (HV.out.below hb1)
  have HL1 := Lib.hid (Kd.C_below hkC hb1)
  have HT1 := Lib.hid (Kd.C_below htC hb1)
  have HE1 := Lib.hid (hE.below hb1)
  have HTy := Lib.hid (hT.below hb1)
  have HLG := Lib.hid (lentGrammar_calls _ g w1 HG1.out (by have := hB.terms; omega) (by have := hB.nonterms; omega) (by have := hB.rules; omega) (fun r hr => by have := hB.right r hr; omega))
  have HLI := Lib.hid (fun (W : World) (hW : Below w1.heap.size w1 W) => lentInts_calls kA kc tk W (Kd.C_below HL1.out hW) (by omega))
  have HLS := Lib.hid (fun (W : World) (hW : Below w1.heap.size w1 W) => lentSteps_calls tA tc t W (Kd.C_below HT1.out hW) (by omega))
  clear hb1 hk1 hkC htC hE hB hk8 ht24 hT
  go_enter Tryd.func4, Tryd.ntmps4
  go_upto_region 2 with (first
    | (go_at_call 9; refine HLG.out.mono ?_; rintro e w2 ⟨u, rfl, hu, hb2⟩; have HU := Aside0.mk hu; have HB2 := Lib.hid hb2; obtain ⟨BT, dT, BN, dN, BR, dR, rfl, -⟩ := hu; clear hb2 c0 c1 c2 c3)
    | (go_at_call 10; refine (HLI.out w2 HB2.out).mono ?_; rintro e w3 ⟨Al, cl, rfl, hcl, hrl, hb3⟩; have HRl := Lib.hid (Kd.R_reads' hrl); have HB3 := Lib.hid hb3; clear hrl hb3)
    | (go_at_call 17; refine (HLS.out w3 (below_next HB2.out HB3.out)).mono ?_; rintro e w4 ⟨As, cs, rfl, hcs, hrs, hb4⟩; have HRs := Lib.hid (Kd.R_reads' hrs); have HB4 := Lib.hid hb4; clear hrs hb4))
  obtain ⟨w5, hw5⟩ : ∃ w5, w4.alloc (.cells #[.slice BT g.terms.length dT, .slice BN g.nonterms.length dN, .int .i64 g.ax, .slice BR g.rules.length dR] 25) = w5 := ⟨_, rfl⟩
  rw [hw5]
  have hb5 : Below w4.heap.size w4 w5 := by rw [← hw5]; exact below_alloc (Below.refl _ _) _
  have hk5 : w5.heap[w4.heap.size]? = some (.cells #[.slice BT g.terms.length dT, .slice BN g.nonterms.length dN, .int .i64 g.ax, .slice BR g.rules.length dR] 25 (0, 0)) := by rw [← hw5]; exact heap_alloc_new w4 _
  have h15 : Below w1.heap.size w1 w5 := below_next (below_next (below_next HB2.out HB3.out) HB4.out) hb5
  have HE5 := Lib.hid (HE1.out.below h15)
  have HTy5 := Lib.hid (HTy.out.below h15)
  have HG5 := Lib.hid (HG1.out.below h15)
  have HT5 := Lib.hid (Kd.C_below HT1.out h15)
  have HKn5 := Lib.hid (Kd.C_below HL1.out h15)
  have HU5 := Lib.hid (HU.out.below (below_next (below_next HB3.out HB4.out) hb5))
  have HL5 : Hid (KMInt.C w5 Al (tk.length + 1) (tk.map some ++ [none])) := Lib.hid (by have := Kd.C_below HRl.out.2.2 (below_next HB4.out hb5); rwa [← HRl.out.1] at this)
  have HS5 : Hid (KMStep.C w5 As (t.length + 1) (t.map some ++ [none])) := Lib.hid (by have := Kd.C_below HRs.out.2.2 hb5; rwa [← HRs.out.1] at this)
  have HKg := Lib.hid (blk_below HK1.out h15)
  have HKu := Lib.hid hk5
  have HB5 := Lib.hid (below_next HB1.out h15)
  obtain ⟨c0, c1, c2, c3⟩ := gr_blk HKg.out
  have HLi := Lib.hid (lent_C (a := Kd.int .i64) HL5.out)
  have HLs := Lib.hid (lent_C (a := KStep) HS5.out)
  have hle : t.length ≤ cs := by omega
  have HRC := Lib.hid (rcheck18_calls _ g kA kc tk tA tc t w5 A HE5.out HG5.out HKn5.out HT5.out htc)
  have HDC := Lib.hid (fun (W : World) (hW : Below w5.heap.size w5 W) => check18_calls _ g Al cl tk As cs t W A (HE5.out.below hW) (HU5.out.below hW).plain (Kd.C_below HLi.out hW) (Kd.C_below HLs.out hW) hle)
  have HFr := Lib.hid (fun (W : World) (hW : Below w5.heap.size w5 W) => frontier_calls _ g As cs t W A (HE5.out.below hW) (HU5.out.below hW).plain (Kd.C_below HLs.out hW) hle)
  have HRu := Lib.hid (fun (W : World) (hW : Below w5.heap.size w5 W) => drules_calls _ g As cs t W A (HE5.out.below hW) (HU5.out.below hW).plain (Kd.C_below HLs.out hW) hle)
  have HDe := Lib.hid (fun (W : World) (hW : Below w5.heap.size w5 W) => ddepth_calls _ g As cs t W A (HE5.out.below hW) (HU5.out.below hW).plain (Kd.C_below HLs.out hW) hle)
  have HRK := Lib.hid (fun (W : World) (hW : Below w5.heap.size w5 W) => rknown_calls _ g tA tc t W A (HE5.out.below hW) (HG5.out.below hW) (Kd.C_below HT5.out hW) htc)
  clear hw5 hb5 hk5 h15 hw1 HLG HLI HLS hle
  obtain ⟨E, hEe⟩ : ∃ E, checkE g tk t = E := ⟨_, rfl⟩
  obtain ⟨F, hF⟩ : ∃ F, knownE g t = F := ⟨_, rfl⟩
  obtain ⟨K, hK⟩ : ∃ K, knownD g t = K := ⟨_, rfl⟩
  obtain ⟨ek, er⟩ := E
  obtain ⟨fk, fr⟩ := F
  obtain ⟨K1, K2, K3⟩ := K
  unfold RCheckP at HRC
  unfold CheckP at HDC
  unfold RKnownP at HRK
  rw [hEe] at HRC
  simp only [hEe] at HDC
  simp only [hF, hK] at HFr HRu HDe HRK
  have HNp : Hid (∀ u W, ErrV W A u ek er → NoPlace u) := Lib.hid (fun u W h => h.noPlace (by have := checkE_ge g tk t; rw [hEe] at this; exact this))
  have HNk : Hid (∀ u W, ErrV W A u fk fr → NoPlace u) := Lib.hid (fun u W h => h.noPlace (by have := knownE_ge g t; rw [hF] at this; exact this))
  have hdd : ((K3 : Int) != (K3 : Int)) = false := by simp
  clear hEe hF hK
  go_wp2_with (first
    | (go_at_call 18; refine HRC.out.mono ?_; rintro e w6 ⟨rfl, hb6⟩; have P6 := Lib.hid hb6; obtain ⟨x0, x1, x2, x3⟩ := gr_blk (blk_below HKu.out hb6); clear hb6 c0 c1 c2 c3)
    | (go_at_call 19; refine (HDC.out w6 P6.out).mono ?_; rintro e w7 ⟨u, rfl, hu, hb7⟩; have HUc := Lib.hid hu; have P7 := Lib.hid (below_next P6.out hb7); clear hu hb7 x0 x1 x2 x3)
    | (go_at_call 13; refine (as_calls (HE5.out.below P7.out) (HTy5.out.below P7.out) HUc.out (HNp.out _ _ HUc.out)).mono ?_; rintro e w8 ⟨rfl, hb8⟩; have P8 := Lib.hid (below_next P7.out hb8); obtain ⟨x0, x1, x2, x3⟩ := gr_blk (blk_below HKu.out P8.out); clear hb8 HUc)
    | (go_at_call 20; refine (HFr.out w8 P8.out).mono ?_; rintro e w9 ⟨va, ua, rfl, hra, hua, hb9⟩; obtain ⟨A9, c9, e9⟩ := Kd.R_slice hra; subst e9; have HA9 := Lib.hid (Kd.R_reads' hra).2.2; have HU9 := Lib.hid hua; have P9 := Lib.hid (below_next P8.out hb9); obtain ⟨y0, y1, y2, y3⟩ := gr_blk (blk_below HKu.out P9.out); clear hra hua hb9 x0 x1 x2 x3)
    | (go_at_call 21; refine (HRu.out w9 P9.out).mono ?_; rintro e w10 ⟨vb, ub, rfl, hrb, hub, hb10⟩; obtain ⟨A10, c10, e10⟩ := Kd.R_slice hrb; subst e10; have HA10 := Lib.hid (Kd.R_reads' hrb).2.2; have HU10 := Lib.hid hub; have HB10 := Lib.hid hb10; have P10 := Lib.hid (below_next P9.out hb10); obtain ⟨x0, x1, x2, x3⟩ := gr_blk (blk_below HKu.out P10.out); clear hrb hub hb10 y0 y1 y2 y3)
    | (go_at_call 22; refine (HDe.out w10 P10.out).mono ?_; rintro e w11 ⟨vc, uc, rfl, rfl, huc, hb11⟩; have HU11 := Lib.hid huc; have HB11 := Lib.hid hb11; have P11 := Lib.hid (below_next P10.out hb11); obtain ⟨y0, y1, y2, y3⟩ := gr_blk (blk_below HKg.out P11.out); clear huc hb11 x0 x1 x2 x3)
    | (go_at_call 23; refine (HRK.out w11 P11.out).mono ?_; rintro e w12 ⟨vd, ve, rfl, hrd, hre, hb12⟩; obtain ⟨A12, c12, e12⟩ := Kd.R_slice hrd; subst e12; obtain ⟨A13, c13, e13⟩ := Kd.R_slice hre; subst e13; have HA12 := Lib.hid (Kd.R_reads' hrd).2.2; have HA13 := Lib.hid (Kd.R_reads' hre).2.2; have HB12 := Lib.hid hb12; have P12 := Lib.hid (below_next P11.out hb12); clear hrd hre hb12 y0 y1 y2 y3)
    | (go_at_call 13; refine (as_calls (HE5.out.below P12.out) (HTy5.out.below P12.out) (HU9.out.below (below_next (below_next HB10.out HB11.out) HB12.out)) (HNk.out _ _ HU9.out)).mono ?_; rintro e w13 ⟨rfl, hb13⟩; have HB13 := Lib.hid hb13; have P13 := Lib.hid (below_next P12.out hb13); clear hb13 HU9)
    | (go_at_call 13; refine (as_calls (HE5.out.below P13.out) (HTy5.out.below P13.out) (HU10.out.below (below_next (below_next HB11.out HB12.out) HB13.out)) (HNk.out _ _ HU10.out)).mono ?_; rintro e w14 ⟨rfl, hb14⟩; have HB14 := Lib.hid hb14; have P14 := Lib.hid (below_next P13.out hb14); clear hb14 HU10)
    | (go_at_call 13; refine (as_calls (HE5.out.below P14.out) (HTy5.out.below P14.out) (HU11.out.below (below_next (below_next HB12.out HB13.out) HB14.out)) (HNk.out _ _ HU11.out)).mono ?_; rintro e w15 ⟨rfl, hb15⟩; have P15 := Lib.hid (below_next P14.out hb15); have Q15 := Lib.hid (below_next (below_next HB13.out HB14.out) hb15); clear hb15 HU11)
    | (go_at_call 24; refine (ints_calls A9 A12 c9 c12 K1 K1 w15 (Kd.C_below HA9.out (below_next (below_next (below_next HB10.out HB11.out) HB12.out) Q15.out)) (Kd.C_below HA12.out Q15.out)).mono ?_; rw [decide_eq_true (show K1 = K1 from rfl)]; rintro e w16 ⟨rfl, n16, rfl⟩; clear HA9)
    | (go_at_call 24; refine (ints_calls A10 A13 c10 c13 K2 K2 _ (Kd.C_drewN (Kd.C_below HA10.out (below_next (below_next HB11.out HB12.out) Q15.out)) n16) (Kd.C_drewN (Kd.C_below HA13.out Q15.out) n16)).mono ?_; rw [decide_eq_true (show K2 = K2 from rfl)]; rintro e w17 ⟨rfl, n17, rfl⟩; have P17 := Lib.hid (pw_below_drewN P15.out (n16 + n17)); obtain ⟨z0, z1, z2, z3⟩ := gr_blk (blk_below HKg.out P17.out); obtain ⟨y0, y1, y2, y3⟩ := gr_blk (blk_below HKu.out P17.out))
    | (go_at_call 15; refine (keptGrammar_calls _ _ g _ (HU5.out.below P17.out) (HG5.out.below P17.out)).mono ?_; rintro e w18 ⟨rfl, hb18⟩; have P18 := Lib.hid (below_next P17.out hb18); clear hb18)
    | (go_at_call 16; refine (keptInts_calls Al kA cl kc tk w18 (Kd.C_below HL5.out P18.out) hcl (Kd.C_below HKn5.out P18.out)).mono ?_; rintro e w19 ⟨rfl, n19, rfl⟩)
    | (go_at_call 25; refine (keptSteps_calls As tA cs tc t _ (Kd.C_drewN (Kd.C_below HS5.out P18.out) n19) hcs (Kd.C_drewN (Kd.C_below HT5.out P18.out) n19)).mono ?_; rintro e w20 ⟨rfl, n20, rfl⟩))
  go_ret
  exact ⟨rfl, below_next HB5.out (by first | exact pw_below_drewN P18.out _ | exact pw_below_drewN (pw_below_drewN P18.out _) _)⟩
end Go.Proofs.YtcjcffcbfkimdaaDoor.Hand
