/- Arguments of whatever kind, opened: the reading of memory gives the plain datum that it spells. -/
import Derived.Test.YtagcmhnanngfbaaDoorKinds
import Derived.Deep.Slices
import Derived.ChangeSame
import Derived.SizedLaws
import Derived.Lib.SmallJoins
namespace Go.Proofs.YtagcmhnanngfbaaDoor.Hand
open Go.ChangeShapes Go.WideShapes Go.ChangeAt
open Go.RowKit Go.Proofs.YtagcmhnanngfbaaDoorW.PrintWords Go.Proofs.YtagcmhnanngfbaaDoorW.PrintMore Go.Proofs.YtagcmhnanngfbaaDoor.Math

/-- Whatever reads by this type spells a datum of this kind. -/
def Opens {α : Type} (t : TypeId) (d : Kd α) (good : α → Prop) : Prop :=
  ∀ (H : Type) (enc : TypeId × Value → H) (W : World) (base : Nat) (spare : Nat → Bool) (held : Bool) (fuel : Nat) (cs : List Value) (x : DataW H × List MemPlace), DataW.trod enc Tryd.prog W base spare held fuel t cs = some x →
    (∀ n ∈ x.1.weights Tryd.prog t, n ≤ reachBytes) → ∃ a, d.K W a cs ∧ good a
theorem Opens.int {t : TypeId} {k : IntKind} (ht : Tryd.prog.underlying t = some (.int k)) : Opens t (Kd.int k) (fun a => (Lit.int k a).wf = true) := by
  intro H enc W base spare held fuel cs x h _
  obtain ⟨n, rfl, _, hw⟩ := DataW.trod_int ht h
  exact ⟨n, rfl, hw⟩
theorem Opens.string {t : TypeId} (ht : Tryd.prog.underlying t = some .string) : Opens t Kd.string (fun s => s.size ≤ 140737488351232) := by
  intro H enc W base spare held fuel cs x h hw
  obtain ⟨s, rfl, rfl, _⟩ := DataW.trod_string ht h
  refine ⟨s, rfl, ?_⟩
  have := hw s.data.toList.length (by simp [DataW.weights])
  simpa [reachBytes] using this
theorem list_of {α : Type} {p : Nat → α → Prop} : ∀ {n : Nat} (_ : ∀ i, i < n → ∃ x, p i x), ∃ l : List α, l.length = n ∧ ∀ i x, l[i]? = some x → p i x
  | 0, _ => ⟨[], rfl, fun i x h => by simp at h⟩
  | n + 1, h => by
    obtain ⟨l, hl, hp⟩ := list_of (n := n) (fun i hi => h i (by omega))
    obtain ⟨x, hx⟩ := h n (by omega)
    refine ⟨l ++ [x], by simp [hl], fun i y hy => ?_⟩
    rcases Nat.lt_or_ge i l.length with hi | hi
    · rw [List.getElem?_append_left hi] at hy; exact hp i y hy
    · rw [List.getElem?_append_right hi] at hy
      have h0 : i - l.length = 0 := by
        rcases Nat.eq_zero_or_pos (i - l.length) with h | h
        · exact h
        · rw [List.getElem?_eq_none (by simp; omega)] at hy; cases hy
      rw [h0] at hy
      simp at hy
      subst hy
      have : i = n := by omega
      subst this
      exact hx
theorem weightsAll_mem {H : Type} {P : Program} {e : TypeId} {d : DataW H} {n : Nat} : ∀ {l : List (DataW H)}, d ∈ l → n ∈ d.weights P e → n ∈ DataW.weightsAll P e l
  | [], h, _ => by cases h
  | a :: r, h, hn => by
    simp only [DataW.weightsAll, List.mem_append]
    rcases List.mem_cons.1 h with rfl | h
    · exact .inl hn
    · exact .inr (weightsAll_mem h hn)
theorem Opens.slice {α : Type} {t e : TypeId} {B : Nat} {d : Kd α} {good : α → Prop} (ht : Tryd.prog.underlying t = some (.slice e)) (he : Opens e d good) (hc : Tryd.prog.cellsOf e = d.sz) (hB : Tryd.prog.bytesOf e = B) :
    Opens t (Kd.slice e d) (fun l => l.length * B ≤ 140737488351232 ∧ ∀ x ∈ l, good x) := by
  intro H enc W base spare held fuel cs x h hw
  rcases Deep.open_slice ht h with ⟨rfl, rfl⟩ | ⟨a, len, cap, m, n, D, Pl, rfl, hb, hl, hm, hmm, rfl, hx⟩
  · exact ⟨[], ⟨none, 0, rfl, Nat.le_refl _, Kd.C_nil d W⟩, by simp, fun x hx => absurd hx (List.not_mem_nil)⟩
  · have hlm : len ≤ m := by rw [hmm]; split <;> omega
    simp only [DataW.weights, ht] at hw
    have hw1 := hw _ (List.mem_cons_self ..)
    simp only [List.length_map, List.length_range] at hw1
    have hw2 : ∀ i, i < len → ∀ k ∈ (D i).weights Tryd.prog e, k ≤ reachBytes := fun i hi k hk =>
      hw k (List.mem_cons_of_mem _ (List.mem_append_left _ (weightsAll_mem (List.mem_map.2 ⟨i, List.mem_range.2 hi, rfl⟩) hk)))
    obtain ⟨l, hll, hp⟩ := list_of (n := len) (p := fun i p => good p ∧ ∃ cs', d.K W p cs' ∧ ∀ j u, cs'[j]? = some u → W.cell? (a.add (i * d.sz + j)) = some u) (fun i hi => by
      obtain ⟨cs', h1, h2⟩ := hx i (by omega)
      obtain ⟨p, hk, hg⟩ := he H enc W base spare held n cs' _ h2 (hw2 i hi)
      obtain ⟨_, hlen, hcell⟩ := World.cells?_some h1
      refine ⟨p, hg, cs', hk, fun j u hu => ?_⟩
      have hj : j < Tryd.prog.cellsOf e := by rw [← hlen]; exact (List.getElem?_eq_some_iff.1 hu).1
      have := hcell j hj
      rw [Deep.add_add, hu, hc] at this
      exact this)
    subst hll
    refine ⟨l, ⟨some a, cap, rfl, hl, rfl, ?_, fun _ => ⟨a, rfl, fun j p hj => ?_⟩⟩, ?_, fun x hx => ?_⟩
    · have : maxLen = 9223372036854775807 := by decide
      omega
    · obtain ⟨_, cs', hk, hcell⟩ := hp j p hj
      exact ⟨cs', d.K_len hk, hk, hcell⟩
    · rw [hB] at hw1
      have h3 : l.length * B ≤ (l.length + (m - l.length)) * B := Nat.mul_le_mul_right _ (by omega)
      have h4 : (reachBytes : Nat) = 140737488351232 := by decide
      omega
    · obtain ⟨i, hi⟩ := List.getElem?_of_mem hx
      exact (hp i x hi).1
theorem Opens.pair {α β : Type} {t : TypeId} {f0 f1 : Field} {a : Kd α} {b : Kd β} {ga : α → Prop} {gb : β → Prop} (ht : Tryd.prog.underlying t = some (.struct #[f0, f1])) (o0 : f0.offset = 0) (o1 : f1.offset = a.sz) (c0 : Tryd.prog.cellsOf f0.type = a.sz) (c1 : Tryd.prog.cellsOf f1.type = b.sz) (ct : Tryd.prog.cellsOf t = a.sz + b.sz)
    (h0 : Opens f0.type a ga) (h1 : Opens f1.type b gb) : Opens t (Kd.pair a b) (fun x => ga x.1 ∧ gb x.2) := by
  intro H enc W base spare held fuel cs x h hw
  obtain ⟨y0, y1, n, rfl, hl, k0, k1⟩ := trod_struct2 ht h
  simp only [DataW.weights, ht, List.map_cons, List.map_nil, DataW.weightsEach, List.append_nil] at hw
  rw [o0, c0, List.drop_zero] at k0
  rw [o1, c1] at k1
  obtain ⟨x0, q0, g0⟩ := h0 H enc W base spare held n _ _ k0 (fun n hn => hw n (List.mem_append_left _ hn))
  obtain ⟨x1, q1, g1⟩ := h1 H enc W base spare held n _ _ k1 (fun n hn => hw n (List.mem_append_right _ hn))
  refine ⟨(x0, x1), ⟨cs.take a.sz, (cs.drop a.sz).take b.sz, ?_, q0, q1⟩, g0, g1⟩
  rw [List.take_of_length_le (show (cs.drop a.sz).length ≤ b.sz by rw [List.length_drop, hl, ct]; omega), List.take_append_drop]
section
set_option maxRecDepth 20000
variable {H : Type} {enc : TypeId × Value → H} {W : World} {base : Nat} {r : Reach} {b0 : Nat} {spare : Nat → Bool} {held : Bool} {v : Value} {d : DataW H} {ps : List MemPlace} {ts : List TypeId} {ds : List (DataW H)} {j : Nat}

theorem openSlice {α : Type} {t e : TypeId} {B : Nat} {k : Kd α} {good : α → Prop} (hu : Tryd.prog.underlying t = some (.slice e)) (he : Opens e k good) (hc : Tryd.prog.cellsOf e = k.sz) (hB : Tryd.prog.bytesOf e = B)
    (hsz : (DataW.weightsEach Tryd.prog ts ds).all (· ≤ reachBytes) = true) (ht : ts[j]? = some t) (hd : ds[j]? = some d) (hv : Value.okWide Tryd.prog W r b0 t v) (h : DataW.Trod enc Tryd.prog W base spare held t v d ps) :
    ∃ (A : Option Addr) (c : Nat) (l : List α), v = .slice A l.length c ∧ k.C W A l.length l ∧ l.length * B ≤ 140737488351232 ∧ l.length ≤ c ∧ ∀ x ∈ l, good x := by
  obtain ⟨a, len, cap, rfl⟩ := okWide_slice hu hv
  obtain ⟨fuel, hf⟩ := h
  obtain ⟨l, ⟨A, c, hcs, hlc, hC⟩, hb, hg⟩ := (Opens.slice hu he hc hB) H enc W base spare held fuel _ _ hf (fun n hn => by
    have := List.all_eq_true.1 hsz n (DataW.weights_mem_each ht hd n hn)
    simpa using this)
  simp [Value.cells] at hcs
  obtain ⟨rfl, rfl, rfl⟩ := hcs
  exact ⟨_, _, l, rfl, hC, hb, hlc, hg⟩
theorem opens_i64 : Opens 3 (Kd.int .i64) (fun a => (Lit.int .i64 a).wf = true) := Opens.int Tryd.underlying3
theorem opens_ints : Opens 38 (Kd.slice 3 (Kd.int .i64)) (fun l => l.length * 8 ≤ 140737488351232 ∧ ∀ x ∈ l, (Lit.int .i64 x).wf = true) := Opens.slice Tryd.underlying38 opens_i64 (by kernel_rfl) (by kernel_rfl)
theorem openInts (hsz : (DataW.weightsEach Tryd.prog ts ds).all (· ≤ reachBytes) = true) (ht : ts[j]? = some 38) (hd : ds[j]? = some d) (hv : Value.okWide Tryd.prog W r b0 38 v) (h : DataW.Trod enc Tryd.prog W base spare held 38 v d ps) :
    ∃ (A : Option Addr) (c : Nat) (l : List Int), v = .slice A l.length c ∧ Kd.C (Kd.int .i64) W A l.length l ∧ l.length * 8 ≤ 140737488351232 ∧ l.length ≤ c ∧ ∀ x ∈ l, (Lit.int .i64 x).wf = true :=
  openSlice Tryd.underlying38 opens_i64 (by kernel_rfl) (by kernel_rfl) hsz ht hd hv h
theorem opens_strings : Opens 22 (Kd.slice 9 Kd.string) (fun l => l.length * 16 ≤ 140737488351232 ∧ ∀ x ∈ l, x.size ≤ 140737488351232) := Opens.slice Tryd.underlying22 (Opens.string Tryd.underlying9) (by kernel_rfl) (by kernel_rfl)
theorem openStrings (hsz : (DataW.weightsEach Tryd.prog ts ds).all (· ≤ reachBytes) = true) (ht : ts[j]? = some 22) (hd : ds[j]? = some d) (hv : Value.okWide Tryd.prog W r b0 22 v) (h : DataW.Trod enc Tryd.prog W base spare held 22 v d ps) :
    ∃ (A : Option Addr) (c : Nat) (l : List ByteArray), v = .slice A l.length c ∧ Kd.C Kd.string W A l.length l ∧ l.length * 16 ≤ 140737488351232 ∧ l.length ≤ c ∧ ∀ x ∈ l, x.size ≤ 140737488351232 :=
  openSlice Tryd.underlying22 (Opens.string Tryd.underlying9) (by kernel_rfl) (by kernel_rfl) hsz ht hd hv h
theorem opens_rule : Opens 56 KRule (fun x => (Lit.int .i64 x.1).wf = true ∧ x.2.length * 8 ≤ 140737488351232 ∧ ∀ s ∈ x.2, (Lit.int .i64 s).wf = true) := Opens.pair Tryd.underlying56 rfl rfl (by kernel_rfl) (by kernel_rfl) (by kernel_rfl) opens_i64 opens_ints
theorem openRules (hsz : (DataW.weightsEach Tryd.prog ts ds).all (· ≤ reachBytes) = true) (ht : ts[j]? = some 23) (hd : ds[j]? = some d) (hv : Value.okWide Tryd.prog W r b0 23 v) (h : DataW.Trod enc Tryd.prog W base spare held 23 v d ps) :
    ∃ (A : Option Addr) (c : Nat) (l : List (Int × List Int)), v = .slice A l.length c ∧ KRule.C W A l.length l ∧ l.length * 32 ≤ 140737488351232 ∧ l.length ≤ c ∧ ∀ x ∈ l, (Lit.int .i64 x.1).wf = true ∧ x.2.length * 8 ≤ 140737488351232 ∧ ∀ s ∈ x.2, (Lit.int .i64 s).wf = true :=
  openSlice Tryd.underlying23 opens_rule (by kernel_rfl) (by kernel_rfl) hsz ht hd hv h
/-- What the weights allow. -/
structure GramB (g : Gr) : Prop where
  terms : g.terms.length * 16 ≤ 140737488351232
  nonterms : g.nonterms.length * 16 ≤ 140737488351232
  rules : g.rules.length * 32 ≤ 140737488351232
  right : ∀ r ∈ g.rules, r.2.length * 8 ≤ 140737488351232
  ax : (Lit.int .i64 g.ax).wf = true
  nums : ∀ r ∈ g.rules, (Lit.int .i64 r.1).wf = true ∧ ∀ s ∈ r.2, (Lit.int .i64 s).wf = true
  names : (∀ s ∈ g.terms, s.size ≤ 140737488351232) ∧ ∀ s ∈ g.nonterms, s.size ≤ 140737488351232
theorem openGrammar (hsz : (DataW.weightsEach Tryd.prog ts ds).all (· ≤ reachBytes) = true) (ht : ts[j]? = some 25) (hd : ds[j]? = some d) (hv : Value.okWide Tryd.prog W r b0 25 v) (h : DataW.Trod enc Tryd.prog W base spare held 25 v d ps) :
    ∃ (g : Gr) (u : Value), v = u ∧ GramAt W u g ∧ GramB g := by
  obtain ⟨v0, v1, v2, v3, y0, y1, y2, y3, n, rfl, rfl, rfl, h0, h1, h2, h3⟩ := Joins.open_agg4 Tryd.underlying25 (by kernel_rfl) (by kernel_rfl) hv h
  have hw : ∀ k ∈ (DataW.agg [y0.1, y1.1, y2.1, y3.1]).weights Tryd.prog 25, k ≤ reachBytes := fun k hk => by
    have := List.all_eq_true.1 hsz k (DataW.weights_mem_each ht hd k hk)
    simpa using this
  simp only [DataW.weights, Tryd.underlying25, List.map_cons, List.map_nil, DataW.weightsEach, List.append_nil, List.mem_append] at hw
  obtain ⟨lT, ⟨AT, cT, e0, p0, q0⟩, b0, g0⟩ := opens_strings H enc W base spare held n _ _ h0 (fun k hk => hw k (.inl hk))
  obtain ⟨lN, ⟨AN, cN, e1, p1, q1⟩, b1, g1⟩ := opens_strings H enc W base spare held n _ _ h1 (fun k hk => hw k (.inr (.inl hk)))
  obtain ⟨ax, e2, _, b2⟩ := DataW.trod_int Tryd.underlying3 h2
  obtain ⟨lR, ⟨AR, cR, e3, p3, q3⟩, b3, g3⟩ := (Opens.slice Tryd.underlying23 opens_rule (by kernel_rfl) (by kernel_rfl) : Opens _ (Kd.slice 56 KRule) (fun l => l.length * 32 ≤ 140737488351232 ∧ _)) H enc W base spare held n _ _ h3 (fun k hk => hw k (.inr (.inr (.inr hk))))
  simp only [List.cons.injEq, and_true] at e0 e1 e2 e3
  subst e0 e1 e2 e3
  exact ⟨⟨lT, lN, ax, lR⟩, _, rfl, ⟨AT, cT, AN, cN, AR, cR, rfl, p0, p1, p3, q0, q1, q3⟩, ⟨b0, b1, b3, fun r hr => (g3 r hr).2.1, b2, fun r hr => ⟨(g3 r hr).1, (g3 r hr).2.2⟩, g0, g1⟩⟩
end
end Go.Proofs.YtagcmhnanngfbaaDoor.Hand
