/- Kinds of my own: elements that may be the mark, rows lent with a mark behind them, rules, grammars. -/
import Derived.Test.YtagcmhnanngfbaaDoorBase
namespace Go.Proofs.YtagcmhnanngfbaaDoor.Hand
open Go.RowKit Go.Proofs.YtagcmhnanngfbaaDoorW.PrintWords Go.Proofs.YtagcmhnanngfbaaDoorW.PrintMore Go.Proofs.YtagcmhnanngfbaaDoor.Math

/-- Elements of a kind, or the mark: these cells. -/
def KOpt {α : Type} (a : Kd α) (c : List Value) (hc : c.length = a.sz) (h1 : ∀ u ∈ c, u.oneCell' = true) : Kd (Option α) where
  sz := a.sz
  E := a.E
  K := fun w x cs => match x with | none => cs = c | some y => a.K w y cs
  M := fun w base ok x cs => match x with | none => cs = c | some y => a.M w base ok y cs
  K_len := by
    intro w x cs h
    cases x with
    | none => exact (show cs = c from h) ▸ hc
    | some y => exact a.K_len h
  K_one := by
    intro w x cs h u hu
    cases x with
    | none => exact h1 u ((show cs = c from h) ▸ hu)
    | some y => exact a.K_one h u hu
  K_below := by
    intro w w1 x cs hb h
    cases x with
    | none => exact h
    | some y => exact a.K_below hb h
  K_of_M := by
    intro w base ok x cs h
    cases x with
    | none => exact h
    | some y => exact a.K_of_M h
  M_mono := by
    intro w base ok ok' x cs hok h
    cases x with
    | none => exact h
    | some y => exact a.M_mono hok h
  M_bound := by
    intro w base ok x cs h
    cases x with
    | none => exact h
    | some y => exact a.M_bound h
  M_move := by
    intro w w1 base ok x cs hm h
    cases x with
    | none => exact h
    | some y => exact a.M_move hm h
  M_lower := by
    intro w base base' ok x cs hb h
    cases x with
    | none => exact h
    | some y => exact a.M_lower hb h
/-- A slice over a row that is one longer: the last element is the mark. -/
def KLent {α : Type} (e : Nat) (a : Kd (Option α)) : Kd (List α) where
  sz := 1
  E := e :: a.E
  K := fun w xs cs => ∃ A c, cs = [.slice A xs.length c] ∧ xs.length + 1 ≤ c ∧ a.C w A (xs.length + 1) (xs.map some ++ [none])
  M := fun w base ok xs cs => ∃ A c, cs = [.slice A xs.length c] ∧ xs.length + 1 ≤ c ∧ a.R e w base ok (.slice A (xs.length + 1) c) (xs.map some ++ [none])
  K_len := by rintro w x cs ⟨A, c, rfl, _⟩; rfl
  K_one := by
    rintro w x cs ⟨A, c, rfl, _⟩ u hu
    rw [List.mem_singleton.1 hu]; rfl
  K_below := by rintro w w1 x cs hb ⟨A, c, rfl, hl, hr⟩; exact ⟨A, c, rfl, hl, Kd.C_below hr hb⟩
  K_of_M := by
    rintro w base ok x cs ⟨A, c, rfl, hl, h⟩
    have := (Kd.R_reads' h).2.2
    exact ⟨A, c, rfl, hl, by simpa using this⟩
  M_mono := by rintro w base ok ok' x cs hok ⟨A, c, rfl, hl, h⟩; exact ⟨A, c, rfl, hl, Kd.R_mono h hok⟩
  M_bound := by rintro w base ok x cs ⟨A, c, rfl, hl, h⟩; exact ⟨A, c, rfl, hl, Kd.R_bound h⟩
  M_move := by rintro w w1 base ok x cs hm ⟨A, c, rfl, hl, h⟩; exact ⟨A, c, rfl, hl, Kd.R_move h hm⟩
  M_lower := by rintro w base base' ok x cs hb ⟨A, c, rfl, hl, h⟩; exact ⟨A, c, rfl, hl, Kd.R_lower h hb⟩
theorem C_imp {α β : Type} {a : Kd α} {b : Kd β} (hs : b.sz = a.sz) {w : World} {A : Option Addr} {n : Nat} {l : List α} {m : List β} (h : a.C w A n l) (hl : m.length = l.length) (hi : ∀ (j : Nat) (x : α) (y : β) (cs : List Value), l[j]? = some x → m[j]? = some y → a.K w x cs → b.K w y cs) : b.C w A n m := by
  obtain ⟨h1, h2, h3⟩ := h
  refine ⟨hl.trans h1, h2, fun hn => ?_⟩
  obtain ⟨ad, ha, hc⟩ := h3 hn
  refine ⟨ad, ha, fun j p hj => ?_⟩
  have hj2 : j < l.length := by have := (List.getElem?_eq_some_iff.1 hj).1; omega
  obtain ⟨c, e1, e2, e3⟩ := hc j l[j] (List.getElem?_eq_getElem hj2)
  exact ⟨c, by rw [hs]; exact e1, hi j _ _ c (List.getElem?_eq_getElem hj2) hj e2, by rw [hs]; exact e3⟩
theorem C_some {α : Type} {a : Kd α} {b : Kd (Option α)} (hs : b.sz = a.sz) {w : World} {A : Option Addr} {n : Nat} {l : List α} (h : a.C w A n l) (hi : ∀ (x : α) (cs : List Value), a.K w x cs → b.K w (some x) cs) : b.C w A n (l.map some) :=
  C_imp (a := a) (b := b) hs h (by simp) (fun j x y cs hx hy hk => by
    rw [List.getElem?_map, hx] at hy
    cases hy
    exact hi _ _ hk)
/-- What was lent reads as a list. -/
theorem lent_C {α : Type} {a : Kd α} {c hc h1} {w : World} {A : Option Addr} {l : List α} (h : (KOpt a c hc h1).C w A (l.length + 1) (l.map some ++ [none])) : a.C w A l.length l := by
  have h2 : (KOpt a c hc h1).C w A (l.map some).length (l.map some) := Kd.C_takeN h
  rw [List.length_map] at h2
  refine C_imp (a := KOpt a c hc h1) (b := a) rfl h2 (by simp) (fun j x y cs hx hy hk => ?_)
  rw [List.getElem?_map, hy] at hx
  cases hx
  exact hk
/-- The mark's cells. -/
theorem lent_mark {α : Type} {a : Kd α} {c hc h1} {w : World} {A : Option Addr} {l : List α} (h : (KOpt a c hc h1).C w A (l.length + 1) (l.map some ++ [none])) : ∃ ad, A = some ad ∧ ∀ i u, c[i]? = some u → w.cell? (ad.add (l.length * a.sz + i)) = some u := by
  obtain ⟨_, _, h3⟩ := h
  obtain ⟨ad, ha, hcc⟩ := h3 (by omega)
  refine ⟨ad, ha, ?_⟩
  obtain ⟨cs, e1, e2, e3⟩ := hcc l.length none (by simp)
  have : cs = c := e2
  subst this
  exact e3
/-- A rule: its left side, and its right side as a slice. -/
def KRule : Kd (Int × List Int) := Kd.pair (Kd.int .i64) (Kd.slice 3 (Kd.int .i64))
def KMInt : Kd (Option Int) := KOpt (Kd.int .i64) [.int .i64 (-7171)] rfl (by simp [Value.oneCell'])
def KLInts : Kd (List Int) := KLent 3 KMInt
def KMString : Kd (Option ByteArray) := KOpt Kd.string [.string ⟨#[109, 97, 114, 107]⟩] rfl (by simp [Value.oneCell'])
def KLStrings : Kd (List ByteArray) := KLent 9 KMString
def KLRule : Kd (Int × List Int) := Kd.pair (Kd.int .i64) KLInts
def KMRule : Kd (Option (Int × List Int)) := KOpt KLRule [.int .i64 (-7171), .slice none 0 0] rfl (by simp [Value.oneCell'])
def KLRules : Kd (List (Int × List Int)) := KLent 56 KMRule
theorem KLInts_plain {w : World} {l : List Int} {cs : List Value} (h : KLInts.K w l cs) : (Kd.slice 3 (Kd.int .i64)).K w l cs := by
  obtain ⟨A, c, rfl, hl, hr⟩ := h
  exact ⟨A, c, rfl, by omega, lent_C hr⟩
theorem KLRule_plain {w : World} {r : Int × List Int} {cs : List Value} (h : KLRule.K w r cs) : KRule.K w r cs := by
  obtain ⟨c0, c1, rfl, h0, h1⟩ := h
  exact ⟨c0, c1, rfl, h0, KLInts_plain h1⟩
theorem lentRules_C {w : World} {A : Option Addr} {l : List (Int × List Int)} (h : KMRule.C w A (l.length + 1) (l.map some ++ [none])) : KRule.C w A l.length l :=
  C_imp (a := KLRule) (b := KRule) rfl (lent_C (a := KLRule) h) rfl (fun j x y cs hx hy hk => by rw [hx] at hy; cases hy; exact KLRule_plain hk)
/-- A grammar, plainly. -/
structure Gr where
  terms : List ByteArray
  nonterms : List ByteArray
  ax : Int
  rules : List (Int × List Int)
/-- A grammar's value, and what it leads to. -/
def GramAt (w : World) (v : Value) (g : Gr) : Prop :=
  ∃ AT cT AN cN AR cR, v = .agg #[.slice AT g.terms.length cT, .slice AN g.nonterms.length cN, .int .i64 g.ax, .slice AR g.rules.length cR] ∧ g.terms.length ≤ cT ∧ g.nonterms.length ≤ cN ∧ g.rules.length ≤ cR ∧
    Kd.C Kd.string w AT g.terms.length g.terms ∧ Kd.C Kd.string w AN g.nonterms.length g.nonterms ∧ KRule.C w AR g.rules.length g.rules
/-- A grammar that was lent: marks behind all its lists. -/
def GramL (w : World) (v : Value) (g : Gr) : Prop :=
  ∃ AT cT AN cN AR cR, v = .agg #[.slice AT g.terms.length cT, .slice AN g.nonterms.length cN, .int .i64 g.ax, .slice AR g.rules.length cR] ∧ g.terms.length + 1 ≤ cT ∧ g.nonterms.length + 1 ≤ cN ∧ g.rules.length + 1 ≤ cR ∧
    KMString.C w AT (g.terms.length + 1) (g.terms.map some ++ [none]) ∧ KMString.C w AN (g.nonterms.length + 1) (g.nonterms.map some ++ [none]) ∧ KMRule.C w AR (g.rules.length + 1) (g.rules.map some ++ [none])
theorem GramAt.below {w w' : World} {v : Value} {g : Gr} (h : GramAt w v g) (hb : Below w.heap.size w w') : GramAt w' v g := by
  obtain ⟨AT, cT, AN, cN, AR, cR, rfl, h1, h2, h3, h4, h5, h6⟩ := h
  exact ⟨AT, cT, AN, cN, AR, cR, rfl, h1, h2, h3, Kd.C_below h4 hb, Kd.C_below h5 hb, Kd.C_below h6 hb⟩
theorem GramL.below {w w' : World} {v : Value} {g : Gr} (h : GramL w v g) (hb : Below w.heap.size w w') : GramL w' v g := by
  obtain ⟨AT, cT, AN, cN, AR, cR, rfl, h1, h2, h3, h4, h5, h6⟩ := h
  exact ⟨AT, cT, AN, cN, AR, cR, rfl, h1, h2, h3, Kd.C_below h4 hb, Kd.C_below h5 hb, Kd.C_below h6 hb⟩
theorem GramL.plain {w : World} {v : Value} {g : Gr} (h : GramL w v g) : GramAt w v g := by
  obtain ⟨AT, cT, AN, cN, AR, cR, rfl, h1, h2, h3, h4, h5, h6⟩ := h
  exact ⟨AT, cT, AN, cN, AR, cR, rfl, by omega, by omega, by omega, lent_C h4, lent_C h5, lentRules_C h6⟩
theorem GramAt.drewN {w : World} {v : Value} {g : Gr} (h : GramAt w v g) (n : Nat) : GramAt (w.drewN n) v g := h.below (pw_below_drewN (Below.refl _ _) _)
theorem GramL.drewN {w : World} {v : Value} {g : Gr} (h : GramL w v g) (n : Nat) : GramL (w.drewN n) v g := h.below (pw_below_drewN (Below.refl _ _) _)
theorem add_field (a : Addr) (n f : Nat) : a.add (n + (f + 1)) = ⟨(a.add n).block, (a.add n).off + (f + 1), none⟩ := by
  unfold Addr.add
  by_cases h : n = 0
  · subst h; simp
  · simp [h]; omega
/-- What is read of rule i. -/
theorem at_rule {w : World} {A : Option Addr} {l : List (Int × List Int)} (h : KRule.C w A l.length l) (i : Nat) (hi : i < l.length) :
    ∃ (ad : Addr) (x : Int) (B : Option Addr) (c : Nat) (r : List Int), A = some ad ∧ w.cell? (ad.add (i * 2)) = some (.int .i64 x) ∧ w.cell? ⟨(ad.add (i * 2)).block, (ad.add (i * 2)).off + 1, none⟩ = some (.slice B r.length c) ∧ r.length ≤ c ∧ Kd.C (Kd.int .i64) w B r.length r ∧ Hid (l.getD i (0, []) = (x, r)) := by
  obtain ⟨ad, cs, h1, h2, h3, h4⟩ := h.get_ (0, []) (i : Int) (by omega) (by omega)
  rw [Int.toNat_natCast] at h3 h4
  obtain ⟨c0, c1, rfl, k0, B, c, rfl, hl, hr⟩ := h3
  have e0 : c0 = [.int .i64 (l.getD i (0, [])).1] := k0
  subst e0
  have hz : KRule.sz = 2 := rfl
  rw [hz] at h4
  refine ⟨ad, (l.getD i (0, [])).1, B, c, (l.getD i (0, [])).2, h1, ?_, ?_, hl, hr, Lib.hid rfl⟩
  · have := h4 0 _ rfl; simpa using this
  · rw [← add_field]; exact h4 1 _ rfl
theorem at_lrule {w : World} {A : Option Addr} {l : List (Int × List Int)} (h : KMRule.C w A (l.length + 1) (l.map some ++ [none])) (i : Nat) (hi : i < l.length) :
    ∃ (ad : Addr) (x : Int) (B : Option Addr) (c : Nat) (r : List Int), A = some ad ∧ w.cell? (ad.add (i * 2)) = some (.int .i64 x) ∧ w.cell? ⟨(ad.add (i * 2)).block, (ad.add (i * 2)).off + 1, none⟩ = some (.slice B r.length c) ∧ r.length + 1 ≤ c ∧ KMInt.C w B (r.length + 1) (r.map some ++ [none]) ∧ Hid (l.getD i (0, []) = (x, r)) := by
  have h' : KLRule.C w A l.length l := lent_C (a := KLRule) h
  obtain ⟨ad, cs, h1, h2, h3, h4⟩ := h'.get_ (0, []) (i : Int) (by omega) (by omega)
  rw [Int.toNat_natCast] at h3 h4
  obtain ⟨c0, c1, rfl, k0, B, c, rfl, hl, hr⟩ := h3
  have e0 : c0 = [.int .i64 (l.getD i (0, [])).1] := k0
  subst e0
  have hz : KLRule.sz = 2 := rfl
  rw [hz] at h4
  refine ⟨ad, (l.getD i (0, [])).1, B, c, (l.getD i (0, [])).2, h1, ?_, ?_, hl, hr, Lib.hid rfl⟩
  · have := h4 0 _ rfl; simpa using this
  · rw [← add_field]; exact h4 1 _ rfl
end Go.Proofs.YtagcmhnanngfbaaDoor.Hand
