/- Contracts of dovetailkit's lent and kept lists, rules, grammars. -/
import Derived.Test.YtagcmhnanngfbaaDoorKinds
import Derived.Test.YtagcmhnanngfbaaDoorEq
namespace Go.Proofs.YtagcmhnanngfbaaDoor.Hand
open Go.RowKit Go.Proofs.YtagcmhnanngfbaaDoorW.PrintWords Go.Proofs.YtagcmhnanngfbaaDoorW.PrintMore Go.Proofs.YtagcmhnanngfbaaDoor.Math

theorem lentInts_calls (A0 : Option Addr) (c0 : Nat) (l0 : List Int) (w : World) (hr0 : Kd.C (Kd.int .i64) w A0 l0.length l0) (hl : (l0.length + 1) * 8 ≤ 140737488355328) :
    Calls Tryd.prog 29 #[.slice A0 l0.length c0] w fun e w' => ∃ A c, e = .returned (.slice A l0.length c) ∧ l0.length + 1 ≤ c ∧ KMInt.R 3 w' w.heap.size (fun _ => True) (.slice A (l0.length + 1) c) (l0.map some ++ [none]) ∧ Below w.heap.size w w' := by
  have HR0 := Aside0.mk (C_some (a := (Kd.int .i64)) (b := KMInt) rfl hr0 (fun _ _ h => h))
  have HL := Aside0.mk hl
  clear hr0 hl
  have HB := Aside0.mk (Below.refl w.heap.size w)
  go_enter Tryd.func29, Tryd.ntmps29
  go_wp2_with (first
    | ((with_reducible refine gate_builtin (b := .append) (xs := #[.tmp 4, .tmp 5]) rfl ?_); at_builtin; refine Kd.R_append_rows KMInt (w0 := w) w.heap.size rfl (.tmp 4) (.tmp 5) 38 3 (.int .i64 0) 8 rfl Tryd.underlying38 infoInt rfl (by decide) (by omega) (.slice none 0 0) ([] : List (Option Int)) (l0.map some) _ _ _ (fun _ => True) (fun _ => False) rfl rfl (Kd.R_nil _ _ _ _ _) HR0.out (fun _ _ h => h) (fun _ h => h.elim) (fun _ _ => trivial) HB.out (Nat.le_refl _) (by have := HL.out; simp at this ⊢; omega) ?_; intro v1 w1 ho hb _ _; have HO := Aside0.mk ho; have HB1 := Aside0.mk hb; clear ho hb)
    | ((with_reducible refine gate_builtin (b := .append) (xs := #[.tmp 7, .tmp 8]) rfl ?_); at_builtin; refine Kd.R_append KMInt (w0 := w) w.heap.size rfl (.tmp 7) (.tmp 8) 38 3 (.int .i64 0) 8 rfl Tryd.underlying38 infoInt rfl (by decide) (by omega) v1 ([] ++ l0.map some) none [.int .i64 (-7171)] (fun _ => True) (fun _ => False) rfl rfl rfl (fun _ hk => hk.elim) (fun _ _ => trivial) HO.out HB1.out (Below.size HB1.out) (by have := HL.out; simp at this ⊢; omega) ?_; intro v2 w2 ho hb _ _; have HO2 := Aside0.mk ho; have HB2 := Aside0.mk hb; clear ho hb; (obtain ⟨A, c, rfl⟩ := Kd.R_slice HO2.out; have hc : l0.length + 1 ≤ c := (by have := (Kd.R_reads' HO2.out).2.1; simpa using this); have hc2 : l0.length ≤ c := (by omega))))
  go_ret
  exact ⟨A, c, rfl, hc, by simpa using HO2.out, HB2.out⟩
theorem lentStrings_calls (A0 : Option Addr) (c0 : Nat) (l0 : List ByteArray) (w : World) (hr0 : Kd.C Kd.string w A0 l0.length l0) (hl : (l0.length + 1) * 16 ≤ 140737488355328) :
    Calls Tryd.prog 33 #[.slice A0 l0.length c0] w fun e w' => ∃ A c, e = .returned (.slice A l0.length c) ∧ l0.length + 1 ≤ c ∧ KMString.R 9 w' w.heap.size (fun _ => True) (.slice A (l0.length + 1) c) (l0.map some ++ [none]) ∧ Below w.heap.size w w' := by
  have HR0 := Aside0.mk (C_some (a := Kd.string) (b := KMString) rfl hr0 (fun _ _ h => h))
  have HL := Aside0.mk hl
  clear hr0 hl
  have HB := Aside0.mk (Below.refl w.heap.size w)
  go_enter Tryd.func33, Tryd.ntmps33
  go_wp2_with (first
    | ((with_reducible refine gate_builtin (b := .append) (xs := #[.tmp 4, .tmp 5]) rfl ?_); at_builtin; refine Kd.R_append_rows KMString (w0 := w) w.heap.size rfl (.tmp 4) (.tmp 5) 22 9 (.string ⟨#[]⟩) 16 rfl Tryd.underlying22 infoString rfl (by decide) (by omega) (.slice none 0 0) ([] : List (Option ByteArray)) (l0.map some) _ _ _ (fun _ => True) (fun _ => False) rfl rfl (Kd.R_nil _ _ _ _ _) HR0.out (fun _ _ h => h) (fun _ h => h.elim) (fun _ _ => trivial) HB.out (Nat.le_refl _) (by have := HL.out; simp at this ⊢; omega) ?_; intro v1 w1 ho hb _ _; have HO := Aside0.mk ho; have HB1 := Aside0.mk hb; clear ho hb)
    | ((with_reducible refine gate_builtin (b := .append) (xs := #[.tmp 7, .tmp 8]) rfl ?_); at_builtin; refine Kd.R_append KMString (w0 := w) w.heap.size rfl (.tmp 7) (.tmp 8) 22 9 (.string ⟨#[]⟩) 16 rfl Tryd.underlying22 infoString rfl (by decide) (by omega) v1 ([] ++ l0.map some) none [.string ⟨#[109, 97, 114, 107]⟩] (fun _ => True) (fun _ => False) rfl rfl rfl (fun _ hk => hk.elim) (fun _ _ => trivial) HO.out HB1.out (Below.size HB1.out) (by have := HL.out; simp at this ⊢; omega) ?_; intro v2 w2 ho hb _ _; have HO2 := Aside0.mk ho; have HB2 := Aside0.mk hb; clear ho hb; (obtain ⟨A, c, rfl⟩ := Kd.R_slice HO2.out; have hc : l0.length + 1 ≤ c := (by have := (Kd.R_reads' HO2.out).2.1; simpa using this); have hc2 : l0.length ≤ c := (by omega))))
  go_ret
  exact ⟨A, c, rfl, hc, by simpa using HO2.out, HB2.out⟩
theorem keptInts_calls (A B : Option Addr) (c d : Nat) (l : List Int) (w : World) (hv : KMInt.C w A (l.length + 1) (l.map some ++ [none])) (hc : l.length + 1 ≤ c) (hq : Kd.C (Kd.int .i64) w B l.length l) : Quiet 74 #[.slice A l.length c, .slice B l.length d] w (.bool true) := by
  unfold Quiet
  have hlen := hv.2.1
  obtain ⟨ad, rfl, hm⟩ := lent_mark (a := (Kd.int .i64)) hv
  have hcell : w.cell? (ad.add l.length) = some (.int .i64 (-7171)) := by simpa [show Kd.sz (Kd.int .i64) = 1 from rfl] using hm 0 _ rfl
  have HR := Lib.hid (lent_C (a := (Kd.int .i64)) hv)
  have HQ := Lib.hid hq
  clear hv hq hm
  go_enter Tryd.func74, Tryd.ntmps74
  go_wp2_with (go_at_call 21; refine (ints_calls (some ad) B c d l l _ HR.out HQ.out).mono ?_; rintro e w' ⟨rfl, n, rfl⟩; rw [decide_eq_true (show l = l from rfl)])
  go_ret
  exact ⟨rfl, _, rfl⟩
theorem keptStrings_calls (A B : Option Addr) (c d : Nat) (l : List ByteArray) (w : World) (hv : KMString.C w A (l.length + 1) (l.map some ++ [none])) (hc : l.length + 1 ≤ c) (hq : Kd.C Kd.string w B l.length l) : Quiet 46 #[.slice A l.length c, .slice B l.length d] w (.bool true) := by
  unfold Quiet
  have hlen := hv.2.1
  obtain ⟨ad, rfl, hm⟩ := lent_mark (a := Kd.string) hv
  have hcell : w.cell? (ad.add l.length) = some (.string ⟨#[109, 97, 114, 107]⟩) := by simpa [show Kd.sz Kd.string = 1 from rfl] using hm 0 _ rfl
  have HR := Lib.hid (lent_C (a := Kd.string) hv)
  have HQ := Lib.hid hq
  clear hv hq hm
  go_enter Tryd.func46, Tryd.ntmps46
  go_wp2_with (go_at_call 62; refine (kstrings_calls (some ad) B c d l l _ HR.out HQ.out).mono ?_; rintro e w' ⟨rfl, n, rfl⟩; rw [decide_eq_true (show l = l from rfl)])
  go_ret
  exact ⟨rfl, _, rfl⟩
theorem infoRule : (Tryd.prog.info? 56).map (fun i => (i.zero, i.size, i.bytes)) = some (some (.agg #[.int .i64 0, .slice none 0 0]), 2, 32) := by kernel_rfl
theorem lent_made {d : Kd (Option (Int × List Int))} {w1 w2 : World} {base e1 : Nat} {A2 : Option Addr} {c2 : Nat} {r : List Int} {u : Value} {xs : List (Option (Int × List Int))} (hR : KMInt.R 3 w2 w1.heap.size (fun _ => True) (.slice A2 (r.length + 1) c2) (r.map some ++ [none])) (hq : r.length + 1 ≤ c2) (ho : d.R e1 w1 base (fun _ => True) u xs) (hb : base ≤ w1.heap.size) :
    KLInts.M w2 base (fun k => True ∧ some k ≠ u.ownBlock) r [.slice A2 r.length c2] := by
  obtain ⟨inner, hown⟩ := Kd.R_own ho
  exact KLInts.M_lower hb (Kd.M_new (d := KLInts) ⟨A2, c2, rfl, hq, hR⟩ hown)
theorem lent_pair {w : World} {base : Nat} {ok : Nat → Prop} {x : Int} {r : List Int} {v : Value} (h : KLInts.M w base ok r [v]) : KMRule.M w base ok (some (x, r)) [.int .i64 x, v] := ⟨[.int .i64 x], [v], rfl, rfl, h⟩
theorem lentRules_calls (A0 : Option Addr) (c0 : Nat) (l0 : List (Int × List Int)) (w : World) (hr0 : KRule.C w A0 l0.length l0) (hl : (l0.length + 1) * 32 ≤ 140737488355328) (hi : ∀ r ∈ l0, (r.2.length + 1) * 8 ≤ 140737488355328) :
    Calls Tryd.prog 34 #[.slice A0 l0.length c0] w fun e w' => ∃ A c, e = .returned (.slice A l0.length c) ∧ l0.length + 1 ≤ c ∧ KMRule.R 56 w' w.heap.size (fun _ => True) (.slice A (l0.length + 1) c) (l0.map some ++ [none]) ∧ Below w.heap.size w w' := by
  have hlen := hr0.2.1
  have HR0 := Aside0.mk hr0
  have HL := Aside0.mk hl
  have HI := Aside0.mk hi
  clear hr0 hl hi
  go_enter Tryd.func34, Tryd.ntmps34
  go_wp2
  go_loopw [3, 4] (fun v i wr => ∃ (j : Nat), j ≤ l0.length ∧ i = .int .i64 j ∧ Aside0 (KMRule.R 56 wr w.heap.size (fun _ => True) v ((l0.take j).map some)) ∧ Aside0 (Below w.heap.size w wr)) (fun _ i _ => l0.length - (intOf i).toNat)
  case atStart => exact ⟨0, by omega, rfl, ⟨Kd.R_nil _ _ _ _ _⟩, ⟨Below.refl _ _⟩⟩
  case round =>
    obtain ⟨j, hj, rfl, HO, HB⟩ := hrel
    obtain ⟨w1, rfl⟩ : ∃ w1, wr = w1 := ⟨_, rfl⟩
    have hlj : ((l0.take j).map some).length = j := by simp; omega
    by_cases hlt : j < l0.length
    · obtain ⟨ad, x, B, c, r, rfl, hc1, hc2, hrc, hr, HD⟩ := at_rule (Kd.C_below HR0.out HB.out) j hlt
      have HIr := Aside0.mk (HI.out (x, r) (by rw [← HD.out]; exact getD_mem l0 j (0, []) hlt))
      have HRr := Aside0.mk hr
      have HTk := Lib.hid (take_snocD l0 j (0, []) hlt)
      clear hr
      go_wp2_with (first
        | (go_at_call 29; refine (lentInts_calls B c r _ HRr.out HIr.out).mono ?_; rintro e w2 ⟨A2, c2, rfl, hq, hR2, hB2⟩; have HB2 := Aside0.mk (below_next HB.out hB2); have HM := Aside0.mk (lent_made hR2 hq HO.out HB.out.size); have HO2 := Aside0.mk (Kd.R_below HO.out hB2); have hc3 := (hB2.cell (p := ad.add (j * 2)) (World.block_lt_of_cell? _ _ hc1)).trans hc1; clear hR2 hB2 hq)
        | ((with_reducible refine gate_builtin (b := .append) (xs := #[.tmp 18, .tmp 26]) rfl ?_); at_builtin; refine Kd.R_append KMRule (w0 := w) w.heap.size rfl (.tmp 18) (.tmp 26) 23 56 (.agg #[.int .i64 0, .slice none 0 0]) 32 rfl Tryd.underlying23 infoRule rfl (by decide) (by omega) u3 ((l0.take j).map some) (some (x, r)) [.int .i64 x, .slice A2 r.length c2] (fun _ => True) (fun k => True ∧ some k ≠ Value.ownBlock u3) rfl rfl (lent_pair HM.out) (fun k h => h) (fun _ _ => trivial) HO2.out HB2.out (Below.size HB2.out) (by have := HL.out; rw [hlj]; omega) ?_; intro v3 w3 ho hb _ _; have HO3 := Aside0.mk ho; have HB3 := Aside0.mk hb; clear ho hb; skip))
      go_roundw
      case rel => exact ⟨j + 1, by omega, by go_num, ⟨by rw [HTk.out, HD.out, List.map_append]; exact HO3.out⟩, HB3⟩
      case measure => simp [intOf]; omega
    · obtain rfl : j = l0.length := by omega
      have HT : Hid (l0.take l0.length = l0) := Lib.hid (List.take_of_length_le (Nat.le_refl _))
      go_wp2_with (first
        | ((with_reducible refine gate_builtin (b := .append) (xs := #[.tmp 28, .tmp 30]) rfl ?_); at_builtin; refine Kd.R_append KMRule (w0 := w) w.heap.size rfl (.tmp 28) (.tmp 30) 23 56 (.agg #[.int .i64 0, .slice none 0 0]) 32 rfl Tryd.underlying23 infoRule rfl (by decide) (by omega) u3 ((l0.take l0.length).map some) none [.int .i64 (-7171), .slice none 0 0] (fun _ => True) (fun _ => False) rfl rfl rfl (fun _ hk => hk.elim) (fun _ _ => trivial) HO.out HB.out (Below.size HB.out) (by have := HL.out; rw [hlj]; omega) ?_; intro v2 w2 ho hb _ _; have HO2 := Aside0.mk ho; have HB2 := Aside0.mk hb; clear ho hb; (rw [HT.out] at HO2; obtain ⟨A, c, rfl⟩ := Kd.R_slice HO2.out; have hc : l0.length + 1 ≤ c := (by have := (Kd.R_reads' HO2.out).2.1; simpa using this); have hc2 : l0.length ≤ c := (by omega))))
      go_ret
      exact ⟨A, c, rfl, hc, by simpa using HO2.out, HB2.out⟩
theorem keptRules_calls (A B : Option Addr) (c d : Nat) (l : List (Int × List Int)) (w : World) (hv : KMRule.C w A (l.length + 1) (l.map some ++ [none])) (hc : l.length + 1 ≤ c) (hq : KRule.C w B l.length l) : Quiet 47 #[.slice A l.length c, .slice B l.length d] w (.bool true) := by
  unfold Quiet
  have hlen := hv.2.1
  obtain ⟨ad, rfl, hm⟩ := lent_mark (a := KLRule) hv
  have hcell : w.cell? (ad.add (l.length * 2)) = some (.int .i64 (-7171)) := by simpa [show KLRule.sz = 2 from rfl] using hm 0 _ rfl
  have HV := Lib.hid hv
  have HQ := Lib.hid hq
  clear hv hq hm
  go_enter Tryd.func47, Tryd.ntmps47
  go_wp2
  go_loopw [5] (fun i wr => ∃ (j : Nat), j ≤ l.length ∧ i = .int .i64 j ∧ Hid (∃ n, wr = w.drewN n)) (fun i _ => l.length - (intOf i).toNat)
  case atStart => exact ⟨0, by omega, rfl, Lib.hid ⟨0, rfl⟩⟩
  case round =>
    obtain ⟨j, hj, rfl, HW⟩ := hrel
    have HV1 := Lib.hid (show KMRule.C wr (some ad) (l.length + 1) (l.map some ++ [none]) by obtain ⟨n, e⟩ := HW.out; rw [e]; exact Kd.C_drewN HV.out n)
    have HQ1 := Lib.hid (show KRule.C wr B l.length l by obtain ⟨n, e⟩ := HW.out; rw [e]; exact Kd.C_drewN HQ.out n)
    by_cases hlt : j < l.length
    · obtain ⟨ad1, x, B1, c1, r, e1, h1, h2, h3, h4, HD⟩ := at_lrule HV1.out j hlt
      simp only [Option.some.injEq] at e1
      subst e1
      obtain ⟨ad2, x2, B2, c2, r2, rfl, g1, g2, g3, g4, HD2⟩ := at_rule HQ1.out j hlt
      have e := HD.out.symm.trans HD2.out
      simp only [Prod.mk.injEq] at e
      obtain ⟨rfl, rfl⟩ := e
      have H4 := Lib.hid h4
      have G4 := Lib.hid g4
      have hxx : ((x : Int) == x) = true := by simp
      have hxn : ((x : Int) != x) = false := by simp
      clear h4 g4
      go_wp2
      go_quiet ((go_at_call 74; exact Calls.quiet_of (keptInts_calls _ _ _ _ _ _ (Kd.C_drewN H4.out _) h3 (Kd.C_drewN G4.out _))))
      go_wp2
      go_roundw
      case rel => exact ⟨j + 1, by omega, by go_num, Lib.hid (by obtain ⟨n, e⟩ := HW.out; exact ⟨_, by rw [e, World.drewN_drewN]⟩)⟩
      case measure => simp [intOf]; omega
    · go_wp2
      go_ret
      exact ⟨rfl, HW.out⟩
theorem keptGrammar_calls (v u : Value) (g : Gr) (w : World) (hv : GramL w v g) (hu : GramAt w u g) :
    Calls Tryd.prog 16 #[v, u] w fun e w' => e = .returned (.bool true) ∧ Below w.heap.size w w' := by
  obtain ⟨AT, cT, AN, cN, AR, cR, rfl, h1, h2, h3, h4, h5, h6⟩ := hv
  obtain ⟨BT, dT, BN, dN, BR, dR, rfl, q1, q2, q3, q4, q5, q6⟩ := hu
  have H4 := Lib.hid h4
  have H5 := Lib.hid h5
  have H6 := Lib.hid h6
  have Q4 := Lib.hid q4
  have Q5 := Lib.hid q5
  have Q6 := Lib.hid q6
  clear h4 h5 h6 q4 q5 q6
  have hB2 := below_alloc (below_alloc (Below.refl w.heap.size w) (.cells #[.slice AT g.terms.length cT, .slice AN g.nonterms.length cN, .int .i64 g.ax, .slice AR g.rules.length cR] 25)) (.cells #[.slice BT g.terms.length dT, .slice BN g.nonterms.length dN, .int .i64 g.ax, .slice BR g.rules.length dR] 25)
  have HB := Lib.hid hB2
  clear hB2
  go_enter Tryd.func16, Tryd.ntmps16
  go_wp2_with (first
    | (go_at_call 46; refine (keptStrings_calls _ _ _ _ _ _ (Kd.C_below (by first | exact H4.out | exact H5.out) (by first | exact HB.out | exact pw_below_drewN HB.out _)) (by assumption) (Kd.C_below (by first | exact Q4.out | exact Q5.out) (by first | exact HB.out | exact pw_below_drewN HB.out _))).mono ?_; rintro e w' ⟨rfl, n, rfl⟩)
    | (go_at_call 47; refine (keptRules_calls _ _ _ _ _ _ (Kd.C_below H6.out (by first | exact HB.out | exact pw_below_drewN HB.out _)) (by assumption) (Kd.C_below Q6.out (by first | exact HB.out | exact pw_below_drewN HB.out _))).mono ?_; rintro e w' ⟨rfl, n2, rfl⟩))
  go_ret
  exact ⟨rfl, pw_below_drewN HB.out _⟩
theorem blk_below {g : Nat} {o : Obj} {w w' : World} (h : w.heap[g]? = some o) (hb : Below w.heap.size w w') : w'.heap[g]? = some o := (hb.block g (Array.getElem?_eq_some_iff.1 h).1).trans h
theorem blk_set {g t : Nat} {c : Array Value} {w : World} (h : w.heap[g]? = some (.cells c t (0, 0))) (j : Nat) (u : Value) : (w.setCell ⟨g, j, none⟩ u).heap[g]? = some (.cells (c.setIfInBounds j u) t (0, 0)) := by
  obtain ⟨hlt, hk⟩ := Array.getElem?_eq_some_iff.1 h
  show (w.heap.modify g _)[g]? = _
  rw [Array.getElem?_eq_getElem (by rw [Array.size_modify]; exact hlt), Array.getElem_modify_self, hk]
  rfl
theorem held_set {w W : World} {b j : Nat} {u a0 a1 a2 a3 : Value} (h : W.cell? ⟨b, 0, none⟩ = some a0 ∧ W.cell? ⟨b, 1, none⟩ = some a1 ∧ W.cell? ⟨b, 2, none⟩ = some a2 ∧ W.cell? ⟨b, 3, none⟩ = some a3 ∧ Aside0 (Below w.heap.size w W) ∧ b + 1 < W.heap.size) (hb : w.heap.size ≤ b + 1 := by omega) :
    (W.setCell ⟨b + 1, j, none⟩ u).cell? ⟨b, 0, none⟩ = some a0 ∧ (W.setCell ⟨b + 1, j, none⟩ u).cell? ⟨b, 1, none⟩ = some a1 ∧ (W.setCell ⟨b + 1, j, none⟩ u).cell? ⟨b, 2, none⟩ = some a2 ∧ (W.setCell ⟨b + 1, j, none⟩ u).cell? ⟨b, 3, none⟩ = some a3 ∧ Aside0 (Below w.heap.size w (W.setCell ⟨b + 1, j, none⟩ u)) ∧ b + 1 < (W.setCell ⟨b + 1, j, none⟩ u).heap.size := by
  obtain ⟨h0, h1, h2, h3, h4, h5⟩ := h
  have hk := Below.heap_setCell W ⟨b + 1, j, none⟩ u b (by simp)
  refine ⟨(World.cell?_of_block (w := W) hk).trans h0, (World.cell?_of_block (w := W) hk).trans h1, (World.cell?_of_block (w := W) hk).trans h2, (World.cell?_of_block (w := W) hk).trans h3, ⟨h4.out.setCell hb u⟩, ?_⟩
  simpa [World.setCell] using h5
theorem R_sets4 {α : Type} {d : Kd α} {e : Nat} {w : World} {base : Nat} {ok : Nat → Prop} {v : Value} {xs : List α} {g t : Nat} {a b c a' : Value} (h : d.R e w base ok v xs) (hb : w.heap[g]? = some (.cells #[a, b, c, a'] t (0, 0))) (ht : ∀ q, q ∈ e :: d.E → q ≠ t) (u0 u1 u2 u3 : Value) :
    d.R e ((((w.setCell ⟨g, 0, none⟩ u0).setCell ⟨g, 1, none⟩ u1).setCell ⟨g, 2, none⟩ u2).setCell ⟨g, 3, none⟩ u3) base ok v xs := by
  have h1 := Kd.R_set h hb ht 0 u0
  have b1 := blk_set hb 0 u0
  have h2 := Kd.R_set h1 b1 ht 1 u1
  have b2 := blk_set b1 1 u1
  have h3 := Kd.R_set h2 b2 ht 2 u2
  have b3 := blk_set b2 2 u2
  exact Kd.R_set h3 b3 ht 3 u3
theorem blk_sets4 {w : World} {g t : Nat} {a b c a' : Value} (hb : w.heap[g]? = some (.cells #[a, b, c, a'] t (0, 0))) (u0 u1 u2 u3 : Value) :
    ((((w.setCell ⟨g, 0, none⟩ u0).setCell ⟨g, 1, none⟩ u1).setCell ⟨g, 2, none⟩ u2).setCell ⟨g, 3, none⟩ u3).heap[g]? = some (.cells #[u0, u1, u2, u3] t (0, 0)) :=
  blk_set (blk_set (blk_set (blk_set hb 0 u0) 1 u1) 2 u2) 3 u3
theorem blk_cells4 {g : Nat} {a b c d : Value} {t : TypeId} {w : World} (h : w.heap[g]? = some (.cells #[a, b, c, d] t (0, 0))) :
    (w.cell? ⟨g, 0, none⟩ = some a ∧ w.cell? ⟨g, 1, none⟩ = some b ∧ w.cell? ⟨g, 2, none⟩ = some c ∧ w.cell? ⟨g, 3, none⟩ = some d) ∧ w.frozen? ⟨g, 0, none⟩ = false ∧ w.frozen? ⟨g, 1, none⟩ = false ∧ w.frozen? ⟨g, 2, none⟩ = false ∧ w.frozen? ⟨g, 3, none⟩ = false := by
  refine ⟨⟨?_, ?_, ?_, ?_⟩, ?_, ?_, ?_, ?_⟩ <;> simp [World.cell?, World.frozen?, h]
theorem held_step {w W w' : World} {b : Nat} {a0 a1 a2 a3 : Value} (h : W.cell? ⟨b, 0, none⟩ = some a0 ∧ W.cell? ⟨b, 1, none⟩ = some a1 ∧ W.cell? ⟨b, 2, none⟩ = some a2 ∧ W.cell? ⟨b, 3, none⟩ = some a3 ∧ Aside0 (Below w.heap.size w W) ∧ b + 1 < W.heap.size) (hb : Below W.heap.size W w') :
    w'.cell? ⟨b, 0, none⟩ = some a0 ∧ w'.cell? ⟨b, 1, none⟩ = some a1 ∧ w'.cell? ⟨b, 2, none⟩ = some a2 ∧ w'.cell? ⟨b, 3, none⟩ = some a3 ∧ Aside0 (Below w.heap.size w w') ∧ b + 1 < w'.heap.size := by
  obtain ⟨h0, h1, h2, h3, h4, h5⟩ := h
  have hl : b < W.heap.size := by omega
  exact ⟨(hb.cell (p := ⟨b, 0, none⟩) hl).trans h0, (hb.cell (p := ⟨b, 1, none⟩) hl).trans h1, (hb.cell (p := ⟨b, 2, none⟩) hl).trans h2, (hb.cell (p := ⟨b, 3, none⟩) hl).trans h3, ⟨below_next h4.out hb⟩, Nat.lt_of_lt_of_le h5 hb.size⟩
theorem lentGrammar_calls (v : Value) (g : Gr) (w : World) (hv : GramAt w v g) (ht : (g.terms.length + 1) * 16 ≤ 140737488355328) (hn : (g.nonterms.length + 1) * 16 ≤ 140737488355328) (hl : (g.rules.length + 1) * 32 ≤ 140737488355328) (hi : ∀ r ∈ g.rules, (r.2.length + 1) * 8 ≤ 140737488355328) :
    Calls Tryd.prog 10 #[v] w fun e w' => ∃ u, e = .returned u ∧ GramL w' u g ∧ Below w.heap.size w w' := by
  obtain ⟨AT, cT, AN, cN, AR, cR, rfl, h1, h2, h3, h4, h5, h6⟩ := hv
  have HT := Lib.hid ht
  have HN := Lib.hid hn
  have HL := Lib.hid hl
  have HI := Lib.hid hi
  clear ht hn hl hi
  obtain ⟨w0, hw0⟩ : ∃ w0, (w.alloc (.cells #[.slice AT g.terms.length cT, .slice AN g.nonterms.length cN, .int .i64 g.ax, .slice AR g.rules.length cR] 25)).alloc (.cells #[.slice none 0 0, .slice none 0 0, .int .i64 0, .slice none 0 0] 25) = w0 := ⟨_, rfl⟩
  have HB := Aside0.mk (show Below w.heap.size w w0 by rw [← hw0]; exact below_alloc (below_alloc (Below.refl w.heap.size w) _) _)
  have hsz : w.heap.size + 1 < w0.heap.size := by rw [← hw0]; simp
  have hc0 : w0.cell? ⟨w.heap.size, 0, none⟩ = some (.slice AT g.terms.length cT) := by rw [← hw0]; simp [go_sem]
  have hc1 : w0.cell? ⟨w.heap.size, 1, none⟩ = some (.slice AN g.nonterms.length cN) := by rw [← hw0]; simp [go_sem]
  have hc2 : w0.cell? ⟨w.heap.size, 2, none⟩ = some (.int .i64 g.ax) := by rw [← hw0]; simp [go_sem]
  have hc3 : w0.cell? ⟨w.heap.size, 3, none⟩ = some (.slice AR g.rules.length cR) := by rw [← hw0]; simp [go_sem]
  have HBlk := Lib.hid (show w0.heap[w.heap.size + 1]? = some (.cells #[.slice none 0 0, .slice none 0 0, .int .i64 0, .slice none 0 0] 25 (0, 0)) by rw [← hw0]; have h := heap_alloc_new (w.alloc (.cells #[.slice AT g.terms.length cT, .slice AN g.nonterms.length cN, .int .i64 g.ax, .slice AR g.rules.length cR] 25)) (.cells #[.slice none 0 0, .slice none 0 0, .int .i64 0, .slice none 0 0] 25); rwa [World.size_alloc] at h)
  have H4 := Lib.hid h4
  have H5 := Lib.hid h5
  have H6 := Lib.hid h6
  clear h4 h5 h6
  go_enter Tryd.func10, Tryd.ntmps10
  go_wp2
  clear hw0
  have tok1 : True := trivial
  go_region_held3 (fun w' => w'.cell? ⟨w.heap.size, 0, none⟩ = some (.slice AT g.terms.length cT) ∧ w'.cell? ⟨w.heap.size, 1, none⟩ = some (.slice AN g.nonterms.length cN) ∧ w'.cell? ⟨w.heap.size, 2, none⟩ = some (.int .i64 g.ax) ∧ w'.cell? ⟨w.heap.size, 3, none⟩ = some (.slice AR g.rules.length cR) ∧ Aside0 (Below w.heap.size w w') ∧ w.heap.size + 1 < w'.heap.size)
    (first
      | (refine ⟨?_, ?_, ?_, ?_, ⟨below_drew1 HB.out⟩, hsz⟩ <;> assumption)
      | exact held_step hS.out hb.out
      | exact held_set (held_set (held_set (held_set (held_step hS.out hb.out)))))
    (first
      | (go_at_call 33; have t_ := tok1; have hS := Aside0.mk (by assumption : _ ∧ _ ∧ _ ∧ _ ∧ Aside0 (Below w.heap.size w _) ∧ _); refine (lentStrings_calls AT cT g.terms _ (Kd.C_below H4.out hS.out.2.2.2.2.1.out) HT.out).mono ?_; rintro e w1 ⟨A1, c1, rfl, hq1, hR1, hb1⟩; have hb := Aside0.mk hb1; have R1 := Aside0.mk hR1; have K1 := Aside0.mk (blk_below HBlk.out (below_drew1 (Below.refl _ _) |>.trans hb1)); clear tok1 t_ hb1 hR1)
      | (go_at_call 33; have hS := Aside0.mk (by assumption : _ ∧ _ ∧ _ ∧ _ ∧ Aside0 (Below w.heap.size w _) ∧ _); refine (lentStrings_calls AN cN g.nonterms _ (Kd.C_below H5.out hS.out.2.2.2.2.1.out) HN.out).mono ?_; rintro e w2 ⟨A2, c2, rfl, hq2, hR2, hb2⟩; have hb := Aside0.mk hb2; have R12 := Aside0.mk (Kd.R_below R1.out hb2); have R2 := Aside0.mk hR2; have K2 := Aside0.mk (blk_below K1.out hb2); clear hb2 hR2)
      | (go_at_call 34; have hS := Aside0.mk (by assumption : _ ∧ _ ∧ _ ∧ _ ∧ Aside0 (Below w.heap.size w _) ∧ _); refine (lentRules_calls AR cR g.rules _ (Kd.C_below H6.out hS.out.2.2.2.2.1.out) HL.out HI.out).mono ?_; rintro e w3 ⟨A3, c3, rfl, hq3, hR3, hb3⟩; have hb := Aside0.mk hb3; have R13 := Aside0.mk (Kd.R_below R12.out hb3); have R23 := Aside0.mk (Kd.R_below R2.out hb3); have R3 := Aside0.mk hR3; have K3 := Aside0.mk (blk_below K2.out hb3); have HB3 := Aside0.mk (below_next hS.out.2.2.2.2.1.out hb3); obtain ⟨⟨e0, e1, e2, e3⟩, f0, f1, f2, f3⟩ := blk_cells4 K3.out; clear hb3 hR3))
  go_wp2
  have hne : ∀ t ∈ [9, 56, 3], t ≠ 25 := by decide
  have G1 := Aside0.mk (R_sets4 (d := KMString) R13.out K3.out (by intro q hq; exact hne q (by revert hq; simp [KMString, KOpt, Kd.string, Kd.scalar]; intro h; subst h; decide)) (.slice A1 g.terms.length c1) (.slice A2 g.nonterms.length c2) (.int .i64 g.ax) (.slice A3 g.rules.length c3))
  have G2 := Aside0.mk (R_sets4 (d := KMString) R23.out K3.out (by intro q hq; exact hne q (by revert hq; simp [KMString, KOpt, Kd.string, Kd.scalar]; intro h; subst h; decide)) (.slice A1 g.terms.length c1) (.slice A2 g.nonterms.length c2) (.int .i64 g.ax) (.slice A3 g.rules.length c3))
  have G3 := Aside0.mk (R_sets4 (d := KMRule) R3.out K3.out (by intro q hq; exact hne q (by revert hq; simp [KMRule, KLRule, KLInts, KLent, KMInt, KOpt, Kd.pair, Kd.int, Kd.scalar]; omega)) (.slice A1 g.terms.length c1) (.slice A2 g.nonterms.length c2) (.int .i64 g.ax) (.slice A3 g.rules.length c3))
  have KF := blk_sets4 K3.out (.slice A1 g.terms.length c1) (.slice A2 g.nonterms.length c2) (.int .i64 g.ax) (.slice A3 g.rules.length c3)
  have BF := Aside0.mk ((((HB3.out.setCell (p := ⟨w.heap.size + 1, 0, none⟩) (by simp) (.slice A1 g.terms.length c1)).setCell (p := ⟨w.heap.size + 1, 1, none⟩) (by simp) (.slice A2 g.nonterms.length c2)).setCell (p := ⟨w.heap.size + 1, 2, none⟩) (by simp) (.int .i64 g.ax)).setCell (p := ⟨w.heap.size + 1, 3, none⟩) (by simp) (.slice A3 g.rules.length c3))
  generalize ((((w3.setCell ⟨w.heap.size + 1, 0, none⟩ (.slice A1 g.terms.length c1)).setCell ⟨w.heap.size + 1, 1, none⟩ (.slice A2 g.nonterms.length c2)).setCell ⟨w.heap.size + 1, 2, none⟩ (.int .i64 g.ax)).setCell ⟨w.heap.size + 1, 3, none⟩ (.slice A3 g.rules.length c3)) = w4 at *
  obtain ⟨⟨g0, g1, g2, g3⟩, -⟩ := blk_cells4 KF
  have L1 := (Kd.R_reads' G1.out).2.2
  have L2 := (Kd.R_reads' G2.out).2.2
  have L3 := (Kd.R_reads' G3.out).2.2
  refine bodyPost_ret (v := .agg #[.slice A1 g.terms.length c1, .slice A2 g.nonterms.length c2, .int .i64 g.ax, .slice A3 g.rules.length c3]) (by simp [results, Tryd.results10, go_sem, g0, g1, g2, g3]) rfl ⟨_, rfl, ⟨A1, c1, A2, c2, A3, c3, rfl, hq1, hq2, hq3, ?_, ?_, ?_⟩, BF.out⟩
  · simpa using L1
  · simpa using L2
  · simpa using L3
end Go.Proofs.YtagcmhnanngfbaaDoor.Hand
