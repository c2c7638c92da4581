/- Contracts of gram.Check and of dovetailref03.Check: both tell the same of every grammar. -/
import Derived.Test.YtagcmhnanngfbaaDoorGramMath
import Derived.Test.YtagcmhnanngfbaaDoorKind
namespace Go.Proofs.YtagcmhnanngfbaaDoor.Hand
open Go.RowKit Go.Proofs.YtagcmhnanngfbaaDoorW.PrintWords Go.Proofs.YtagcmhnanngfbaaDoorW.PrintMore Go.Proofs.YtagcmhnanngfbaaDoor.Math

theorem indexS_calls (A : Option Addr) (c : Nat) (l : List ByteArray) (s : ByteArray) (w : World) (hr : Kd.C Kd.string w A l.length l) :
    Calls Tryd.prog 90 #[.slice A l.length c, .string s] w fun e w' => ∃ n : Int, e = .returned (.int .i64 n) ∧ (∃ d, w' = w.drewN d) ∧ ((n = -1 ∧ s ∉ l) ∨ ∃ j : Nat, n = j ∧ j < l.length ∧ l.getD j ByteArray.empty = s ∧ s ∉ l.take j) := by
  have hlen := hr.2.1
  have HR := Lib.hid hr
  clear hr
  go_enter Tryd.func90, Tryd.ntmps90
  go_wp2
  go_loopw [8] (fun i wr => ∃ (j d : Nat), j ≤ l.length ∧ i = .int .i64 j ∧ wr = w.drewN d ∧ Hid (s ∉ l.take j)) (fun i _ => l.length - (intOf i).toNat)
  case atStart => exact ⟨0, 0, by omega, rfl, rfl, Lib.hid (by simp)⟩
  case round =>
    obtain ⟨j, d, hj, rfl, rfl, HT⟩ := hrel
    by_cases hlt : j < l.length
    · obtain ⟨ad, y, rfl, hc, HY⟩ := at_scalar HR.out j hlt ByteArray.empty
      by_cases e : s = y
      · subst e
        go_wp2
        go_ret
        exact ⟨_, rfl, ⟨_, rfl⟩, .inr ⟨j, rfl, hlt, HY.out, HT.out⟩⟩
      · have hn3 : (s.toList == y.toList) = false := beq_eq_false_iff_ne.mpr (fun h => e (str_inj h))
        have HN := Lib.hid e
        clear e
        go_wp2
        go_roundw
        case rel => exact ⟨j + 1, _, by omega, by go_num, rfl, Lib.hid (by rw [take_snocD l j ByteArray.empty hlt, List.mem_append, not_or]; exact ⟨HT.out, by rw [HY.out, List.mem_singleton]; exact HN.out⟩)⟩
        case measure => simp [intOf]; omega
    · have HE : Hid (s ∉ l) := Lib.hid (by have := HT.out; rwa [List.take_of_length_le (by omega)] at this)
      go_wp2
      go_ret
      exact ⟨_, rfl, ⟨_, rfl⟩, .inl ⟨rfl, HE.out⟩⟩
theorem containsS_calls (A : Option Addr) (c : Nat) (l : List ByteArray) (s : ByteArray) (w : World) (hr : Kd.C Kd.string w A l.length l) :
    Quiet 86 #[.slice A l.length c, .string s] w (.bool (tb (s ∈ l))) := by
  unfold Quiet
  have HR := Lib.hid hr
  clear hr
  go_enter Tryd.func86, Tryd.ntmps86
  go_wp2_with (go_at_call 90; refine (indexS_calls A c l s _ HR.out).mono ?_; rintro e w' ⟨n, rfl, ⟨d, rfl⟩, hn⟩; have HN := Lib.hid hn; clear hn)
  go_ret
  refine ⟨ret_bool (tb_bool ?_), _, rfl⟩
  rcases HN.out with ⟨rfl, h⟩ | ⟨j, rfl, hj, h, _⟩
  · simp [h]
  · have : s ∈ l := by rw [← h]; exact getD_mem l j _ hj
    simp [this]
theorem nameFault_calls (A : Option Addr) (c : Nat) (l : List ByteArray) (i : Nat) (hi : i < l.length) (hlc : l.length ≤ c) (w : World) (hr : Kd.C Kd.string w A l.length l) :
    Quiet 81 #[.slice A l.length c, .int .i64 i] w (.bool (tb (¬ NameOk l i))) := by
  unfold Quiet
  have hlen := hr.2.1
  have HR := Lib.hid hr
  have HTk := Lib.hid (Kd.C_take (k := Kd.string) (A := A) (w := w) (xs := l) (m := i) hr (by omega))
  obtain ⟨ad, y, rfl, hc, HY⟩ := at_scalar hr i hi ByteArray.empty
  have htl : Hid ((l.take i).length = i) := Lib.hid (by simp; omega)
  have hic : i ≤ c := by omega
  clear hr
  by_cases h0 : y.size = 0
  · have HN : Hid (tb (¬ NameOk l i) = true) := Lib.hid (tb_yes (fun h => h.1 (by rw [HY.out]; exact h0)))
    have h0I : ((y.size : Int) == 0) = true := by simp [h0]
    go_enter Tryd.func81, Tryd.ntmps81
    go_wp2
    go_ret
    exact ⟨ret_bool HN.out.symm, 0, rfl⟩
  · by_cases h1 : 32 < y.size
    · have HN : Hid (tb (¬ NameOk l i) = true) := Lib.hid (tb_yes (fun h => by have := h.2.1; rw [HY.out] at this; omega))
      go_enter Tryd.func81, Tryd.ntmps81
      go_wp2
      go_ret
      exact ⟨ret_bool HN.out.symm, 0, rfl⟩
    · have HN : Hid (tb (¬ NameOk l i) = tb (y ∈ l.take i)) := Lib.hid (tb_congr (by
        unfold NameOk; rw [HY.out]
        constructor
        · intro h; refine Classical.byContradiction (fun hm => h ⟨h0, by omega, hm⟩)
        · exact fun hm h => h.2.2 hm))
      have HC : Hid (∀ m, Quiet 86 #[.slice (some ad) i c, .string y] (w.drewN m) (.bool (tb (y ∈ l.take i)))) := Lib.hid (fun m => by
        have h := containsS_calls (some ad) c (l.take i) y (w.drewN m) (Kd.C_drewN HTk.out m)
        rwa [htl.out] at h)
      cases hb : tb (y ∈ l.take i)
      all_goals
        rw [hb] at HN HC
        go_enter Tryd.func81, Tryd.ntmps81
        go_wp2
        go_quiet ((go_at_call 86; exact Calls.quiet_of (HC.out _)))
        go_wp2
        go_ret
        exact ⟨ret_bool HN.out.symm, _, rfl⟩
theorem names_calls (A : Option Addr) (c : Nat) (l : List ByteArray) (hlc : l.length ≤ c) (w : World) (hr : Kd.C Kd.string w A l.length l) :
    Quiet 67 #[.slice A l.length c] w (.bool (tb (NamesOk l))) := by
  unfold Quiet
  have hlen := hr.2.1
  have HR := Lib.hid hr
  clear hr
  go_enter Tryd.func67, Tryd.ntmps67
  go_wp2
  go_loopw [6] (fun i wr => ∃ (j d : Nat), j ≤ l.length ∧ i = .int .i64 j ∧ wr = w.drewN d ∧ Hid (∀ i, i < j → NameOk l i)) (fun i _ => l.length - (intOf i).toNat)
  case atStart => exact ⟨0, 0, by omega, rfl, rfl, Lib.hid (fun i hi => by omega)⟩
  case round =>
    obtain ⟨j, d, hj, rfl, rfl, HT⟩ := hrel
    by_cases hlt : j < l.length
    · by_cases hb : NameOk l j
      · have HF := Lib.hid (tb_no (not_not_intro hb))
        have HB := Lib.hid hb
        clear hb
        go_wp2_with (go_at_call 81; refine (nameFault_calls A c l j hlt hlc _ (Kd.C_drewN HR.out _)).mono ?_; rw [HF.out]; rintro e w' ⟨rfl, n, rfl⟩)
        go_roundw
        case rel => exact ⟨j + 1, _, by omega, by go_num, rfl, Lib.hid (fun i hi => by
          rcases Nat.lt_or_ge i j with h | h
          · exact HT.out i h
          · obtain rfl : i = j := by omega
            exact HB.out)⟩
        case measure => simp [intOf]; omega
      · have HF := Lib.hid (tb_yes hb)
        have HE : Hid (tb (NamesOk l) = false) := Lib.hid (tb_no (fun h => hb (h j hlt)))
        clear hb
        go_wp2_with (go_at_call 81; refine (nameFault_calls A c l j hlt hlc _ (Kd.C_drewN HR.out _)).mono ?_; rw [HF.out]; rintro e w' ⟨rfl, n, rfl⟩)
        go_ret
        exact ⟨ret_bool HE.out.symm, _, rfl⟩
    · have HE : Hid (tb (NamesOk l) = true) := Lib.hid (tb_yes (fun i hi => HT.out i (by omega)))
      go_wp2
      go_ret
      exact ⟨ret_bool HE.out.symm, _, rfl⟩
theorem ruleF_calls (b : Nat) (AT AN : Option Addr) (t n cT cN : Nat) (s : Int) (w : World) (h0 : w.cell? ⟨b, 0, none⟩ = some (.slice AT t cT)) (h1 : w.cell? ⟨b, 1, none⟩ = some (.slice AN n cN)) (hn : n ≤ 60) :
    Quiet 83 #[.int .i64 s, .pointer (some ⟨b, 0, none⟩)] w (.bool (symBad t n s)) := by
  unfold Quiet
  by_cases h : (t : Int) ≤ s
  · have H : Hid (symBad t n s = true) := Lib.hid (by simp [symBad, h])
    go_enter Tryd.func83, Tryd.ntmps83
    go_wp2
    go_ret
    exact ⟨ret_bool H.out.symm, 0, rfl⟩
  · have H : Hid (symBad t n s = decide (s < -(n : Int))) := Lib.hid (by simp [symBad, h])
    go_enter Tryd.func83, Tryd.ntmps83
    go_wp2
    go_ret
    exact ⟨ret_bool H.out.symm, 0, rfl⟩
theorem indexF_calls (A : Option Addr) (c : Nat) (l : List Int) (b : Nat) (AT AN : Option Addr) (t n cT cN : Nat) (w : World) (h0 : w.cell? ⟨b, 0, none⟩ = some (.slice AT t cT)) (h1 : w.cell? ⟨b, 1, none⟩ = some (.slice AN n cN)) (hn : n ≤ 60) (hr : Kd.C (Kd.int .i64) w A l.length l) :
    Calls Tryd.prog 87 #[.slice A l.length c, .func (.func 83) #[] #[.pointer (some ⟨b, 0, none⟩)]] w fun e w' => ∃ k : Int, e = .returned (.int .i64 k) ∧ (∃ d, w' = w.drewN d) ∧ ((k = -1 ∧ l.any (symBad t n) = false) ∨ (0 ≤ k ∧ l.any (symBad t n) = true)) := by
  have hlen := hr.2.1
  have HR := Lib.hid hr
  clear hr
  have HF := Lib.hid (fun (m : Nat) (s : Int) => ruleF_calls b AT AN t n cT cN s (w.drewN m) (by rw [World.cell?_drewN]; exact h0) (by rw [World.cell?_drewN]; exact h1) hn)
  clear h0 h1
  go_enter Tryd.func87, Tryd.ntmps87
  go_wp2
  go_loopw [8] (fun i wr => ∃ (j d : Nat), j ≤ l.length ∧ i = .int .i64 j ∧ wr = w.drewN d ∧ Hid ((l.take j).any (symBad t n) = false)) (fun i _ => l.length - (intOf i).toNat)
  case atStart => exact ⟨0, 0, by omega, rfl, rfl, Lib.hid (by simp)⟩
  case round =>
    obtain ⟨j, d, hj, rfl, rfl, HT⟩ := hrel
    by_cases hlt : j < l.length
    · obtain ⟨ad, y, rfl, hc, HY⟩ := at_scalar HR.out j hlt 0
      cases hb : symBad t n y
      · go_wp2_with (go_at_call 83; refine (HF.out d y).mono ?_; rw [hb]; rintro e w' ⟨rfl, n1, rfl⟩)
        go_roundw
        case rel => exact ⟨j + 1, _, by omega, by go_num, rfl, Lib.hid (by rw [any_take_snoc l _ j hlt, HT.out, HY.out, hb]; rfl)⟩
        case measure => simp [intOf]; omega
      · have HE : Hid (l.any (symBad t n) = true) := Lib.hid (List.any_eq_true.2 ⟨y, by rw [← HY.out]; exact getD_mem l j 0 hlt, hb⟩)
        go_wp2_with (go_at_call 83; refine (HF.out d y).mono ?_; rw [hb]; rintro e w' ⟨rfl, n1, rfl⟩)
        go_ret
        exact ⟨_, rfl, ⟨_, rfl⟩, .inr ⟨by omega, HE.out⟩⟩
    · have HE : Hid (l.any (symBad t n) = false) := Lib.hid (by have := HT.out; rwa [List.take_of_length_le (by omega)] at this)
      go_wp2
      go_ret
      exact ⟨_, rfl, ⟨_, rfl⟩, .inl ⟨rfl, HE.out⟩⟩
theorem containsF_calls (A : Option Addr) (c : Nat) (l : List Int) (b : Nat) (AT AN : Option Addr) (t n cT cN : Nat) (w : World) (h0 : w.cell? ⟨b, 0, none⟩ = some (.slice AT t cT)) (h1 : w.cell? ⟨b, 1, none⟩ = some (.slice AN n cN)) (hn : n ≤ 60) (hr : Kd.C (Kd.int .i64) w A l.length l) :
    Quiet 82 #[.slice A l.length c, .func (.func 83) #[] #[.pointer (some ⟨b, 0, none⟩)]] w (.bool (l.any (symBad t n))) := by
  unfold Quiet
  have HC := Lib.hid (indexF_calls A c l b AT AN t n cT cN w h0 h1 hn hr)
  clear h0 h1 hr
  go_enter Tryd.func82, Tryd.ntmps82
  go_wp2_with (go_at_call 87; refine HC.out.mono ?_; rintro e w' ⟨k, rfl, ⟨d, rfl⟩, hk⟩; have HK := Lib.hid hk; clear hk)
  go_ret
  refine ⟨ret_bool ?_, _, rfl⟩
  rcases HK.out with ⟨rfl, h⟩ | ⟨hk, h⟩
  · rw [h]; rfl
  · rw [h]; simp [hk]
theorem rule_calls (AT AN AR B : Option Addr) (t n m cT cN cR c : Nat) (ax : Int) (r : Int × List Int) (w : World) (A : Nat → Addr) (hE : Errs w A) (hn : n ≤ 60) (hr : Kd.C (Kd.int .i64) w B r.2.length r.2) :
    Calls Tryd.prog 68 #[.agg #[.slice AT t cT, .slice AN n cN, .int .i64 ax, .slice AR m cR], .agg #[.int .i64 r.1, .slice B r.2.length c]] w fun e w' => e = .returned (errOf A (ruleN t n r)) ∧ Below w.heap.size w w' := by
  obtain ⟨x, l⟩ := r
  simp only at hr ⊢
  obtain ⟨w1, hw1⟩ : ∃ w1, (w.alloc (.cells #[.slice AT t cT, .slice AN n cN, .int .i64 ax, .slice AR m cR] 25)).alloc (.cells #[.int .i64 x, .slice B l.length c] 56) = w1 := ⟨_, rfl⟩
  have hb1 : Below w.heap.size w w1 := by rw [← hw1]; exact below_alloc (below_alloc (Below.refl _ _) _) _
  have g0 : w1.cell? ⟨w.heap.size, 0, none⟩ = some (.slice AT t cT) := by rw [← hw1]; simp [go_sem]
  have g1 : w1.cell? ⟨w.heap.size, 1, none⟩ = some (.slice AN n cN) := by rw [← hw1]; simp [go_sem]
  have r0 : w1.cell? ⟨w.heap.size + 1, 0, none⟩ = some (.int .i64 x) := by rw [← hw1]; simp [go_sem]
  have r1 : w1.cell? ⟨w.heap.size + 1, 1, none⟩ = some (.slice B l.length c) := by rw [← hw1]; simp [go_sem]
  have hE1 := hE.below hb1
  have e0 : w1.cell? ⟨0, 0, none⟩ = some (.iface 141 (.pointer (some (A 0)))) := hE1.cells 0 (by omega)
  have e2 : w1.cell? ⟨2, 0, none⟩ = some (.iface 141 (.pointer (some (A 2)))) := hE1.cells 2 (by omega)
  have HB1 := Lib.hid hb1
  have HC := Lib.hid (containsF_calls B c l w.heap.size AT AN t n cT cN w1 g0 g1 hn (Kd.C_below hr hb1))
  clear hb1 hE hE1 hr
  by_cases h0 : 32 < l.length
  · have H : Hid (errOf A (ruleN t n (x, l)) = .iface 141 (.pointer (some (A 2)))) := Lib.hid (by simp [ruleN, h0, errOf])
    go_enter Tryd.func68, Tryd.ntmps68
    go_wp2
    go_ret
    exact ⟨congrArg Ending.returned H.out.symm, HB1.out⟩
  · by_cases h1 : x < 0
    · have H : Hid (errOf A (ruleN t n (x, l)) = .iface 141 (.pointer (some (A 0)))) := Lib.hid (by simp [ruleN, h0, h1, errOf])
      go_enter Tryd.func68, Tryd.ntmps68
      go_wp2
      go_ret
      exact ⟨congrArg Ending.returned H.out.symm, HB1.out⟩
    · by_cases h2 : (n : Int) ≤ x
      · have H : Hid (errOf A (ruleN t n (x, l)) = .iface 141 (.pointer (some (A 0)))) := Lib.hid (by simp [ruleN, h0, h2, errOf])
        go_enter Tryd.func68, Tryd.ntmps68
        go_wp2
        go_ret
        exact ⟨congrArg Ending.returned H.out.symm, HB1.out⟩
      · cases h3 : l.any (symBad t n)
        · have H : Hid (errOf A (ruleN t n (x, l)) = .nilIface) := Lib.hid (by unfold ruleN; rw [if_neg h0, if_neg (by simp only [h3]; simp; omega)]; rfl)
          rw [h3] at HC
          go_enter Tryd.func68, Tryd.ntmps68
          go_wp2_with (go_at_call 82; refine HC.out.mono ?_; rintro e w' ⟨rfl, d, rfl⟩)
          go_ret
          exact ⟨congrArg Ending.returned H.out.symm, pw_below_drewN HB1.out _⟩
        · have H : Hid (errOf A (ruleN t n (x, l)) = .iface 141 (.pointer (some (A 0)))) := Lib.hid (by unfold ruleN; rw [if_neg h0, if_pos (by simp only [h3]; simp)]; rfl)
          rw [h3] at HC
          go_enter Tryd.func68, Tryd.ntmps68
          go_wp2_with (go_at_call 82; refine HC.out.mono ?_; rintro e w' ⟨rfl, d, rfl⟩)
          go_ret
          exact ⟨congrArg Ending.returned H.out.symm, pw_below_drewN HB1.out _⟩
theorem blk_cells2 {g : Nat} {a b c d : Value} {t : TypeId} {w : World} (h : w.heap[g]? = some (.cells #[a, b, c, d] t (0, 0))) :
    w.cell? ⟨g, 0, none⟩ = some a ∧ w.cell? ⟨g, 1, none⟩ = some b ∧ w.cell? ⟨g, 2, none⟩ = some c ∧ w.cell? ⟨g, 3, none⟩ = some d := by
  refine ⟨?_, ?_, ?_, ?_⟩ <;> simp [World.cell?, h]
theorem blk_keep {g : Nat} {o : Obj} {w w' : World} (h : w.heap[g]? = some o) (hb : Below w.heap.size w w') : w'.heap[g]? = some o := (hb.block g (Array.getElem?_eq_some_iff.1 h).1).trans h
set_option maxHeartbeats 800000 in
theorem check_calls (v : Value) (g : Gr) (w : World) (A : Nat → Addr) (hE : Errs w A) (hv : GramAt w v g) :
    Calls Tryd.prog 35 #[v] w fun e w' => ∃ u, e = .returned u ∧ ErrV w' A u (checkN g).1 (checkN g).2 ∧ Below w.heap.size w w' := by
  obtain ⟨AT, cT, AN, cN, AR, cR, rfl, q1, q2, q3, q4, q5, q6⟩ := hv
  have l1 := q4.2.1
  have l2 := q5.2.1
  have l3 := q6.2.1
  obtain ⟨w1, hw1⟩ : ∃ w1, w.alloc (.cells #[.slice AT g.terms.length cT, .slice AN g.nonterms.length cN, .int .i64 g.ax, .slice AR g.rules.length cR] 25) = w1 := ⟨_, rfl⟩
  have hb1 : Below w.heap.size w w1 := by rw [← hw1]; exact below_alloc (Below.refl _ _) _
  have hk1 : w1.heap[w.heap.size]? = some (.cells #[.slice AT g.terms.length cT, .slice AN g.nonterms.length cN, .int .i64 g.ax, .slice AR g.rules.length cR] 25 (0, 0)) := by rw [← hw1]; exact heap_alloc_new w _
  obtain ⟨c0, c1, c2, c3⟩ := blk_cells2 hk1
  have hE1 := hE.below hb1
  have e0 : w1.cell? ⟨0, 0, none⟩ = some (.iface 141 (.pointer (some (A 0)))) := hE1.cells 0 (by omega)
  have e2 : w1.cell? ⟨2, 0, none⟩ = some (.iface 141 (.pointer (some (A 2)))) := hE1.cells 2 (by omega)
  have e9 : w1.cell? ⟨9, 0, none⟩ = some (.iface 141 (.pointer (some (A 9)))) := hE1.cells 9 (by omega)
  have HB1 := Lib.hid hb1
  have HK1 := Lib.hid hk1
  have HE := Lib.hid hE1
  have HNT := Lib.hid (names_calls AT cT g.terms q1 w1 (Kd.C_below q4 hb1))
  have HNN := Lib.hid (fun m => names_calls AN cN g.nonterms q2 (w1.drewN m) (Kd.C_drewN (Kd.C_below q5 hb1) m))
  have HR := Lib.hid (Kd.C_below q6 hb1)
  clear hb1 hk1 hE hE1 q4 q5 q6
  by_cases h1 : 60 < g.terms.length + g.nonterms.length ∨ 120 < g.rules.length
  · have H : Hid (checkN g = (3, -1)) := Lib.hid (by unfold checkN; rw [if_pos h1])
    by_cases a1 : 60 < g.terms.length
    · go_enter Tryd.func35, Tryd.ntmps35
      go_wp2
      go_ret
      exact ⟨_, rfl, by rw [H.out]; exact .sent 2 (by omega), HB1.out⟩
    · by_cases a2 : 60 - (g.terms.length : Int) < g.nonterms.length
      · go_enter Tryd.func35, Tryd.ntmps35
        go_wp2
        go_ret
        exact ⟨_, rfl, by rw [H.out]; exact .sent 2 (by omega), HB1.out⟩
      · have a3 : 120 < g.rules.length := by omega
        go_enter Tryd.func35, Tryd.ntmps35
        go_wp2
        go_ret
        exact ⟨_, rfl, by rw [H.out]; exact .sent 2 (by omega), HB1.out⟩
  · have a1 : ¬ 60 < g.terms.length := by omega
    have a2 : ¬ 60 - (g.terms.length : Int) < g.nonterms.length := by omega
    have a3 : ¬ 120 < g.rules.length := by omega
    by_cases h2 : NamesOk g.terms
    · have T1 := tb_yes h2
      rw [T1] at HNT
      by_cases h3 : NamesOk g.nonterms
      · have T2 := tb_yes h3
        rw [T2] at HNN
        by_cases h4 : g.ax < 0 ∨ (g.nonterms.length : Int) ≤ g.ax
        · have H : Hid (checkN g = (1, -1)) := Lib.hid (by unfold checkN; rw [if_neg h1, if_neg (by simp [h2, h3]), if_pos h4])
          by_cases a4 : g.ax < 0
          all_goals
            go_enter Tryd.func35, Tryd.ntmps35
            go_wp2_with (first
              | (go_at_call 67; have t_ := T1; refine HNT.out.mono ?_; rintro e w' ⟨rfl, n1, rfl⟩; clear T1 t_)
              | (go_at_call 67; refine (HNN.out _).mono ?_; rintro e w' ⟨rfl, n2, rfl⟩))
            go_ret
            exact ⟨_, rfl, by rw [H.out]; exact .sent 0 (by omega), pw_below_drewN HB1.out _⟩
        · have H : Hid (checkN g = firstBad g.terms.length g.nonterms.length g.rules 0) := Lib.hid (by unfold checkN; rw [if_neg h1, if_neg (by simp [h2, h3]), if_neg h4])
          have a4 : ¬ g.ax < 0 := by omega
          have a5 : ¬ (g.nonterms.length : Int) ≤ g.ax := by omega
          have hnn : g.nonterms.length ≤ 60 := by omega
          clear h1 h2 h3 h4
          go_enter Tryd.func35, Tryd.ntmps35
          go_wp2_with (first
            | (go_at_call 67; have t_ := T1; refine HNT.out.mono ?_; rintro e w' ⟨rfl, n1, rfl⟩; clear T1 t_)
            | (go_at_call 67; refine (HNN.out _).mono ?_; rintro e w' ⟨rfl, n2, rfl⟩))
          clear e0 e2 e9 c0 c1 c2 c3
          go_loopw [53] (fun i wr => ∃ (j : Nat), j ≤ g.rules.length ∧ i = .int .i64 j ∧ Aside0 (Below w.heap.size w wr) ∧ Aside0 (wr.heap[w.heap.size]? = some (.cells #[.slice AT g.terms.length cT, .slice AN g.nonterms.length cN, .int .i64 g.ax, .slice AR g.rules.length cR] 25 (0, 0))) ∧ Aside0 (Below w1.heap.size w1 wr) ∧ Hid (∀ k, k < j → ruleN g.terms.length g.nonterms.length (g.rules.getD k (0, [])) = 0)) (fun i _ => g.rules.length - (intOf i).toNat)
          case atStart => exact ⟨0, by omega, rfl, ⟨pw_below_drewN HB1.out _⟩, ⟨HK1.out⟩, ⟨pw_below_drewN (Below.refl _ _) _⟩, Lib.hid (fun k hk => by omega)⟩
          case round =>
            obtain ⟨j, hj, rfl, HBw, HK, HB2, HT⟩ := hrel
            obtain ⟨w2, rfl⟩ : ∃ w2, wr = w2 := ⟨_, rfl⟩
            by_cases hlt : j < g.rules.length
            · obtain ⟨ad, x, B, c, r, rfl, k1, k2, hrc, hr, HD⟩ := at_rule (Kd.C_below HR.out HB2.out) j hlt
              obtain ⟨c0, c1, c2, c3⟩ := blk_cells2 HK.out
              have hsz : w.heap.size < wr.heap.size := (Array.getElem?_eq_some_iff.1 HK.out).1
              have HRr := Lib.hid (Kd.C_alloc hr (.cells #[.int .i64 x, .slice B r.length c] 56))
              have HEr := Lib.hid ((HE.out.below HB2.out).below (below_alloc (Below.refl wr.heap.size wr) (.cells #[.int .i64 x, .slice B r.length c] 56)))
              have HC := Lib.hid (rule_calls AT AN (some ad) B g.terms.length g.nonterms.length g.rules.length cT cN cR c g.ax (x, r) _ A HEr.out hnn HRr.out)
              clear hr
              rcases ruleN_cases g.terms.length g.nonterms.length (x, r) with hz | hz | hz
              all_goals
                rw [hz] at HC
                go_wp2_with (go_at_call 68; refine HC.out.mono ?_; rintro e w3 ⟨rfl, hb3⟩; simp only [errOf]; have hb4 := (below_alloc (Below.refl wr.heap.size wr) (.cells #[.int .i64 x, .slice B r.length c] 56)).trans (hb3.mono (by simp)); have HB4 := Lib.hid hb4; clear hb3 hb4)
              · go_roundw
                case rel => exact ⟨j + 1, by omega, by go_num, ⟨below_next HBw.out HB4.out⟩, ⟨blk_keep HK.out HB4.out⟩, ⟨below_next HB2.out HB4.out⟩, Lib.hid (fun k hk => by
                  rcases Nat.lt_or_ge k j with h | h
                  · exact HT.out k h
                  · obtain rfl : k = j := by omega
                    rw [HD.out]; exact hz)⟩
                case measure => simp [intOf]; omega
              · have HF : Hid (checkN g = (1, (j : Int))) := Lib.hid (by rw [H.out, firstBad_at _ _ _ j HT.out hlt (by rw [HD.out, hz]; decide), HD.out, hz])
                go_ret
                refine ⟨_, rfl, ?_, below_next (below_next HBw.out HB4.out) (below_alloc (Below.refl _ _) _)⟩
                rw [HF.out]
                refine .rule 0 (by omega) _ 0 j ?_ ?_ <;> simp [go_sem]
              · have HF : Hid (checkN g = (3, (j : Int))) := Lib.hid (by rw [H.out, firstBad_at _ _ _ j HT.out hlt (by rw [HD.out, hz]; decide), HD.out, hz])
                go_ret
                refine ⟨_, rfl, ?_, below_next (below_next HBw.out HB4.out) (below_alloc (Below.refl _ _) _)⟩
                rw [HF.out]
                refine .rule 2 (by omega) _ 0 j ?_ ?_ <;> simp [go_sem]
            · have HF : Hid (checkN g = (0, -1)) := Lib.hid (by rw [H.out]; exact firstBad_none _ _ _ (fun k hk => HT.out k (by omega)))
              go_wp2
              go_ret
              exact ⟨_, rfl, by rw [HF.out]; exact .none, HBw.out⟩
      · have T2 := tb_no h3
        rw [T2] at HNN
        have H : Hid (checkN g = (10, -1)) := Lib.hid (by unfold checkN; rw [if_neg h1, if_pos (by simp [h3])])
        go_enter Tryd.func35, Tryd.ntmps35
        go_wp2_with (first
          | (go_at_call 67; have t_ := T1; refine HNT.out.mono ?_; rintro e w' ⟨rfl, n1, rfl⟩; clear T1 t_)
          | (go_at_call 67; refine (HNN.out _).mono ?_; rintro e w' ⟨rfl, n2, rfl⟩))
        go_ret
        exact ⟨_, rfl, by rw [H.out]; exact .sent 9 (by omega), pw_below_drewN HB1.out _⟩
    · have T1 := tb_no h2
      rw [T1] at HNT
      have H : Hid (checkN g = (10, -1)) := Lib.hid (by unfold checkN; rw [if_neg h1, if_pos (by simp [h2])])
      go_enter Tryd.func35, Tryd.ntmps35
      go_wp2_with (go_at_call 67; refine HNT.out.mono ?_; rintro e w' ⟨rfl, n1, rfl⟩)
      go_ret
      exact ⟨_, rfl, by rw [H.out]; exact .sent 9 (by omega), pw_below_drewN HB1.out _⟩
end Go.Proofs.YtagcmhnanngfbaaDoor.Hand
