/- The texts that the statement's proof stands on, part 2: XGram XMemC XMemD XCntS XCntM XCntD XCntR XCntW XMemE. -/
import Derived.Test.YtndimnomkcjeiaaDoorZMemberTwice1
import Derived.Deep.RegionHeld3
import Derived.WalkLawsBesides
/- Contracts of gram.Check and of dovetailref03.Check: both tell the same of every grammar. -/
namespace Go.Proofs.YtndimnomkcjeiaaDoor.Hand
open Go.RowKit Go.Proofs.YtndimnomkcjeiaaDoorW.PrintWords Go.Proofs.YtndimnomkcjeiaaDoorW.PrintMore Go.Proofs.YtndimnomkcjeiaaDoor.Math

theorem indexS_calls (A : Option Addr) (c : Nat) (l : List ByteArray) (s : ByteArray) (w : World) (hr : Kd.C Kd.string w A l.length l) :
    Calls Tryd.prog 73 #[.slice A l.length c, .string s] w fun e w' => ∃ n : Int, e = .returned (.int .i64 n) ∧ (∃ d, w' = w.drewN d) ∧ ((n = -1 ∧ s ∉ l) ∨ ∃ j : Nat, n = j ∧ j < l.length ∧ l.getD j ByteArray.empty = s ∧ s ∉ l.take j) := by
  have hlen := hr.2.1
  have HR := Lib.hid hr
  clear hr
  go_enter Tryd.func73, Tryd.ntmps73
  go_wp2
  go_loopw [8] (fun i wr => ∃ (j d : Nat), j ≤ l.length ∧ i = .int .i64 j ∧ wr = w.drewN d ∧ Hid (s ∉ l.take j)) (fun i _ => l.length - (intOf i).toNat)
  case atStart => exact ⟨0, 0, by omega, rfl, rfl, Lib.hid (by simp)⟩
  case round =>
    obtain ⟨j, d, hj, rfl, rfl, HT⟩ := hrel
    by_cases hlt : j < l.length
    · obtain ⟨ad, y, rfl, hc, HY⟩ := at_scalar HR.out j hlt ByteArray.empty
      by_cases e : s = y
      · subst e
        go_wp2
        go_ret
        exact ⟨_, rfl, ⟨_, rfl⟩, .inr ⟨j, rfl, hlt, HY.out, HT.out⟩⟩
      · have hn3 : (s.toList == y.toList) = false := beq_eq_false_iff_ne.mpr (fun h => e (str_inj h))
        have HN := Lib.hid e
        clear e
        go_wp2
        go_roundw
        case rel => exact ⟨j + 1, _, by omega, by go_num, rfl, Lib.hid (by rw [take_snocD l j ByteArray.empty hlt, List.mem_append, not_or]; exact ⟨HT.out, by rw [HY.out, List.mem_singleton]; exact HN.out⟩)⟩
        case measure => simp [intOf]; omega
    · have HE : Hid (s ∉ l) := Lib.hid (by have := HT.out; rwa [List.take_of_length_le (by omega)] at this)
      go_wp2
      go_ret
      exact ⟨_, rfl, ⟨_, rfl⟩, .inl ⟨rfl, HE.out⟩⟩
theorem containsS_calls (A : Option Addr) (c : Nat) (l : List ByteArray) (s : ByteArray) (w : World) (hr : Kd.C Kd.string w A l.length l) :
    Quiet 71 #[.slice A l.length c, .string s] w (.bool (tb (s ∈ l))) := by
  unfold Quiet
  have HR := Lib.hid hr
  clear hr
  go_enter Tryd.func71, Tryd.ntmps71
  go_wp2_with (go_at_call 73; refine (indexS_calls A c l s _ HR.out).mono ?_; rintro e w' ⟨n, rfl, ⟨d, rfl⟩, hn⟩; have HN := Lib.hid hn; clear hn)
  go_ret
  refine ⟨ret_bool (tb_bool ?_), _, rfl⟩
  rcases HN.out with ⟨rfl, h⟩ | ⟨j, rfl, hj, h, _⟩
  · simp [h]
  · have : s ∈ l := by rw [← h]; exact getD_mem l j _ hj
    simp [this]
theorem nameFault_calls (A : Option Addr) (c : Nat) (l : List ByteArray) (i : Nat) (hi : i < l.length) (hlc : l.length ≤ c) (w : World) (hr : Kd.C Kd.string w A l.length l) :
    Quiet 68 #[.slice A l.length c, .int .i64 i] w (.bool (tb (¬ NameOk l i))) := by
  unfold Quiet
  have hlen := hr.2.1
  have HR := Lib.hid hr
  have HTk := Lib.hid (Kd.C_take (k := Kd.string) (A := A) (w := w) (xs := l) (m := i) hr (by omega))
  obtain ⟨ad, y, rfl, hc, HY⟩ := at_scalar hr i hi ByteArray.empty
  have htl : Hid ((l.take i).length = i) := Lib.hid (by simp; omega)
  have hic : i ≤ c := by omega
  clear hr
  by_cases h0 : y.size = 0
  · have HN : Hid (tb (¬ NameOk l i) = true) := Lib.hid (tb_yes (fun h => h.1 (by rw [HY.out]; exact h0)))
    have h0I : ((y.size : Int) == 0) = true := by simp [h0]
    go_enter Tryd.func68, Tryd.ntmps68
    go_wp2
    go_ret
    exact ⟨ret_bool HN.out.symm, 0, rfl⟩
  · by_cases h1 : 32 < y.size
    · have HN : Hid (tb (¬ NameOk l i) = true) := Lib.hid (tb_yes (fun h => by have := h.2.1; rw [HY.out] at this; omega))
      go_enter Tryd.func68, Tryd.ntmps68
      go_wp2
      go_ret
      exact ⟨ret_bool HN.out.symm, 0, rfl⟩
    · have HN : Hid (tb (¬ NameOk l i) = tb (y ∈ l.take i)) := Lib.hid (tb_congr (by
        unfold NameOk; rw [HY.out]
        constructor
        · intro h; refine Classical.byContradiction (fun hm => h ⟨h0, by omega, hm⟩)
        · exact fun hm h => h.2.2 hm))
      have HC : Hid (∀ m, Quiet 71 #[.slice (some ad) i c, .string y] (w.drewN m) (.bool (tb (y ∈ l.take i)))) := Lib.hid (fun m => by
        have h := containsS_calls (some ad) c (l.take i) y (w.drewN m) (Kd.C_drewN HTk.out m)
        rwa [htl.out] at h)
      cases hb : tb (y ∈ l.take i)
      all_goals
        rw [hb] at HN HC
        go_enter Tryd.func68, Tryd.ntmps68
        go_wp2
        go_quiet ((go_at_call 71; exact Calls.quiet_of (HC.out _)))
        go_wp2
        go_ret
        exact ⟨ret_bool HN.out.symm, _, rfl⟩
theorem names_calls (A : Option Addr) (c : Nat) (l : List ByteArray) (hlc : l.length ≤ c) (w : World) (hr : Kd.C Kd.string w A l.length l) :
    Quiet 65 #[.slice A l.length c] w (.bool (tb (NamesOk l))) := by
  unfold Quiet
  have hlen := hr.2.1
  have HR := Lib.hid hr
  clear hr
  go_enter Tryd.func65, Tryd.ntmps65
  go_wp2
  go_loopw [6] (fun i wr => ∃ (j d : Nat), j ≤ l.length ∧ i = .int .i64 j ∧ wr = w.drewN d ∧ Hid (∀ i, i < j → NameOk l i)) (fun i _ => l.length - (intOf i).toNat)
  case atStart => exact ⟨0, 0, by omega, rfl, rfl, Lib.hid (fun i hi => by omega)⟩
  case round =>
    obtain ⟨j, d, hj, rfl, rfl, HT⟩ := hrel
    by_cases hlt : j < l.length
    · by_cases hb : NameOk l j
      · have HF := Lib.hid (tb_no (not_not_intro hb))
        have HB := Lib.hid hb
        clear hb
        go_wp2_with (go_at_call 68; refine (nameFault_calls A c l j hlt hlc _ (Kd.C_drewN HR.out _)).mono ?_; rw [HF.out]; rintro e w' ⟨rfl, n, rfl⟩)
        go_roundw
        case rel => exact ⟨j + 1, _, by omega, by go_num, rfl, Lib.hid (fun i hi => by
          rcases Nat.lt_or_ge i j with h | h
          · exact HT.out i h
          · obtain rfl : i = j := by omega
            exact HB.out)⟩
        case measure => simp [intOf]; omega
      · have HF := Lib.hid (tb_yes hb)
        have HE : Hid (tb (NamesOk l) = false) := Lib.hid (tb_no (fun h => hb (h j hlt)))
        clear hb
        go_wp2_with (go_at_call 68; refine (nameFault_calls A c l j hlt hlc _ (Kd.C_drewN HR.out _)).mono ?_; rw [HF.out]; rintro e w' ⟨rfl, n, rfl⟩)
        go_ret
        exact ⟨ret_bool HE.out.symm, _, rfl⟩
    · have HE : Hid (tb (NamesOk l) = true) := Lib.hid (tb_yes (fun i hi => HT.out i (by omega)))
      go_wp2
      go_ret
      exact ⟨ret_bool HE.out.symm, _, rfl⟩
theorem ruleF_calls (b : Nat) (AT AN : Option Addr) (t n cT cN : Nat) (s : Int) (w : World) (h0 : w.cell? ⟨b, 0, none⟩ = some (.slice AT t cT)) (h1 : w.cell? ⟨b, 1, none⟩ = some (.slice AN n cN)) (hn : n ≤ 60) :
    Quiet 70 #[.int .i64 s, .pointer (some ⟨b, 0, none⟩)] w (.bool (symBad t n s)) := by
  unfold Quiet
  by_cases h : (t : Int) ≤ s
  · have H : Hid (symBad t n s = true) := Lib.hid (by simp [symBad, h])
    go_enter Tryd.func70, Tryd.ntmps70
    go_wp2
    go_ret
    exact ⟨ret_bool H.out.symm, 0, rfl⟩
  · have H : Hid (symBad t n s = decide (s < -(n : Int))) := Lib.hid (by simp [symBad, h])
    go_enter Tryd.func70, Tryd.ntmps70
    go_wp2
    go_ret
    exact ⟨ret_bool H.out.symm, 0, rfl⟩
theorem indexF_calls (A : Option Addr) (c : Nat) (l : List Int) (b : Nat) (AT AN : Option Addr) (t n cT cN : Nat) (w : World) (h0 : w.cell? ⟨b, 0, none⟩ = some (.slice AT t cT)) (h1 : w.cell? ⟨b, 1, none⟩ = some (.slice AN n cN)) (hn : n ≤ 60) (hr : Kd.C (Kd.int .i64) w A l.length l) :
    Calls Tryd.prog 72 #[.slice A l.length c, .func (.func 70) #[] #[.pointer (some ⟨b, 0, none⟩)]] w fun e w' => ∃ k : Int, e = .returned (.int .i64 k) ∧ (∃ d, w' = w.drewN d) ∧ ((k = -1 ∧ l.any (symBad t n) = false) ∨ (0 ≤ k ∧ l.any (symBad t n) = true)) := by
  have hlen := hr.2.1
  have HR := Lib.hid hr
  clear hr
  have HF := Lib.hid (fun (m : Nat) (s : Int) => ruleF_calls b AT AN t n cT cN s (w.drewN m) (by rw [World.cell?_drewN]; exact h0) (by rw [World.cell?_drewN]; exact h1) hn)
  clear h0 h1
  go_enter Tryd.func72, Tryd.ntmps72
  go_wp2
  go_loopw [8] (fun i wr => ∃ (j d : Nat), j ≤ l.length ∧ i = .int .i64 j ∧ wr = w.drewN d ∧ Hid ((l.take j).any (symBad t n) = false)) (fun i _ => l.length - (intOf i).toNat)
  case atStart => exact ⟨0, 0, by omega, rfl, rfl, Lib.hid (by simp)⟩
  case round =>
    obtain ⟨j, d, hj, rfl, rfl, HT⟩ := hrel
    by_cases hlt : j < l.length
    · obtain ⟨ad, y, rfl, hc, HY⟩ := at_scalar HR.out j hlt 0
      cases hb : symBad t n y
      · go_wp2_with (go_at_call 70; refine (HF.out d y).mono ?_; rw [hb]; rintro e w' ⟨rfl, n1, rfl⟩)
        go_roundw
        case rel => exact ⟨j + 1, _, by omega, by go_num, rfl, Lib.hid (by rw [any_take_snoc l _ j hlt, HT.out, HY.out, hb]; rfl)⟩
        case measure => simp [intOf]; omega
      · have HE : Hid (l.any (symBad t n) = true) := Lib.hid (List.any_eq_true.2 ⟨y, by rw [← HY.out]; exact getD_mem l j 0 hlt, hb⟩)
        go_wp2_with (go_at_call 70; refine (HF.out d y).mono ?_; rw [hb]; rintro e w' ⟨rfl, n1, rfl⟩)
        go_ret
        exact ⟨_, rfl, ⟨_, rfl⟩, .inr ⟨by omega, HE.out⟩⟩
    · have HE : Hid (l.any (symBad t n) = false) := Lib.hid (by have := HT.out; rwa [List.take_of_length_le (by omega)] at this)
      go_wp2
      go_ret
      exact ⟨_, rfl, ⟨_, rfl⟩, .inl ⟨rfl, HE.out⟩⟩
theorem containsF_calls (A : Option Addr) (c : Nat) (l : List Int) (b : Nat) (AT AN : Option Addr) (t n cT cN : Nat) (w : World) (h0 : w.cell? ⟨b, 0, none⟩ = some (.slice AT t cT)) (h1 : w.cell? ⟨b, 1, none⟩ = some (.slice AN n cN)) (hn : n ≤ 60) (hr : Kd.C (Kd.int .i64) w A l.length l) :
    Quiet 69 #[.slice A l.length c, .func (.func 70) #[] #[.pointer (some ⟨b, 0, none⟩)]] w (.bool (l.any (symBad t n))) := by
  unfold Quiet
  have HC := Lib.hid (indexF_calls A c l b AT AN t n cT cN w h0 h1 hn hr)
  clear h0 h1 hr
  go_enter Tryd.func69, Tryd.ntmps69
  go_wp2_with (go_at_call 72; refine HC.out.mono ?_; rintro e w' ⟨k, rfl, ⟨d, rfl⟩, hk⟩; have HK := Lib.hid hk; clear hk)
  go_ret
  refine ⟨ret_bool ?_, _, rfl⟩
  rcases HK.out with ⟨rfl, h⟩ | ⟨hk, h⟩
  · rw [h]; rfl
  · rw [h]; simp [hk]
theorem rule_calls (AT AN AR B : Option Addr) (t n m cT cN cR c : Nat) (ax : Int) (r : Int × List Int) (w : World) (A : Nat → Addr) (hE : ErrsW w A) (hn : n ≤ 60) (hr : Kd.C (Kd.int .i64) w B r.2.length r.2) :
    Calls Tryd.prog 66 #[.agg #[.slice AT t cT, .slice AN n cN, .int .i64 ax, .slice AR m cR], .agg #[.int .i64 r.1, .slice B r.2.length c]] w fun e w' => e = .returned (errOf A (ruleN t n r)) ∧ Below w.heap.size w w' := by
  obtain ⟨x, l⟩ := r
  simp only at hr ⊢
  obtain ⟨w1, hw1⟩ : ∃ w1, (w.alloc (.cells #[.slice AT t cT, .slice AN n cN, .int .i64 ax, .slice AR m cR] 25)).alloc (.cells #[.int .i64 x, .slice B l.length c] 51) = w1 := ⟨_, rfl⟩
  have hb1 : Below w.heap.size w w1 := by rw [← hw1]; exact below_alloc (below_alloc (Below.refl _ _) _) _
  have g0 : w1.cell? ⟨w.heap.size, 0, none⟩ = some (.slice AT t cT) := by rw [← hw1]; simp [go_sem]
  have g1 : w1.cell? ⟨w.heap.size, 1, none⟩ = some (.slice AN n cN) := by rw [← hw1]; simp [go_sem]
  have r0 : w1.cell? ⟨w.heap.size + 1, 0, none⟩ = some (.int .i64 x) := by rw [← hw1]; simp [go_sem]
  have r1 : w1.cell? ⟨w.heap.size + 1, 1, none⟩ = some (.slice B l.length c) := by rw [← hw1]; simp [go_sem]
  have hE1 := hE.below hb1
  have e0 : w1.cell? ⟨0, 0, none⟩ = some (.iface 143 (.pointer (some (A 0)))) := hE1.cells 0 (by decide)
  have e2 : w1.cell? ⟨2, 0, none⟩ = some (.iface 143 (.pointer (some (A 2)))) := hE1.cells 2 (by decide)
  have HB1 := Lib.hid hb1
  have HC := Lib.hid (containsF_calls B c l w.heap.size AT AN t n cT cN w1 g0 g1 hn (Kd.C_below hr hb1))
  clear hb1 hE hE1 hr
  by_cases h0 : 32 < l.length
  · have H : Hid (errOf A (ruleN t n (x, l)) = .iface 143 (.pointer (some (A 2)))) := Lib.hid (by simp [ruleN, h0, errOf])
    go_enter Tryd.func66, Tryd.ntmps66
    go_wp2
    go_ret
    exact ⟨congrArg Ending.returned H.out.symm, HB1.out⟩
  · by_cases h1 : x < 0
    · have H : Hid (errOf A (ruleN t n (x, l)) = .iface 143 (.pointer (some (A 0)))) := Lib.hid (by simp [ruleN, h0, h1, errOf])
      go_enter Tryd.func66, Tryd.ntmps66
      go_wp2
      go_ret
      exact ⟨congrArg Ending.returned H.out.symm, HB1.out⟩
    · by_cases h2 : (n : Int) ≤ x
      · have H : Hid (errOf A (ruleN t n (x, l)) = .iface 143 (.pointer (some (A 0)))) := Lib.hid (by simp [ruleN, h0, h2, errOf])
        go_enter Tryd.func66, Tryd.ntmps66
        go_wp2
        go_ret
        exact ⟨congrArg Ending.returned H.out.symm, HB1.out⟩
      · cases h3 : l.any (symBad t n)
        · have H : Hid (errOf A (ruleN t n (x, l)) = .nilIface) := Lib.hid (by unfold ruleN; rw [if_neg h0, if_neg (by simp only [h3]; simp; omega)]; rfl)
          rw [h3] at HC
          go_enter Tryd.func66, Tryd.ntmps66
          go_wp2_with (go_at_call 69; refine HC.out.mono ?_; rintro e w' ⟨rfl, d, rfl⟩)
          go_ret
          exact ⟨congrArg Ending.returned H.out.symm, pw_below_drewN HB1.out _⟩
        · have H : Hid (errOf A (ruleN t n (x, l)) = .iface 143 (.pointer (some (A 0)))) := Lib.hid (by unfold ruleN; rw [if_neg h0, if_pos (by simp only [h3]; simp)]; rfl)
          rw [h3] at HC
          go_enter Tryd.func66, Tryd.ntmps66
          go_wp2_with (go_at_call 69; refine HC.out.mono ?_; rintro e w' ⟨rfl, d, rfl⟩)
          go_ret
          exact ⟨congrArg Ending.returned H.out.symm, pw_below_drewN HB1.out _⟩
theorem blk_cells2 {g : Nat} {a b c d : Value} {t : TypeId} {w : World} (h : w.heap[g]? = some (.cells #[a, b, c, d] t (0, 0))) :
    w.cell? ⟨g, 0, none⟩ = some a ∧ w.cell? ⟨g, 1, none⟩ = some b ∧ w.cell? ⟨g, 2, none⟩ = some c ∧ w.cell? ⟨g, 3, none⟩ = some d := by
  refine ⟨?_, ?_, ?_, ?_⟩ <;> simp [World.cell?, h]
theorem blk_keep {g : Nat} {o : Obj} {w w' : World} (h : w.heap[g]? = some o) (hb : Below w.heap.size w w') : w'.heap[g]? = some o := (hb.block g (Array.getElem?_eq_some_iff.1 h).1).trans h
set_option maxHeartbeats 800000 in
theorem check_calls (v : Value) (g : Gr) (w : World) (A : Nat → Addr) (hE : ErrsW w A) (hv : GramAt w v g) :
    Calls Tryd.prog 56 #[v] w fun e w' => ∃ u, e = .returned u ∧ ErrV w' A u (checkN g).1 (checkN g).2 ∧ Below w.heap.size w w' := by
  obtain ⟨AT, cT, AN, cN, AR, cR, rfl, q1, q2, q3, q4, q5, q6⟩ := hv
  have l1 := q4.2.1
  have l2 := q5.2.1
  have l3 := q6.2.1
  obtain ⟨w1, hw1⟩ : ∃ w1, w.alloc (.cells #[.slice AT g.terms.length cT, .slice AN g.nonterms.length cN, .int .i64 g.ax, .slice AR g.rules.length cR] 25) = w1 := ⟨_, rfl⟩
  have hb1 : Below w.heap.size w w1 := by rw [← hw1]; exact below_alloc (Below.refl _ _) _
  have hk1 : w1.heap[w.heap.size]? = some (.cells #[.slice AT g.terms.length cT, .slice AN g.nonterms.length cN, .int .i64 g.ax, .slice AR g.rules.length cR] 25 (0, 0)) := by rw [← hw1]; exact heap_alloc_new w _
  obtain ⟨c0, c1, c2, c3⟩ := blk_cells2 hk1
  have hE1 := hE.below hb1
  have e0 : w1.cell? ⟨0, 0, none⟩ = some (.iface 143 (.pointer (some (A 0)))) := hE1.cells 0 (by decide)
  have e2 : w1.cell? ⟨2, 0, none⟩ = some (.iface 143 (.pointer (some (A 2)))) := hE1.cells 2 (by decide)
  have e9 : w1.cell? ⟨9, 0, none⟩ = some (.iface 143 (.pointer (some (A 9)))) := hE1.cells 9 (by decide)
  have HB1 := Lib.hid hb1
  have HK1 := Lib.hid hk1
  have HE := Lib.hid hE1
  have HNT := Lib.hid (names_calls AT cT g.terms q1 w1 (Kd.C_below q4 hb1))
  have HNN := Lib.hid (fun m => names_calls AN cN g.nonterms q2 (w1.drewN m) (Kd.C_drewN (Kd.C_below q5 hb1) m))
  have HR := Lib.hid (Kd.C_below q6 hb1)
  clear hb1 hk1 hE hE1 q4 q5 q6
  by_cases h1 : 60 < g.terms.length + g.nonterms.length ∨ 120 < g.rules.length
  · have H : Hid (checkN g = (3, -1)) := Lib.hid (by unfold checkN; rw [if_pos h1])
    by_cases a1 : 60 < g.terms.length
    · go_enter Tryd.func56, Tryd.ntmps56
      go_wp2
      go_ret
      exact ⟨_, rfl, by rw [H.out]; exact .sent 2 (by omega), HB1.out⟩
    · by_cases a2 : 60 - (g.terms.length : Int) < g.nonterms.length
      · go_enter Tryd.func56, Tryd.ntmps56
        go_wp2
        go_ret
        exact ⟨_, rfl, by rw [H.out]; exact .sent 2 (by omega), HB1.out⟩
      · have a3 : 120 < g.rules.length := by omega
        go_enter Tryd.func56, Tryd.ntmps56
        go_wp2
        go_ret
        exact ⟨_, rfl, by rw [H.out]; exact .sent 2 (by omega), HB1.out⟩
  · have a1 : ¬ 60 < g.terms.length := by omega
    have a2 : ¬ 60 - (g.terms.length : Int) < g.nonterms.length := by omega
    have a3 : ¬ 120 < g.rules.length := by omega
    by_cases h2 : NamesOk g.terms
    · have T1 := tb_yes h2
      rw [T1] at HNT
      by_cases h3 : NamesOk g.nonterms
      · have T2 := tb_yes h3
        rw [T2] at HNN
        by_cases h4 : g.ax < 0 ∨ (g.nonterms.length : Int) ≤ g.ax
        · have H : Hid (checkN g = (1, -1)) := Lib.hid (by unfold checkN; rw [if_neg h1, if_neg (by simp [h2, h3]), if_pos h4])
          by_cases a4 : g.ax < 0
          all_goals
            go_enter Tryd.func56, Tryd.ntmps56
            go_wp2_with (first
              | (go_at_call 65; have t_ := T1; refine HNT.out.mono ?_; rintro e w' ⟨rfl, n1, rfl⟩; clear T1 t_)
              | (go_at_call 65; refine (HNN.out _).mono ?_; rintro e w' ⟨rfl, n2, rfl⟩))
            go_ret
            exact ⟨_, rfl, by rw [H.out]; exact .sent 0 (by omega), pw_below_drewN HB1.out _⟩
        · have H : Hid (checkN g = firstBad g.terms.length g.nonterms.length g.rules 0) := Lib.hid (by unfold checkN; rw [if_neg h1, if_neg (by simp [h2, h3]), if_neg h4])
          have a4 : ¬ g.ax < 0 := by omega
          have a5 : ¬ (g.nonterms.length : Int) ≤ g.ax := by omega
          have hnn : g.nonterms.length ≤ 60 := by omega
          clear h1 h2 h3 h4
          go_enter Tryd.func56, Tryd.ntmps56
          go_wp2_with (first
            | (go_at_call 65; have t_ := T1; refine HNT.out.mono ?_; rintro e w' ⟨rfl, n1, rfl⟩; clear T1 t_)
            | (go_at_call 65; refine (HNN.out _).mono ?_; rintro e w' ⟨rfl, n2, rfl⟩))
          clear e0 e2 e9 c0 c1 c2 c3
          go_loopw [53] (fun i wr => ∃ (j : Nat), j ≤ g.rules.length ∧ i = .int .i64 j ∧ Aside0 (Below w.heap.size w wr) ∧ Aside0 (wr.heap[w.heap.size]? = some (.cells #[.slice AT g.terms.length cT, .slice AN g.nonterms.length cN, .int .i64 g.ax, .slice AR g.rules.length cR] 25 (0, 0))) ∧ Aside0 (Below w1.heap.size w1 wr) ∧ Hid (∀ k, k < j → ruleN g.terms.length g.nonterms.length (g.rules.getD k (0, [])) = 0)) (fun i _ => g.rules.length - (intOf i).toNat)
          case atStart => exact ⟨0, by omega, rfl, ⟨pw_below_drewN HB1.out _⟩, ⟨HK1.out⟩, ⟨pw_below_drewN (Below.refl _ _) _⟩, Lib.hid (fun k hk => by omega)⟩
          case round =>
            obtain ⟨j, hj, rfl, HBw, HK, HB2, HT⟩ := hrel
            obtain ⟨w2, rfl⟩ : ∃ w2, wr = w2 := ⟨_, rfl⟩
            by_cases hlt : j < g.rules.length
            · obtain ⟨ad, x, B, c, r, rfl, k1, k2, hrc, hr, HD⟩ := at_rule (Kd.C_below HR.out HB2.out) j hlt
              obtain ⟨c0, c1, c2, c3⟩ := blk_cells2 HK.out
              have hsz : w.heap.size < wr.heap.size := (Array.getElem?_eq_some_iff.1 HK.out).1
              have HRr := Lib.hid (Kd.C_alloc hr (.cells #[.int .i64 x, .slice B r.length c] 51))
              have HEr := Lib.hid ((HE.out.below HB2.out).below (below_alloc (Below.refl wr.heap.size wr) (.cells #[.int .i64 x, .slice B r.length c] 51)))
              have HC := Lib.hid (rule_calls AT AN (some ad) B g.terms.length g.nonterms.length g.rules.length cT cN cR c g.ax (x, r) _ A HEr.out hnn HRr.out)
              clear hr
              rcases ruleN_cases g.terms.length g.nonterms.length (x, r) with hz | hz | hz
              all_goals
                rw [hz] at HC
                go_wp2_with (go_at_call 66; refine HC.out.mono ?_; rintro e w3 ⟨rfl, hb3⟩; simp only [errOf]; have hb4 := (below_alloc (Below.refl wr.heap.size wr) (.cells #[.int .i64 x, .slice B r.length c] 51)).trans (hb3.mono (by simp)); have HB4 := Lib.hid hb4; clear hb3 hb4)
              · go_roundw
                case rel => exact ⟨j + 1, by omega, by go_num, ⟨below_next HBw.out HB4.out⟩, ⟨blk_keep HK.out HB4.out⟩, ⟨below_next HB2.out HB4.out⟩, Lib.hid (fun k hk => by
                  rcases Nat.lt_or_ge k j with h | h
                  · exact HT.out k h
                  · obtain rfl : k = j := by omega
                    rw [HD.out]; exact hz)⟩
                case measure => simp [intOf]; omega
              · have HF : Hid (checkN g = (1, (j : Int))) := Lib.hid (by rw [H.out, firstBad_at _ _ _ j HT.out hlt (by rw [HD.out, hz]; decide), HD.out, hz])
                go_ret
                refine ⟨_, rfl, ?_, below_next (below_next HBw.out HB4.out) (below_alloc (Below.refl _ _) _)⟩
                rw [HF.out]
                refine .rule 0 (by omega) _ 0 j ?_ ?_ <;> simp [go_sem]
              · have HF : Hid (checkN g = (3, (j : Int))) := Lib.hid (by rw [H.out, firstBad_at _ _ _ j HT.out hlt (by rw [HD.out, hz]; decide), HD.out, hz])
                go_ret
                refine ⟨_, rfl, ?_, below_next (below_next HBw.out HB4.out) (below_alloc (Below.refl _ _) _)⟩
                rw [HF.out]
                refine .rule 2 (by omega) _ 0 j ?_ ?_ <;> simp [go_sem]
            · have HF : Hid (checkN g = (0, -1)) := Lib.hid (by rw [H.out]; exact firstBad_none _ _ _ (fun k hk => HT.out k (by omega)))
              go_wp2
              go_ret
              exact ⟨_, rfl, by rw [HF.out]; exact .none, HBw.out⟩
      · have T2 := tb_no h3
        rw [T2] at HNN
        have H : Hid (checkN g = (10, -1)) := Lib.hid (by unfold checkN; rw [if_neg h1, if_pos (by simp [h3])])
        go_enter Tryd.func56, Tryd.ntmps56
        go_wp2_with (first
          | (go_at_call 65; have t_ := T1; refine HNT.out.mono ?_; rintro e w' ⟨rfl, n1, rfl⟩; clear T1 t_)
          | (go_at_call 65; refine (HNN.out _).mono ?_; rintro e w' ⟨rfl, n2, rfl⟩))
        go_ret
        exact ⟨_, rfl, by rw [H.out]; exact .sent 9 (by omega), pw_below_drewN HB1.out _⟩
    · have T1 := tb_no h2
      rw [T1] at HNT
      have H : Hid (checkN g = (10, -1)) := Lib.hid (by unfold checkN; rw [if_neg h1, if_pos (by simp [h2])])
      go_enter Tryd.func56, Tryd.ntmps56
      go_wp2_with (go_at_call 65; refine HNT.out.mono ?_; rintro e w' ⟨rfl, n1, rfl⟩)
      go_ret
      exact ⟨_, rfl, by rw [H.out]; exact .sent 9 (by omega), pw_below_drewN HB1.out _⟩
end Go.Proofs.YtndimnomkcjeiaaDoor.Hand
/- Contracts of package member: may. -/
namespace Go.Proofs.YtndimnomkcjeiaaDoor.Hand
open Go.RowKit Go.Proofs.YtndimnomkcjeiaaDoorW.PrintWords Go.Proofs.YtndimnomkcjeiaaDoorW.PrintMore Go.Proofs.YtndimnomkcjeiaaDoor.Math

theorem gblk_keep' {g : Nat} {o : Obj} {w w' : World} (h : w.heap[g]? = some o) (hb : Below w.heap.size w w') : w'.heap[g]? = some o := (hb.block g (Array.getElem?_eq_some_iff.1 h).1).trans h
theorem tok_take_snoc (l : List Int) (f : Int → Bool) (j : Nat) (h : j < l.length) : (l.take (j + 1)).any f = ((l.take j).any f || f (l.getD j 0)) := by
  rw [take_snocD l j 0 h, List.any_append]; simp
theorem ErrV.nil_of {w : World} {A : Nat → Addr} {v : Value} {k : Nat} {r : Int} (h : ErrV w A v k r) (hk : k = 0) : v = .nilIface := by
  cases h with
  | none => rfl
  | sent i hi => omega
  | rule i hi pb po r h0 h1 => omega
/-- The types that an error's value may have. -/
def errTs : List Nat := [143
  , 133
  ]
theorem ErrV.iface_of {w : World} {A : Nat → Addr} {v : Value} {k : Nat} {r : Int} (h : ErrV w A v k r) (hk : ¬ k = 0) : ∃ T p, T ∈ errTs ∧ v = .iface T (.pointer p) := by
  cases h with
  | none => exact absurd rfl hk
  | sent i hi => exact ⟨_, _, by simp [errTs], rfl⟩
  | rule i hi pb po r h0 h1 => exact ⟨_, _, by simp [errTs], rfl⟩
set_option maxHeartbeats 1600000 in
set_option maxRecDepth 100000 in
theorem may_calls (v : Value) (g : Gr) (At : Option Addr) (ct : Nat) (tk : List Int) (w : World) (A : Nat → Addr) (hE : ErrsW w A) (hv : GramAt w v g) (_hlc : tk.length ≤ ct) (hr : Kd.C (Kd.int .i64) w At tk.length tk) :
    Calls Tryd.prog 42 #[v, .slice At tk.length ct] w fun e w' => ∃ u, e = .returned u ∧ ErrV w' A u (mayN g tk).1 (mayN g tk).2 ∧ Below w.heap.size w w' := by
  have HV := Lib.hid hv
  obtain ⟨AT, cT, AN, cN, AR, cR, rfl, q1, q2, q3, q4, q5, q6⟩ := hv
  have l1 := q4.2.1
  have l2 := q5.2.1
  have l3 := q6.2.1
  have hlen := hr.2.1
  obtain ⟨w1, hw1⟩ : ∃ w1, w.alloc (.cells #[.slice AT g.terms.length cT, .slice AN g.nonterms.length cN, .int .i64 g.ax, .slice AR g.rules.length cR] 25) = w1 := ⟨_, rfl⟩
  have hb1 : Below w.heap.size w w1 := by rw [← hw1]; exact below_alloc (Below.refl _ _) _
  have hk1 : w1.heap[w.heap.size]? = some (.cells #[.slice AT g.terms.length cT, .slice AN g.nonterms.length cN, .int .i64 g.ax, .slice AR g.rules.length cR] 25 (0, 0)) := by rw [← hw1]; exact heap_alloc_new w _
  obtain ⟨c0, c1, c2, c3⟩ := blk_cells2 hk1
  have HB1 := Lib.hid hb1
  have HK1 := Lib.hid hk1
  have HE := Lib.hid (hE.below hb1)
  have HC := Lib.hid (check_calls _ g w1 A (hE.below hb1) (HV.out.below hb1))
  have HR := Lib.hid (Kd.C_below q6 hb1)
  have HT := Lib.hid (Kd.C_below hr hb1)
  clear hb1 hk1 hE q4 q5 q6 hr
  by_cases h0 : (checkN g).1 = 0
  case neg =>
    have HM : Hid (mayN g tk = checkN g) := Lib.hid (by unfold mayN; rw [if_pos h0])
    go_enter Tryd.func42, Tryd.ntmps42
    go_wp2_with (go_at_call 56; refine HC.out.mono ?_; rintro e w2 ⟨u, rfl, hu, hb2⟩; have HU := Lib.hid hu; have HB2 := Lib.hid hb2; obtain ⟨T, p, hT, rfl⟩ := hu.iface_of h0; clear hu hb2 hT)
    go_ret
    exact ⟨_, rfl, by rw [HM.out]; exact HU.out, below_next HB1.out HB2.out⟩
  obtain ⟨z1, z2, z3, z4, z5, z6, z7⟩ := checkN_zero h0
  have HZ := Lib.hid z7
  clear z3 z4 z7
  have hmk : ∀ r, r ∈ g.rules → r.2.length ≤ 32 := fun r hr => ruleN_len (HZ.out r hr)
  have hs32 := sizeN_le g.rules hmk
  have HMk := Lib.hid hmk
  have HM : Hid (mayN g tk = if 40 < tk.length ∨ 512 < sizeN g.rules then (12, -1) else if tk.any (tokBad g.terms.length) = true then (1, -1) else (0, -1)) := Lib.hid (by unfold mayN; rw [if_neg (by simp [h0])])
  clear hmk
  go_enter Tryd.func42, Tryd.ntmps42
  go_wp2_with (go_at_call 56; refine HC.out.mono ?_; rintro e w2 ⟨u, rfl, hu, hb2⟩; have HB2 := Lib.hid hb2; have HK2 := Lib.hid (gblk_keep' HK1.out hb2); obtain rfl := hu.nil_of h0; obtain ⟨d0, d1, d2, d3⟩ := blk_cells2 HK2.out; clear hu hb2)
  clear c0 c1 c2 c3
  go_loopw [6, 19] (fun v x wr => ∃ k : Nat, k ≤ g.rules.length ∧ v = .int .i64 (sizeN (g.rules.take k) : Nat) ∧ x = .int .i64 k ∧ Aside0 (Below w2.heap.size w2 wr)) (fun _ x _ => g.rules.length - (intOf x).toNat)
  case atStart => exact ⟨0, by omega, by simp [sizeN], rfl, ⟨Below.refl _ _⟩⟩
  case round =>
    obtain ⟨k, hk, rfl, rfl, HB3⟩ := hrel
    by_cases hlt : k < g.rules.length
    · obtain ⟨ad, x, B, c, r, rfl, k1, k2, hrc, hr, HD⟩ := at_rule (Kd.C_below (Kd.C_below HR.out HB2.out) HB3.out) k hlt
      have hr32 : r.length ≤ 32 := by have := HMk.out (g.rules.getD k (0, [])) (getD_mem _ _ _ hlt); rw [HD.out] at this; exact this
      have hmn : Builtin.min2 (.int .i64 (r.length : Nat)) (.int .i64 513) = pure (.int .i64 (r.length : Nat)) := by rw [min2_int, if_neg (by omega)]
      have hsk : sizeN (g.rules.take k) ≤ 3840 := by have := sizeN_take g.rules k; omega
      have HSk : Hid (sizeN (g.rules.take (k + 1)) = sizeN (g.rules.take k) + r.length) := Lib.hid (by rw [take_snocD _ _ (0, []) hlt, sizeN_snoc, HD.out])
      have HB4 := Lib.hid (below_alloc (Below.refl wr.heap.size wr) (.cells #[.int .i64 x, .slice B r.length c] 51))
      clear hr
      obtain ⟨sk, hske⟩ : ∃ sk, sizeN (g.rules.take k) = sk := ⟨_, rfl⟩
      rw [hske] at hsk HSk ⊢
      clear hske
      go_wp2
      go_roundw
      case rel => exact ⟨k + 1, by omega, by rw [HSk.out]; go_num, by go_num, ⟨below_next HB3.out HB4.out⟩⟩
      case measure => simp [intOf]; omega
    · have hall : g.rules.take k = g.rules := List.take_of_length_le (by omega)
      have hszn : sizeN g.rules ≤ 3840 := by omega
      rw [hall]
      obtain ⟨sz, hsz⟩ : ∃ sz, sizeN g.rules = sz := ⟨_, rfl⟩
      rw [hsz] at hszn hs32 HM ⊢
      clear hsz hall
      have HB4 := Lib.hid (below_next HB1.out (below_next HB2.out HB3.out))
      have HE3 := Lib.hid ((HE.out.below HB2.out).below HB3.out)
      have e0 : wr.cell? ⟨0, 0, none⟩ = some (.iface 143 (.pointer (some (A 0)))) := HE3.out.cells 0 (by decide)
      have e11 : wr.cell? ⟨11, 0, none⟩ = some (.iface 143 (.pointer (some (A 11)))) := HE3.out.cells 11 (by decide)
      have HK3 := Lib.hid (gblk_keep' HK2.out HB3.out)
      obtain ⟨f0, f1, f2, f3⟩ := blk_cells2 HK3.out
      by_cases a1 : 40 < tk.length
      · have HF : Hid (mayN g tk = (12, -1)) := Lib.hid (by rw [HM.out, if_pos (.inl a1)])
        go_wp2
        go_ret
        exact ⟨_, rfl, by rw [HF.out]; exact .sent 11 (by omega), HB4.out⟩
      · by_cases a2 : 512 < sz
        · have HF : Hid (mayN g tk = (12, -1)) := Lib.hid (by rw [HM.out, if_pos (.inr a2)])
          go_wp2
          go_ret
          exact ⟨_, rfl, by rw [HF.out]; exact .sent 11 (by omega), HB4.out⟩
        · have HF : Hid (mayN g tk = if tk.any (tokBad g.terms.length) = true then (1, -1) else (0, -1)) := Lib.hid (by rw [HM.out, if_neg (by omega)])
          have HT3 := Lib.hid (Kd.C_below (Kd.C_below HT.out HB2.out) HB3.out)
          obtain ⟨w5, rfl⟩ : ∃ w5 : World, w5 = wr := ⟨_, rfl⟩
          go_wp2
          clear d0 d1 d2 d3
          go_loopw [40] (fun x wr => ∃ k : Nat, k ≤ tk.length ∧ x = .int .i64 k ∧ wr = w5 ∧ Hid ((tk.take k).any (tokBad g.terms.length) = false)) (fun x _ => tk.length - (intOf x).toNat)
          case atStart => exact ⟨0, by omega, rfl, rfl, Lib.hid (by simp)⟩
          case round =>
            obtain ⟨j, hj, rfl, rfl, HY⟩ := hrel
            by_cases hjt : j < tk.length
            · obtain ⟨ad2, y, rfl, hc2, HD2⟩ := at_scalar HT3.out j hjt 0
              by_cases b1 : y < 0
              · have HG : Hid (mayN g tk = (1, -1)) := Lib.hid (by
                  rw [HF.out, if_pos (List.any_eq_true.2 ⟨y, by rw [← HD2.out]; exact getD_mem tk j 0 hjt, by simp [tokBad, b1]⟩)])
                go_wp2
                go_ret
                exact ⟨_, rfl, by rw [HG.out]; exact .sent 0 (by omega), HB4.out⟩
              · by_cases b2 : (g.terms.length : Int) ≤ y
                · have HG : Hid (mayN g tk = (1, -1)) := Lib.hid (by
                    rw [HF.out, if_pos (List.any_eq_true.2 ⟨y, by rw [← HD2.out]; exact getD_mem tk j 0 hjt, by simp [tokBad, b2]⟩)])
                  go_wp2
                  go_ret
                  exact ⟨_, rfl, by rw [HG.out]; exact .sent 0 (by omega), HB4.out⟩
                · have HG : Hid ((tk.take (j + 1)).any (tokBad g.terms.length) = false) := Lib.hid (by rw [tok_take_snoc tk _ j hjt, HY.out, HD2.out]; simp [tokBad]; omega)
                  go_wp2
                  go_roundw
                  case rel => exact ⟨j + 1, by omega, by go_num, by first | rfl | trivial, HG⟩
                  case measure => simp [intOf]; omega
            · have HG : Hid (mayN g tk = (0, -1)) := Lib.hid (by
                have := HY.out
                rw [List.take_of_length_le (by omega)] at this
                rw [HF.out, if_neg (by simp [this])])
              go_wp2
              go_ret
              exact ⟨_, rfl, by rw [HG.out]; exact .none, HB4.out⟩
end Go.Proofs.YtndimnomkcjeiaaDoor.Hand
/- Contracts of package member: fill0, charted. -/
namespace Go.Proofs.YtndimnomkcjeiaaDoor.Hand
open Go.RowKit Go.Proofs.YtndimnomkcjeiaaDoorW.PrintWords Go.Proofs.YtndimnomkcjeiaaDoorW.PrintMore Go.Proofs.YtndimnomkcjeiaaDoor.Math

def ChartIs (w0 : World) (R : List (Int × List Int)) (tk : List Int) (N b O : Nat) (Bs : Nat → Nat) (P : Nat → Nat → Prop) (w : World) : Prop :=
  ∃ Tn, Chart w0 R tk N b O Bs Tn w ∧ Sound R tk tk.length N (tabOf Tn) ∧ ∀ a c, P a c → Full1 R tk N (tabOf Tn) a c
theorem ChartIs.imp {w0 w : World} {R : List (Int × List Int)} {tk : List Int} {N b O : Nat} {Bs : Nat → Nat} {P P' : Nat → Nat → Prop} (h : ChartIs w0 R tk N b O Bs P w) (hp : ∀ a c, P' a c → P a c) : ChartIs w0 R tk N b O Bs P' w := by
  obtain ⟨Tn, h1, h2, h3⟩ := h
  exact ⟨Tn, h1, h2, fun a c h => h3 a c (hp a c h)⟩
theorem cfill_is {w0 w : World} {R : List (Int × List Int)} {tk : List Int} {t N b O : Nat} {Bs : Nat → Nat} {P : Nat → Nat → Prop} (h : ChartIs w0 R tk N b O Bs P w) (hN : N ≤ 60) (ht : t ≤ 60) (hn : tk.length ≤ 40) (hRI : RulesIn t N R) (i j : Nat) (hij : i ≤ j) (hj : j ≤ tk.length)
    (hP : ∀ i' j', i ≤ i' → i' ≤ j' → j' ≤ j → ¬ (i' = i ∧ j' = j) → P i' j') :
    Calls Tryd.prog 44 #[.pointer (some ⟨b, 0, none⟩), .int .i64 i, .int .i64 j] w fun e w' => e = .returned (.tuple #[]) ∧ ChartIs w0 R tk N b O Bs (fun a c => P a c ∨ (a = i ∧ c = j)) w' := by
  obtain ⟨Tn, h1, h2, h3⟩ := h
  refine (cfill_calls h1 hN ht hn hRI i j hij hj h2).mono ?_
  rintro e w' ⟨rfl, Tn', k1, k2, k3, k4⟩
  have hkeep : ∀ a c, ¬ (a = i ∧ c = j) → Full1 R tk N (tabOf Tn) a c → Full1 R tk N (tabOf Tn') a c := by
    intro a c hne hf k hk hd
    have := hf k hk hd
    unfold tabOf at this ⊢
    rwa [k3 a c hne]
  refine ⟨rfl, Tn', k1, k2, ?_⟩
  intro a c hac
  by_cases e : a = i ∧ c = j
  · obtain ⟨rfl, rfl⟩ := e
    exact fixed_full hj (fun r hr => hRI.left hr) (fun i' j' q1 q2 q3 q4 => hkeep i' j' q4 (h3 i' j' (hP i' j' q1 q2 q3 q4))) k4
  · exact hkeep a c e (h3 a c (hac.resolve_right e))
theorem cfill0_is {w0 w : World} {R : List (Int × List Int)} {tk : List Int} {t N b O : Nat} {Bs : Nat → Nat} (h : ChartIs w0 R tk N b O Bs (fun _ _ => False) w) (hN : N ≤ 60) (ht : t ≤ 60) (hn : tk.length ≤ 40) (hRI : RulesIn t N R) :
    Calls Tryd.prog 43 #[.pointer (some ⟨b, 0, none⟩)] w fun e w' => e = .returned (.tuple #[]) ∧ ChartIs w0 R tk N b O Bs (fun a c => a = c ∧ a ≤ tk.length) w' := by
  have hhead : w.cell? ⟨b, 5, none⟩ = some (.slice (some ⟨O, 0, none⟩) (tk.length + 1) (tk.length + 1)) := by obtain ⟨Tn, h1, _⟩ := h; exact h1.head
  have H := Lib.hid h
  have HRI := Lib.hid hRI
  clear h hRI
  go_enter Tryd.func43, Tryd.ntmps43
  go_wp2
  go_loopw [8] (fun x wr => ∃ k : Nat, k ≤ tk.length + 1 ∧ x = .int .i64 k ∧ Aside0 (ChartIs w0 R tk N b O Bs (fun a c => a = c ∧ a < k) wr)) (fun x _ => tk.length + 1 - (intOf x).toNat)
  case atStart => exact ⟨0, by omega, rfl, ⟨H.out.imp (fun a c h => by omega)⟩⟩
  case round =>
    obtain ⟨k, hk, rfl, HC⟩ := hrel
    by_cases hlt : k < tk.length + 1
    · have HCall := Lib.hid (cfill_is HC.out hN ht hn HRI.out k k (Nat.le_refl _) (by omega) (fun i' j' h1 h2 h3 h4 => by omega))
      go_wp2_with (go_at_call 44; refine HCall.out.mono ?_; rintro e w2 ⟨rfl, hc2⟩; have HC2 := Aside0.mk hc2; clear hc2)
      go_roundw
      case rel => exact ⟨k + 1, by omega, by go_num, ⟨HC2.out.imp (fun a c h => by omega)⟩⟩
      case measure => simp [intOf]; omega
    · go_wp2
      go_end0
      exact ⟨rfl, HC.out.imp (fun a c h => by omega)⟩
/-- A chart that is being made. -/
structure PreChart (w0 : World) (R : List (Int × List Int)) (tk : List Int) (b O : Nat) (Bs : Nat → Nat) (k : Nat) (w : World) : Prop where
  bel : Below w0.heap.size w0 w
  rules : ∃ AR cR, R.length ≤ cR ∧ KRule.C w0 AR R.length R ∧ w.cell? ⟨b, 3, none⟩ = some (.slice AR R.length cR)
  toks : ∃ At ct, tk.length ≤ ct ∧ Kd.C (Kd.int .i64) w0 At tk.length tk ∧ w.cell? ⟨b, 4, none⟩ = some (.slice At tk.length ct)
  head : w.cell? ⟨b, 5, none⟩ = some (.slice (some ⟨O, 0, none⟩) (tk.length + 1) (tk.length + 1))
  out : Row w O (tk.length + 1) (fun i => if i < k then .slice (some ⟨Bs i, 0, none⟩) (tk.length - i + 1) (tk.length - i + 1) else .slice none 0 0)
  inn : ∀ i, i < k → Row w (Bs i) (tk.length - i + 1) (fun _ => .int .u64 0)
  hb : w0.heap.size ≤ b
  hO : w0.heap.size ≤ O ∧ O ≠ b
  hB : ∀ i, i < k → w0.heap.size ≤ Bs i ∧ Bs i ≠ b ∧ Bs i ≠ O
  inj : ∀ i j, i < k → j < k → Bs i = Bs j → i = j
theorem PreChart.below {w0 w w' : World} {R : List (Int × List Int)} {tk : List Int} {b O k : Nat} {Bs : Nat → Nat} (h : PreChart w0 R tk b O Bs k w) (hb : Below w.heap.size w w') : PreChart w0 R tk b O Bs k w' := by
  have hlt : b < w.heap.size := World.block_lt_of_cell? w _ h.head
  obtain ⟨AR, cR, q1, q2, q3⟩ := h.rules
  obtain ⟨At, ct, p1, p2, p3⟩ := h.toks
  exact ⟨below_next h.bel hb, ⟨AR, cR, q1, q2, (hb.cell hlt).trans q3⟩, ⟨At, ct, p1, p2, (hb.cell hlt).trans p3⟩, (hb.cell hlt).trans h.head, h.out.below hb, fun i hi => (h.inn i hi).below hb, h.hb, h.hO, h.hB, h.inj⟩
theorem PreChart.step {w0 w : World} {R : List (Int × List Int)} {tk : List Int} {b O k : Nat} {Bs : Nat → Nat} (h : PreChart w0 R tk b O Bs k w) (hk : k ≤ tk.length) (e : TypeId) :
    PreChart w0 R tk b O (fun i => if i = k then w.heap.size else Bs i) (k + 1) ((w.alloc (.cells (madeCells #[.int .u64 0] (tk.length - k + 1)) e)).setCell ⟨O, k, none⟩ (.slice (some ⟨w.heap.size, 0, none⟩) (tk.length - k + 1) (tk.length - k + 1))) := by
  have hba := below_alloc (Below.refl w.heap.size w) (.cells (madeCells #[.int .u64 0] (tk.length - k + 1)) e)
  have h1 := h.below hba
  have hmade := Row.made w (.int .u64 0) (tk.length - k + 1) e
  have hOlt : O < w.heap.size := h.out.lt
  have hblt : b < w.heap.size := World.block_lt_of_cell? w _ h.head
  have hs0 : w0.heap.size ≤ w.heap.size := h.bel.size
  generalize w.alloc (.cells (madeCells #[.int .u64 0] (tk.length - k + 1)) e) = W at *
  obtain ⟨AR, cR, q1, q2, q3⟩ := h1.rules
  obtain ⟨At, ct, p1, p2, p3⟩ := h1.toks
  have hc : ∀ n v u, W.cell? ⟨b, n, none⟩ = some v → (W.setCell ⟨O, k, none⟩ u).cell? ⟨b, n, none⟩ = some v := fun n v u hv => (World.cell?_setCell_other W _ _ _ (fun e => h.hO.2 (by injection e))).trans hv
  refine ⟨h1.bel.setCell h.hO.1 _, ⟨AR, cR, q1, q2, hc _ _ _ q3⟩, ⟨At, ct, p1, p2, hc _ _ _ p3⟩, hc _ _ _ h1.head, ?_, ?_, h.hb, h.hO, ?_, ?_⟩
  · refine (h1.out.set k (by omega) _).ext (fun q hq => ?_)
    by_cases e : q = k
    · subst e; simp
    · have : q < k + 1 ↔ q < k := by omega
      simp [e, this]
  · intro i hi
    by_cases e : i = k
    · subst e
      simp only [if_true]
      exact hmade.far ⟨O, i, none⟩ (by show O ≠ _; omega) _
    · simp only [e, if_false]
      exact (h1.inn i (by omega)).far ⟨O, k, none⟩ (fun q => (h.hB i (by omega)).2.2 q.symm) _
  · intro i hi
    by_cases e : i = k
    · subst e
      simp only [if_true]
      exact ⟨hs0, by omega, by omega⟩
    · simp only [e, if_false]
      exact h.hB i (by omega)
  · intro i j hi hj hij
    have hlt : ∀ i, i < k → Bs i < w.heap.size := fun i hi => (h.inn i hi).lt
    by_cases e : i = k
    · by_cases e2 : j = k
      · omega
      · have := hlt j (by omega)
        subst e
        simp only [if_true, e2, if_false] at hij
        omega
    · by_cases e2 : j = k
      · have := hlt i (by omega)
        subst e2
        simp only [if_true, e, if_false] at hij
        omega
      · simp only [e, e2, if_false] at hij
        exact h.inj i j (by omega) (by omega) hij
theorem PreChart.done {w0 w : World} {R : List (Int × List Int)} {tk : List Int} {b O : Nat} {Bs : Nat → Nat} (h : PreChart w0 R tk b O Bs (tk.length + 1) w) (N : Nat) : ChartIs w0 R tk N b O Bs (fun _ _ => False) w := by
  refine ⟨fun _ _ => 0, ⟨h.bel, h.rules, h.toks, h.head, ?_, ?_, ?_, h.hb, h.hO, fun i hi => h.hB i (by omega), fun i j hi hj => h.inj i j (by omega) (by omega)⟩, ?_, fun a c h => h.elim⟩
  · exact h.out.ext (fun q hq => by rw [if_pos hq])
  · exact fun i hi => h.inn i (by omega)
  · exact fun _ _ => Nat.two_pow_pos N
  · intro i j k _ _ _ hT
    simp [tabOf, hasN] at hT
set_option maxHeartbeats 1600000 in
set_option maxRecDepth 100000 in
theorem charted_calls (v : Value) (g : Gr) (At : Option Addr) (ct : Nat) (tk : List Int) (w : World) (A : Nat → Addr) (hE : ErrsW w A) (hv : GramAt w v g) (hlc : tk.length ≤ ct) (hr : Kd.C (Kd.int .i64) w At tk.length tk) (hok : (mayN g tk).1 = 0) :
    Calls Tryd.prog 32 #[v, .slice At tk.length ct] w fun e w' => ∃ b O Bs, e = .returned (.tuple #[.pointer (some ⟨b, 0, none⟩), .nilIface]) ∧ ChartIs w g.rules tk g.nonterms.length b O Bs (fun a c => a ≤ c ∧ c ≤ tk.length) w' := by
  have HV := Lib.hid hv
  obtain ⟨AT, cT, AN, cN, AR, cR, rfl, q1, q2, q3, q4, q5, q6⟩ := hv
  have hok2 : (checkN g).1 = 0 ∧ tk.length ≤ 40 := by
    unfold mayN at hok
    split at hok
    · rename_i h; exact absurd hok h
    · rename_i h
      split at hok
      · cases hok
      · exact ⟨by omega, by omega⟩
  obtain ⟨hc0, hn⟩ := hok2
  obtain ⟨z1, z2, z3, z4, z5, z6, z7⟩ := checkN_zero hc0
  have HZ : Hid (RulesIn g.terms.length g.nonterms.length g.rules) := Lib.hid z7
  clear z3 z4 z7 hc0
  have hlen := hr.2.1
  obtain ⟨w1, hw1⟩ : ∃ w1, w.alloc (.cells #[.slice AT g.terms.length cT, .slice AN g.nonterms.length cN, .int .i64 g.ax, .slice AR g.rules.length cR] 25) = w1 := ⟨_, rfl⟩
  have hb1 : Below w.heap.size w w1 := by rw [← hw1]; exact below_alloc (Below.refl _ _) _
  have hk1 : w1.heap[w.heap.size]? = some (.cells #[.slice AT g.terms.length cT, .slice AN g.nonterms.length cN, .int .i64 g.ax, .slice AR g.rules.length cR] 25 (0, 0)) := by rw [← hw1]; exact heap_alloc_new w _
  obtain ⟨c0, c1, c2, c3⟩ := blk_cells2 hk1
  have HB1 := Lib.hid hb1
  have HK1 := Lib.hid hk1
  have HM := Lib.hid (may_calls _ g At ct tk w1 A (hE.below hb1) (HV.out.below hb1) hlc (Kd.C_below hr hb1))
  have HR := Lib.hid q6
  have HT := Lib.hid hr
  have HOK := Lib.hid hok
  clear hb1 hk1 hE q4 q5 q6 hr hok
  obtain ⟨m, hm⟩ : ∃ m : Nat, m = tk.length + 1 := ⟨_, rfl⟩
  have hmI : ((tk.length : Int) + 1) = (m : Int) := by omega
  have hmk : ∀ W : World, (Instr.makeSlice 29 (.int .i64 ((m : Nat) : Int)) (.int .i64 ((m : Nat) : Int))).run Tryd.prog W = .ok (.slice (some ⟨W.heap.size, 0, none⟩) m m) (W.alloc (.cells (madeCells #[.slice none 0 0] m) 40)) :=
    print_make_of (P := Tryd.prog) 29 40 (.slice none 0 0) 24 rfl (by kernel_rfl) rfl (by decide) m (by omega)
  go_enter Tryd.func32, Tryd.ntmps32
  go_wp2_with (go_at_call 42; refine HM.out.mono ?_; rintro e w2 ⟨u, rfl, hu, hb2⟩; have HB2 := Lib.hid hb2; have HK2 := Lib.hid (gblk_keep' HK1.out hb2); obtain rfl := hu.nil_of HOK.out; obtain ⟨d0, d1, d2, d3⟩ := blk_cells2 HK2.out; clear hu hb2)
  have hwr : IntKind.i64.wrap ((tk.length : Int) + 1) = (m : Int) := by rw [Go.IntWalk.i64_in _ (by omega)]; omega
  have hlt2 : w.heap.size < w2.heap.size := World.block_lt_of_cell? w2 _ d0
  have e0 := (World.cell?_alloc_lt w2 (.cells (madeCells #[.slice none 0 0] m) 40) ⟨w.heap.size, 0, none⟩ hlt2).trans d0
  have e1 := (World.cell?_alloc_lt w2 (.cells (madeCells #[.slice none 0 0] m) 40) ⟨w.heap.size, 1, none⟩ hlt2).trans d1
  have e2 := (World.cell?_alloc_lt w2 (.cells (madeCells #[.slice none 0 0] m) 40) ⟨w.heap.size, 2, none⟩ hlt2).trans d2
  have e3 := (World.cell?_alloc_lt w2 (.cells (madeCells #[.slice none 0 0] m) 40) ⟨w.heap.size, 3, none⟩ hlt2).trans d3
  have HMm := Lib.hid hm
  clear hmI hm
  go_region
  obtain ⟨w3, hw3⟩ : ∃ w3, ((w2.alloc (.cells (madeCells #[.slice none 0 0] m) 40)).alloc (.cells #[.slice AT g.terms.length cT, .slice AN g.nonterms.length cN, .int .i64 g.ax, .slice AR g.rules.length cR, .slice At tk.length ct, .slice (some ⟨w2.heap.size, 0, none⟩) m m] 69)).drew = w3 := ⟨_, rfl⟩
  have HP : Aside0 (PreChart w g.rules tk (w2.heap.size + 1) w2.heap.size (fun _ => 0) 0 w3) := by
    have hbA := below_alloc (Below.refl w2.heap.size w2) (.cells (madeCells #[.slice none 0 0] m) 40)
    have hRow := Row.made w2 (.slice none 0 0) m 40
    have hB2 : Below w.heap.size w w2 := below_next HB1.out HB2.out
    have hsz : (w2.alloc (.cells (madeCells #[.slice none 0 0] m) 40)).heap.size = w2.heap.size + 1 := World.size_alloc _ _
    generalize w2.alloc (.cells (madeCells #[.slice none 0 0] m) 40) = W at *
    have hbB := below_alloc (Below.refl W.heap.size W) (.cells #[.slice AT g.terms.length cT, .slice AN g.nonterms.length cN, .int .i64 g.ax, .slice AR g.rules.length cR, .slice At tk.length ct, .slice (some ⟨w2.heap.size, 0, none⟩) m m] 69)
    have hcell : ∀ i, (W.alloc (.cells #[.slice AT g.terms.length cT, .slice AN g.nonterms.length cN, .int .i64 g.ax, .slice AR g.rules.length cR, .slice At tk.length ct, .slice (some ⟨w2.heap.size, 0, none⟩) m m] 69)).cell? ⟨w2.heap.size + 1, i, none⟩ = (#[.slice AT g.terms.length cT, .slice AN g.nonterms.length cN, .int .i64 g.ax, .slice AR g.rules.length cR, .slice At tk.length ct, .slice (some ⟨w2.heap.size, 0, none⟩) m m] : Array Value)[i]? := fun i => by rw [← hsz]; exact World.cell?_alloc_new _ _ _ _
    rw [← hw3]
    have hmm := HMm.out
    have hz := HB1.out.size
    have hz2 := HB2.out.size
    refine ⟨((below_next hB2 hbA).trans (hbB.mono (by have := hB2.size; omega))).drew, ⟨AR, cR, q3, HR.out, hcell 3⟩, ⟨At, ct, hlc, HT.out, hcell 4⟩, by rw [← hmm]; exact hcell 5, ?_, fun i hi => by omega, by omega, ⟨by omega, by omega⟩, fun i hi => by omega, fun i j hi => by omega⟩
    rw [← hmm]
    exact (hRow.below hbB).drewN 1
  rw [hw3]
  clear hw3 e0 e1 e2 e3 d0 d1 d2 d3 hwr
  obtain ⟨b, hbb⟩ : ∃ b, w2.heap.size + 1 = b := ⟨_, rfl⟩
  obtain ⟨O, hOO⟩ : ∃ O, w2.heap.size = O := ⟨_, rfl⟩
  rw [hbb, hOO] at HP ⊢
  clear hbb hOO
  have hhead := HP.out.head
  have hmm := HMm.out
  rw [← hmm] at hhead
  clear hmm
  go_wp2
  go_loopw [32] (fun x wr => ∃ (k : Nat) (Bs : Nat → Nat), k ≤ m ∧ x = .int .i64 k ∧ Aside0 (PreChart w g.rules tk b O Bs k wr)) (fun x _ => m - (intOf x).toNat)
  case atStart => exact ⟨0, fun _ => 0, by omega, rfl, HP⟩
  case round =>
    obtain ⟨k, Bs, hk, rfl, HQ⟩ := hrel
    obtain ⟨wo, rfl⟩ : ∃ wo : World, wo = wr := ⟨_, rfl⟩
    have hmm := HMm.out
    by_cases hlt : k < m
    · obtain ⟨d, hd⟩ : ∃ d : Nat, d = tk.length - k := ⟨_, rfl⟩
      obtain ⟨m1, hm1⟩ : ∃ m1 : Nat, m1 = d + 1 := ⟨_, rfl⟩
      have hmk2 : ∀ W : World, (Instr.makeSlice 40 (.int .i64 ((m1 : Nat) : Int)) (.int .i64 ((m1 : Nat) : Int))).run Tryd.prog W = .ok (.slice (some ⟨W.heap.size, 0, none⟩) m1 m1) (W.alloc (.cells (madeCells #[.int .u64 0] m1) 57)) :=
        print_make_of (P := Tryd.prog) 40 57 (.int .u64 0) 8 rfl infoSet rfl (by decide) m1 (by omega)
      have x1 : IntKind.i64.wrap ((tk.length : Int) - k) = (d : Int) := by rw [Go.IntWalk.i64_in _ (by omega)]; omega
      have x2 : IntKind.i64.wrap ((d : Int) + 1) = (m1 : Int) := by rw [Go.IntWalk.i64_in _ (by omega)]; omega
      have x3 : (0 : Int) ≤ (k : Int) := by omega
      have x4 : (k : Int) < (m : Int) := by omega
      have HD := Lib.hid (show d + 1 = tk.length - k + 1 ∧ m1 = d + 1 by omega)
      have HKle := Lib.hid (show k ≤ tk.length by omega)
      have y1 := HQ.out.head
      have y2 := HQ.out.out.cell k (by omega)
      have y3 := HQ.out.out.free k
      rw [if_neg (by omega)] at y2
      rw [← hmm] at y1
      have hblt : b < wo.heap.size := World.block_lt_of_cell? wo _ y1
      have hOlt : O < wo.heap.size := HQ.out.out.lt
      have v1 := (World.cell?_alloc_lt wo (.cells (madeCells #[.int .u64 0] m1) 57) ⟨b, 5, none⟩ hblt).trans y1
      have v2 := (World.cell?_alloc_lt wo (.cells (madeCells #[.int .u64 0] m1) 57) ⟨O, k, none⟩ hOlt).trans y2
      have v3 := (World.frozen?_alloc_old wo (.cells (madeCells #[.int .u64 0] m1) 57) ⟨O, k, none⟩ (Nat.ne_of_lt hOlt)).trans y3
      have hm41 : m ≤ 41 := by omega
      clear hd hm1 hmm hblt hOlt
      go_wp2_with fail
      go_region
      go_wp2
      go_roundw
      case rel =>
        refine ⟨k + 1, fun i => if i = k then wo.heap.size else Bs i, by omega, by go_num, ⟨?_⟩⟩
        · have h := (HQ.out.step HKle.out 57).below (w' := World.drew _) (pw_below_drewN (Below.refl _ _) 1)
          rw [← HD.out.1, ← HD.out.2] at h
          exact h
      case measure => simp [intOf]; omega
    · obtain rfl : k = m := by omega
      have HC0 := Lib.hid (show ChartIs w g.rules tk g.nonterms.length b O Bs (fun _ _ => False) wo from PreChart.done (by rw [← hmm]; exact HQ.out) _)
      have HF0 := Lib.hid (cfill0_is HC0.out (t := g.terms.length) (by omega) (by omega) hn HZ.out)
      clear hmm hmk
      go_wp2_with (go_at_call 43; refine HF0.out.mono ?_; rintro e w4 ⟨rfl, hc4⟩; have HC4 := Aside0.mk hc4; clear hc4)
      go_loopw [10] (fun x wr => ∃ l : Nat, 1 ≤ l ∧ l ≤ tk.length + 1 ∧ x = .int .i64 l ∧ Aside0 (ChartIs w g.rules tk g.nonterms.length b O Bs (fun a c => a ≤ c ∧ c ≤ tk.length ∧ c - a < l) wr)) (fun x _ => tk.length + 1 - (intOf x).toNat)
      case atStart => exact ⟨1, by omega, by omega, rfl, ⟨HC4.out.imp (fun a c h => by omega)⟩⟩
      case round =>
        obtain ⟨l, hl1, hl2, rfl, HC5⟩ := hrel
        obtain ⟨w5, rfl⟩ : ∃ w5 : World, w5 = wr := ⟨_, rfl⟩
        by_cases hll : l ≤ tk.length
        · go_wp2
          go_loopw [11] (fun x wr => ∃ i : Nat, i + l ≤ tk.length + 1 ∧ x = .int .i64 i ∧ Aside0 (ChartIs w g.rules tk g.nonterms.length b O Bs (fun a c => a ≤ c ∧ c ≤ tk.length ∧ (c - a < l ∨ c - a = l ∧ a < i)) wr)) (fun x _ => tk.length + 1 - (intOf x).toNat)
          case atStart => exact ⟨0, by omega, rfl, ⟨HC5.out.imp (fun a c h => by omega)⟩⟩
          case round =>
            obtain ⟨i, hi, rfl, HC6⟩ := hrel
            by_cases hil : i + l ≤ tk.length
            · have HF := Lib.hid (show Calls Tryd.prog 44 #[.pointer (some ⟨b, 0, none⟩), .int .i64 i, .int .i64 ((i : Int) + l)] wr _ by
                have h := cfill_is HC6.out (t := g.terms.length) (by omega) (by omega) hn HZ.out i (i + l) (by omega) hil (fun i' j' h1 h2 h3 h4 => by omega)
                rw [Int.natCast_add] at h
                exact h)
              go_wp2_with (go_at_call 44; refine HF.out.mono ?_; rintro e w7 ⟨rfl, hc7⟩; have HC7 := Aside0.mk hc7; clear hc7)
              go_roundw
              case rel => exact ⟨i + 1, by omega, by go_num, ⟨HC7.out.imp (fun a c h => by omega)⟩⟩
              case measure => simp [intOf]; omega
            · go_wp2
              go_roundw
              case rel => exact ⟨l + 1, by omega, by omega, by go_num, ⟨HC6.out.imp (fun a c h => by omega)⟩⟩
              case measure => simp [intOf]; omega
        · go_wp2
          go_ret2
          exact ⟨b, O, Bs, rfl, HC5.out.imp (fun a c h => by omega)⟩
end Go.Proofs.YtndimnomkcjeiaaDoor.Hand
/- The counter in memory, and what it knows; the contract of may. -/
namespace Go.Proofs.YtndimnomkcjeiaaDoor.Hand
open Go.RowKit Go.Proofs.YtndimnomkcjeiaaDoorW.PrintWords Go.Proofs.YtndimnomkcjeiaaDoorW.PrintMore Go.Proofs.YtndimnomkcjeiaaDoor.Math
open Go.Maps (Keyed)

noncomputable def tabD (R : List (Int × List Int)) (tk : List Int) : Nat → Nat → Nat → Bool := fun i j k => tb (Der R tk k i j)
theorem Exact.tab {R : List (Int × List Int)} {tk : List Int} {N : Nat} {T : Nat → Nat → Nat → Bool} (h : Exact R tk tk.length N T) {i j k : Nat} (hij : i ≤ j) (hj : j ≤ tk.length) (hk : k < N) : T i j k = tabD R tk i j k := tb_bool (h i j k hij hj hk)
theorem Exact.hb {R : List (Int × List Int)} {tk : List Int} {N : Nat} {T : Nat → Nat → Nat → Bool} (h : Exact R tk tk.length N T) {s : Int} (hs : -(N : Int) ≤ s) {i j : Nat} (hij : i ≤ j) (hj : j ≤ tk.length) : Hb T tk s i j = Hb (tabD R tk) tk s i j := by
  unfold Hb
  split
  · rfl
  · exact h.tab hij hj (by omega)
/-- What counting stands on: the chart, the rules. -/
structure CtxC (w1 : World) (R : List (Int × List Int)) (tk : List Int) (t N b : Nat) (AR : Option Addr) (cR : Nat) : Prop where
  has : ∀ w, Below w1.heap.size w1 w → ∀ (s : Int) (i j : Nat), -(N : Int) ≤ s → s < 4611686018427387904 → i ≤ j → j ≤ tk.length → Quiet 61 #[.pointer (some ⟨b, 0, none⟩), .int .i64 s, .int .i64 i, .int .i64 j] w (.bool (Hb (tabD R tk) tk s i j))
  rule : KRule.C w1 AR R.length R
  cap : R.length ≤ cR
  cell : w1.cell? ⟨b, 3, none⟩ = some (.slice AR R.length cR)
  hN : N ≤ 60
  hR : R.length ≤ 120
  hn : tk.length ≤ 40
  ht : t ≤ 60
  right : RulesIn t N R
theorem ChartIs.ctx {w0 w1 : World} {R : List (Int × List Int)} {tk : List Int} {t N b O : Nat} {Bs : Nat → Nat} (h : ChartIs w0 R tk N b O Bs (fun a c => a ≤ c ∧ c ≤ tk.length) w1) (hN : N ≤ 60) (hR : R.length ≤ 120) (hn : tk.length ≤ 40) (ht : t ≤ 60) (hr : RulesIn t N R) : ∃ AR cR, CtxC w1 R tk t N b AR cR := by
  obtain ⟨Tn, hC, hS, hF⟩ := h
  obtain ⟨AR, cR, q1, q2, q3⟩ := hC.rules
  have hE : Exact R tk tk.length N (tabOf Tn) := fun i j k h1 h2 h3 => ⟨hS i j k h1 h2 h3, hF i j ⟨h1, h2⟩ k h3⟩
  refine ⟨AR, cR, fun w hb s i j hs hs2 hij hj => ?_, Kd.C_below q2 hC.bel, q1, q3, hN, hR, hn, ht, hr⟩
  rw [← hE.hb hs hij hj]
  exact chas_calls (hC.below hb) hN hn s hs hs2 i j hij hj
/-- The keys that are used. -/
def KeyIn (v : Value) : Prop := ∃ (a : Nat) (c : Nat) (i j : Nat), a < 130 ∧ c < 34 ∧ i ≤ 40 ∧ j ≤ 40 ∧ v = nodeK a ((c : Int) - 1) i j
def boxL : List Value := (List.range 130).flatMap fun (a : Nat) => (List.range 34).flatMap fun (c : Nat) => (List.range 41).flatMap fun (i : Nat) => (List.range 41).map fun (j : Nat) => nodeK a ((c : Int) - 1) i j
theorem keyIn_box (v : Value) (h : KeyIn v) : v ∈ boxL := by
  obtain ⟨a, c, i, j, h1, h2, h3, h4, rfl⟩ := h
  unfold boxL
  exact List.mem_flatMap.2 ⟨a, List.mem_range.2 h1, List.mem_flatMap.2 ⟨c, List.mem_range.2 h2, List.mem_flatMap.2 ⟨i, List.mem_range.2 (by omega), List.mem_map.2 ⟨j, List.mem_range.2 (by omega), rfl⟩⟩⟩⟩
theorem flatMap_len {α β : Type} {f : α → List β} {c : Nat} : ∀ {l : List α}, (∀ x, (f x).length = c) → (l.flatMap f).length = l.length * c
  | [], _ => by simp
  | x :: l, h => by rw [List.flatMap_cons, List.length_append, h x, flatMap_len h, List.length_cons, Nat.add_mul]; omega
theorem boxL_len : boxL.length = 7430020 := by
  unfold boxL
  rw [flatMap_len (c := 34 * (41 * 41)) (fun a => by rw [flatMap_len (c := 41 * 41) (fun c => by rw [flatMap_len (c := 41) (fun i => by rw [List.length_map, List.length_range]), List.length_range]), List.length_range]), List.length_range]
theorem nodeK_in {a b i j : Int} (h : KeyIn (nodeK a b i j)) : ∃ kl, keyOf Tryd.prog 111 (nodeK a b i j) = some kl := by
  obtain ⟨a', c', i', j', h1, h2, h3, h4, e⟩ := h
  obtain ⟨e1, e2, e3, e4⟩ := nodeK_inj e
  exact node_key (wf_i64 (by omega) (by omega)) (wf_i64 (by omega) (by omega)) (wf_i64 (by omega) (by omega)) (wf_i64 (by omega) (by omega))
theorem keyIn_n {a i j : Nat} (ha : a < 130) (hi : i ≤ 40) (hj : j ≤ 40) : KeyIn (nodeK a (-1) i j) := ⟨a, 0, i, j, ha, by omega, hi, hj, by simp⟩
theorem keyIn_r {a c i j : Nat} (ha : a < 130) (hc : c ≤ 32) (hi : i ≤ 40) (hj : j ≤ 40) : KeyIn (nodeK a c i j) := ⟨a, c + 1, i, j, ha, by omega, hi, hj, by simp⟩
/-- The counter in memory. -/
structure CSt (w1 : World) (b kb bd bo bk : Nat) (FD FO FK : Value → Option Int) (w : World) : Prop where
  bel : Below w1.heap.size w1 w
  c0 : w.cell? ⟨kb, 0, none⟩ = some (.pointer (some ⟨b, 0, none⟩))
  c1 : w.cell? ⟨kb, 1, none⟩ = some (.map (some bd))
  c2 : w.cell? ⟨kb, 2, none⟩ = some (.map (some bo))
  c3 : w.cell? ⟨kb, 3, none⟩ = some (.map (some bk))
  pd : MapN w 111 52 .u64 bd boxL.length KeyIn FD
  po : MapN w 111 3 .i64 bo boxL.length KeyIn FO
  pk : MapN w 111 3 .i64 bk boxL.length KeyIn FK
  ne : bd ≠ bo ∧ bd ≠ bk ∧ bo ≠ bk ∧ kb ≠ bd ∧ kb ≠ bo ∧ kb ≠ bk
  ge : w1.heap.size ≤ bd ∧ w1.heap.size ≤ bo ∧ w1.heap.size ≤ bk
section
variable {w1 w w' : World} {b kb bd bo bk : Nat} {FD FO FK : Value → Option Int}
theorem CSt.below (h : CSt w1 b kb bd bo bk FD FO FK w) (hb : Below w.heap.size w w') : CSt w1 b kb bd bo bk FD FO FK w' := by
  have hk : ∀ a v, w.cell? a = some v → w'.cell? a = some v := fun a v hv => (hb.cell (World.block_lt_of_cell? w _ hv)).trans hv
  exact ⟨below_next h.bel hb, hk _ _ h.c0, hk _ _ h.c1, hk _ _ h.c2, hk _ _ h.c3, h.pd.below hb, h.po.below hb, h.pk.below hb, h.ne, h.ge⟩
theorem below_grown {B g : Nat} {w0 w w' : World} (h : Below B w0 w) (hg : w.grownBy w' (some g)) (hB : B ≤ g) (hw : B ≤ w.heap.size) : Below B w0 w' :=
  ⟨hg.os.trans h.os, hg.tape.trans h.tape, hg.output.trans h.output, Nat.le_trans h.size hg.size, fun k hk => (hg.block k (by omega) (fun e => by injection e with e; omega)).trans (h.block k hk)⟩
theorem z64 (w : World) : (zeroValue 52).run Tryd.prog w = .ok (.int .u64 0) w := by kernel_rfl
theorem zint (w : World) : (zeroValue 3).run Tryd.prog w = .ok (.int .i64 0) w := by kernel_rfl
theorem CSt.lookK (h : CSt w1 b kb bd bo bk FD FO FK w) {a c i j : Int} (hk : KeyIn (nodeK a c i j)) : (Instr.lookup 88 (.map (some bk)) (.agg #[.int .i64 a, .int .i64 c, .int .i64 i, .int .i64 j]) false).run Tryd.prog w = .ok (.int .i64 ((FK (nodeK a c i j)).getD 0)) w := by
  obtain ⟨kl, hkl⟩ := nodeK_in hk
  exact h.pk.look node_keyed Tryd.underlying88 Tryd.underlying3 (zint w) hkl
theorem CSt.lookO (h : CSt w1 b kb bd bo bk FD FO FK w) {a c i j : Int} (hk : KeyIn (nodeK a c i j)) : (Instr.lookup 88 (.map (some bo)) (.agg #[.int .i64 a, .int .i64 c, .int .i64 i, .int .i64 j]) false).run Tryd.prog w = .ok (.int .i64 ((FO (nodeK a c i j)).getD 0)) w := by
  obtain ⟨kl, hkl⟩ := nodeK_in hk
  exact h.po.look node_keyed Tryd.underlying88 Tryd.underlying3 (zint w) hkl
theorem CSt.lookD (h : CSt w1 b kb bd bo bk FD FO FK w) {a c i j : Int} (hk : KeyIn (nodeK a c i j)) : (Instr.lookup 87 (.map (some bd)) (.agg #[.int .i64 a, .int .i64 c, .int .i64 i, .int .i64 j]) true).run Tryd.prog w = .ok (.tuple #[.int .u64 ((FD (nodeK a c i j)).getD 0), .bool (FD (nodeK a c i j)).isSome]) w := by
  obtain ⟨kl, hkl⟩ := nodeK_in hk
  exact h.pd.lookOk node_keyed Tryd.underlying87 Tryd.underlying52 (z64 w) hkl
theorem boxL_lt : boxL.length < maxLen := by rw [boxL_len]; decide
theorem CSt.kept (h : CSt w1 b kb bd bo bk FD FO FK w) {g : Nat} (hg : w.grownBy w' (some g)) (hB : w1.heap.size ≤ g) (hne : kb ≠ g) : Below w1.heap.size w1 w' ∧ w'.cell? ⟨kb, 0, none⟩ = some (.pointer (some ⟨b, 0, none⟩)) ∧ w'.cell? ⟨kb, 1, none⟩ = some (.map (some bd)) ∧ w'.cell? ⟨kb, 2, none⟩ = some (.map (some bo)) ∧ w'.cell? ⟨kb, 3, none⟩ = some (.map (some bk)) := by
  have hlt : kb < w.heap.size := World.block_lt_of_cell? w _ h.c0
  have hk : ∀ f, w'.cell? ⟨kb, f, none⟩ = w.cell? ⟨kb, f, none⟩ := fun f => World.cell?_of_block (w := w) (a := ⟨kb, f, none⟩) (hg.block kb hlt (fun e => hne (by injection e)))
  exact ⟨below_grown h.bel hg hB h.bel.size, (hk 0).trans h.c0, (hk 1).trans h.c1, (hk 2).trans h.c2, (hk 3).trans h.c3⟩
theorem MapN.grown {e : TypeId} {q : IntKind} {b g n : Nat} {k : TypeId} {K : Value → Prop} {F : Value → Option Int} (h : MapN w k e q b n K F) (hg : w.grownBy w' (some g)) (hne : b ≠ g) : MapN w' k e q b n K F :=
  h.block (hg.block b h.lt (fun e => hne (by injection e)))
theorem CSt.putK (h : CSt w1 b kb bd bo bk FD FO FK w) {a c i j : Int} (hk : KeyIn (nodeK a c i j)) {x : Int} (hx : (Lit.int .i64 x).wf = true) : ∃ w', (Instr.mapUpdate 88 (.map (some bk)) (.agg #[.int .i64 a, .int .i64 c, .int .i64 i, .int .i64 j]) (.int .i64 x)).run Tryd.prog w = .ok () w' ∧ CSt w1 b kb bd bo bk FD FO (updF FK (nodeK a c i j) x) w' ∧ w.grownBy w' (some bk) := by
  obtain ⟨kl, hkl⟩ := nodeK_in hk
  obtain ⟨w', hrun, hm, hg⟩ := h.pk.store node_keyed Tryd.underlying88 Tryd.underlying3 boxL_lt hkl hk hx
  obtain ⟨n1, n2, n3, n4, n5, n6⟩ := h.ne
  obtain ⟨g1, g2, g3⟩ := h.ge
  obtain ⟨k1, k2, k3, k4, k5⟩ := h.kept hg g3 n6
  exact ⟨w', hrun, ⟨k1, k2, k3, k4, k5, h.pd.grown hg n2, h.po.grown hg n3, hm.trim node_keyed boxL keyIn_box, h.ne, h.ge⟩, hg⟩
theorem CSt.putO (h : CSt w1 b kb bd bo bk FD FO FK w) {a c i j : Int} (hk : KeyIn (nodeK a c i j)) {x : Int} (hx : (Lit.int .i64 x).wf = true) : ∃ w', (Instr.mapUpdate 88 (.map (some bo)) (.agg #[.int .i64 a, .int .i64 c, .int .i64 i, .int .i64 j]) (.int .i64 x)).run Tryd.prog w = .ok () w' ∧ CSt w1 b kb bd bo bk FD (updF FO (nodeK a c i j) x) FK w' ∧ w.grownBy w' (some bo) := by
  obtain ⟨kl, hkl⟩ := nodeK_in hk
  obtain ⟨w', hrun, hm, hg⟩ := h.po.store node_keyed Tryd.underlying88 Tryd.underlying3 boxL_lt hkl hk hx
  obtain ⟨n1, n2, n3, n4, n5, n6⟩ := h.ne
  obtain ⟨g1, g2, g3⟩ := h.ge
  obtain ⟨k1, k2, k3, k4, k5⟩ := h.kept hg g2 n5
  exact ⟨w', hrun, ⟨k1, k2, k3, k4, k5, h.pd.grown hg n1, hm.trim node_keyed boxL keyIn_box, h.pk.grown hg (Ne.symm n3), h.ne, h.ge⟩, hg⟩
theorem CSt.putD (h : CSt w1 b kb bd bo bk FD FO FK w) {a c i j : Int} (hk : KeyIn (nodeK a c i j)) {x : Int} (hx : (Lit.int .u64 x).wf = true) : ∃ w', (Instr.mapUpdate 87 (.map (some bd)) (.agg #[.int .i64 a, .int .i64 c, .int .i64 i, .int .i64 j]) (.int .u64 x)).run Tryd.prog w = .ok () w' ∧ CSt w1 b kb bd bo bk (updF FD (nodeK a c i j) x) FO FK w' ∧ w.grownBy w' (some bd) := by
  obtain ⟨kl, hkl⟩ := nodeK_in hk
  obtain ⟨w', hrun, hm, hg⟩ := h.pd.store node_keyed Tryd.underlying87 Tryd.underlying52 boxL_lt hkl hk hx
  obtain ⟨n1, n2, n3, n4, n5, n6⟩ := h.ne
  obtain ⟨g1, g2, g3⟩ := h.ge
  obtain ⟨k1, k2, k3, k4, k5⟩ := h.kept hg g1 n4
  exact ⟨w', hrun, ⟨k1, k2, k3, k4, k5, hm.trim node_keyed boxL keyIn_box, h.po.grown hg (Ne.symm n1), h.pk.grown hg (Ne.symm n2), h.ne, h.ge⟩, hg⟩
end
/-- All old blocks but the maps' stay. -/
structure Frm (bd bo bk : Nat) (w w' : World) : Prop where
  size : w.heap.size ≤ w'.heap.size
  block : ∀ g, g < w.heap.size → g ≠ bd → g ≠ bo → g ≠ bk → w'.heap[g]? = w.heap[g]?
theorem Frm.refl {bd bo bk : Nat} (w : World) : Frm bd bo bk w w := ⟨Nat.le_refl _, fun _ _ _ _ _ => rfl⟩
theorem Frm.trans {bd bo bk : Nat} {w w' w'' : World} (h : Frm bd bo bk w w') (h' : Frm bd bo bk w' w'') : Frm bd bo bk w w'' := ⟨Nat.le_trans h.size h'.size, fun g hg a b c => (h'.block g (Nat.lt_of_lt_of_le hg h.size) a b c).trans (h.block g hg a b c)⟩
theorem Frm.below {bd bo bk : Nat} {w w' w'' : World} (h : Frm bd bo bk w w') (hb : Below w'.heap.size w' w'') : Frm bd bo bk w w'' := h.trans ⟨hb.size, fun g hg _ _ _ => hb.block g hg⟩
theorem Frm.grown {bd bo bk g : Nat} {w w' w'' : World} (h : Frm bd bo bk w w') (hb : w'.grownBy w'' (some g)) (hg : g = bd ∨ g = bo ∨ g = bk) : Frm bd bo bk w w'' := h.trans ⟨hb.size, fun k hk a b c => hb.block k hk (fun e => by injection e with e; omega)⟩
theorem Frm.cell {bd bo bk : Nat} {w w' : World} (h : Frm bd bo bk w w') {p : Addr} {v : Value} (hc : w.cell? p = some v) (a : p.block ≠ bd) (b : p.block ≠ bo) (c : p.block ≠ bk) : w'.cell? p = some v :=
  (World.cell?_of_block (h.block p.block (World.block_lt_of_cell? _ _ hc) a b c)).trans hc
/-- What is known of a rule's rests, from a place on, is so. -/
def KnownFrom (R : List (Int × List Int)) (tk : List Int) (n at_ : Nat) (F : Value → Option Int) : Prop :=
  ∀ (a i j : Nat) c, at_ ≤ a → F (nodeK n a i j) = some c → (c = 1 ∧ Cut (tabD R tk) tk ((R.getD n (0, [])).2.drop a) i j) ∨ (c = 2 ∧ ¬ Cut (tabD R tk) tk ((R.getD n (0, [])).2.drop a) i j)
end Go.Proofs.YtndimnomkcjeiaaDoor.Hand
/- The contract of the counter's may. -/
namespace Go.Proofs.YtndimnomkcjeiaaDoor.Hand
open Go.RowKit Go.Proofs.YtndimnomkcjeiaaDoorW.PrintWords Go.Proofs.YtndimnomkcjeiaaDoorW.PrintMore Go.Proofs.YtndimnomkcjeiaaDoor.Math
open Go.Maps (Keyed)

/-- The state within may's loop. -/
def MSt (w1 w2 : World) (R : List (Int × List Int)) (tk : List Int) (b kb bd bo bk : Nat) (FD FO FK : Value → Option Int) (n at_ i j : Nat) (w : World) : Prop :=
  ∃ F, CSt w1 b kb bd bo bk FD FO F w ∧ KnownFrom R tk n (at_ + 1) F ∧ F (nodeK n at_ i j) = some 2 ∧ (∀ u, u ≠ nodeK n at_ i j → (∀ a i j : Nat, at_ + 1 ≤ a → u ≠ nodeK n a i j) → F u = FK u) ∧ Frm bd bo bk w2 w
theorem MSt.below {w1 w2 w w' : World} {R : List (Int × List Int)} {tk : List Int} {b kb bd bo bk : Nat} {FD FO FK : Value → Option Int} {n at_ i j : Nat} (h : MSt w1 w2 R tk b kb bd bo bk FD FO FK n at_ i j w) (hb : Below w.heap.size w w') : MSt w1 w2 R tk b kb bd bo bk FD FO FK n at_ i j w' := by
  obtain ⟨F, h1, h2, h3, h4, h5⟩ := h
  exact ⟨F, h1.below hb, h2, h3, h4, h5.below hb⟩
theorem MSt.bel {w1 w2 w : World} {R : List (Int × List Int)} {tk : List Int} {b kb bd bo bk : Nat} {FD FO FK : Value → Option Int} {n at_ i j : Nat} (h : MSt w1 w2 R tk b kb bd bo bk FD FO FK n at_ i j w) : Below w1.heap.size w1 w := by
  obtain ⟨F, h1, _⟩ := h
  exact h1.bel
theorem MSt.held {w1 w2 w w' : World} {R : List (Int × List Int)} {tk : List Int} {b kb bd bo bk : Nat} {FD FO FK : Value → Option Int} {n at_ i j : Nat} {a : Addr} {v : Value} (h : MSt w1 w2 R tk b kb bd bo bk FD FO FK n at_ i j w) (ha : ∀ W, Below w1.heap.size w1 W → W.cell? a = some v) (hb : Below w.heap.size w w') :
    w'.cell? ⟨kb, 0, none⟩ = some (.pointer (some ⟨b, 0, none⟩)) ∧ w'.cell? a = some v ∧ Aside0 (MSt w1 w2 R tk b kb bd bo bk FD FO FK n at_ i j w') := by
  have h2 := h.below hb
  refine ⟨?_, ha _ h2.bel, ⟨h2⟩⟩
  obtain ⟨F, h1, _⟩ := h2
  exact h1.c0
theorem MSt.next {w1 w2 w w' : World} {R : List (Int × List Int)} {tk : List Int} {b kb bd bo bk : Nat} {FD FO FK F F' : Value → Option Int} {n at_ i j : Nat} (h3 : F (nodeK n at_ i j) = some 2) (h4 : ∀ u, u ≠ nodeK n at_ i j → (∀ a i j : Nat, at_ + 1 ≤ a → u ≠ nodeK n a i j) → F u = FK u) (h5 : Frm bd bo bk w2 w)
    (g1 : CSt w1 b kb bd bo bk FD FO F' w') (g2 : KnownFrom R tk n (at_ + 1) F') (g3 : ∀ u, (∀ a i j : Nat, at_ + 1 ≤ a → u ≠ nodeK n a i j) → F' u = F u) (g4 : Frm bd bo bk w w') : MSt w1 w2 R tk b kb bd bo bk FD FO FK n at_ i j w' :=
  ⟨F', g1, g2, (g3 _ (fun a i' j' ha e => by have := nodeK_inj e; omega)).trans h3, fun u hu0 hu => (g3 u hu).trans (h4 u hu0 hu), h5.trans g4⟩
theorem MSt.node {w1 w2 w : World} {R : List (Int × List Int)} {tk : List Int} {b kb bd bo bk : Nat} {FD FO FK : Value → Option Int} {n at_ i j g : Nat} {o : Obj} (h : MSt w1 w2 R tk b kb bd bo bk FD FO FK n at_ i j w) (hg : w2.heap[g]? = some o) (hne : g ≠ bd ∧ g ≠ bo ∧ g ≠ bk) : w.heap[g]? = some o := by
  obtain ⟨F, _, _, _, _, h5⟩ := h
  exact (h5.block g (Array.getElem?_eq_some_iff.1 hg).1 hne.1 hne.2.1 hne.2.2).trans hg
/-- What is known behind may's loop. -/
theorem known_end {R : List (Int × List Int)} {tk : List Int} {n at_ i j : Nat} {FK F : Value → Option Int} {c : Int} (hK : KnownFrom R tk n at_ FK) (h2 : KnownFrom R tk n (at_ + 1) F) (h3 : F (nodeK n at_ i j) = some c) (h4 : ∀ u, u ≠ nodeK n at_ i j → (∀ a i j : Nat, at_ + 1 ≤ a → u ≠ nodeK n a i j) → F u = FK u)
    (hc : (c = 1 ∧ Cut (tabD R tk) tk ((R.getD n (0, [])).2.drop at_) i j) ∨ (c = 2 ∧ ¬ Cut (tabD R tk) tk ((R.getD n (0, [])).2.drop at_) i j)) : KnownFrom R tk n at_ F := by
  intro a i' j' c' ha hF
  by_cases e : a = at_
  · subst e
    by_cases e2 : i' = i ∧ j' = j
    · obtain ⟨rfl, rfl⟩ := e2
      rw [h3] at hF
      obtain rfl := Option.some.inj hF
      exact hc
    · rw [h4 _ (fun e => e2 (by have := nodeK_inj e; omega)) (fun a' i'' j'' ha' e => by have := nodeK_inj e; omega)] at hF
      exact hK a i' j' c' (Nat.le_refl _) hF
  · exact h2 a i' j' c' (by omega) hF
/-- What may tells, and what it leaves. -/
def MayRes (w1 w0 : World) (R : List (Int × List Int)) (tk : List Int) (b kb bd bo bk : Nat) (FD FO FK : Value → Option Int) (n at_ i j : Nat) (e : Ending) (w' : World) : Prop :=
  e = .returned (.bool (tb (Cut (tabD R tk) tk ((R.getD n (0, [])).2.drop at_) i j))) ∧ ∃ FK', CSt w1 b kb bd bo bk FD FO FK' w' ∧ KnownFrom R tk n at_ FK' ∧ (∀ u, (∀ a i j : Nat, at_ ≤ a → u ≠ nodeK n a i j) → FK' u = FK u) ∧ Frm bd bo bk w0 w'
theorem at_ruleN {w : World} {A : Option Addr} {l : List (Int × List Int)} (h : KRule.C w A l.length l) (i : Nat) (hi : i < l.length) :
    ∃ (ad : Addr) (B : Option Addr) (c : Nat), A = some ad ∧ w.cell? (ad.add (i * 2)) = some (.int .i64 (l.getD i (0, [])).1) ∧ w.cell? ⟨(ad.add (i * 2)).block, (ad.add (i * 2)).off + 1, none⟩ = some (.slice B (l.getD i (0, [])).2.length c) ∧ (l.getD i (0, [])).2.length ≤ c ∧ Kd.C (Kd.int .i64) w B (l.getD i (0, [])).2.length (l.getD i (0, [])).2 := by
  obtain ⟨ad, x, B, c, r, h1, h2, h3, h4, h5, HD⟩ := at_rule h i hi
  have e := HD.out
  rw [e]
  exact ⟨ad, B, c, h1, h2, h3, h4, h5⟩
set_option maxHeartbeats 800000 in
set_option maxRecDepth 100000 in
theorem cmay_calls {w1 : World} {R : List (Int × List Int)} {tk : List Int} {t N b : Nat} {AR : Option Addr} {cR : Nat} (hx : CtxC w1 R tk t N b AR cR) (kb bd bo bk : Nat) (FD FO : Value → Option Int) (n : Nat) (hn : n < R.length) :
    ∀ (d at_ : Nat), at_ + d = (R.getD n (0, [])).2.length → ∀ (i j : Nat) (FK : Value → Option Int) (w : World), i ≤ j → j ≤ tk.length → CSt w1 b kb bd bo bk FD FO FK w → KnownFrom R tk n at_ FK →
    Calls Tryd.prog 51 #[.pointer (some ⟨kb, 0, none⟩), .int .i64 n, .int .i64 at_, .int .i64 i, .int .i64 j] w (MayRes w1 w R tk b kb bd bo bk FD FO FK n at_ i j) := by
  have hr32 : (R.getD n (0, [])).2.length ≤ 32 := ruleN_len (hx.right _ (getD_mem R n (0, []) hn))
  have hsym : ∀ s ∈ (R.getD n (0, [])).2, -(N : Int) ≤ s ∧ s < 4611686018427387904 := fun s hs => by have := hx.right.sym (getD_mem R n (0, []) hn) hs; have := hx.ht; omega
  obtain ⟨r, hr⟩ : ∃ r, (R.getD n (0, [])).2 = r := ⟨_, rfl⟩
  rw [hr] at hr32 hsym
  have HX := Lib.hid hx
  have hR := hx.hR
  have htk := hx.hn
  have hrl := hx.rule.2.1
  have hcap := hx.cap
  intro d
  induction d with
  | zero =>
    intro at_ hat i j FK w hij hj hS hK
    rw [hr] at hat
    have HS := Aside0.mk hS
    have HK := Lib.hid hK
    obtain ⟨ad, B, c, hA, k1, k2, hrc, hrr⟩ := at_ruleN (Kd.C_below hx.rule hS.bel) n hn
    rw [hr] at k2 hrc hrr
    have c0 := hS.c0
    have c3 := (hS.bel.cell (p := ⟨b, 3, none⟩) (World.block_lt_of_cell? _ _ hx.cell)).trans hx.cell
    subst hA
    have hat' : at_ = r.length := by omega
    have hatb : ((at_ : Int) == (r.length : Int)) = true := by rw [beq_iff_eq]; omega
    have HE : Hid (tb (Cut (tabD R tk) tk ((R.getD n (0, [])).2.drop at_) i j) = ((i : Int) == (j : Int))) := Lib.hid (by
      rw [hr, hat', List.drop_length, Bool.eq_iff_iff, tb_iff, beq_iff_eq]
      show i = j ↔ _
      omega)
    have HR := Lib.hid hr
    clear hr hS hK hrr hx hat hat'
    go_enter Tryd.func51, Tryd.ntmps51
    go_wp2
    go_ret
    exact ⟨ret_bool HE.out.symm, FK, HS.out, HK.out, (fun _ _ => rfl), Frm.refl _⟩
  | succ d ih =>
    intro at_ hat i j FK w hij hj hS hK
    rw [hr] at hat
    obtain ⟨ad, B, c, hA, k1, k2, hrc, hrr⟩ := at_ruleN hx.rule n hn
    rw [hr] at k2 hrc hrr
    replace k1 := (hS.bel.cell (World.block_lt_of_cell? _ _ k1)).trans k1
    replace k2 := (hS.bel.cell (World.block_lt_of_cell? _ _ k2)).trans k2
    have c0 := hS.c0
    have c3 := (hS.bel.cell (p := ⟨b, 3, none⟩) (World.block_lt_of_cell? _ _ hx.cell)).trans hx.cell
    subst hA
    have hatb : ((at_ : Int) == (r.length : Int)) = false := by rw [beq_eq_false_iff_ne]; omega
    obtain ⟨w2, hw2⟩ : ∃ w2, w.alloc (.cells #[.int .i64 n, .int .i64 at_, .int .i64 i, .int .i64 j] 111) = w2 := ⟨_, rfl⟩
    have hb2 : Below w.heap.size w w2 := by rw [← hw2]; exact below_alloc (Below.refl _ _) _
    have n0 : w2.heap[w.heap.size]? = some (.cells #[.int .i64 n, .int .i64 at_, .int .i64 i, .int .i64 j] 111 (0, 0)) := by rw [← hw2]; exact heap_alloc_new w _
    have hKI : KeyIn (nodeK n at_ i j) := keyIn_r (by omega) (by omega) (by omega) (by omega)
    have HS2 := Aside0.mk (hS.below hb2)
    have HF2 := Aside0.mk ((Frm.refl (bd := bd) (bo := bo) (bk := bk) w).below hb2)
    have HNe : Hid (w.heap.size ≠ bd ∧ w.heap.size ≠ bo ∧ w.heap.size ≠ bk) := Lib.hid ⟨by have := hS.pd.lt; omega, by have := hS.po.lt; omega, by have := hS.pk.lt; omega⟩
    have HRr := Lib.hid hrr
    have HKI := Lib.hid hKI
    have HK := Lib.hid hK
    have HR := Lib.hid hr
    have HA := Lib.hid hat
    have HSy := Lib.hid hsym
    clear hr hS hK hrr hx hat hb2 hsym hKI
    have h3 := HS2.out.c3
    obtain ⟨m0, m1, m2, m3⟩ := blk_cells2 n0
    have HSd := Aside0.mk (HS2.out.below (below_drew1 (Below.refl _ _)))
    have HL := HSd.out.lookK HKI.out
    have HN0 := Lib.hid n0
    clear n0
    cases hF : FK (nodeK n at_ i j) with
    | some x =>
      have hcase := HK.out at_ i j x (Nat.le_refl _) hF
      have HSe := Aside0.mk (HSd.out.below (below_drew1 (Below.refl _ _)))
      have HL2 := HSe.out.lookK HKI.out
      rw [hF, Option.getD_some] at HL HL2
      clear hF
      obtain ⟨rfl, hcut⟩ | ⟨rfl, hcut⟩ := hcase
      · have HE : Hid (tb (Cut (tabD R tk) tk ((R.getD n (0, [])).2.drop at_) i j) = true) := Lib.hid (tb_yes hcut)
        clear hcut
        go_enter Tryd.func51, Tryd.ntmps51
        go_wp2
        go_region
        go_wp2
        go_region
        go_wp2
        go_ret
        exact ⟨ret_bool HE.out.symm, FK, HSe.out, HK.out, (fun _ _ => rfl), (HF2.out.below (below_drew1 (Below.refl _ _))).below (below_drew1 (Below.refl _ _))⟩
      · have HE : Hid (tb (Cut (tabD R tk) tk ((R.getD n (0, [])).2.drop at_) i j) = false) := Lib.hid (tb_no hcut)
        clear hcut
        go_enter Tryd.func51, Tryd.ntmps51
        go_wp2
        go_region
        go_wp2
        go_region
        go_wp2
        go_ret
        exact ⟨ret_bool HE.out.symm, FK, HSe.out, HK.out, (fun _ _ => rfl), (HF2.out.below (below_drew1 (Below.refl _ _))).below (below_drew1 (Below.refl _ _))⟩
    | none =>
      rw [hF, Option.getD_none] at HL
      clear hF
      obtain ⟨w3, hrun3, hS3, hg3⟩ := (HSd.out.below (below_drew1 (Below.refl _ _))).putK HKI.out (x := 2) (wf_i64 (by omega) (by omega))
      have HM3 : Aside0 (MSt w1 w2 R tk b kb bd bo bk FD FO FK n at_ i j w3) := ⟨_, hS3, (fun a i' j' c ha hc => by
        rw [updF_other (fun e => by have := nodeK_inj e; omega)] at hc
        exact HK.out a i' j' c (by omega) hc), updF_same, (fun u hu0 hu => updF_other hu0), (((Frm.refl w2).below (below_drew1 (Below.refl _ _))).below (below_drew1 (Below.refl _ _))).grown hg3 (.inr (.inr rfl))⟩
      clear hS3 hg3
      go_enter Tryd.func51, Tryd.ntmps51
      go_wp2
      go_region
      go_wp2
      go_region
      go_wp2
      clear hrun3 HL h3 m0 m1 m2 m3 c0 c3 k1 k2
      go_loopw [13] (fun x wr => ∃ q : Nat, i ≤ q ∧ q ≤ j + 1 ∧ x = .int .i64 q ∧ Aside0 (MSt w1 w2 R tk b kb bd bo bk FD FO FK n at_ i j wr) ∧ Aside0 (∀ q', i ≤ q' → q' < q → ¬ (Hb (tabD R tk) tk (r.getD at_ 0) i q' = true ∧ Cut (tabD R tk) tk (r.drop (at_ + 1)) q' j))) (fun x _ => j + 1 - (intOf x).toNat)
      case atStart => exact ⟨i, by omega, by omega, rfl, HM3, ⟨fun q' h1 h2 => by omega⟩⟩
      case round =>
        obtain ⟨q, hq1, hq2, rfl, HM, HXq⟩ := hrel
        obtain ⟨wo, rfl⟩ : ∃ wo : World, wo = wr := ⟨_, rfl⟩
        by_cases hqj : q ≤ j
        · have hbelo : Below w1.heap.size w1 wo := by obtain ⟨F, h, _⟩ := HM.out; exact h.bel
          have hc0 : wo.cell? ⟨kb, 0, none⟩ = some (.pointer (some ⟨b, 0, none⟩)) := by obtain ⟨F, h, _⟩ := HM.out; exact h.c0
          obtain ⟨ad3, y, hA3, hy, HY⟩ := at_scalar (Kd.C_below HRr.out hbelo) at_ (by have := HA.out; omega) 0
          subst hA3
          have hym : Hid (y ∈ r) := Lib.hid (by rw [← HY.out]; exact getD_mem r at_ 0 (by have := HA.out; omega))
          have hys := HSy.out y hym.out
          have HHas := Lib.hid (fun (W : World) (hW : Below w1.heap.size w1 W) => HX.out.has W hW y i q hys.1 hys.2 hq1 (by omega))
          have hi1 : (0 : Int) ≤ (at_ : Int) := by omega
          have hi2 : (at_ : Int) < (r.length : Int) := by have := HA.out; omega
          have HBo := Lib.hid hbelo
          have HY2 := Lib.hid (show ∀ W, Below w1.heap.size w1 W → W.cell? (ad3.add at_) = some (.int .i64 y) from fun W hW => by
            obtain ⟨ad4, y4, e4, h4, HY4⟩ := at_scalar (Kd.C_below HRr.out hW) at_ (by have := HA.out; omega) 0
            injection e4 with e4
            subst e4
            rw [h4, ← HY4.out, HY.out])
          clear hbelo
          cases hb : Hb (tabD R tk) tk y i q
          · rw [hb] at HHas
            have HN := Lib.hid (show ¬ (Hb (tabD R tk) tk (r.getD at_ 0) i q = true ∧ Cut (tabD R tk) tk (r.drop (at_ + 1)) q j) from fun h => by rw [HY.out, hb] at h; cases h.1)
            clear hb
            go_wp2_with fail
            go_quiet ((go_at_call 61; exact Calls.quiet_of (HHas.out _ (pw_below_drewN HBo.out _))))
            go_wp2
            go_roundw
            case rel => exact ⟨q + 1, by omega, by omega, by go_num, ⟨HM.out.below (by first | exact pw_below_drewN (Below.refl _ _) _ | exact below_drew1 (Below.refl _ _) | exact Below.refl _ _)⟩, ⟨fun q' h1 h2 => by
              rcases Nat.lt_or_ge q' q with h3 | h3
              · exact HXq.out q' h1 h3
              · obtain rfl : q' = q := by omega
                exact HN.out⟩⟩
            case measure => simp [intOf]; omega
          · rw [hb] at HHas
            have HIH := Lib.hid (fun (W : World) (F : Value → Option Int) (hW : CSt w1 b kb bd bo bk FD FO F W) (hK : KnownFrom R tk n (at_ + 1) F) => ih (at_ + 1) (by rw [HR.out]; have := HA.out; omega) q j F W hqj hj hW hK)
            unfold MayRes at HIH
            rw [HR.out] at HIH
            have hat1 : ((at_ + 1 : Nat) : Int) = (at_ : Int) + 1 := by omega
            rw [hat1] at HIH
            clear hat1
            have hbH := Lib.hid hb
            have hyo := HY2.out wo HBo.out
            clear hb
            cases hcut : tb (Cut (tabD R tk) tk (r.drop (at_ + 1)) q j)
            · rw [hcut] at HIH
              have HCt := Lib.hid hcut
              clear hcut
              have hwr1 : IntKind.i64.wrap ((at_ : Int) + 1) = (at_ : Int) + 1 := by rw [Go.IntWalk.i64_in _ (by omega)]
              go_wp2_with fail
              go_region_held3 (fun w' => w'.cell? ⟨kb, 0, none⟩ = some (.pointer (some ⟨b, 0, none⟩)) ∧ w'.cell? (ad3.add at_) = some (.int .i64 y) ∧ Aside0 (MSt w1 w2 R tk b kb bd bo bk FD FO FK n at_ i j w'))
                (first
                  | with_reducible exact HM.out.held HY2.out (below_drew1 (Below.refl _ _))
                  | with_reducible exact H4.out.held HY2.out (Below.refl _ _)
                  | with_reducible exact hS.out.2.2.out.held HY2.out (pw_below_drewN (Below.refl _ _) _)
                  | with_reducible exact HM.out.held HY2.out (pw_below_drewN (Below.refl _ _) _))
                (first
                  | (go_at_call 61; have hS := Aside0.mk (by assumption : _ ∧ _ ∧ Aside0 (MSt w1 w2 R tk b kb bd bo bk FD FO FK n at_ i j _)); refine (HHas.out _ hS.out.2.2.out.bel).mono ?_; rintro e w' ⟨rfl, n1, rfl⟩)
                  | (go_at_call 51; have hS := Aside0.mk (by assumption : _ ∧ _ ∧ Aside0 (MSt w1 w2 R tk b kb bd bo bk FD FO FK n at_ i j _)); obtain ⟨F5, f1, f2, f3, f4, f5⟩ := hS.out.2.2.out; (with_reducible refine (HIH.out _ F5 f1 f2).mono ?_); rintro e w4 ⟨rfl, F6, g1, g2, g3, g4⟩; have H4 := Aside0.mk (MSt.next f3 f4 f5 g1 g2 g3 g4); clear f1 f2 f3 f4 f5 g1 g2 g3 g4))
              go_wp2
              go_roundw
              case rel => exact ⟨q + 1, by omega, by omega, by go_num, ⟨H4.out.below (by first | exact Below.refl _ _ | exact pw_below_drewN (Below.refl _ _) _ | exact below_drew1 (Below.refl _ _))⟩, ⟨fun q' h1 h2 => by
                rcases Nat.lt_or_ge q' q with h3 | h3
                · exact HXq.out q' h1 h3
                · obtain rfl : q' = q := by omega
                  exact fun h => by rw [tb_yes h.2] at HCt; exact Bool.noConfusion HCt.out⟩⟩
              case measure => simp [intOf]; omega
            · rw [hcut] at HIH
              have HCt : Hid (Cut (tabD R tk) tk ((R.getD n (0, [])).2.drop at_) i j) := Lib.hid (by
                rw [HR.out, List.drop_eq_getElem_cons (by have := HA.out; omega : at_ < r.length)]
                refine ⟨q, hq1, hqj, ?_, tb_iff.1 hcut⟩
                have e : r[at_]'(by have := HA.out; omega) = y := by
                  have := HY.out
                  rwa [List.getD_eq_getElem?_getD, List.getElem?_eq_getElem (by have := HA.out; omega : at_ < r.length), Option.getD_some] at this
                rw [e]; exact hbH.out)
              clear hcut
              have hwr1 : IntKind.i64.wrap ((at_ : Int) + 1) = (at_ : Int) + 1 := by rw [Go.IntWalk.i64_in _ (by omega)]
              go_wp2_with fail
              go_region_held3 (fun w' => w'.cell? ⟨kb, 0, none⟩ = some (.pointer (some ⟨b, 0, none⟩)) ∧ w'.cell? (ad3.add at_) = some (.int .i64 y) ∧ Aside0 (MSt w1 w2 R tk b kb bd bo bk FD FO FK n at_ i j w'))
                (first
                  | with_reducible exact HM.out.held HY2.out (below_drew1 (Below.refl _ _))
                  | with_reducible exact H4.out.held HY2.out (Below.refl _ _)
                  | with_reducible exact hS.out.2.2.out.held HY2.out (pw_below_drewN (Below.refl _ _) _)
                  | with_reducible exact HM.out.held HY2.out (pw_below_drewN (Below.refl _ _) _))
                (first
                  | (go_at_call 61; have hS := Aside0.mk (by assumption : _ ∧ _ ∧ Aside0 (MSt w1 w2 R tk b kb bd bo bk FD FO FK n at_ i j _)); refine (HHas.out _ hS.out.2.2.out.bel).mono ?_; rintro e w' ⟨rfl, n1, rfl⟩)
                  | (go_at_call 51; have hS := Aside0.mk (by assumption : _ ∧ _ ∧ Aside0 (MSt w1 w2 R tk b kb bd bo bk FD FO FK n at_ i j _)); obtain ⟨F5, f1, f2, f3, f4, f5⟩ := hS.out.2.2.out; (with_reducible refine (HIH.out _ F5 f1 f2).mono ?_); rintro e w4 ⟨rfl, F6, g1, g2, g3, g4⟩; have H4 := Aside0.mk (MSt.next f3 f4 f5 g1 g2 g3 g4); clear f1 f2 f3 f4 f5 g1 g2 g3 g4))
              have HN4 := Lib.hid (H4.out.node HN0.out HNe.out)
              obtain ⟨m0, m1, m2, m3⟩ := blk_cells2 HN4.out
              obtain ⟨F6, g1, g2, g3, g4, g5⟩ := H4.out
              have h3 := g1.c3
              obtain ⟨w5, hrun5, hS5, hg5⟩ := (g1.below (below_drew1 (Below.refl _ _))).putK HKI.out (x := 1) (wf_i64 (by omega) (by omega))
              have HE5 : Hid (KnownFrom R tk n at_ (updF F6 (nodeK n at_ i j) 1)) := Lib.hid (known_end HK.out (fun a i' j' c ha hc => by
                rw [updF_other (fun e => by have := nodeK_inj e; omega)] at hc
                exact g2 a i' j' c ha hc) updF_same (fun u hu0 hu => (updF_other hu0).trans (g4 u hu0 hu)) (.inl ⟨rfl, HCt.out⟩))
              have HF5 : Hid (∀ u, (∀ a i j : Nat, at_ ≤ a → u ≠ nodeK n a i j) → updF F6 (nodeK n at_ i j) 1 u = FK u) := Lib.hid (fun u hu => (updF_other (hu at_ i j (Nat.le_refl _))).trans (g4 u (hu at_ i j (Nat.le_refl _)) (fun a i' j' ha => hu a i' j' (by omega))))
              have HFr5 := Aside0.mk ((HF2.out.trans (g5.below (below_drew1 (Below.refl _ _)))).grown hg5 (.inr (.inr rfl)))
              have HS5 := Aside0.mk hS5
              have HS5d := Aside0.mk (hS5.below (below_drew1 (Below.refl _ _)))
              have HL5 := HS5d.out.lookK HKI.out
              rw [updF_same, Option.getD_some] at HL5
              have p3 := hS5.c3
              have n5 : w5.heap[w.heap.size]? = some (.cells #[.int .i64 n, .int .i64 at_, .int .i64 i, .int .i64 j] 111 (0, 0)) := (hg5.block w.heap.size (Array.getElem?_eq_some_iff.1 HN4.out).1 (fun e => HNe.out.2.2 (by injection e))).trans HN4.out
              obtain ⟨p0, p1, p2, p4⟩ := blk_cells2 n5
              have HEt : Hid (tb (Cut (tabD R tk) tk ((R.getD n (0, [])).2.drop at_) i j) = true) := Lib.hid (tb_yes HCt.out)
              clear g1 g2 g3 g4 g5 hS5 n5 hg5
              go_wp2
              go_region
              go_wp2
              go_region
              go_wp2
              go_ret
              exact ⟨ret_bool HEt.out.symm, _, HS5d.out, HE5.out, HF5.out, HFr5.out.below (below_drew1 (Below.refl _ _))⟩
        · obtain rfl : q = j + 1 := by omega
          have HCt : Hid (¬ Cut (tabD R tk) tk ((R.getD n (0, [])).2.drop at_) i j) := Lib.hid (by
            rw [HR.out, List.drop_eq_getElem_cons (by have := HA.out; omega : at_ < r.length)]
            rintro ⟨q', h1, h2, h3, h4⟩
            refine HXq.out q' h1 (by omega) ⟨?_, h4⟩
            rw [List.getD_eq_getElem?_getD, List.getElem?_eq_getElem (by have := HA.out; omega : at_ < r.length), Option.getD_some]
            exact h3)
          have HN4 := Lib.hid (HM.out.node HN0.out HNe.out)
          obtain ⟨p0, p1, p2, p4⟩ := blk_cells2 HN4.out
          obtain ⟨F6, g1, g2, g3, g4, g5⟩ := HM.out
          have p3 := g1.c3
          have HS5d := Aside0.mk (g1.below (below_drew1 (Below.refl _ _)))
          have HL5 := HS5d.out.lookK HKI.out
          rw [g3, Option.getD_some] at HL5
          have HE5 : Hid (KnownFrom R tk n at_ F6) := Lib.hid (known_end HK.out g2 g3 g4 (.inr ⟨rfl, HCt.out⟩))
          have HF5 : Hid (∀ u, (∀ a i j : Nat, at_ ≤ a → u ≠ nodeK n a i j) → F6 u = FK u) := Lib.hid (fun u hu => g4 u (hu at_ i j (Nat.le_refl _)) (fun a i' j' ha => hu a i' j' (by omega)))
          have HFr5 := Aside0.mk (HF2.out.trans g5)
          have HEt : Hid (tb (Cut (tabD R tk) tk ((R.getD n (0, [])).2.drop at_) i j) = false) := Lib.hid (tb_no HCt.out)
          clear g1 g2 g3 g4 g5
          go_wp2
          go_region
          go_wp2
          go_ret
          exact ⟨ret_bool HEt.out.symm, _, HS5d.out, HE5.out, HF5.out, HFr5.out.below (below_drew1 (Below.refl _ _))⟩
end Go.Proofs.YtndimnomkcjeiaaDoor.Hand
/- What the counter's contracts speak of: what is counted, what is open. -/
namespace Go.Proofs.YtndimnomkcjeiaaDoor.Hand
open Go.RowKit Go.Proofs.YtndimnomkcjeiaaDoorW.PrintWords Go.Proofs.YtndimnomkcjeiaaDoorW.PrintMore Go.Proofs.YtndimnomkcjeiaaDoor.Math
open Go.Maps (Keyed)

noncomputable def treeD (R : List (Int × List Int)) (tk : List Int) (k i j : Nat) : Option Nat := treeN (tabD R tk) tk R k i j
noncomputable def seqD_ (R : List (Int × List Int)) (tk : List Int) (l : List Int) (i j : Nat) : Option Nat := seqN (T := tabD R tk) (tk := tk) (R := R) l i j
/-- What is marked as done is so. -/
def DoneOk (R : List (Int × List Int)) (tk : List Int) (F : Value → Option Int) : Prop :=
  (∀ (k i j : Nat) c, F (nodeK k (-1) i j) = some c → ∃ m, treeD R tk k i j = some m ∧ c = ((sat m : Nat) : Int)) ∧
  ∀ (n a i j : Nat) c, F (nodeK n a i j) = some c → ∃ m, seqD_ R tk ((R.getD n (0, [])).2.drop a) i j = some m ∧ c = ((sat m : Nat) : Int)
def KnownAll (R : List (Int × List Int)) (tk : List Int) (F : Value → Option Int) : Prop := ∀ n : Nat, KnownFrom R tk n 0 F
theorem KnownAll.next {R : List (Int × List Int)} {tk : List Int} {F F' : Value → Option Int} {n a : Nat} (h : KnownAll R tk F) (h1 : KnownFrom R tk n a F') (h2 : ∀ u, (∀ a' i j : Nat, a ≤ a' → u ≠ nodeK n a' i j) → F' u = F u) : KnownAll R tk F' := by
  intro n' a' i j c h0 hc
  by_cases e : n' = n ∧ a ≤ a'
  · obtain ⟨rfl, e⟩ := e
    exact h1 a' i j c e hc
  · rw [h2 _ (fun a'' i' j' ha e2 => by have := nodeK_inj e2; omega)] at hc
    exact h n' a' i j c (Nat.zero_le _) hc
theorem KnownAll.from_ {R : List (Int × List Int)} {tk : List Int} {F : Value → Option Int} (h : KnownAll R tk F) (n a : Nat) : KnownFrom R tk n a F := fun a' i j c _ hc => h n a' i j c (Nat.zero_le _) hc
def PreW (R : List (Int × List Int)) (tk : List Int) (F : Value → Option Int) (x : Nat × Nat × Nat) : Prop := ∀ k i j : Nat, F (nodeK k (-1) i j) = some 1 → Dep (T := tabD R tk) (tk := tk) (R := R) (k, i, j) x
def PreS (R : List (Int × List Int)) (tk : List Int) (F : Value → Option Int) (l : List Int) (i j : Nat) : Prop := ∀ k i' j' : Nat, F (nodeK k (-1) i' j') = some 1 → DepS (T := tabD R tk) (tk := tk) (R := R) (k, i', j') l i j
/-- The nodes, and how many of them are not open. -/
def nodesL (N n : Nat) : List (Nat × Nat × Nat) := (List.range N).flatMap fun (k : Nat) => (List.range (n + 1)).flatMap fun (i : Nat) => (List.range (n + 1)).map fun (j : Nat) => (k, i, j)
theorem mem_nodesL {N n k i j : Nat} (hk : k < N) (hi : i ≤ n) (hj : j ≤ n) : (k, i, j) ∈ nodesL N n := by
  unfold nodesL
  exact List.mem_flatMap.2 ⟨k, List.mem_range.2 hk, List.mem_flatMap.2 ⟨i, List.mem_range.2 (by omega), List.mem_map.2 ⟨j, List.mem_range.2 (by omega), rfl⟩⟩⟩
def freeC (N n : Nat) (F : Value → Option Int) : Nat := (nodesL N n).countP (fun x => decide (F (nodeK x.1 (-1) x.2.1 x.2.2) ≠ some 1))
theorem freeC_congr {N n : Nat} {F F' : Value → Option Int} (h : ∀ u, F' u = some 1 ↔ F u = some 1) : freeC N n F' = freeC N n F := by
  unfold freeC
  congr 1
  funext x
  rw [decide_eq_decide, Ne, Ne, h]
theorem freeC_pos {N n : Nat} {F : Value → Option Int} {k i j : Nat} (hk : k < N) (hi : i ≤ n) (hj : j ≤ n) (h : F (nodeK k (-1) i j) ≠ some 1) : 0 < freeC N n F :=
  List.countP_pos_iff.2 ⟨(k, i, j), mem_nodesL hk hi hj, by simpa using h⟩
theorem countP_lt {α : Type} {p q : α → Bool} : ∀ {l : List α} {x : α}, x ∈ l → p x = false → q x = true → (∀ y, p y = true → q y = true) → l.countP p < l.countP q
  | y :: l, x, hx, h1, h2, h3 => by
    rw [List.countP_cons, List.countP_cons]
    rcases List.mem_cons.1 hx with rfl | hx
    · have := List.countP_mono_left (l := l) (p := p) (q := q) (fun y _ h => h3 y h)
      rw [h1, h2]; simp; omega
    · have := countP_lt hx h1 h2 h3
      cases hp : p y
      · simp; omega
      · rw [h3 y hp]; simp; omega
theorem freeC_set {N n : Nat} {F : Value → Option Int} {k i j : Nat} (hk : k < N) (hi : i ≤ n) (hj : j ≤ n) (h : F (nodeK k (-1) i j) ≠ some 1) : freeC N n (updF F (nodeK k (-1) i j) 1) < freeC N n F := by
  refine countP_lt (mem_nodesL hk hi hj) (by simp [updF_same]) (by simpa using h) (fun y hy => ?_)
  simp only [decide_eq_true_eq] at hy ⊢
  intro e
  refine hy ?_
  by_cases e2 : nodeK y.1 (-1) y.2.1 y.2.2 = nodeK k (-1) i j
  · rw [e2, updF_same]
  · rw [updF_other e2]; exact e
/-- The state that goes on. -/
def WSt (w1 w0 : World) (R : List (Int × List Int)) (tk : List Int) (b kb bd bo bk : Nat) (FO : Value → Option Int) (w : World) : Prop :=
  ∃ FD' FO' FK', CSt w1 b kb bd bo bk FD' FO' FK' w ∧ DoneOk R tk FD' ∧ KnownAll R tk FK' ∧ (∀ u, FO' u = some 1 ↔ FO u = some 1) ∧ Frm bd bo bk w0 w
/-- What counting comes to: a number, or it is given up. -/
def WhRes (w1 w0 : World) (R : List (Int × List Int)) (tk : List Int) (b kb bd bo bk : Nat) (FO : Value → Option Int) (o : Option Nat) (e : Ending) (w' : World) : Prop :=
  (∃ m, o = some m ∧ e = .returned (.int .u64 ((sat m : Nat) : Int)) ∧ WSt w1 w0 R tk b kb bd bo bk FO w') ∨
  (o = none ∧ e = .panicked [{ v := .iface 84 (.agg #[]), recovered := false }] ∧ Below w1.heap.size w1 w')
section
variable {w1 w0 w w' : World} {R : List (Int × List Int)} {tk : List Int} {b kb bd bo bk : Nat} {FO : Value → Option Int}
theorem WSt.below (h : WSt w1 w0 R tk b kb bd bo bk FO w) (hb : Below w.heap.size w w') : WSt w1 w0 R tk b kb bd bo bk FO w' := by
  obtain ⟨FD', FO', FK', h1, h2, h3, h4, h5⟩ := h
  exact ⟨FD', FO', FK', h1.below hb, h2, h3, h4, h5.below hb⟩
theorem WSt.bel (h : WSt w1 w0 R tk b kb bd bo bk FO w) : Below w1.heap.size w1 w := by
  obtain ⟨FD', FO', FK', h1, _⟩ := h
  exact h1.bel
theorem WSt.trans {w2 : World} {FO2 : Value → Option Int} (h : WSt w1 w2 R tk b kb bd bo bk FO2 w') (h1 : ∀ u, FO2 u = some 1 ↔ FO u = some 1) (h2 : Frm bd bo bk w0 w2) : WSt w1 w0 R tk b kb bd bo bk FO w' := by
  obtain ⟨FD', FO', FK', g1, g2, g3, g4, g5⟩ := h
  exact ⟨FD', FO', FK', g1, g2, g3, (fun u => (g4 u).trans (h1 u)), h2.trans g5⟩
theorem WSt.node {g : Nat} {o : Obj} (h : WSt w1 w0 R tk b kb bd bo bk FO w) (hg : w0.heap[g]? = some o) (hne : g ≠ bd ∧ g ≠ bo ∧ g ≠ bk) : w.heap[g]? = some o := by
  obtain ⟨_, _, _, _, _, _, _, h5⟩ := h
  exact (h5.block g (Array.getElem?_eq_some_iff.1 hg).1 hne.1 hne.2.1 hne.2.2).trans hg
theorem WSt.c0 (h : WSt w1 w0 R tk b kb bd bo bk FO w) : w.cell? ⟨kb, 0, none⟩ = some (.pointer (some ⟨b, 0, none⟩)) := by
  obtain ⟨_, _, _, h1, _⟩ := h
  exact h1.c0
theorem WSt.held {a : Addr} {v : Value} (h : WSt w1 w0 R tk b kb bd bo bk FO w) (ha : ∀ W, Below w1.heap.size w1 W → W.cell? a = some v) (hb : Below w.heap.size w w') : w'.cell? ⟨kb, 0, none⟩ = some (.pointer (some ⟨b, 0, none⟩)) ∧ w'.cell? a = some v ∧ Aside0 (WSt w1 w0 R tk b kb bd bo bk FO w') :=
  ⟨(h.below hb).c0, ha _ (h.below hb).bel, ⟨h.below hb⟩⟩
theorem WSt.mayNext {FD FO' FK F' : Value → Option Int} {n a : Nat} (h1 : CSt w1 b kb bd bo bk FD FO' F' w') (h2 : DoneOk R tk FD) (h3 : KnownAll R tk FK) (h4 : ∀ u, FO' u = some 1 ↔ FO u = some 1) (h5 : Frm bd bo bk w0 w) (g2 : KnownFrom R tk n a F') (g3 : ∀ u, (∀ a' i j : Nat, a ≤ a' → u ≠ nodeK n a' i j) → F' u = FK u) (g4 : Frm bd bo bk w w') : WSt w1 w0 R tk b kb bd bo bk FO w' :=
  ⟨FD, FO', F', h1, h2, h3.next g2 g3, h4, h5.trans g4⟩
end
/-- Counting the rests of rules, and the nonterminals, so long as no more than so many nodes are not open. -/
def PWh (w1 : World) (R : List (Int × List Int)) (tk : List Int) (N b kb bd bo bk d : Nat) : Prop :=
  ∀ (k i j : Nat) (FD FO FK : Value → Option Int) (w : World), k < N → i ≤ j → j ≤ tk.length → CSt w1 b kb bd bo bk FD FO FK w → DoneOk R tk FD → KnownAll R tk FK → PreW R tk FO (k, i, j) → freeC N tk.length FO ≤ d →
    Calls Tryd.prog 40 #[.pointer (some ⟨kb, 0, none⟩), .int .i64 k, .int .i64 i, .int .i64 j] w (WhRes w1 w R tk b kb bd bo bk FO (treeD R tk k i j))
def PRe (w1 : World) (R : List (Int × List Int)) (tk : List Int) (N b kb bd bo bk d : Nat) : Prop :=
  ∀ (n a i j : Nat) (FD FO FK : Value → Option Int) (w : World), n < R.length → a ≤ (R.getD n (0, [])).2.length → i ≤ j → j ≤ tk.length → CSt w1 b kb bd bo bk FD FO FK w → DoneOk R tk FD → KnownAll R tk FK → PreS R tk FO ((R.getD n (0, [])).2.drop a) i j → freeC N tk.length FO ≤ d →
    Calls Tryd.prog 53 #[.pointer (some ⟨kb, 0, none⟩), .int .i64 n, .int .i64 a, .int .i64 i, .int .i64 j] w (WhRes w1 w R tk b kb bd bo bk FO (seqD_ R tk ((R.getD n (0, [])).2.drop a) i j))
end Go.Proofs.YtndimnomkcjeiaaDoor.Hand
/- The contract of the counter's rest, over that of whole. -/
namespace Go.Proofs.YtndimnomkcjeiaaDoor.Hand
open Go.RowKit Go.Proofs.YtndimnomkcjeiaaDoorW.PrintWords Go.Proofs.YtndimnomkcjeiaaDoorW.PrintMore Go.Proofs.YtndimnomkcjeiaaDoor.Math
open Go.Maps (Keyed)

section
variable {w1 w0 w' : World} {R : List (Int × List Int)} {tk : List Int} {b kb bd bo bk : Nat} {FO : Value → Option Int} {e : Ending}
theorem WhRes.yes {m : Nat} (h : WhRes w1 w0 R tk b kb bd bo bk FO (some m) e w') : e = .returned (.int .u64 ((sat m : Nat) : Int)) ∧ WSt w1 w0 R tk b kb bd bo bk FO w' := by
  rcases h with ⟨m', h1, h2, h3⟩ | ⟨h1, _⟩
  · injection h1 with h1
    subst h1
    exact ⟨h2, h3⟩
  · cases h1
theorem WhRes.no (h : WhRes w1 w0 R tk b kb bd bo bk FO none e w') : e = .panicked [{ v := .iface 84 (.agg #[]), recovered := false }] ∧ Below w1.heap.size w1 w' := by
  rcases h with ⟨m', h1, _⟩ | ⟨_, h2, h3⟩
  · cases h1
  · exact ⟨h2, h3⟩
end
open Classical in
noncomputable def sumF (R : List (Int × List Int)) (tk : List Int) (s : Int) (l : List Int) (i j : Nat) : Nat → Option Nat := fun q => if i ≤ q ∧ Fits (tabD R tk) tk s l i q j then mulO (seqD_ R tk l q j) (if s < 0 then treeD R tk (-1 - s).toNat i q else some 1) else some 0
theorem seqD_cons (R : List (Int × List Int)) (tk : List Int) (s : Int) (l : List Int) (i j : Nat) : seqD_ R tk (s :: l) i j = sumO (sumF R tk s l i j) (j + 1) := rfl
theorem sumF_low {R : List (Int × List Int)} {tk : List Int} {s : Int} {l : List Int} {i j : Nat} : ∀ m, m ≤ i → sumO (sumF R tk s l i j) m = some 0
  | 0, _ => rfl
  | m + 1, h => by
    show addO (sumO (sumF R tk s l i j) m) (sumF R tk s l i j m) = _
    rw [sumF_low m (by omega), show sumF R tk s l i j m = some 0 by unfold sumF; rw [if_neg (by omega)]]
    rfl
theorem sumO_stop {f : Nat → Option Nat} {m q : Nat} (hq : q < m) (h : f q = none) : sumO f m = none := by
  cases h2 : sumO f m with
  | none => rfl
  | some c =>
    obtain ⟨a, ha⟩ := sumO_part h2 q hq
    rw [h] at ha; cases ha
theorem sumO_next {f : Nat → Option Nat} {q c d : Nat} (h : sumO f q = some c) (hf : f q = some d) : sumO f (q + 1) = some (c + d) := by
  show addO (sumO f q) (f q) = _
  rw [h, hf]; rfl
theorem DoneOk.put_rest {R : List (Int × List Int)} {tk : List Int} {F : Value → Option Int} {n a i j m : Nat} (h : DoneOk R tk F) (hm : seqD_ R tk ((R.getD n (0, [])).2.drop a) i j = some m) : DoneOk R tk (updF F (nodeK n a i j) ((sat m : Nat) : Int)) := by
  refine ⟨fun k i' j' c hc => ?_, fun n' a' i' j' c hc => ?_⟩
  · rw [updF_other (fun e => by have := nodeK_inj e; omega)] at hc
    exact h.1 k i' j' c hc
  · by_cases e : nodeK n' a' i' j' = nodeK n a i j
    · rw [e, updF_same] at hc
      obtain ⟨e1, e2, e3, e4⟩ := nodeK_inj e
      obtain rfl : n' = n := by omega
      obtain rfl : a' = a := by omega
      obtain rfl : i' = i := by omega
      obtain rfl : j' = j := by omega
      exact ⟨m, hm, (Option.some.inj hc).symm⟩
    · rw [updF_other e] at hc
      exact h.2 n' a' i' j' c hc
theorem DoneOk.put_whole {R : List (Int × List Int)} {tk : List Int} {F : Value → Option Int} {k i j m : Nat} (h : DoneOk R tk F) (hm : treeD R tk k i j = some m) : DoneOk R tk (updF F (nodeK k (-1) i j) ((sat m : Nat) : Int)) := by
  refine ⟨fun k' i' j' c hc => ?_, fun n' a' i' j' c hc => ?_⟩
  · by_cases e : nodeK k' (-1) i' j' = nodeK k (-1) i j
    · rw [e, updF_same] at hc
      obtain ⟨e1, e2, e3, e4⟩ := nodeK_inj e
      obtain rfl : k' = k := by omega
      obtain rfl : i' = i := by omega
      obtain rfl : j' = j := by omega
      exact ⟨m, hm, (Option.some.inj hc).symm⟩
    · rw [updF_other e] at hc
      exact h.1 k' i' j' c hc
  · rw [updF_other (fun e => by have := nodeK_inj e; omega)] at hc
    exact h.2 n' a' i' j' c hc
set_option maxHeartbeats 2000000 in
set_option maxRecDepth 100000 in
theorem crest_of {w1 : World} {R : List (Int × List Int)} {tk : List Int} {t N b : Nat} {AR : Option Addr} {cR : Nat} (hx : CtxC w1 R tk t N b AR cR) (kb bd bo bk d : Nat) (hW : PWh w1 R tk N b kb bd bo bk d) : PRe w1 R tk N b kb bd bo bk d := by
  intro n a i j FD FO FK w hn ha
  have hr32 : (R.getD n (0, [])).2.length ≤ 32 := ruleN_len (hx.right _ (getD_mem R n (0, []) hn))
  have hsym : ∀ s ∈ (R.getD n (0, [])).2, -(N : Int) ≤ s ∧ s < 4611686018427387904 := fun s hs => by have := hx.right.sym (getD_mem R n (0, []) hn) hs; have := hx.ht; omega
  obtain ⟨r, hr⟩ : ∃ r, (R.getD n (0, [])).2 = r := ⟨_, rfl⟩
  rw [hr] at hr32 hsym ha ⊢
  have HX := Lib.hid hx
  have HW := Lib.hid hW
  have hR := hx.hR
  have htk := hx.hn
  have hrl := hx.rule.2.1
  have hcap := hx.cap
  clear hW
  obtain ⟨e, he⟩ : ∃ e, a + e = r.length := ⟨r.length - a, by omega⟩
  clear ha
  revert a i j FD FO FK w
  induction e with
  | zero =>
    intro a i j FD FO FK w hat hij hj hS hD hK hP hF
    have HS := Aside0.mk hS
    have HD := Lib.hid hD
    have HK := Lib.hid hK
    obtain ⟨ad, B, c, hA, k1, k2, hrc, hrr⟩ := at_ruleN (Kd.C_below hx.rule hS.bel) n hn
    rw [hr] at k2 hrc hrr
    have c0 := hS.c0
    have c3 := (hS.bel.cell (p := ⟨b, 3, none⟩) (World.block_lt_of_cell? _ _ hx.cell)).trans hx.cell
    subst hA
    have hat' : a = r.length := by omega
    have hatb : ((a : Int) == (r.length : Int)) = true := by rw [beq_iff_eq]; omega
    have HE : Hid (seqD_ R tk (r.drop a) i j = some (if i = j then 1 else 0)) := Lib.hid (by rw [hat', List.drop_length]; rfl)
    have HR := Lib.hid hr
    clear hr hS hK hD hrr hx hat hat' hP hF
    by_cases hij2 : i = j
    · subst hij2
      go_enter Tryd.func53, Tryd.ntmps53
      go_wp2
      go_step3
      go_wp2
      rw [Exit.noGoto_ret]
      go_ret
      exact .inl ⟨1, by rw [HE.out]; simp, rfl, _, _, _, HS.out, HD.out, HK.out, (fun _ => Iff.rfl), Frm.refl _⟩
    · have hlt : i < j := by omega
      have hm1 : (1 : Int) ≤ (j : Int) - i := by omega
      go_enter Tryd.func53, Tryd.ntmps53
      go_wp2
      go_step3
      go_wp2
      rw [Exit.noGoto_ret]
      go_ret
      exact .inl ⟨0, by rw [HE.out]; simp [hij2], rfl, _, _, _, HS.out, HD.out, HK.out, (fun _ => Iff.rfl), Frm.refl _⟩
  | succ e ih =>
    intro a i j FD FO FK w hat hij hj hS hD hK hP hF
    obtain ⟨ad, B, c, hA, k1, k2, hrc, hrr⟩ := at_ruleN hx.rule n hn
    rw [hr] at k2 hrc hrr
    replace k1 := (hS.bel.cell (World.block_lt_of_cell? _ _ k1)).trans k1
    replace k2 := (hS.bel.cell (World.block_lt_of_cell? _ _ k2)).trans k2
    have c0 := hS.c0
    have c3 := (hS.bel.cell (p := ⟨b, 3, none⟩) (World.block_lt_of_cell? _ _ hx.cell)).trans hx.cell
    subst hA
    have hatb : ((a : Int) == (r.length : Int)) = false := by rw [beq_eq_false_iff_ne]; omega
    obtain ⟨w2, hw2⟩ : ∃ w2, w.alloc (.cells #[.int .i64 n, .int .i64 a, .int .i64 i, .int .i64 j] 111) = w2 := ⟨_, rfl⟩
    have hb2 : Below w.heap.size w w2 := by rw [← hw2]; exact below_alloc (Below.refl _ _) _
    have n0 : w2.heap[w.heap.size]? = some (.cells #[.int .i64 n, .int .i64 a, .int .i64 i, .int .i64 j] 111 (0, 0)) := by rw [← hw2]; exact heap_alloc_new w _
    have hKI : KeyIn (nodeK n a i j) := keyIn_r (by omega) (by omega) (by omega) (by omega)
    have HS2 := Aside0.mk (hS.below hb2)
    have HF2 := Aside0.mk ((Frm.refl (bd := bd) (bo := bo) (bk := bk) w).below hb2)
    have HNe : Hid (w.heap.size ≠ bd ∧ w.heap.size ≠ bo ∧ w.heap.size ≠ bk) := Lib.hid ⟨by have := hS.pd.lt; omega, by have := hS.po.lt; omega, by have := hS.pk.lt; omega⟩
    obtain ⟨y, hy⟩ : ∃ y, r.getD a 0 = y := ⟨_, rfl⟩
    obtain ⟨l, hl⟩ : ∃ l, r.drop (a + 1) = l := ⟨_, rfl⟩
    have hcons : r.drop a = y :: l := by
      rw [List.drop_eq_getElem_cons (by omega : a < r.length), hl]
      rw [List.getD_eq_getElem?_getD, List.getElem?_eq_getElem (by omega : a < r.length), Option.getD_some] at hy
      rw [hy]
    have hym : y ∈ r := by rw [← hy]; exact getD_mem r a 0 (by omega)
    have hys := hsym y hym
    have HRr := Lib.hid hrr
    have HKI := Lib.hid hKI
    have HK := Lib.hid hK
    have HD := Lib.hid hD
    have HR := Lib.hid hr
    have HA := Lib.hid hat
    have HY := Lib.hid hy
    have HLl := Lib.hid hl
    have HP := Lib.hid hP
    have HFc := Lib.hid hF
    rw [hcons] at HP ⊢
    have HCo := Lib.hid hcons
    have HY2 := Lib.hid (show ∀ ad3, B = some ad3 → ∀ W, Below w1.heap.size w1 W → W.cell? (ad3.add a) = some (.int .i64 y) from fun ad3 hB W hW => by
      obtain ⟨ad4, y4, e4, h4, HY4⟩ := at_scalar (Kd.C_below hrr hW) a (by omega) 0
      rw [hB] at e4
      injection e4 with e4
      subst e4
      rw [h4, ← HY4.out, hy])
    obtain ⟨ad3, -, rfl, -, -⟩ := at_scalar hrr a (by omega) 0
    replace HY2 := Lib.hid (HY2.out ad3 rfl)
    have h1 := HS2.out.c1
    obtain ⟨m0, m1, m2, m3⟩ := blk_cells2 n0
    have HSd := Aside0.mk (HS2.out.below (below_drew1 (Below.refl _ _)))
    have HL := HSd.out.lookD HKI.out
    have HN0 := Lib.hid n0
    have hi1 : (0 : Int) ≤ (a : Int) := by omega
    have hi2 : (a : Int) < (r.length : Int) := by omega
    clear hS hD hK hrr hat hb2 hKI hy hl hcons hym n0 hP hF hx hr
    cases hF : FD (nodeK n a i j) with
    | some x =>
      obtain ⟨m, hm, hxm⟩ := HD.out.2 n a i j x hF
      rw [HR.out, HCo.out] at hm
      rw [hF, Option.getD_some, Option.isSome_some] at HL
      subst hxm
      have HMm := Lib.hid hm
      clear hF hm
      go_enter Tryd.func53, Tryd.ntmps53
      go_wp2
      go_step3
      go_wp2
      go_region
      go_wp2
      rw [Exit.noGoto_ret]
      go_ret
      exact .inl ⟨m, HMm.out, rfl, _, _, _, HSd.out, HD.out, HK.out, (fun _ => Iff.rfl), HF2.out.below (below_drew1 (Below.refl _ _))⟩
    | none =>
      rw [hF, Option.getD_none, Option.isSome_none] at HL
      clear hF
      have HW0 : Aside0 (WSt w1 w2 R tk b kb bd bo bk FO w2.drew) := ⟨_, _, _, HSd.out, HD.out, HK.out, (fun _ => Iff.rfl), (Frm.refl w2).below (below_drew1 (Below.refl _ _))⟩
      go_enter Tryd.func53, Tryd.ntmps53
      go_wp2
      go_step3
      go_wp2
      go_region
      go_wp2
      go_step3
      go_wp2
      clear HL h1 m0 m1 m2 m3 c0 c3 k1 k2
      go_loopw [15, 16, 17] (fun s x _ wr => ∃ (q cn : Nat), i ≤ q ∧ q ≤ j + 1 ∧ x = .int .i64 q ∧ s = .int .u64 ((sat cn : Nat) : Int) ∧ Aside0 (WSt w1 w2 R tk b kb bd bo bk FO wr) ∧ Aside0 (sumO (sumF R tk y l i j) q = some cn)) (fun _ x _ _ => j + 1 - (intOf x).toNat)
      case atStart => exact ⟨i, 0, by omega, by omega, rfl, rfl, HW0, ⟨sumF_low i (Nat.le_refl _)⟩⟩
      case round =>
        obtain ⟨q, cn, hq1, hq2, rfl, rfl, HM, HSm⟩ := hrel
        obtain ⟨wo, rfl⟩ : ∃ wo : World, wo = wr := ⟨_, rfl⟩
        by_cases hqj : q ≤ j
        · have HBo := Lib.hid HM.out.bel
          have hc0 := HM.out.c0
          have hyo := HY2.out wo HBo.out
          have HHas := Lib.hid (fun (W : World) (hW : Below w1.heap.size w1 W) => HX.out.has W hW y i q hys.1 hys.2 hq1 (by omega))
          cases hb : Hb (tabD R tk) tk y i q
          · rw [hb] at HHas
            have HZ : Hid (sumF R tk y l i j q = some 0) := Lib.hid (by unfold sumF; rw [if_neg (fun h => by have := h.2.1; rw [hb] at this; cases this)])
            clear hb
            go_wp2_with fail
            go_quiet ((go_at_call 61; exact Calls.quiet_of (HHas.out _ (pw_below_drewN HBo.out _))))
            go_wp2
            go_roundw
            case rel => exact ⟨q + 1, cn, by omega, by omega, by go_num, rfl, ⟨HM.out.below (by first | exact pw_below_drewN (Below.refl _ _) _ | exact below_drew1 (Below.refl _ _) | exact Below.refl _ _)⟩, ⟨by have := sumO_next HSm.out HZ.out; rwa [Nat.add_zero] at this⟩⟩
            case measure => simp [intOf]; omega
          · rw [hb] at HHas
            have hbH := Lib.hid hb
            clear hb
            have hat1 : ((a + 1 : Nat) : Int) = (a : Int) + 1 := by omega
            have HMy := Lib.hid (fun (W : World) (FD FO F : Value → Option Int) (hW : CSt w1 b kb bd bo bk FD FO F W) (hK : KnownAll R tk F) => cmay_calls HX.out kb bd bo bk FD FO n hn e (a + 1) (by rw [HR.out]; have := HA.out; omega) q j F W hqj hj hW (hK.from_ n (a + 1)))
            unfold MayRes at HMy
            rw [HR.out, HLl.out, hat1] at HMy
            have hwr1 : IntKind.i64.wrap ((a : Int) + 1) = (a : Int) + 1 := by rw [Go.IntWalk.i64_in _ (by omega)]
            cases hcut : tb (Cut (tabD R tk) tk l q j)
            · rw [hcut] at HMy
              have HZ : Hid (sumF R tk y l i j q = some 0) := Lib.hid (by unfold sumF; rw [if_neg (fun h => by have := tb_yes h.2.2; rw [hcut] at this; cases this)])
              clear hcut
              go_wp2_with fail
              go_region_held3 (fun w' => w'.cell? ⟨kb, 0, none⟩ = some (.pointer (some ⟨b, 0, none⟩)) ∧ w'.cell? (ad3.add a) = some (.int .i64 y) ∧ Aside0 (WSt w1 w2 R tk b kb bd bo bk FO w'))
                (first
                  | with_reducible exact HM.out.held HY2.out (below_drew1 (Below.refl _ _))
                  | with_reducible exact H4.out.held HY2.out (Below.refl _ _)
                  | with_reducible exact hS.out.2.2.out.held HY2.out (pw_below_drewN (Below.refl _ _) _)
                  | with_reducible exact HM.out.held HY2.out (pw_below_drewN (Below.refl _ _) _))
                (first
                  | (go_at_call 61; have hS := Aside0.mk (by assumption : _ ∧ _ ∧ Aside0 (WSt w1 w2 R tk b kb bd bo bk FO _)); refine (HHas.out _ hS.out.2.2.out.bel).mono ?_; rintro e w' ⟨rfl, n1, rfl⟩)
                  | (go_at_call 51; have hS := Aside0.mk (by assumption : _ ∧ _ ∧ Aside0 (WSt w1 w2 R tk b kb bd bo bk FO _)); obtain ⟨FD5, FO5, FK5, f1, f2, f3, f4, f5⟩ := hS.out.2.2.out; (with_reducible refine (HMy.out _ FD5 FO5 FK5 f1 f3).mono ?_); rintro e w4 ⟨rfl, F6, g1, g2, g3, g4⟩; have H4 := Aside0.mk (WSt.mayNext g1 f2 f3 f4 f5 g2 g3 g4); clear f1 f2 f3 f4 f5 g1 g2 g3 g4))
              go_wp2
              go_roundw
              case rel => exact ⟨q + 1, cn, by omega, by omega, by go_num, rfl, ⟨H4.out.below (by first | exact Below.refl _ _ | exact pw_below_drewN (Below.refl _ _) _ | exact below_drew1 (Below.refl _ _))⟩, ⟨by have := sumO_next HSm.out HZ.out; rwa [Nat.add_zero] at this⟩⟩
              case measure => simp [intOf]; omega
            · rw [hcut] at HMy
              have HFit : Hid (Fits (tabD R tk) tk y l i q j) := Lib.hid ⟨hbH.out, tb_iff.1 hcut⟩
              clear hcut
              go_wp2_with fail
              go_region_held3 (fun w' => w'.cell? ⟨kb, 0, none⟩ = some (.pointer (some ⟨b, 0, none⟩)) ∧ w'.cell? (ad3.add a) = some (.int .i64 y) ∧ Aside0 (WSt w1 w2 R tk b kb bd bo bk FO w'))
                (first
                  | with_reducible exact HM.out.held HY2.out (below_drew1 (Below.refl _ _))
                  | with_reducible exact H4.out.held HY2.out (Below.refl _ _)
                  | with_reducible exact hS.out.2.2.out.held HY2.out (pw_below_drewN (Below.refl _ _) _)
                  | with_reducible exact HM.out.held HY2.out (pw_below_drewN (Below.refl _ _) _))
                (first
                  | (go_at_call 61; have hS := Aside0.mk (by assumption : _ ∧ _ ∧ Aside0 (WSt w1 w2 R tk b kb bd bo bk FO _)); refine (HHas.out _ hS.out.2.2.out.bel).mono ?_; rintro e w' ⟨rfl, n1, rfl⟩)
                  | (go_at_call 51; have hS := Aside0.mk (by assumption : _ ∧ _ ∧ Aside0 (WSt w1 w2 R tk b kb bd bo bk FO _)); obtain ⟨FD5, FO5, FK5, f1, f2, f3, f4, f5⟩ := hS.out.2.2.out; (with_reducible refine (HMy.out _ FD5 FO5 FK5 f1 f3).mono ?_); rintro e w4 ⟨rfl, F6, g1, g2, g3, g4⟩; have H4 := Aside0.mk (WSt.mayNext g1 f2 f3 f4 f5 g2 g3 g4); clear f1 f2 f3 f4 f5 g1 g2 g3 g4))
              have HRe := Lib.hid (fun (W : World) (FD FO' FK : Value → Option Int) (h1 : CSt w1 b kb bd bo bk FD FO' FK W) (h2 : DoneOk R tk FD) (h3 : KnownAll R tk FK) (h4 : ∀ u, FO' u = some 1 ↔ FO u = some 1) => ih (a + 1) q j FD FO' FK W (by have := HA.out; omega) hqj hj h1 h2 h3 (by
                rw [HLl.out]
                exact fun k i' j' hk => (HP.out k i' j' ((h4 _).1 hk)).tail hq1 hqj HFit.out) (by rw [freeC_congr h4]; exact HFc.out))
              rw [HLl.out, hat1] at HRe
              cases hs1 : seqD_ R tk l q j with
              | none =>
                have HZ : Hid (seqD_ R tk (y :: l) i j = none) := Lib.hid (by
                  rw [seqD_cons]
                  refine sumO_stop (q := q) (by omega) ?_
                  unfold sumF
                  rw [if_pos ⟨hq1, HFit.out⟩, hs1]; rfl)
                rw [hs1] at HRe
                clear hs1
                go_wp2_with (go_at_call 53; obtain ⟨FD5, FO5, FK5, f1, f2, f3, f4, f5⟩ := H4.out; (with_reducible refine (HRe.out _ FD5 FO5 FK5 f1 f2 f3 f4).mono ?_); rintro e w5 h5; obtain ⟨rfl, hb5⟩ := h5.no; have HB5 := Lib.hid hb5; clear hb5 h5 f1 f2 f3 f4 f5)
                rw [Exit.noGoto_panic]
                exact ⟨rfl, .inr ⟨HZ.out, rfl, HB5.out⟩⟩
              | some m1 =>
                rw [hs1] at HRe
                have HS1 := Lib.hid hs1
                have HPl := Lib.hid (fun (x z : Nat) (W : World) => plus_calls (sat x) (sat z) (sat_le x) (sat_le z) W)
                clear hs1
                have hyl : -(60 : Int) ≤ y := by have := HX.out.hN; have := hys.1; omega
                by_cases hy0 : y < 0
                · have hyk : ((-1 - y).toNat : Int) = -1 - y := by omega
                  have HWh := Lib.hid (fun (W : World) (FD FO' FK : Value → Option Int) (h1 : CSt w1 b kb bd bo bk FD FO' FK W) (h2 : DoneOk R tk FD) (h3 : KnownAll R tk FK) (h4 : ∀ u, FO' u = some 1 ↔ FO u = some 1) => HW.out (-1 - y).toNat i q FD FO' FK W (by omega) hq1 (by omega) h1 h2 h3 (fun k i' j' hk => (HP.out k i' j' ((h4 _).1 hk)).head hq1 hqj HFit.out hy0) (by rw [freeC_congr h4]; exact HFc.out))
                  rw [hyk] at HWh
                  cases hs2 : treeD R tk (-1 - y).toNat i q with
                  | none =>
                    have HZ : Hid (seqD_ R tk (y :: l) i j = none) := Lib.hid (by
                      rw [seqD_cons]
                      refine sumO_stop (q := q) (by omega) ?_
                      unfold sumF
                      rw [if_pos ⟨hq1, HFit.out⟩, HS1.out, if_pos hy0, hs2]; rfl)
                    rw [hs2] at HWh
                    clear hs2 hyk
                    go_wp2_with (first
                      | (go_at_call 40; obtain ⟨FD6, FO6, FK6, f1, f2, f3, f4, f5⟩ := H5.out; (with_reducible refine (HWh.out _ FD6 FO6 FK6 f1 f2 f3 f4).mono ?_); rintro e w6 h6; obtain ⟨rfl, hb6⟩ := h6.no; have HB6 := Lib.hid hb6; clear hb6 h6 f1 f2 f3 f4 f5)
                      | (go_at_call 53; obtain ⟨FD5, FO5, FK5, f1, f2, f3, f4, f5⟩ := H4.out; (with_reducible refine (HRe.out _ FD5 FO5 FK5 f1 f2 f3 f4).mono ?_); rintro e w5 h5; obtain ⟨rfl, hm5⟩ := h5.yes; have H5 := Aside0.mk (hm5.trans f4 f5); have hy5 := HY2.out w5 hm5.bel; clear h5 hm5 f1 f2 f3 f4 f5))
                    rw [Exit.noGoto_panic]
                    exact ⟨rfl, .inr ⟨HZ.out, rfl, HB6.out⟩⟩
                  | some m2 =>
                    rw [hs2] at HWh
                    have HZ : Hid (sumF R tk y l i j q = some (m1 * m2)) := Lib.hid (by
                      unfold sumF
                      rw [if_pos ⟨hq1, HFit.out⟩, HS1.out, if_pos hy0, hs2]; rfl)
                    have HTi := Lib.hid (fun (W : World) => times_calls (sat m1) (sat m2) (sat_le m1) (sat_le m2) W)
                    rw [sat_mul] at HTi
                    clear hs2 hyk
                    go_wp2_with (first
                      | (go_at_call 40; obtain ⟨FD6, FO6, FK6, f1, f2, f3, f4, f5⟩ := H5.out; (with_reducible refine (HWh.out _ FD6 FO6 FK6 f1 f2 f3 f4).mono ?_); rintro e w6 h6; obtain ⟨rfl, hm6⟩ := h6.yes; have H6 := Aside0.mk (hm6.trans f4 f5); have hy6 := HY2.out w6 hm6.bel; clear h6 hm6 f1 f2 f3 f4 f5)
                      | (go_at_call 53; obtain ⟨FD5, FO5, FK5, f1, f2, f3, f4, f5⟩ := H4.out; (with_reducible refine (HRe.out _ FD5 FO5 FK5 f1 f2 f3 f4).mono ?_); rintro e w5 h5; obtain ⟨rfl, hm5⟩ := h5.yes; have H5 := Aside0.mk (hm5.trans f4 f5); have hy5 := HY2.out w5 hm5.bel; clear h5 hm5 f1 f2 f3 f4 f5)
                      | (go_at_call 63; refine (HTi.out _).mono ?_; rintro e w' ⟨rfl, rfl⟩)
                      | (go_at_call 52; refine (HPl.out _ _ _).mono ?_; rintro e w' ⟨rfl, rfl⟩))
                    go_roundw
                    case rel => exact ⟨q + 1, cn + m1 * m2, by omega, by omega, by go_num, by rw [sat_add], ⟨H6.out.below (by first | exact Below.refl _ _ | exact pw_below_drewN (Below.refl _ _) _ | exact below_drew1 (Below.refl _ _))⟩, ⟨sumO_next HSm.out HZ.out⟩⟩
                    case measure => simp [intOf]; omega
                · have HZ : Hid (sumF R tk y l i j q = some m1) := Lib.hid (by
                    unfold sumF
                    rw [if_pos ⟨hq1, HFit.out⟩, HS1.out, if_neg hy0]
                    show some (m1 * 1) = _
                    rw [Nat.mul_one])
                  go_wp2_with (first
                    | (go_at_call 53; obtain ⟨FD5, FO5, FK5, f1, f2, f3, f4, f5⟩ := H4.out; (with_reducible refine (HRe.out _ FD5 FO5 FK5 f1 f2 f3 f4).mono ?_); rintro e w5 h5; obtain ⟨rfl, hm5⟩ := h5.yes; have H5 := Aside0.mk (hm5.trans f4 f5); have hy5 := HY2.out w5 hm5.bel; clear h5 hm5 f1 f2 f3 f4 f5)
                    | (go_at_call 52; refine (HPl.out _ _ _).mono ?_; rintro e w' ⟨rfl, rfl⟩))
                  go_roundw
                  case rel => exact ⟨q + 1, cn + m1, by omega, by omega, by go_num, by rw [sat_add], ⟨H5.out.below (by first | exact Below.refl _ _ | exact pw_below_drewN (Below.refl _ _) _ | exact below_drew1 (Below.refl _ _))⟩, ⟨sumO_next HSm.out HZ.out⟩⟩
                  case measure => simp [intOf]; omega
        · obtain rfl : q = j + 1 := by omega
          have HTo : Hid (seqD_ R tk (y :: l) i j = some cn) := Lib.hid (by rw [seqD_cons]; exact HSm.out)
          obtain ⟨p0, p1, p2, p4⟩ := blk_cells2 (HM.out.node HN0.out HNe.out)
          obtain ⟨FD6, FO6, FK6, g1, g2, g3, g4, g5⟩ := HM.out
          have p3 := g1.c1
          obtain ⟨w5, hrun5, hS5, hg5⟩ := (g1.below (below_drew1 (Below.refl _ _))).putD HKI.out (x := ((sat cn : Nat) : Int)) (wf_u64 (by omega) (by have := sat_le cn; omega))
          have HD5 : Hid (DoneOk R tk (updF FD6 (nodeK n a i j) ((sat cn : Nat) : Int))) := Lib.hid (g2.put_rest (by rw [HR.out, HCo.out]; exact HTo.out))
          have H5 : Aside0 (WSt w1 w R tk b kb bd bo bk FO w5) := ⟨_, _, _, hS5, HD5.out, g3, g4, ((HF2.out.trans g5).below (below_drew1 (Below.refl _ _))).grown hg5 (.inl rfl)⟩
          clear g1 g2 g3 g4 g5 hS5 hg5
          go_wp2
          go_region
          go_wp2
          rw [Exit.noGoto_ret]
          go_ret
          exact .inl ⟨cn, HTo.out, rfl, H5.out⟩
end Go.Proofs.YtndimnomkcjeiaaDoor.Hand
/- The contract of the counter's whole. -/
namespace Go.Proofs.YtndimnomkcjeiaaDoor.Hand
open Go.RowKit Go.Proofs.YtndimnomkcjeiaaDoorW.PrintWords Go.Proofs.YtndimnomkcjeiaaDoorW.PrintMore Go.Proofs.YtndimnomkcjeiaaDoor.Math
open Go.Maps (Keyed)

noncomputable def ruleD (R : List (Int × List Int)) (tk : List Int) (k i j n : Nat) : Option Nat := ruleC (tabD R tk) tk (treeN (tabD R tk) tk R) R k i j n
theorem treeD_eq (R : List (Int × List Int)) (tk : List Int) (k i j : Nat) : treeD R tk k i j = sumO (ruleD R tk k i j) R.length := treeN_eq k i j
theorem ruleD_no {R : List (Int × List Int)} {tk : List Int} {k i j n : Nat} (h : ¬ ((R.getD n (0, [])).1 = (k : Int) ∧ Cut (tabD R tk) tk (R.getD n (0, [])).2 i j)) : ruleD R tk k i j n = some 0 := by unfold ruleD ruleC; rw [if_neg h]
theorem ruleD_yes {R : List (Int × List Int)} {tk : List Int} {k i j n : Nat} (h1 : (R.getD n (0, [])).1 = (k : Int)) (h2 : Cut (tabD R tk) tk (R.getD n (0, [])).2 i j) : ruleD R tk k i j n = seqD_ R tk (R.getD n (0, [])).2 i j := by unfold ruleD ruleC; rw [if_pos ⟨h1, h2⟩]; rfl
theorem getD_one {o : Option Int} : o.getD 0 = 1 ↔ o = some 1 := by cases o <;> simp
set_option maxHeartbeats 2000000 in
set_option maxRecDepth 100000 in
theorem cwhole_of {w1 : World} {R : List (Int × List Int)} {tk : List Int} {t N b : Nat} {AR : Option Addr} {cR : Nat} (hx : CtxC w1 R tk t N b AR cR) (kb bd bo bk d : Nat) (hRe : ∀ d', d = d' + 1 → PRe w1 R tk N b kb bd bo bk d') : PWh w1 R tk N b kb bd bo bk d := by
  intro k i j FD FO FK w hk hij hj hS hD hK hP hF
  have HX := Lib.hid hx
  have hR := hx.hR
  have hN := hx.hN
  have htk := hx.hn
  have hrl := hx.rule.2.1
  have hcap := hx.cap
  have c0 := hS.c0
  have c3 := (hS.bel.cell (p := ⟨b, 3, none⟩) (World.block_lt_of_cell? _ _ hx.cell)).trans hx.cell
  obtain ⟨w2, hw2⟩ : ∃ w2, w.alloc (.cells #[.int .i64 k, .int .i64 (-1), .int .i64 i, .int .i64 j] 111) = w2 := ⟨_, rfl⟩
  have hb2 : Below w.heap.size w w2 := by rw [← hw2]; exact below_alloc (Below.refl _ _) _
  have n0 : w2.heap[w.heap.size]? = some (.cells #[.int .i64 k, .int .i64 (-1), .int .i64 i, .int .i64 j] 111 (0, 0)) := by rw [← hw2]; exact heap_alloc_new w _
  have hKI : KeyIn (nodeK k (-1) i j) := keyIn_n (by omega) (by omega) (by omega)
  have HS2 := Aside0.mk (hS.below hb2)
  have HF2 := Aside0.mk ((Frm.refl (bd := bd) (bo := bo) (bk := bk) w).below hb2)
  have HNe : Hid (w.heap.size ≠ bd ∧ w.heap.size ≠ bo ∧ w.heap.size ≠ bk) := Lib.hid ⟨by have := hS.pd.lt; omega, by have := hS.po.lt; omega, by have := hS.pk.lt; omega⟩
  have HKI := Lib.hid hKI
  have HK := Lib.hid hK
  have HD := Lib.hid hD
  have HP := Lib.hid hP
  have HFc := Lib.hid hF
  have HRe := Lib.hid hRe
  have h1 := HS2.out.c1
  have h2 := HS2.out.c2
  obtain ⟨m0, m1, m2, m3⟩ := blk_cells2 n0
  have HSd := Aside0.mk (HS2.out.below (below_drew1 (Below.refl _ _)))
  have HSe := Aside0.mk (HSd.out.below (below_drew1 (Below.refl _ _)))
  have HL := HSd.out.lookD HKI.out
  have HN0 := Lib.hid n0
  clear hS hD hK hb2 hKI n0 hP hF hRe hx
  cases hF : FD (nodeK k (-1) i j) with
  | some x =>
    obtain ⟨m, hm, hxm⟩ := HD.out.1 k i j x hF
    rw [hF, Option.getD_some, Option.isSome_some] at HL
    subst hxm
    have HMm := Lib.hid hm
    clear hF hm
    go_enter Tryd.func40, Tryd.ntmps40
    go_wp2
    go_region
    go_wp2
    go_ret
    exact .inl ⟨m, HMm.out, rfl, _, _, _, HSd.out, HD.out, HK.out, (fun _ => Iff.rfl), HF2.out.below (below_drew1 (Below.refl _ _))⟩
  | none =>
    rw [hF, Option.getD_none, Option.isSome_none] at HL
    clear hF
    have HLO := HSe.out.lookO HKI.out
    by_cases hop : FO (nodeK k (-1) i j) = some 1
    · rw [hop, Option.getD_some] at HLO
      have HZ : Hid (treeD R tk k i j = none) := Lib.hid (HP.out k i j hop).loop
      clear hop
      go_enter Tryd.func40, Tryd.ntmps40
      go_wp2
      go_region
      go_wp2
      go_region
      go_wp2
      exact ⟨rfl, .inr ⟨HZ.out, rfl, HSe.out.bel⟩⟩
    · obtain ⟨z, hz⟩ : ∃ z, (FO (nodeK k (-1) i j)).getD 0 = z := ⟨_, rfl⟩
      have hz1 : (z == 1) = false := by rw [beq_eq_false_iff_ne, ← hz]; exact fun h => hop (getD_one.1 h)
      rw [hz] at HLO
      have HOp := Lib.hid hop
      have hpos := freeC_pos (N := N) (n := tk.length) hk (by omega) hj hop
      have hset := freeC_set (N := N) (n := tk.length) hk (by omega) hj hop
      obtain ⟨d', hd'⟩ : ∃ d', d = d' + 1 := ⟨d - 1, by have := HFc.out; omega⟩
      have HRd := Lib.hid (HRe.out d' hd')
      have HFd : Hid (freeC N tk.length (updF FO (nodeK k (-1) i j) 1) ≤ d') := Lib.hid (by have := HFc.out; omega)
      clear hz hop hpos hset hd'
      obtain ⟨w3, hrun3, hS3, hg3⟩ := (HSe.out.below (below_drew1 (Below.refl _ _))).putO HKI.out (x := 1) (wf_i64 (by omega) (by omega))
      have HF3 := Aside0.mk ((((HF2.out.below (below_drew1 (Below.refl _ _))).below (below_drew1 (Below.refl _ _))).below (below_drew1 (Below.refl _ _))).grown hg3 (.inr (.inl rfl)))
      have HW3 : Aside0 (WSt w1 w3 R tk b kb bd bo bk (updF FO (nodeK k (-1) i j) 1) w3) := ⟨_, _, _, hS3, HD.out, HK.out, (fun _ => Iff.rfl), Frm.refl _⟩
      have HN3 : Hid (w3.heap[w.heap.size]? = some (.cells #[.int .i64 k, .int .i64 (-1), .int .i64 i, .int .i64 j] 111 (0, 0))) := Lib.hid ((hg3.block w.heap.size (Array.getElem?_eq_some_iff.1 HN0.out).1 (fun e => HNe.out.2.1 (by injection e))).trans HN0.out)
      have q0 := hS3.c0
      have q3 := (hS3.bel.cell (p := ⟨b, 3, none⟩) (World.block_lt_of_cell? _ _ HX.out.cell)).trans HX.out.cell
      clear hS3 hg3
      go_enter Tryd.func40, Tryd.ntmps40
      go_wp2
      go_region
      go_wp2
      go_region
      go_wp2
      go_region
      go_wp2
      clear HL HLO hrun3 h1 h2 m0 m1 m2 m3 c0 c3 q0 q3
      go_loopw [12, 13, 14, 53] (fun s _ _ x wr => ∃ (q cn : Nat), q ≤ R.length ∧ x = .int .i64 q ∧ s = .int .u64 ((sat cn : Nat) : Int) ∧ Aside0 (WSt w1 w3 R tk b kb bd bo bk (updF FO (nodeK k (-1) i j) 1) wr) ∧ Aside0 (sumO (ruleD R tk k i j) q = some cn)) (fun _ _ _ x _ => R.length - (intOf x).toNat)
      case atStart => exact ⟨0, 0, by omega, rfl, rfl, HW3, ⟨rfl⟩⟩
      case round =>
        obtain ⟨q, cn, hq, rfl, rfl, HM, HSm⟩ := hrel
        obtain ⟨wo, rfl⟩ : ∃ wo : World, wo = wr := ⟨_, rfl⟩
        by_cases hlt : q < R.length
        · obtain ⟨ad, B, c, rfl, k1, k2, hrc, hrr⟩ := at_ruleN HX.out.rule q hlt
          obtain ⟨x', hx'⟩ : ∃ x', (R.getD q (0, [])).1 = x' := ⟨_, rfl⟩
          obtain ⟨r, hr⟩ : ∃ r, (R.getD q (0, [])).2 = r := ⟨_, rfl⟩
          have hr32 : r.length ≤ 32 := by rw [← hr]; exact ruleN_len (HX.out.right _ (getD_mem R q (0, []) hlt))
          have HBo := Lib.hid HM.out.bel
          replace k1 := (HBo.out.cell (World.block_lt_of_cell? _ _ k1)).trans k1
          replace k2 := (HBo.out.cell (World.block_lt_of_cell? _ _ k2)).trans k2
          rw [hx'] at k1
          rw [hr] at k2 hrc
          obtain ⟨wA, hwA⟩ : ∃ wA, wo.alloc (.cells #[.int .i64 x', .slice B r.length c] 51) = wA := ⟨_, rfl⟩
          have hbA : Below wo.heap.size wo wA := by rw [← hwA]; exact below_alloc (Below.refl _ _) _
          have r0 : wA.cell? ⟨wo.heap.size, 0, none⟩ = some (.int .i64 x') := by rw [← hwA]; simp [go_sem]
          have HMA := Aside0.mk (HM.out.below hbA)
          have HXn := Lib.hid hx'
          have HRn := Lib.hid hr
          have HPl := Lib.hid (fun (x z : Nat) (W : World) => plus_calls (sat x) (sat z) (sat_le x) (sat_le z) W)
          clear hx' hr hrr hbA
          by_cases hxk : x' = (k : Int)
          · have hxb : (x' == (k : Int)) = true := by rw [beq_iff_eq]; exact hxk
            have HXk := Lib.hid hxk
            clear hxk
            have HMy := Lib.hid (fun (W : World) (FD FO F : Value → Option Int) (hW : CSt w1 b kb bd bo bk FD FO F W) (hK : KnownAll R tk F) => cmay_calls HX.out kb bd bo bk FD FO q hlt r.length 0 (by rw [HRn.out]; omega) i j F W hij hj hW (hK.from_ q 0))
            unfold MayRes at HMy
            rw [HRn.out, List.drop_zero, show ((0 : Nat) : Int) = 0 from rfl] at HMy
            cases hcut : tb (Cut (tabD R tk) tk r i j)
            · rw [hcut] at HMy
              have HZ : Hid (ruleD R tk k i j q = some 0) := Lib.hid (ruleD_no (fun h => by
                have := h.2
                rw [HRn.out] at this
                have := tb_yes this
                rw [hcut] at this; cases this))
              clear hcut
              go_wp2_with (go_at_call 51; obtain ⟨FD5, FO5, FK5, f1, f2, f3, f4, f5⟩ := HMA.out; (with_reducible refine (HMy.out _ FD5 FO5 FK5 f1 f3).mono ?_); rintro e w4 ⟨rfl, F6, g1, g2, g3, g4⟩; have H4 := Aside0.mk (WSt.mayNext g1 f2 f3 f4 f5 g2 g3 g4); clear f1 f2 f3 f4 f5 g1 g2 g3 g4)
              go_roundw
              case rel => exact ⟨q + 1, cn, by omega, by go_num, rfl, H4, ⟨by have := sumO_next HSm.out HZ.out; rwa [Nat.add_zero] at this⟩⟩
              case measure => simp [intOf]; omega
            · rw [hcut] at HMy
              have HCut := Lib.hid (tb_iff.1 hcut)
              clear hcut
              have HRe := Lib.hid (fun (W : World) (FD FO' FK : Value → Option Int) (h1 : CSt w1 b kb bd bo bk FD FO' FK W) (h2 : DoneOk R tk FD) (h3 : KnownAll R tk FK) (h4 : ∀ u, FO' u = some 1 ↔ updF FO (nodeK k (-1) i j) 1 u = some 1) => HRd.out q 0 i j FD FO' FK W hlt (by omega) hij hj h1 h2 h3 (by
                rw [List.drop_zero]
                intro k' i' j' hk'
                have hk2 := (h4 _).1 hk'
                have hl : (R.getD q (0, [])).1 = (k : Int) := by rw [HXn.out, HXk.out]
                by_cases e : nodeK k' (-1) i' j' = nodeK k (-1) i j
                · obtain ⟨e1, e2, e3, e4⟩ := nodeK_inj e
                  obtain rfl : k' = k := by omega
                  obtain rfl : i' = i := by omega
                  obtain rfl : j' = j := by omega
                  exact DepS.self hlt hl (by rw [HRn.out]; exact HCut.out)
                · rw [updF_other e] at hk2
                  exact (HP.out k' i' j' hk2).rule hlt hl (by rw [HRn.out]; exact HCut.out)) (by rw [freeC_congr h4]; exact HFd.out))
              rw [HRn.out, List.drop_zero, show ((0 : Nat) : Int) = 0 from rfl] at HRe
              have HRy : Hid (ruleD R tk k i j q = seqD_ R tk r i j) := Lib.hid (by rw [ruleD_yes (by rw [HXn.out, HXk.out]) (by rw [HRn.out]; exact HCut.out), HRn.out])
              cases hs1 : seqD_ R tk r i j with
              | none =>
                rw [hs1] at HRe
                have HZ : Hid (treeD R tk k i j = none) := Lib.hid (by rw [treeD_eq]; exact sumO_stop hlt (by rw [HRy.out, hs1]))
                clear hs1
                go_wp2_with (first
                  | (go_at_call 51; obtain ⟨FD5, FO5, FK5, f1, f2, f3, f4, f5⟩ := HMA.out; (with_reducible refine (HMy.out _ FD5 FO5 FK5 f1 f3).mono ?_); rintro e w4 ⟨rfl, F6, g1, g2, g3, g4⟩; have H4 := Aside0.mk (WSt.mayNext g1 f2 f3 f4 f5 g2 g3 g4); clear f1 f2 f3 f4 f5 g1 g2 g3 g4)
                  | (go_at_call 53; obtain ⟨FD5, FO5, FK5, f1, f2, f3, f4, f5⟩ := H4.out; (with_reducible refine (HRe.out _ FD5 FO5 FK5 f1 f2 f3 f4).mono ?_); rintro e w5 h5; obtain ⟨rfl, hb5⟩ := h5.no; have HB5 := Lib.hid hb5; clear hb5 h5 f1 f2 f3 f4 f5))
                exact ⟨rfl, .inr ⟨HZ.out, rfl, HB5.out⟩⟩
              | some m =>
                rw [hs1] at HRe
                have HZ : Hid (ruleD R tk k i j q = some m) := Lib.hid (by rw [HRy.out, hs1])
                clear hs1
                go_wp2_with (first
                  | (go_at_call 51; obtain ⟨FD5, FO5, FK5, f1, f2, f3, f4, f5⟩ := HMA.out; (with_reducible refine (HMy.out _ FD5 FO5 FK5 f1 f3).mono ?_); rintro e w4 ⟨rfl, F6, g1, g2, g3, g4⟩; have H4 := Aside0.mk (WSt.mayNext g1 f2 f3 f4 f5 g2 g3 g4); clear f1 f2 f3 f4 f5 g1 g2 g3 g4)
                  | (go_at_call 53; obtain ⟨FD5, FO5, FK5, f1, f2, f3, f4, f5⟩ := H4.out; (with_reducible refine (HRe.out _ FD5 FO5 FK5 f1 f2 f3 f4).mono ?_); rintro e w5 h5; obtain ⟨rfl, hm5⟩ := h5.yes; have H5 := Aside0.mk (hm5.trans f4 f5); clear h5 hm5 f1 f2 f3 f4 f5)
                  | (go_at_call 52; refine (HPl.out _ _ _).mono ?_; rintro e w' ⟨rfl, rfl⟩))
                go_roundw
                case rel => exact ⟨q + 1, cn + m, by omega, by go_num, by rw [sat_add], H5, ⟨sumO_next HSm.out HZ.out⟩⟩
                case measure => simp [intOf]; omega
          · have hxb : (x' == (k : Int)) = false := by rw [beq_eq_false_iff_ne]; exact hxk
            have HZ : Hid (ruleD R tk k i j q = some 0) := Lib.hid (ruleD_no (fun h => hxk (by rw [← HXn.out]; exact h.1)))
            clear hxk
            go_wp2
            go_roundw
            case rel => exact ⟨q + 1, cn, by omega, by go_num, rfl, HMA, ⟨by have := sumO_next HSm.out HZ.out; rwa [Nat.add_zero] at this⟩⟩
            case measure => simp [intOf]; omega
        · obtain rfl : q = R.length := by omega
          have HTo : Hid (treeD R tk k i j = some cn) := Lib.hid (by rw [treeD_eq]; exact HSm.out)
          have HN4 := Lib.hid (HM.out.node HN3.out HNe.out)
          obtain ⟨p0, p1, p2, p4⟩ := blk_cells2 HN4.out
          obtain ⟨FD6, FO6, FK6, g1, g2, g3, g4, g5⟩ := HM.out
          have p3 := g1.c2
          obtain ⟨w5, hrun5, hS5, hg5⟩ := (g1.below (below_drew1 (Below.refl _ _))).putO HKI.out (x := 0) (wf_i64 (by omega) (by omega))
          have n5 : w5.heap[w.heap.size]? = some (.cells #[.int .i64 k, .int .i64 (-1), .int .i64 i, .int .i64 j] 111 (0, 0)) := (hg5.block w.heap.size (Array.getElem?_eq_some_iff.1 HN4.out).1 (fun e => HNe.out.2.1 (by injection e))).trans HN4.out
          obtain ⟨s0, s1, s2, s4⟩ := blk_cells2 n5
          have s3 := hS5.c1
          obtain ⟨w6, hrun6, hS6, hg6⟩ := (hS5.below (below_drew1 (Below.refl _ _))).putD HKI.out (x := ((sat cn : Nat) : Int)) (wf_u64 (by omega) (by have := sat_le cn; omega))
          have HD6 : Hid (DoneOk R tk (updF FD6 (nodeK k (-1) i j) ((sat cn : Nat) : Int))) := Lib.hid (g2.put_whole HTo.out)
          have HO6 : Hid (∀ u, updF FO6 (nodeK k (-1) i j) 0 u = some 1 ↔ FO u = some 1) := Lib.hid (fun u => by
            by_cases e : u = nodeK k (-1) i j
            · subst e
              rw [updF_same]
              exact ⟨(fun h => by cases h), (fun h => absurd h HOp.out)⟩
            · rw [updF_other e, g4 u, updF_other e])
          have H6 : Aside0 (WSt w1 w R tk b kb bd bo bk FO w6) := ⟨_, _, _, hS6, HD6.out, g3, HO6.out, ((((HF3.out.trans g5).below (below_drew1 (Below.refl _ _))).grown hg5 (.inr (.inl rfl))).below (below_drew1 (Below.refl _ _))).grown hg6 (.inl rfl)⟩
          clear g1 g2 g3 g4 g5 hS5 hg5 hS6 hg6 n5
          go_wp2
          go_region
          go_wp2
          go_region
          go_wp2
          go_ret
          exact .inl ⟨cn, HTo.out, rfl, H6.out⟩
theorem counted {w1 : World} {R : List (Int × List Int)} {tk : List Int} {t N b : Nat} {AR : Option Addr} {cR : Nat} (hx : CtxC w1 R tk t N b AR cR) (kb bd bo bk : Nat) : ∀ d, PWh w1 R tk N b kb bd bo bk d
  | 0 => cwhole_of hx kb bd bo bk 0 (fun d' h => by omega)
  | d + 1 => cwhole_of hx kb bd bo bk (d + 1) (fun d' h => by
      obtain rfl : d' = d := by omega
      exact crest_of hx kb bd bo bk d' (counted hx kb bd bo bk d'))
end Go.Proofs.YtndimnomkcjeiaaDoor.Hand
/- Contracts of package member: Sets, From, Derives. -/
namespace Go.Proofs.YtndimnomkcjeiaaDoor.Hand
open Go.RowKit Go.Proofs.YtndimnomkcjeiaaDoorW.PrintWords Go.Proofs.YtndimnomkcjeiaaDoorW.PrintMore Go.Proofs.YtndimnomkcjeiaaDoor.Math

theorem charted_err (v : Value) (g : Gr) (At : Option Addr) (ct : Nat) (tk : List Int) (w : World) (A : Nat → Addr) (hE : ErrsW w A) (hv : GramAt w v g) (hlc : tk.length ≤ ct) (hr : Kd.C (Kd.int .i64) w At tk.length tk) (hok : ¬ (mayN g tk).1 = 0) :
    Calls Tryd.prog 32 #[v, .slice At tk.length ct] w fun e w' => ∃ u, e = .returned (.tuple #[.pointer none, u]) ∧ ErrV w' A u (mayN g tk).1 (mayN g tk).2 ∧ Below w.heap.size w w' := by
  have HV := Lib.hid hv
  obtain ⟨AT, cT, AN, cN, AR, cR, rfl, q1, q2, q3, q4, q5, q6⟩ := hv
  have hlen := hr.2.1
  obtain ⟨w1, hw1⟩ : ∃ w1, w.alloc (.cells #[.slice AT g.terms.length cT, .slice AN g.nonterms.length cN, .int .i64 g.ax, .slice AR g.rules.length cR] 25) = w1 := ⟨_, rfl⟩
  have hb1 : Below w.heap.size w w1 := by rw [← hw1]; exact below_alloc (Below.refl _ _) _
  have hk1 : w1.heap[w.heap.size]? = some (.cells #[.slice AT g.terms.length cT, .slice AN g.nonterms.length cN, .int .i64 g.ax, .slice AR g.rules.length cR] 25 (0, 0)) := by rw [← hw1]; exact heap_alloc_new w _
  obtain ⟨c0, c1, c2, c3⟩ := blk_cells2 hk1
  have HB1 := Lib.hid hb1
  have HM := Lib.hid (may_calls _ g At ct tk w1 A (hE.below hb1) (HV.out.below hb1) hlc (Kd.C_below hr hb1))
  have HOK := Lib.hid hok
  clear hb1 hk1 hE q4 q5 q6 hr hok
  go_enter Tryd.func32, Tryd.ntmps32
  go_wp2_with (go_at_call 42; refine HM.out.mono ?_; rintro e w2 ⟨u, rfl, hu, hb2⟩; have HU := Lib.hid hu; have HB2 := Lib.hid hb2; obtain ⟨T, p, hT, rfl⟩ := hu.iface_of HOK.out; clear hu hb2 hT)
  go_ret2
  exact ⟨_, rfl, HU.out, below_next HB1.out HB2.out⟩
/-- What a right chart holds. -/
structure SetsAt (w0 : World) (g : Gr) (tk : List Int) (O : Nat) (Bs : Nat → Nat) (Tn : Nat → Nat → Nat) (w : World) : Prop where
  bel : Below w0.heap.size w0 w
  out : Row w O (tk.length + 1) (fun i => .slice (some ⟨Bs i, 0, none⟩) (tk.length - i + 1) (tk.length - i + 1))
  inn : ∀ i, i ≤ tk.length → Row w (Bs i) (tk.length - i + 1) (fun d => .int .u64 (Tn i (i + d) : Nat))
  lim : ∀ i j, Tn i j < 2 ^ g.nonterms.length
  is : Exact g.rules tk tk.length g.nonterms.length (tabOf Tn)
  hO : w0.heap.size ≤ O
  hB : ∀ i, i ≤ tk.length → w0.heap.size ≤ Bs i ∧ Bs i ≠ O
  inj : ∀ i j, i ≤ tk.length → j ≤ tk.length → Bs i = Bs j → i = j
theorem ChartIs.sets {w0 w : World} {g : Gr} {tk : List Int} {b O : Nat} {Bs : Nat → Nat} (h : ChartIs w0 g.rules tk g.nonterms.length b O Bs (fun a c => a ≤ c ∧ c ≤ tk.length) w) : ∃ Tn, SetsAt w0 g tk O Bs Tn w ∧ w.cell? ⟨b, 5, none⟩ = some (.slice (some ⟨O, 0, none⟩) (tk.length + 1) (tk.length + 1)) := by
  obtain ⟨Tn, h1, h2, h3⟩ := h
  exact ⟨Tn, ⟨h1.bel, h1.out, h1.inn, h1.lim, fun i j k hij hj hk => ⟨h2 i j k hij hj hk, h3 i j ⟨hij, hj⟩ k hk⟩, h1.hO.1, fun i hi => ⟨(h1.hB i hi).1, (h1.hB i hi).2.2⟩, h1.inj⟩, h1.head⟩
def SetsRes (w0 : World) (A : Nat → Addr) (g : Gr) (tk : List Int) (e : Ending) (w' : World) : Prop :=
  (∃ u, e = .returned (.tuple #[.slice none 0 0, u]) ∧ ¬ (mayN g tk).1 = 0 ∧ ErrV w' A u (mayN g tk).1 (mayN g tk).2 ∧ Below w0.heap.size w0 w') ∨
  (∃ O Bs Tn, e = .returned (.tuple #[.slice (some ⟨O, 0, none⟩) (tk.length + 1) (tk.length + 1), .nilIface]) ∧ (mayN g tk).1 = 0 ∧ SetsAt w0 g tk O Bs Tn w')
theorem msets_calls (v : Value) (g : Gr) (At : Option Addr) (ct : Nat) (tk : List Int) (w : World) (A : Nat → Addr) (hE : ErrsW w A) (hv : GramAt w v g) (hlc : tk.length ≤ ct) (hr : Kd.C (Kd.int .i64) w At tk.length tk) :
    Calls Tryd.prog 12 #[v, .slice At tk.length ct] w fun e w' => SetsRes w A g tk e w' := by
  have HV := Lib.hid hv
  obtain ⟨AT, cT, AN, cN, AR, cR, rfl, q1, q2, q3, q4, q5, q6⟩ := hv
  have hlen := hr.2.1
  obtain ⟨w1, hw1⟩ : ∃ w1, w.alloc (.cells #[.slice AT g.terms.length cT, .slice AN g.nonterms.length cN, .int .i64 g.ax, .slice AR g.rules.length cR] 25) = w1 := ⟨_, rfl⟩
  have hb1 : Below w.heap.size w w1 := by rw [← hw1]; exact below_alloc (Below.refl _ _) _
  have hk1 : w1.heap[w.heap.size]? = some (.cells #[.slice AT g.terms.length cT, .slice AN g.nonterms.length cN, .int .i64 g.ax, .slice AR g.rules.length cR] 25 (0, 0)) := by rw [← hw1]; exact heap_alloc_new w _
  obtain ⟨c0, c1, c2, c3⟩ := blk_cells2 hk1
  have HB1 := Lib.hid hb1
  have HE := Lib.hid (hE.below hb1)
  have HG := Lib.hid (HV.out.below hb1)
  have HT := Lib.hid (Kd.C_below hr hb1)
  clear hb1 hk1 hE q4 q5 q6 hr
  by_cases hok : (mayN g tk).1 = 0
  · have HM := Lib.hid (charted_calls _ g At ct tk w1 A HE.out HG.out hlc HT.out hok)
    have HOK := Lib.hid hok
    clear hok
    go_enter Tryd.func12, Tryd.ntmps12
    go_wp2_with (go_at_call 32; refine HM.out.mono ?_; rintro e w2 ⟨b, O, Bs, rfl, hc⟩; obtain ⟨Tn, hs, h5⟩ := hc.sets; have HS := Lib.hid hs; clear hc hs)
    go_ret2
    have hz := HB1.out.size
    exact .inr ⟨O, Bs, Tn, rfl, HOK.out, below_next HB1.out HS.out.bel, HS.out.out, HS.out.inn, HS.out.lim, HS.out.is, Nat.le_trans hz HS.out.hO, fun i hi => ⟨Nat.le_trans hz (HS.out.hB i hi).1, (HS.out.hB i hi).2⟩, HS.out.inj⟩
  · have HM := Lib.hid (charted_err _ g At ct tk w1 A HE.out HG.out hlc HT.out hok)
    have HOK := Lib.hid hok
    clear hok
    go_enter Tryd.func12, Tryd.ntmps12
    go_wp2_with (go_at_call 32; refine HM.out.mono ?_; rintro e w2 ⟨u, rfl, hu, hb2⟩; have HU := Lib.hid hu; have HB2 := Lib.hid hb2; obtain ⟨T, p, hT, rfl⟩ := hu.iface_of HOK.out; clear hu hb2 hT)
    go_ret2
    exact .inl ⟨_, rfl, HOK.out, HU.out, below_next HB1.out HB2.out⟩
open Classical in
/-- Which error From tells; what it answers. -/
noncomputable def fromK (g : Gr) (tk : List Int) (x : Int) : Nat := if (mayN g tk).1 ≠ 0 then (mayN g tk).1 else if x < 0 ∨ (g.nonterms.length : Int) ≤ x then 1 else 0
noncomputable def fromB (g : Gr) (tk : List Int) (x : Int) : Bool := tb (fromK g tk x = 0 ∧ Der g.rules tk x.toNat 0 tk.length)
set_option maxHeartbeats 1000000 in
set_option maxRecDepth 20000 in
theorem mfrom_calls (v : Value) (g : Gr) (At : Option Addr) (ct : Nat) (tk : List Int) (x : Int) (w : World) (A : Nat → Addr) (hE : ErrsW w A) (hv : GramAt w v g) (hlc : tk.length ≤ ct) (hr : Kd.C (Kd.int .i64) w At tk.length tk) :
    Calls Tryd.prog 20 #[v, .int .i64 x, .slice At tk.length ct] w fun e w' => ∃ u r, e = .returned (.tuple #[.bool (fromB g tk x), u]) ∧ ErrV w' A u (fromK g tk x) r ∧ Below w.heap.size w w' := by
  have HV := Lib.hid hv
  obtain ⟨AT, cT, AN, cN, AR, cR, rfl, q1, q2, q3, q4, q5, q6⟩ := hv
  have hlen := hr.2.1
  have l2 := q5.2.1
  obtain ⟨w1, hw1⟩ : ∃ w1, w.alloc (.cells #[.slice AT g.terms.length cT, .slice AN g.nonterms.length cN, .int .i64 g.ax, .slice AR g.rules.length cR] 25) = w1 := ⟨_, rfl⟩
  have hb1 : Below w.heap.size w w1 := by rw [← hw1]; exact below_alloc (Below.refl _ _) _
  have hk1 : w1.heap[w.heap.size]? = some (.cells #[.slice AT g.terms.length cT, .slice AN g.nonterms.length cN, .int .i64 g.ax, .slice AR g.rules.length cR] 25 (0, 0)) := by rw [← hw1]; exact heap_alloc_new w _
  obtain ⟨c0, c1, c2, c3⟩ := blk_cells2 hk1
  have HB1 := Lib.hid hb1
  have HK1 := Lib.hid hk1
  have HE := Lib.hid (hE.below hb1)
  have HG := Lib.hid (HV.out.below hb1)
  have HT := Lib.hid (Kd.C_below hr hb1)
  clear hb1 hk1 hE q4 q5 q6 hr
  by_cases hok : (mayN g tk).1 = 0
  · have HM := Lib.hid (charted_calls _ g At ct tk w1 A HE.out HG.out hlc HT.out hok)
    have hlim : tk.length ≤ 40 ∧ g.nonterms.length ≤ 60 := by
      have h := hok
      unfold mayN at h
      split at h
      · rename_i h2; exact absurd h h2
      · rename_i h0
        have hz := checkN_zero (g := g) (by simpa using h0)
        split at h
        · cases h
        · exact ⟨by omega, by have := hz.size; omega⟩
    obtain ⟨hn, hN⟩ := hlim
    have HOK := Lib.hid hok
    clear hok
    by_cases hx : x < 0 ∨ (g.nonterms.length : Int) ≤ x
    · have HF : Hid (fromK g tk x = 1 ∧ fromB g tk x = false) := Lib.hid (by
        have h1 : fromK g tk x = 1 := by unfold fromK; rw [if_neg (by simp [HOK.out]), if_pos hx]
        exact ⟨h1, tb_no (by rw [h1]; simp)⟩)
      by_cases hx0 : x < 0
      all_goals
        go_enter Tryd.func20, Tryd.ntmps20
        go_wp2_with (go_at_call 32; refine HM.out.mono ?_; rintro e w2 ⟨b, O, Bs, rfl, hc⟩; obtain ⟨Tn, hs, h5⟩ := hc.sets; have HS := Lib.hid hs; obtain ⟨d0, d1, d2, d3⟩ := blk_cells2 (gblk_keep' HK1.out hs.bel); have e0 : w2.cell? ⟨0, 0, none⟩ = some (.iface 143 (.pointer (some (A 0)))) := (HE.out.below hs.bel).cells 0 (by decide); clear hc hs)
        go_quiet (fail)
        go_wp2
        go_ret2
        exact ⟨.iface 143 (.pointer (some (A 0))), -1, by rw [HF.out.2]; rfl, by rw [HF.out.1]; exact .sent 0 (by omega), pw_below_drewN (below_next HB1.out HS.out.bel) _⟩
    · have HF : Hid (fromK g tk x = 0) := Lib.hid (by unfold fromK; rw [if_neg (by simp [HOK.out]), if_neg hx])
      have hx0 : ¬ x < 0 := by omega
      have hx1 : ¬ (g.nonterms.length : Int) ≤ x := by omega
      clear hx
      obtain ⟨n1, hn1⟩ : ∃ n1 : Nat, n1 = tk.length + 1 := ⟨_, rfl⟩
      have hlt1 : 0 < n1 := by omega
      have hlt2 : tk.length < n1 := by omega
      have HN1 := Lib.hid hn1
      clear hn1
      go_enter Tryd.func20, Tryd.ntmps20
      go_wp2_with (first
        | (go_at_call 32; refine HM.out.mono ?_; rintro e w2 ⟨b, O, Bs, rfl, hc⟩; obtain ⟨Tn, hs, h5⟩ := hc.sets; have HS := Lib.hid hs; obtain ⟨d0, d1, d2, d3⟩ := blk_cells2 (gblk_keep' HK1.out hs.bel); have a1 := hs.out.cell 0 (by omega); have a2 := (hs.inn 0 (by omega)).cell tk.length (by omega); rw [Nat.sub_zero] at a1; rw [Nat.zero_add] at a2; rw [← HN1.out] at a1 h5; have h18 : Tn 0 tk.length < 18446744073709551616 := Nat.lt_of_lt_of_le (hs.lim 0 tk.length) (Nat.le_trans (Nat.pow_le_pow_right (by decide) hN) (by decide)); have HCall := Lib.hid (fun W => has_calls (Tn 0 tk.length) h18 x W); clear hc hs h18)
        | (go_at_call 38; refine (HCall.out _).mono ?_; rintro e w' ⟨rfl, n, rfl⟩))
      go_ret2
      have hxx : ((x.toNat : Nat) : Int) = x := Int.toNat_of_nonneg (by omega)
      have hB : fromB g tk x = hasN (Tn 0 tk.length) x := by
        unfold fromB
        rw [HF.out]
        have := HS.out.is 0 tk.length x.toNat (by omega) (Nat.le_refl _) (by omega)
        unfold tabOf at this
        rw [hxx] at this
        exact (tb_bool (by rw [this]; simp)).symm
      exact ⟨.nilIface, -1, by rw [hB]; rfl, by rw [HF.out]; exact .none, pw_below_drewN (below_next HB1.out HS.out.bel) _⟩
  · have HM := Lib.hid (charted_err _ g At ct tk w1 A HE.out HG.out hlc HT.out hok)
    have HOK := Lib.hid hok
    have HF : Hid (fromK g tk x = (mayN g tk).1 ∧ fromB g tk x = false) := Lib.hid (by
      have h1 : fromK g tk x = (mayN g tk).1 := by unfold fromK; rw [if_pos hok]
      exact ⟨h1, tb_no (by rw [h1]; exact fun h => hok h.1)⟩)
    clear hok
    go_enter Tryd.func20, Tryd.ntmps20
    go_wp2_with (go_at_call 32; refine HM.out.mono ?_; rintro e w2 ⟨u, rfl, hu, hb2⟩; have HU := Lib.hid hu; have HB2 := Lib.hid hb2; obtain ⟨T, p, hT, rfl⟩ := hu.iface_of HOK.out; clear hu hb2 hT)
    go_ret2
    exact ⟨.iface T (.pointer p), _, by rw [HF.out.2]; rfl, by rw [HF.out.1]; exact HU.out, below_next HB1.out HB2.out⟩
theorem mderives_calls (v : Value) (g : Gr) (At : Option Addr) (ct : Nat) (tk : List Int) (w : World) (A : Nat → Addr) (hE : ErrsW w A) (hv : GramAt w v g) (hlc : tk.length ≤ ct) (hr : Kd.C (Kd.int .i64) w At tk.length tk) :
    Calls Tryd.prog 18 #[v, .slice At tk.length ct] w fun e w' => ∃ u r, e = .returned (.tuple #[.bool (fromB g tk g.ax), u]) ∧ ErrV w' A u (fromK g tk g.ax) r ∧ Below w.heap.size w w' := by
  have HV := Lib.hid hv
  obtain ⟨AT, cT, AN, cN, AR, cR, rfl, q1, q2, q3, q4, q5, q6⟩ := hv
  have hlen := hr.2.1
  obtain ⟨w1, hw1⟩ : ∃ w1, w.alloc (.cells #[.slice AT g.terms.length cT, .slice AN g.nonterms.length cN, .int .i64 g.ax, .slice AR g.rules.length cR] 25) = w1 := ⟨_, rfl⟩
  have hb1 : Below w.heap.size w w1 := by rw [← hw1]; exact below_alloc (Below.refl _ _) _
  have hk1 : w1.heap[w.heap.size]? = some (.cells #[.slice AT g.terms.length cT, .slice AN g.nonterms.length cN, .int .i64 g.ax, .slice AR g.rules.length cR] 25 (0, 0)) := by rw [← hw1]; exact heap_alloc_new w _
  obtain ⟨c0, c1, c2, c3⟩ := blk_cells2 hk1
  have HB1 := Lib.hid hb1
  have HM := Lib.hid (mfrom_calls _ g At ct tk g.ax w1 A (hE.below hb1) (HV.out.below hb1) hlc (Kd.C_below hr hb1))
  clear hb1 hk1 hE q4 q5 q6 hr
  go_enter Tryd.func18, Tryd.ntmps18
  go_wp2_with (go_at_call 20; refine HM.out.mono ?_; rintro e w2 ⟨u, r, rfl, hu, hb2⟩; have HU := Lib.hid hu; have HB2 := Lib.hid hb2; clear hu hb2)
  go_ret2
  exact ⟨u, r, rfl, HU.out, below_next HB1.out HB2.out⟩
end Go.Proofs.YtndimnomkcjeiaaDoor.Hand
