/- The texts that the statement's proof stands on, part 3: XPlRead XPlReadC XKinds XHd XOpens XPlThere. -/
import Derived.Test.YtcikcnkhcfhomaaDoorZPlanThere2
import Derived.Lib.IndexBytes
import Derived.Deep.Slices
import Derived.ChangeSame
import Derived.SizedLaws
import Derived.Lib.SmallJoins
/- Contracts: plan.Read. -/
namespace Go.Proofs.YtcikcnkhcfhomaaDoor.Hand
open Go.RowKit Go.Proofs.YtcikcnkhcfhomaaDoorW.PrintWords Go.Proofs.YtcikcnkhcfhomaaDoorW.PrintMore Go.Proofs.YtcikcnkhcfhomaaDoor.Math

theorem wrong_calls (i : Int) (w : World) (Ae : Nat → Addr) (hE : ErrsL [1] w Ae) : Calls Tryd.prog 46 #[.int .i64 i] w fun e w' => ∃ pb, e = .returned (.tuple #[.int .i64 0, .slice none 0 0, .iface 70 (.pointer (some ⟨pb, 0, none⟩))]) ∧ w'.cell? ⟨pb, 0, none⟩ = some (.int .i64 i) ∧ w'.cell? ⟨pb, 1, none⟩ = some (.iface 133 (.pointer (some (Ae 1)))) ∧ w.heap.size ≤ pb ∧ Below w.heap.size w w' := by
  have e1 := hE.cells 1 (by decide)
  simp only [GE, List.getD_cons_zero, List.getD_cons_succ] at e1
  clear hE
  go_enter Tryd.func46, Tryd.ntmps46
  go_wp2
  go_region
  go_wp2
  go_ret3
  exact ⟨w.heap.size, rfl, by simp [go_sem], by simp [go_sem], Nat.le_refl _, below_drew (below_alloc (Below.refl _ _) _)⟩
def nI (x : Nat × Nat) : Int × Int := ((x.1 : Int), (x.2 : Int))
def oI (l : List Nat) : List Int := l.map (fun x : Nat => (x : Int))
/-- What plan.Read answers: the pieces, the order, the error's kind, its place. -/
def rdR (s : ByteArray) : Option Res := if 1048576 < s.size then none else some (readR s.data.toList)
def rdM (s : ByteArray) : Nat := match rdR s with | some (.ok m _) => m | _ => 0
def rdO (s : ByteArray) : List Int := match rdR s with | some (.ok _ o) => oI o | _ => []
def rdE (s : ByteArray) : Nat := match rdR s with | some (.ok _ _) => 0 | some (.bad _) => 2 | none => 1
def rdP (s : ByteArray) : Int := match rdR s with | some (.bad i) => (i : Int) | _ => -1
/-- The error's place, as ErrV has it. -/
def rdQ (s : ByteArray) : Int := match rdR s with | some (.bad i) => -2 - (i : Int) | _ => -1
theorem infoOp : (Tryd.prog.info? 76).map (fun i => (i.zero, i.size, i.bytes)) = some (some (.agg #[.int .i64 0, .int .i64 0]), 2, 16) := by kernel_rfl
/-- The memory of Read's loop. -/
structure RdSt (w0 w : World) (t : List UInt8) (R : Res) (l o : Value) (s : RSt) : Prop where
  two : TwoR K2 76 (Kd.int .i64) 3 w0 w l o (s.l.map nI) (oI s.o)
  run : Run t s R
  st : ∀ x ∈ s.l, x.1 ≤ 1 ∧ x.2 ≤ s.i
  bi : s.i ≤ t.length
  bp : s.p ≤ s.i
  bm : s.m ≤ s.i
  bl : s.l.length ≤ s.i
  bo : s.o.length ≤ s.i
/-- What Read leaves, by its answer. -/
def RdPost (w0 : World) (Ae : Nat → Addr) (R : Res) (e : Ending) (w' : World) : Prop :=
  (match R with
   | .ok m o => ∃ v, e = .returned (.tuple #[.int .i64 (m : Int), v, .nilIface]) ∧ RC (Kd.int .i64) 3 w' w0.heap.size v (oI o)
   | .bad i => ∃ pb, e = .returned (.tuple #[.int .i64 0, .slice none 0 0, .iface 70 (.pointer (some ⟨pb, 0, none⟩))]) ∧ w'.cell? ⟨pb, 0, none⟩ = some (.int .i64 (i : Int)) ∧ w'.cell? ⟨pb, 1, none⟩ = some (.iface 133 (.pointer (some (Ae 1))))) ∧ Below w0.heap.size w0 w'
theorem u8_is {x c : UInt8} : x = c ↔ (x.toNat : Int) = (c.toNat : Int) := by
  rw [Int.natCast_inj, UInt8.toNat_inj]
theorem RC.cutN {α : Type} {d : Kd α} {e base n cap : Nat} {w : World} {A : Option Addr} {xs : List α} (h : d.R e w base (fun _ => True) (.slice A n cap) xs) (hn : xs.length = n) : RC d e w base (.slice A n n) xs := by
  subst hn; exact RC.cut h
theorem hp_step {s D : ByteArray} {i k : Nat} (hk : k < D.size) : Lib.hasPrefix (s.extract i s.size).data.toList (D.extract k (k + 1)).data.toList = decide (s.data.toList[i]? = D.data.toList[k]?) := by
  have hkl : k < D.data.toList.length := by rw [Array.length_toList]; exact hk
  rw [Lib.extract_to_end, Lib.extract_data, show k + 1 - k = 1 by omega, List.drop_eq_getElem_cons hkl, List.take_succ_cons, List.take_zero, List.getElem?_eq_getElem hkl]
  unfold Lib.hasPrefix
  rcases Nat.lt_or_ge i s.data.toList.length with h | h
  · rw [List.drop_eq_getElem_cons h, List.getElem?_eq_getElem h]
    have e2 : List.isPrefixOf [D.data.toList[k]] (s.data.toList[i] :: s.data.toList.drop (i + 1)) = (D.data.toList[k] == s.data.toList[i]) := by simp [List.isPrefixOf]
    rw [e2, Bool.eq_iff_iff, beq_iff_eq, decide_eq_true_iff, Option.some.injEq]
    exact eq_comm
  · rw [List.drop_of_length_le h, List.getElem?_eq_none h]
    simp [List.isPrefixOf]
theorem R_head {α : Type} {d : Kd α} {e base n cap : Nat} {ok : Nat → Prop} {w : World} {ad : Addr} {xs : List α} (h : d.R e w base ok (.slice (some ad) n cap) xs) : ∃ g, ad = ⟨g, 0, none⟩ := by
  obtain ⟨inner, ho⟩ := Kd.R_own h
  rcases ho.2 with ⟨hv, _⟩ | ⟨g, cap', cur, hv, _⟩
  · cases hv
  · injection hv with ha _ _
    injection ha with ha
    exact ⟨g, ha⟩
theorem size1i : (Tryd.prog.info? 3).map (·.size) = some 1 := by
  obtain ⟨i, hi, hz⟩ := Option.map_eq_some_iff.1 infoInt
  rw [hi]
  simp only [Prod.mk.injEq] at hz
  simp [hz.2.1]
theorem getLast_snoc {α : Type} (l : List α) (x : α) : (l ++ [x]).getLast? = some x := by simp
theorem snoc_of {α : Type} {l : List α} (h : l ≠ []) : ∃ l0 x, l = l0 ++ [x] := ⟨l.dropLast, l.getLast h, (List.dropLast_concat_getLast h).symm⟩
set_option maxHeartbeats 4000000 in
set_option maxRecDepth 100000 in
theorem read_loop (txt : ByteArray) (w : World) (Ae : Nat → Addr) (hE : ErrsL [1] w Ae) (hP : Pow10 w) (hz : txt.size ≤ 1048576) :
    Calls Tryd.prog 30 #[.string txt] w (RdPost w Ae (readR txt.data.toList)) := by
  have HE := Lib.hid hE
  have HP := Lib.hid hP
  obtain ⟨t, ht⟩ : ∃ t, txt.data.toList = t := ⟨_, rfl⟩
  have htl : t.length = txt.size := by rw [← ht, Array.length_toList]; rfl
  obtain ⟨R, hR⟩ : ∃ R, readR t = R := ⟨_, rfl⟩
  rw [ht, hR]
  have HS0 : Hid (RdSt w w t R (.slice none 0 0) (.slice none 0 0) ⟨[], true, 0, 0, 0, []⟩) := Lib.hid
    ⟨⟨Kd.R_nil _ _ _ _ _, Kd.R_nil _ _ _ _ _, disj_nil _, Below.refl _ _⟩, by rw [← hR]; exact run_read t, fun x hx => absurd hx List.not_mem_nil, Nat.zero_le _, Nat.le_refl 0, Nat.le_refl 0, Nat.le_refl 0, Nat.le_refl 0⟩
  have HWr : Hid (∀ (i : Nat) (W : World), Below w.heap.size w W → R = .bad i → Calls Tryd.prog 46 #[.int .i64 i] W fun e w' => ∃ pb, e = .returned (.tuple #[.int .i64 0, .slice none 0 0, .iface 70 (.pointer (some ⟨pb, 0, none⟩))]) ∧ RdPost w Ae R e w') := Lib.hid (fun i W hW hr => (wrong_calls (i : Int) W Ae (HE.out.below hW)).mono (by
    rintro e w' ⟨pb, rfl, c0, c1, -, hb⟩
    exact ⟨pb, rfl, by rw [hr]; exact ⟨⟨pb, rfl, c0, c1⟩, below_next hW hb⟩⟩))
  have HT := Lib.hid ht
  have HTl := Lib.hid htl
  have HByte : Hid (∀ (i : Nat), i < txt.size → ∃ x : UInt8, t[i]? = some x ∧ ∀ h : i < txt.size, ((txt[i]'h).toNat : Int) = (x.toNat : Int)) := Lib.hid (fun i hi => by
    refine ⟨txt[i], ?_, fun h => rfl⟩
    rw [← ht, List.getElem?_eq_getElem (by rw [Array.length_toList]; exact hi)]
    rfl)
  clear hE hP ht htl hR
  have hbig : ¬ (1048576 : Int) < (txt.size : Int) := by omega
  go_enter Tryd.func30, Tryd.ntmps30
  go_wp2
  go_loopw [6, 7, 8, 9, 10, 11] (fun lv ov mv iv pv bv wr => ∃ (sl : List (Nat × Nat)) (sb : Bool) (si sm sp : Nat) (so : List Nat) (l o : Value), mv = .int .i64 sm ∧ iv = .int .i64 si ∧ pv = .int .i64 sp ∧ bv = .bool sb ∧ si ≤ txt.size ∧ l = lv ∧ o = ov ∧ Hid (RdSt w wr t R l o ⟨sl, sb, si, sm, sp, so⟩)) (fun _ _ _ iv _ _ _ => 2 * txt.size + 2 - (intOf iv).toNat)
  case atStart => exact ⟨[], true, 0, 0, 0, [], _, _, rfl, rfl, rfl, rfl, by omega, rfl, rfl, HS0⟩
  case round =>
    obtain ⟨sl, sb, si, sm, sp, so, l, o, rfl, rfl, rfl, rfl, hi, rfl, rfl, HS⟩ := hrel
    obtain ⟨wo, rfl⟩ : ∃ wo : World, wo = wr := ⟨_, rfl⟩
    obtain ⟨A1, c1, rfl, hc1, hC1⟩ := (RC.of_R HS.out.two.a).form (n := sl.length) (by simp)
    obtain ⟨A2, c2, rfl, hc2, hC2⟩ := (RC.of_R HS.out.two.b).form (n := so.length) (by simp [oI])
    have hbp : sp ≤ si := HS.out.bp
    have hbm : sm ≤ si := HS.out.bm
    have hbl : sl.length ≤ si := HS.out.bl
    have hbo : so.length ≤ si := HS.out.bo
    have HO := Lib.hid (Kd.R_reads' HS.out.two.b)
    clear hC2
    by_cases hA : sb = false ∧ sl = []
    · obtain ⟨rfl, rfl⟩ := hA
      by_cases hlt : si < txt.size
      · have hr : R = .bad si := HS.out.run.to_stop (by unfold stepR; simp [HTl.out, hlt])
        have HCl := Lib.hid (HWr.out si wo HS.out.two.bel hr)
        clear hr
        go_wp2_with (go_at_call 46; refine HCl.out.mono ?_; rintro e w1 ⟨pb, rfl, hp⟩; have HPs := Lib.hid hp; clear hp)
        go_ret3
        exact HPs.out
      · obtain rfl : si = txt.size := by omega
        have HRr : Hid (R = .ok sm so) := Lib.hid (HS.out.run.to_stop (by unfold stepR; simp [HTl.out]))
        go_upto_region 11 with (fail)
        go_region
        go_wp2
        go_ret3
        refine (show RdPost w Ae R _ _ from ?_)
        rw [HRr.out]
        exact ⟨⟨_, rfl, RC.cutN (Kd.R_drew HS.out.two.b) (by simp [oI])⟩, below_drew HS.out.two.bel⟩
    · have hcase : sb = true ∨ (sb = false ∧ ∃ (l0 : List (Nat × Nat)) (k a : Nat), sl = l0 ++ [(k, a)]) := by
        cases sb with
        | true => exact .inl rfl
        | false =>
          obtain ⟨l0, ⟨k, a⟩, h⟩ := snoc_of (fun h => hA ⟨rfl, h⟩ : sl ≠ [])
          exact .inr ⟨rfl, l0, k, a, h⟩
      clear hA
      by_cases hlt : si < txt.size
      · obtain ⟨x, hx, hrule⟩ := HByte.out si hlt
        obtain ⟨X, hX⟩ : ∃ X : Int, (x.toNat : Int) = X := ⟨_, rfl⟩
        rw [hX] at hrule
        have HX := Lib.hid hx
        have HXi := Lib.hid hX
        have hne : ((si : Int) == (txt.size : Int)) = false := by simp; omega
        have h0i : ¬ txt.size ≤ si := by omega
        clear hx hX
        rcases hcase with rfl | ⟨rfl, l0, k, a, rfl⟩
        · by_cases h40 : X = 40
          · have h40x : x = 40 := u8_is.2 (by rw [HXi.out, h40]; rfl)
            have hs : stepR t ⟨sl, true, si, sm, sp, so⟩ = .inl ⟨sl ++ [(0, sp)], true, si + 1, sm, sp, so⟩ := by
              unfold stepR
              simp [HX.out, h40x, HTl.out, h0i]
            have HRun := Lib.hid (HS.out.run.to_next hs)
            have hX40 : (X == 40) = true := by simp [h40]
            clear hs h40x h40 hC1
            have hml : (sl.map nI).length = sl.length := by simp
            have HML := Lib.hid hml
            clear hml
            go_wp2_with ((with_reducible refine gate_builtin (b := .append) (xs := #[.tmp 69, .tmp 72]) rfl ?_); at_builtin; go_loud (refine Kd.R_append K2 (w0 := w) w.heap.size rfl (.tmp 69) (.tmp 72) 74 76 (.agg #[.int .i64 0, .int .i64 0]) 16 rfl Tryd.underlying74 infoOp rfl (by decide) (by omega) (.slice A1 sl.length c1) (sl.map nI) ((0 : Int), (sp : Int)) [.int .i64 0, .int .i64 (sp : Int)] (fun _ => True) (fun _ => False) rfl rfl ⟨[.int .i64 0], [.int .i64 (sp : Int)], rfl, rfl, rfl⟩ (fun _ hk => hk.elim) (fun _ _ => trivial) HS.out.two.a HS.out.two.bel HS.out.two.bel.size (by rw [HML.out]; omega) ?_); intro v1 w1 ho hb hg hat; (have HT1 := Lib.hid (HS.out.two.putA rfl ho hb hg hat); clear ho hb hg hat))
            have HN : Hid (RdSt w w1 t R v1 (.slice A2 so.length c2) ⟨sl ++ [(0, sp)], true, si + 1, sm, sp, so⟩) := Lib.hid (by
              refine ⟨by rw [List.map_append]; exact HT1.out, HRun.out, fun y hy => ?_, ?_, ?_, ?_, ?_, ?_⟩
              · rcases List.mem_append.1 hy with h | h
                · have := HS.out.st y h
                  exact ⟨this.1, Nat.le_succ_of_le this.2⟩
                · rw [List.mem_singleton.1 h]
                  exact ⟨Nat.zero_le 1, Nat.le_succ_of_le hbp⟩
              · show si + 1 ≤ t.length
                rw [HTl.out]; omega
              · exact Nat.le_succ_of_le hbp
              · exact Nat.le_succ_of_le hbm
              · show (sl ++ [(0, sp)]).length ≤ si + 1
                simp; omega
              · exact Nat.le_succ_of_le hbo)
            go_roundw
            case rel => exact ⟨_, true, si + 1, sm, sp, so, _, _, rfl, by go_num, rfl, rfl, by omega, rfl, rfl, HN⟩
            case measure => simp [intOf]; omega
          · have hX40 : (X == 40) = false := by simp [h40]
            have h40x : ¬ t[si]? = some 40 := by
              rw [HX.out]
              intro h
              injection h with h
              exact h40 (by rw [← HXi.out, h]; rfl)
            obtain ⟨ds, hds⟩ : ∃ ds, Lib.decDigits sm = ds := ⟨_, rfl⟩
            have HRt : Hid ((matchF t si ds).1 = true → Run t ⟨sl, false, (matchF t si ds).2, sm + 1, sp + 1, so⟩ R) := Lib.hid (fun h => HS.out.run.to_next (by
              unfold stepR
              simp [h40x, HTl.out, h0i, hds, h]))
            have HRf : Hid ((matchF t si ds).1 = false → R = .bad (matchF t si ds).2) := Lib.hid (fun h => HS.out.run.to_stop (by
              unfold stepR
              simp [h40x, HTl.out, h0i, hds, h]))
            have HItoa := Lib.hid (itoa_calls sm (by omega) wo (HP.out.below HS.out.two.bel))
            obtain ⟨D, hD⟩ : ∃ D, decB sm = D := ⟨_, rfl⟩
            have hDz : D.size ≤ 7 := by rw [← hD]; exact decB_size (k := 6) (by omega)
            have hDl : D.data.toList = ds := by rw [← hD, ← hds]; rfl
            have hDp : 0 < D.size := by
              have := decDigits_pos sm
              rw [hds, ← hDl, Array.length_toList] at this
              exact this
            rw [hD] at HItoa
            have HDl := Lib.hid hDl
            have HDs := Lib.hid hds
            have HM0 : Hid (matchF t si ds = matchF t (si + 0) (ds.drop 0)) := Lib.hid (by simp)
            clear h40 h40x hds hD hDl hC1
            go_wp2_with (go_at_call 44; refine HItoa.out.mono ?_; rintro e w1 ⟨rfl, hb⟩; have HT1 := Lib.hid (HS.out.two.below hb); clear hb)
            go_loopw [82] (fun x wr => ∃ k : Nat, x = .int .i64 k ∧ k ≤ D.size ∧ si + k ≤ txt.size ∧ Hid (∃ d, wr = w1.drewN d) ∧ Hid (matchF t si ds = matchF t (si + k) (ds.drop k))) (fun x _ => D.size - (intOf x).toNat)
            case atStart => exact ⟨0, rfl, by omega, by omega, Lib.hid ⟨0, rfl⟩, HM0⟩
            case round =>
              obtain ⟨k, rfl, hk, hik, HW, HM⟩ := hrel
              by_cases hkl : k < D.size
              · obtain ⟨b, hb⟩ : ∃ b, Lib.hasPrefix (txt.extract (si + k) txt.size).data.toList (D.extract k (k + 1)).data.toList = b := ⟨_, rfl⟩
                have HPf : Hid (∀ W, Quiet 47 #[.string (txt.extract (si + k) txt.size), .string (D.extract k (k + 1))] W (.bool b)) := Lib.hid (fun W => by
                  rw [← hb]; exact (Tryd.strings_HasPrefix _ _ W).mono (fun e w' h => ⟨h.1, 0, h.2⟩))
                have hBt := (hp_step (s := txt) (i := si + k) hkl).symm.trans hb
                rw [HT.out, HDl.out] at hBt
                have HBt := Lib.hid hBt
                clear hb hBt
                have hs1 : IntKind.i64.wrap ((si : Int) + (k : Int)) = (si : Int) + (k : Int) := IntWalk.i64_in _ (by omega)
                have hs2 : IntKind.i64.wrap ((k : Int) + 1) = (k : Int) + 1 := IntWalk.i64_in _ (by omega)
                have hs3 : min ((si : Int) + (k : Int)) (txt.size : Int) = (si : Int) + (k : Int) := Int.min_eq_left (by omega)
                have hs4 : ((si : Int) + (k : Int)).toNat = si + k := by omega
                have hs5 : ((k : Int) + 1).toNat = k + 1 := by omega
                have hs6 : (k : Int) + 1 ≤ (D.size : Int) := by omega
                have hs7 : (0 : Int) ≤ (k : Int) := by omega
                have hs8 : (k : Int) ≤ (k : Int) + 1 := by omega
                have hs9 : (0 : Int) ≤ (k : Int) + 1 := by omega
                have hs10 : (si : Int) + (k : Int) ≤ (txt.size : Int) := by omega
                have hs11 : (0 : Int) ≤ (si : Int) + (k : Int) := by omega
                go_upto_region 24 with (fail)
                go_quiet ((go_at_call 47; exact Calls.quiet_of (HPf.out _)))
                cases b with
                | true =>
                  have hb1 := of_decide_eq_true HBt.out
                  have hkd : k < ds.length := by rw [← HDl.out, Array.length_toList]; exact hkl
                  have hsl : si + k < t.length := by rw [List.getElem?_eq_getElem hkd] at hb1; exact some_lt hb1
                  rw [HTl.out] at hsl
                  have HM2 : Hid (matchF t si ds = matchF t (si + (k + 1)) (ds.drop (k + 1))) := Lib.hid (by
                    rw [HM.out, List.drop_eq_getElem_cons hkd, matchF, if_pos (by rw [hb1, List.getElem?_eq_getElem hkd])]
                    rfl)
                  clear hs1 hs2 hs3 hs4 hs5 hs6 hs7 hs8 hs9 hs10 hs11 hb1
                  go_wp2
                  go_roundw
                  case rel => exact ⟨k + 1, by go_num, by omega, by omega, Lib.hid (by obtain ⟨d, e⟩ := HW.out; exact ⟨_, by rw [e, World.drewN_drewN]⟩), HM2⟩
                  case measure => simp [intOf]; omega
                | false =>
                  have hb1 := of_decide_eq_false HBt.out
                  have hkd : k < ds.length := by rw [← HDl.out, Array.length_toList]; exact hkl
                  have hm : matchF t si ds = (false, si + k) := by
                    rw [HM.out, List.drop_eq_getElem_cons hkd, matchF, if_neg (by rw [List.getElem?_eq_getElem hkd] at hb1; exact hb1)]
                  have hbw : Below w.heap.size w (wr.drewN nq) := by
                    obtain ⟨d, e⟩ := HW.out
                    rw [e]
                    exact pw_below_drewN (pw_below_drewN HT1.out.bel _) _
                  have hr : R = .bad (si + k) := by
                    have := HRf.out (by rw [hm])
                    rw [hm] at this
                    exact this
                  have HCl := HWr.out (si + k) (wr.drewN nq) hbw hr
                  rw [show ((si + k : Nat) : Int) = (si : Int) + (k : Int) by omega] at HCl
                  have HCl := Lib.hid HCl
                  clear hb1 hm hbw hr hkd
                  go_wp2_with (go_at_call 46; refine HCl.out.mono ?_; rintro e w2 ⟨pb, rfl, hp⟩; have HPs := Lib.hid hp; clear hp)
                  go_ret3
                  exact HPs.out
              · obtain rfl : k = D.size := by omega
                have hm : matchF t si ds = (true, si + D.size) := by
                  rw [HM.out, List.drop_of_length_le (by rw [← HDl.out, Array.length_toList]; exact Nat.le_refl _), matchF]
                have hrun : Run t ⟨sl, false, si + D.size, sm + 1, sp + 1, so⟩ R := by
                  have := HRt.out (by rw [hm])
                  rw [hm] at this
                  exact this
                have hbw : Below w1.heap.size w1 wr := by
                  obtain ⟨d, e⟩ := HW.out
                  rw [e]
                  exact pw_below_drewN (Below.refl _ _) _
                have HN : Hid (RdSt w wr t R (.slice A1 sl.length c1) (.slice A2 so.length c2) ⟨sl, false, si + D.size, sm + 1, sp + 1, so⟩) := Lib.hid (by
                  refine ⟨HT1.out.below hbw, hrun, fun y hy => ?_, ?_, ?_, ?_, ?_, ?_⟩
                  · have := HS.out.st y hy
                    exact ⟨this.1, Nat.le_trans this.2 (Nat.le_add_right _ _)⟩
                  · show si + D.size ≤ t.length
                    rw [HTl.out]; exact hik
                  · show sp + 1 ≤ si + D.size
                    omega
                  · show sm + 1 ≤ si + D.size
                    omega
                  · exact Nat.le_trans hbl (Nat.le_add_right _ _)
                  · exact Nat.le_trans hbo (Nat.le_add_right _ _))
                clear hm hrun hbw
                go_wp2
                go_roundw
                case rel => exact ⟨sl, false, si + D.size, sm + 1, sp + 1, so, _, _, by go_num, by go_num, by go_num, rfl, hik, rfl, rfl, HN⟩
                case measure => simp [intOf]; omega
        · obtain ⟨q, hq⟩ : ∃ q, l0.length = q := ⟨_, rfl⟩
          have hlen : (l0 ++ [(k, a)]).length = q + 1 := by simp [hq]
          have hst := HS.out.st (k, a) (by simp)
          have hk1 : k ≤ 1 := hst.1
          have hasi : a ≤ si := hst.2
          rw [hlen] at hc1 hbl
          obtain ⟨ad, y0, y1, rfl, hy0, hy1, HY⟩ := at_K2 hC1 q (by simp [hq])
          obtain ⟨rfl, rfl⟩ : y0 = (k : Int) ∧ y1 = (a : Int) := by
            have := HY.out
            rw [List.getD_eq_getElem?_getD, List.map_append, List.getElem?_append_right (by simp [hq])] at this
            simp [hq, nI] at this
            exact ⟨this.1.symm, this.2.symm⟩
          have hRl := HS.out.two.a
          rw [hlen] at hRl
          have HRl := Lib.hid hRl
          have HLen := Lib.hid hlen
          have HQ := Lib.hid hq
          have hl0 : ((q : Int) + 1 == 0) = false := by simp; omega
          have hix : (q : Int) + 1 - 1 = (q : Int) := by omega
          rw [hlen]
          clear hlen hq hst hC1 hRl HY
          have HDef : Hid ((¬ (k = 0 ∧ x = 32)) → (¬ (k = 1 ∧ x = 41)) → R = .bad si) := Lib.hid (fun h1 h2 => HS.out.run.to_stop (by
            unfold stepR
            simp [HX.out, HTl.out, h0i]
            rw [if_neg (by simpa using h1), if_neg (by simpa using h2)]))
          have hX32 : x = 32 ↔ X = 32 := by rw [u8_is, HXi.out]; exact Iff.rfl
          have hX41 : x = 41 ↔ X = 41 := by rw [u8_is, HXi.out]; exact Iff.rfl
          by_cases d1 : k = 0 ∧ X = 32
          · obtain ⟨rfl, rfl⟩ := d1
            have hs : stepR t ⟨l0 ++ [(0, a)], false, si, sm, sp, so⟩ = .inl ⟨l0 ++ [(1, a)], true, si + 1, sm, sp, so⟩ := by
              unfold stepR
              simp [HX.out, hX32.2 rfl, HTl.out, h0i]
            have HRun := Lib.hid (HS.out.run.to_next hs)
            clear hs hX32 hX41
            obtain ⟨g, rfl⟩ := R_head HRl.out
            rw [add_plain] at hy0 hy1
            have HCC : Hid (∀ (j : Nat) (u : Value), [Value.int .i64 0, Value.int .i64 (a : Int)][j]? = some u → wo.cell? ⟨g, (q : Int).toNat * K2.sz + j, none⟩ = some u) := Lib.hid (fun j u hu => by
              rw [Int.toNat_natCast, show K2.sz = 2 from rfl]
              match j, hu with
              | 0, hu => simp at hu; subst hu; exact hy0
              | 1, hu => simp at hu; subst hu; exact hy1
              | j + 2, hu => simp at hu)
            go_upto_region 32 with (fail)
            clear hy0 hy1
            go_wp2_with (refine gate_ (.store 3 (.tmp 138) (.const (.int .i64 1))) rfl ?_; go_loud (refine Kd.R_store K2 (w0 := w) w.heap.size rfl rfl 3 (.tmp 138) (.const (.int .i64 1)) rfl 76 (g := g) (n := q + 1) (cap := c1) (o' := q * 2) (q : Int) 0 ((l0 ++ [(0, a)]).map nI) (1, (a : Int)) (.int .i64 1) [.int .i64 1] [.int .i64 0, .int .i64 (a : Int)] (fun _ => True) (fun _ => False) rfl rfl rfl rfl size1i (by simp [Value.oneCell']) HRl.out (by omega) (by omega) rfl HCC.out (by decide) ⟨[.int .i64 1], [.int .i64 (a : Int)], rfl, rfl, rfl⟩ (fun _ hk => hk.elim) HS.out.two.bel ?_); intro w1 ho hb hg; have HT1 := Lib.hid (HS.out.two.putA rfl ho hb (by rw [HLen.out]; exact hg) (.inl (by rw [HLen.out]))); clear ho hb hg)
            have HN : Hid (RdSt w w1 t R (.slice (some ⟨g, 0, none⟩) (q + 1) c1) (.slice A2 so.length c2) ⟨l0 ++ [(1, a)], true, si + 1, sm, sp, so⟩) := Lib.hid (by
              refine ⟨?_, HRun.out, fun y hy => ?_, ?_, ?_, ?_, ?_, ?_⟩
              · have h := HT1.out
                rw [Int.toNat_natCast, List.map_append, List.set_append_right _ _ (by simp [HQ.out]), List.length_map, HQ.out, Nat.sub_self] at h
                rw [List.map_append]
                exact h
              · rcases List.mem_append.1 hy with h | h
                · have := HS.out.st y (List.mem_append_left _ h)
                  exact ⟨this.1, Nat.le_succ_of_le this.2⟩
                · rw [List.mem_singleton.1 h]
                  exact ⟨Nat.le_refl 1, Nat.le_succ_of_le hasi⟩
              · show si + 1 ≤ t.length
                rw [HTl.out]; omega
              · exact Nat.le_succ_of_le hbp
              · exact Nat.le_succ_of_le hbm
              · show (l0 ++ [(1, a)]).length ≤ si + 1
                simp [HQ.out]; omega
              · exact Nat.le_succ_of_le hbo)
            go_roundw
            case rel => exact ⟨l0 ++ [(1, a)], true, si + 1, sm, sp, so, _, _, rfl, by go_num, rfl, rfl, by omega, rfl, rfl, HN⟩
            case measure => simp [intOf]; omega
          · by_cases d2 : k = 1 ∧ X = 41
            · obtain ⟨rfl, rfl⟩ := d2
              have hs : stepR t ⟨l0 ++ [(1, a)], false, si, sm, sp, so⟩ = .inl ⟨l0, false, si + 1, sm, a + 1, so ++ [a]⟩ := by
                unfold stepR
                simp [HX.out, hX41.2 rfl, HTl.out, h0i]
              have HRun := Lib.hid (HS.out.run.to_next hs)
              clear hs hX32 hX41 d1
              have hy32 : ((41 : Int) == 32) = false := by decide
              go_upto_region 37 with (fail)
              obtain ⟨w1, hw1⟩ : ∃ w1, wo.alloc (.cells #[.int .i64 1, .int .i64 (a : Int)] 76) = w1 := ⟨_, rfl⟩
              rw [hw1]
              have hb1 : Below wo.heap.size wo w1 := by rw [← hw1]; exact below_alloc (Below.refl _ _) _
              have q1 : w1.cell? ⟨wo.heap.size, 1, none⟩ = some (.int .i64 (a : Int)) := by rw [← hw1]; simp [go_sem]
              have hT1 := HS.out.two.below hb1
              have hA1 := Kd.R_take (m := q) hT1.a (by simp [HQ.out])
              rw [List.map_append, List.take_left' (by simp [HQ.out])] at hA1
              have hT2 : TwoR K2 76 (Kd.int .i64) 3 w w1 (.slice (some ad) q c1) (.slice A2 so.length c2) (l0.map nI) (oI so) := ⟨hA1, hT1.b, hT1.dj, hT1.bel⟩
              have HT2 := Lib.hid hT2
              have hol : (oI so).length = so.length := by simp [oI]
              have HOl := Lib.hid hol
              clear hw1 hb1 hT1 hA1 hT2 hy0 hy1 hol
              go_upto_region 39 with ((with_reducible refine gate_builtin (b := .append) (xs := #[.tmp 165, .tmp 168]) rfl ?_); at_builtin; go_loud (refine Kd.R_append (Kd.int .i64) (w0 := w) w.heap.size rfl (.tmp 165) (.tmp 168) 22 3 (.int .i64 0) 8 rfl Tryd.underlying22 infoInt rfl (by decide) (by omega) (.slice A2 so.length c2) (oI so) ((a : Int)) [.int .i64 (a : Int)] (fun _ => True) (fun _ => False) rfl rfl rfl (fun _ hk => hk.elim) (fun _ _ => trivial) HT2.out.b HT2.out.bel HT2.out.bel.size (by rw [HOl.out]; omega) ?_); intro v3 w3 ho hb hg hat; (have HT3 := Lib.hid (HT2.out.putB rfl ho hb hg hat); have q3 : w3.cell? ⟨wo.heap.size, 1, none⟩ = some (.int .i64 (a : Int)) := cell_grown hg q1 (by have := (RC.of_R HS.out.two.b).lt; intro h; exact Nat.lt_irrefl _ (this _ h.symm).2); clear ho hb hg hat q1))
              have HN : Hid (RdSt w w3 t R (.slice (some ad) q c1) v3 ⟨l0, false, si + 1, sm, a + 1, so ++ [a]⟩) := Lib.hid (by
                refine ⟨?_, HRun.out, fun y hy => ?_, ?_, ?_, ?_, ?_, ?_⟩
                · have h := HT3.out
                  unfold oI at h ⊢
                  rw [List.map_append]
                  exact h
                · have := HS.out.st y (List.mem_append_left _ hy)
                  exact ⟨this.1, Nat.le_succ_of_le this.2⟩
                · show si + 1 ≤ t.length
                  rw [HTl.out]; omega
                · show a + 1 ≤ si + 1
                  omega
                · exact Nat.le_succ_of_le hbm
                · show l0.length ≤ si + 1
                  have := HQ.out; omega
                · show (so ++ [a]).length ≤ si + 1
                  simp; omega)
              go_wp2
              go_roundw
              case rel => exact ⟨l0, false, si + 1, sm, a + 1, so ++ [a], _, _, rfl, by go_num, by go_num, rfl, by omega, rfl, rfl, HN⟩
              case measure => simp [intOf]; omega
            · have hr := HDef.out (fun h => d1 ⟨h.1, hX32.1 h.2⟩) (fun h => d2 ⟨h.1, hX41.1 h.2⟩)
              have HCl := Lib.hid (HWr.out si wo HS.out.two.bel hr)
              clear hr hX32 hX41
              have hk01 : k = 0 ∨ k = 1 := by omega
              have htri : (X = 32 ∧ k = 1) ∨ (X = 41 ∧ k = 0) ∨ (X ≠ 32 ∧ X ≠ 41) := by omega
              clear d1 d2 hk01
              rcases htri with ⟨rfl, rfl⟩ | ⟨rfl, rfl⟩ | ⟨h1, h2⟩
              · go_wp2_with (go_at_call 46; refine HCl.out.mono ?_; rintro e w1 ⟨pb, rfl, hp⟩; have HPs := Lib.hid hp; clear hp)
                go_ret3
                exact HPs.out
              · go_wp2_with (go_at_call 46; refine HCl.out.mono ?_; rintro e w1 ⟨pb, rfl, hp⟩; have HPs := Lib.hid hp; clear hp)
                go_ret3
                exact HPs.out
              · have hb1 : (X == 32) = false := by simp [h1]
                have hb2 : (X == 41) = false := by simp [h2]
                clear h1 h2
                go_wp2_with (go_at_call 46; refine HCl.out.mono ?_; rintro e w1 ⟨pb, rfl, hp⟩; have HPs := Lib.hid hp; clear hp)
                go_ret3
                exact HPs.out
      · obtain rfl : si = txt.size := by omega
        rcases hcase with rfl | ⟨rfl, l0, k, a, rfl⟩
        · have hr : R = .bad txt.size := HS.out.run.to_stop (by unfold stepR; simp [HTl.out])
          have HCl := Lib.hid (HWr.out txt.size wo HS.out.two.bel hr)
          clear hr
          go_wp2_with (go_at_call 46; refine HCl.out.mono ?_; rintro e w1 ⟨pb, rfl, hp⟩; have HPs := Lib.hid hp; clear hp)
          go_ret3
          exact HPs.out
        · have hr : R = .bad txt.size := HS.out.run.to_stop (by unfold stepR; simp [HTl.out])
          have HCl := Lib.hid (HWr.out txt.size wo HS.out.two.bel hr)
          have hl0 : (((l0 ++ [(k, a)]).length : Int) == 0) = false := by simp; omega
          obtain ⟨n, hn⟩ : ∃ n, (l0 ++ [(k, a)]).length = n := ⟨_, rfl⟩
          rw [hn] at hl0 ⊢
          clear hr hn
          go_wp2_with (go_at_call 46; refine HCl.out.mono ?_; rintro e w1 ⟨pb, rfl, hp⟩; have HPs := Lib.hid hp; clear hp)
          go_ret3
          exact HPs.out
end Go.Proofs.YtcikcnkhcfhomaaDoor.Hand
/- plan.Read by what it answers. -/
namespace Go.Proofs.YtcikcnkhcfhomaaDoor.Hand
open Go.RowKit Go.Proofs.YtcikcnkhcfhomaaDoorW.PrintWords Go.Proofs.YtcikcnkhcfhomaaDoorW.PrintMore Go.Proofs.YtcikcnkhcfhomaaDoor.Math

set_option maxRecDepth 100000 in
theorem read_calls (txt : ByteArray) (w : World) (Ae : Nat → Addr) (hE : ErrsL [0, 1] w Ae) (hP : Pow10 w) :
    Calls Tryd.prog 30 #[.string txt] w fun e w' => ∃ v ev, e = .returned (.tuple #[.int .i64 (rdM txt : Nat), v, ev]) ∧ RC (Kd.int .i64) 3 w' w.heap.size v (rdO txt) ∧ ErrV w' Ae ev (rdE txt) (rdQ txt) ∧ Below w.heap.size w w' := by
  by_cases hz : 1048576 < txt.size
  · have e0 := hE.cells 0 (by decide)
    simp only [GE, List.getD_cons_zero] at e0
    have hr : rdR txt = none := by unfold rdR; rw [if_pos hz]
    have HN : Hid (rdM txt = 0 ∧ rdO txt = [] ∧ rdE txt = 1 ∧ rdQ txt = -1) := Lib.hid ⟨by unfold rdM; rw [hr], by unfold rdO; rw [hr], by unfold rdE; rw [hr], by unfold rdQ; rw [hr]⟩
    have hzI : (1048576 : Int) < (txt.size : Int) := by omega
    clear hE hr hz
    go_enter Tryd.func30, Tryd.ntmps30
    go_upto_region 2 with (fail)
    go_quiet (fail)
    go_wp2
    go_ret3
    obtain ⟨h1, h2, h3, h4⟩ := HN.out
    exact ⟨_, _, by rw [h1]; rfl, by rw [h2]; exact RC.nil, by rw [h3, h4]; exact .sent 0 (by decide), pw_below_drewN (Below.refl _ _) _⟩
  · have hr : rdR txt = some (readR txt.data.toList) := by unfold rdR; rw [if_neg hz]
    refine (read_loop txt w Ae (hE.sub (by decide)) hP (by omega)).mono ?_
    rintro e w' ⟨h, hb⟩
    cases hR : readR txt.data.toList with
    | ok m o =>
      rw [hR] at h hr
      obtain ⟨v, rfl, hv⟩ := h
      exact ⟨v, _, by unfold rdM; rw [hr], by unfold rdO; rw [hr]; exact hv, by unfold rdE rdQ; rw [hr]; exact .none, hb⟩
    | bad i =>
      rw [hR] at h hr
      obtain ⟨pb, rfl, c0, c1⟩ := h
      exact ⟨_, _, by unfold rdM; rw [hr]; rfl, by unfold rdO; rw [hr]; exact RC.nil, by unfold rdE rdQ; rw [hr]; exact .place 1 (by decide) pb 0 (i : Int) c0 c1, hb⟩
end Go.Proofs.YtcikcnkhcfhomaaDoor.Hand
/- Kinds of my own: elements that may be the mark, rows lent with a mark behind them, rules, grammars. -/
namespace Go.Proofs.YtcikcnkhcfhomaaDoor.Hand
open Go.RowKit Go.Proofs.YtcikcnkhcfhomaaDoorW.PrintWords Go.Proofs.YtcikcnkhcfhomaaDoorW.PrintMore Go.Proofs.YtcikcnkhcfhomaaDoor.Math

/-- Elements of a kind, or the mark: these cells. -/
def KOpt {α : Type} (a : Kd α) (c : List Value) (hc : c.length = a.sz) (h1 : ∀ u ∈ c, u.oneCell' = true) : Kd (Option α) where
  sz := a.sz
  E := a.E
  K := fun w x cs => match x with | none => cs = c | some y => a.K w y cs
  M := fun w base ok x cs => match x with | none => cs = c | some y => a.M w base ok y cs
  K_len := by
    intro w x cs h
    cases x with
    | none => exact (show cs = c from h) ▸ hc
    | some y => exact a.K_len h
  K_one := by
    intro w x cs h u hu
    cases x with
    | none => exact h1 u ((show cs = c from h) ▸ hu)
    | some y => exact a.K_one h u hu
  K_below := by
    intro w w1 x cs hb h
    cases x with
    | none => exact h
    | some y => exact a.K_below hb h
  K_of_M := by
    intro w base ok x cs h
    cases x with
    | none => exact h
    | some y => exact a.K_of_M h
  M_mono := by
    intro w base ok ok' x cs hok h
    cases x with
    | none => exact h
    | some y => exact a.M_mono hok h
  M_bound := by
    intro w base ok x cs h
    cases x with
    | none => exact h
    | some y => exact a.M_bound h
  M_move := by
    intro w w1 base ok x cs hm h
    cases x with
    | none => exact h
    | some y => exact a.M_move hm h
  M_lower := by
    intro w base base' ok x cs hb h
    cases x with
    | none => exact h
    | some y => exact a.M_lower hb h
/-- A slice over a row that is one longer: the last element is the mark. -/
def KLent {α : Type} (e : Nat) (a : Kd (Option α)) : Kd (List α) where
  sz := 1
  E := e :: a.E
  K := fun w xs cs => ∃ A c, cs = [.slice A xs.length c] ∧ xs.length + 1 ≤ c ∧ a.C w A (xs.length + 1) (xs.map some ++ [none])
  M := fun w base ok xs cs => ∃ A c, cs = [.slice A xs.length c] ∧ xs.length + 1 ≤ c ∧ a.R e w base ok (.slice A (xs.length + 1) c) (xs.map some ++ [none])
  K_len := by rintro w x cs ⟨A, c, rfl, _⟩; rfl
  K_one := by
    rintro w x cs ⟨A, c, rfl, _⟩ u hu
    rw [List.mem_singleton.1 hu]; rfl
  K_below := by rintro w w1 x cs hb ⟨A, c, rfl, hl, hr⟩; exact ⟨A, c, rfl, hl, Kd.C_below hr hb⟩
  K_of_M := by
    rintro w base ok x cs ⟨A, c, rfl, hl, h⟩
    have := (Kd.R_reads' h).2.2
    exact ⟨A, c, rfl, hl, by simpa using this⟩
  M_mono := by rintro w base ok ok' x cs hok ⟨A, c, rfl, hl, h⟩; exact ⟨A, c, rfl, hl, Kd.R_mono h hok⟩
  M_bound := by rintro w base ok x cs ⟨A, c, rfl, hl, h⟩; exact ⟨A, c, rfl, hl, Kd.R_bound h⟩
  M_move := by rintro w w1 base ok x cs hm ⟨A, c, rfl, hl, h⟩; exact ⟨A, c, rfl, hl, Kd.R_move h hm⟩
  M_lower := by rintro w base base' ok x cs hb ⟨A, c, rfl, hl, h⟩; exact ⟨A, c, rfl, hl, Kd.R_lower h hb⟩
theorem C_imp {α β : Type} {a : Kd α} {b : Kd β} (hs : b.sz = a.sz) {w : World} {A : Option Addr} {n : Nat} {l : List α} {m : List β} (h : a.C w A n l) (hl : m.length = l.length) (hi : ∀ (j : Nat) (x : α) (y : β) (cs : List Value), l[j]? = some x → m[j]? = some y → a.K w x cs → b.K w y cs) : b.C w A n m := by
  obtain ⟨h1, h2, h3⟩ := h
  refine ⟨hl.trans h1, h2, fun hn => ?_⟩
  obtain ⟨ad, ha, hc⟩ := h3 hn
  refine ⟨ad, ha, fun j p hj => ?_⟩
  have hj2 : j < l.length := by have := (List.getElem?_eq_some_iff.1 hj).1; omega
  obtain ⟨c, e1, e2, e3⟩ := hc j l[j] (List.getElem?_eq_getElem hj2)
  exact ⟨c, by rw [hs]; exact e1, hi j _ _ c (List.getElem?_eq_getElem hj2) hj e2, by rw [hs]; exact e3⟩
theorem C_some {α : Type} {a : Kd α} {b : Kd (Option α)} (hs : b.sz = a.sz) {w : World} {A : Option Addr} {n : Nat} {l : List α} (h : a.C w A n l) (hi : ∀ (x : α) (cs : List Value), a.K w x cs → b.K w (some x) cs) : b.C w A n (l.map some) :=
  C_imp (a := a) (b := b) hs h (by simp) (fun j x y cs hx hy hk => by
    rw [List.getElem?_map, hx] at hy
    cases hy
    exact hi _ _ hk)
/-- What was lent reads as a list. -/
theorem lent_C {α : Type} {a : Kd α} {c hc h1} {w : World} {A : Option Addr} {l : List α} (h : (KOpt a c hc h1).C w A (l.length + 1) (l.map some ++ [none])) : a.C w A l.length l := by
  have h2 : (KOpt a c hc h1).C w A (l.map some).length (l.map some) := Kd.C_takeN h
  rw [List.length_map] at h2
  refine C_imp (a := KOpt a c hc h1) (b := a) rfl h2 (by simp) (fun j x y cs hx hy hk => ?_)
  rw [List.getElem?_map, hy] at hx
  cases hx
  exact hk
/-- The mark's cells. -/
theorem lent_mark {α : Type} {a : Kd α} {c hc h1} {w : World} {A : Option Addr} {l : List α} (h : (KOpt a c hc h1).C w A (l.length + 1) (l.map some ++ [none])) : ∃ ad, A = some ad ∧ ∀ i u, c[i]? = some u → w.cell? (ad.add (l.length * a.sz + i)) = some u := by
  obtain ⟨_, _, h3⟩ := h
  obtain ⟨ad, ha, hcc⟩ := h3 (by omega)
  refine ⟨ad, ha, ?_⟩
  obtain ⟨cs, e1, e2, e3⟩ := hcc l.length none (by simp)
  have : cs = c := e2
  subst this
  exact e3
/-- A rule: its left side, and its right side as a slice. -/
def KRule : Kd (Int × List Int) := Kd.pair (Kd.int .i64) (Kd.slice 3 (Kd.int .i64))
def KMInt : Kd (Option Int) := KOpt (Kd.int .i64) [.int .i64 (-7171)] rfl (by simp [Value.oneCell'])
def KLInts : Kd (List Int) := KLent 3 KMInt
def KMString : Kd (Option ByteArray) := KOpt Kd.string [.string ⟨#[109, 97, 114, 107]⟩] rfl (by simp [Value.oneCell'])
def KLStrings : Kd (List ByteArray) := KLent 9 KMString
def KLRule : Kd (Int × List Int) := Kd.pair (Kd.int .i64) KLInts
def KMRule : Kd (Option (Int × List Int)) := KOpt KLRule [.int .i64 (-7171), .slice none 0 0] rfl (by simp [Value.oneCell'])
theorem KLInts_plain {w : World} {l : List Int} {cs : List Value} (h : KLInts.K w l cs) : (Kd.slice 3 (Kd.int .i64)).K w l cs := by
  obtain ⟨A, c, rfl, hl, hr⟩ := h
  exact ⟨A, c, rfl, by omega, lent_C hr⟩
theorem KLRule_plain {w : World} {r : Int × List Int} {cs : List Value} (h : KLRule.K w r cs) : KRule.K w r cs := by
  obtain ⟨c0, c1, rfl, h0, h1⟩ := h
  exact ⟨c0, c1, rfl, h0, KLInts_plain h1⟩
theorem lentRules_C {w : World} {A : Option Addr} {l : List (Int × List Int)} (h : KMRule.C w A (l.length + 1) (l.map some ++ [none])) : KRule.C w A l.length l :=
  C_imp (a := KLRule) (b := KRule) rfl (lent_C (a := KLRule) h) rfl (fun j x y cs hx hy hk => by rw [hx] at hy; cases hy; exact KLRule_plain hk)
/-- A grammar, plainly. -/
structure Gr where
  terms : List ByteArray
  nonterms : List ByteArray
  ax : Int
  rules : List (Int × List Int)
/-- A grammar's value, and what it leads to. -/
def GramAt (w : World) (v : Value) (g : Gr) : Prop :=
  ∃ AT cT AN cN AR cR, v = .agg #[.slice AT g.terms.length cT, .slice AN g.nonterms.length cN, .int .i64 g.ax, .slice AR g.rules.length cR] ∧ g.terms.length ≤ cT ∧ g.nonterms.length ≤ cN ∧ g.rules.length ≤ cR ∧
    Kd.C Kd.string w AT g.terms.length g.terms ∧ Kd.C Kd.string w AN g.nonterms.length g.nonterms ∧ KRule.C w AR g.rules.length g.rules
/-- A grammar that was lent: marks behind all its lists. -/
def GramL (w : World) (v : Value) (g : Gr) : Prop :=
  ∃ AT cT AN cN AR cR, v = .agg #[.slice AT g.terms.length cT, .slice AN g.nonterms.length cN, .int .i64 g.ax, .slice AR g.rules.length cR] ∧ g.terms.length + 1 ≤ cT ∧ g.nonterms.length + 1 ≤ cN ∧ g.rules.length + 1 ≤ cR ∧
    KMString.C w AT (g.terms.length + 1) (g.terms.map some ++ [none]) ∧ KMString.C w AN (g.nonterms.length + 1) (g.nonterms.map some ++ [none]) ∧ KMRule.C w AR (g.rules.length + 1) (g.rules.map some ++ [none])
theorem GramAt.below {w w' : World} {v : Value} {g : Gr} (h : GramAt w v g) (hb : Below w.heap.size w w') : GramAt w' v g := by
  obtain ⟨AT, cT, AN, cN, AR, cR, rfl, h1, h2, h3, h4, h5, h6⟩ := h
  exact ⟨AT, cT, AN, cN, AR, cR, rfl, h1, h2, h3, Kd.C_below h4 hb, Kd.C_below h5 hb, Kd.C_below h6 hb⟩
theorem GramL.below {w w' : World} {v : Value} {g : Gr} (h : GramL w v g) (hb : Below w.heap.size w w') : GramL w' v g := by
  obtain ⟨AT, cT, AN, cN, AR, cR, rfl, h1, h2, h3, h4, h5, h6⟩ := h
  exact ⟨AT, cT, AN, cN, AR, cR, rfl, h1, h2, h3, Kd.C_below h4 hb, Kd.C_below h5 hb, Kd.C_below h6 hb⟩
theorem GramL.plain {w : World} {v : Value} {g : Gr} (h : GramL w v g) : GramAt w v g := by
  obtain ⟨AT, cT, AN, cN, AR, cR, rfl, h1, h2, h3, h4, h5, h6⟩ := h
  exact ⟨AT, cT, AN, cN, AR, cR, rfl, by omega, by omega, by omega, lent_C h4, lent_C h5, lentRules_C h6⟩
theorem GramAt.drewN {w : World} {v : Value} {g : Gr} (h : GramAt w v g) (n : Nat) : GramAt (w.drewN n) v g := h.below (pw_below_drewN (Below.refl _ _) _)
theorem GramL.drewN {w : World} {v : Value} {g : Gr} (h : GramL w v g) (n : Nat) : GramL (w.drewN n) v g := h.below (pw_below_drewN (Below.refl _ _) _)
theorem add_field (a : Addr) (n f : Nat) : a.add (n + (f + 1)) = ⟨(a.add n).block, (a.add n).off + (f + 1), none⟩ := by
  unfold Addr.add
  by_cases h : n = 0
  · subst h; simp
  · simp [h]; omega
/-- What is read of rule i. -/
theorem at_rule {w : World} {A : Option Addr} {l : List (Int × List Int)} (h : KRule.C w A l.length l) (i : Nat) (hi : i < l.length) :
    ∃ (ad : Addr) (x : Int) (B : Option Addr) (c : Nat) (r : List Int), A = some ad ∧ w.cell? (ad.add (i * 2)) = some (.int .i64 x) ∧ w.cell? ⟨(ad.add (i * 2)).block, (ad.add (i * 2)).off + 1, none⟩ = some (.slice B r.length c) ∧ r.length ≤ c ∧ Kd.C (Kd.int .i64) w B r.length r ∧ Hid (l.getD i (0, []) = (x, r)) := by
  obtain ⟨ad, cs, h1, h2, h3, h4⟩ := h.get_ (0, []) (i : Int) (by omega) (by omega)
  rw [Int.toNat_natCast] at h3 h4
  obtain ⟨c0, c1, rfl, k0, B, c, rfl, hl, hr⟩ := h3
  have e0 : c0 = [.int .i64 (l.getD i (0, [])).1] := k0
  subst e0
  have hz : KRule.sz = 2 := rfl
  rw [hz] at h4
  refine ⟨ad, (l.getD i (0, [])).1, B, c, (l.getD i (0, [])).2, h1, ?_, ?_, hl, hr, Lib.hid rfl⟩
  · have := h4 0 _ rfl; simpa using this
  · rw [← add_field]; exact h4 1 _ rfl
theorem at_lrule {w : World} {A : Option Addr} {l : List (Int × List Int)} (h : KMRule.C w A (l.length + 1) (l.map some ++ [none])) (i : Nat) (hi : i < l.length) :
    ∃ (ad : Addr) (x : Int) (B : Option Addr) (c : Nat) (r : List Int), A = some ad ∧ w.cell? (ad.add (i * 2)) = some (.int .i64 x) ∧ w.cell? ⟨(ad.add (i * 2)).block, (ad.add (i * 2)).off + 1, none⟩ = some (.slice B r.length c) ∧ r.length + 1 ≤ c ∧ KMInt.C w B (r.length + 1) (r.map some ++ [none]) ∧ Hid (l.getD i (0, []) = (x, r)) := by
  have h' : KLRule.C w A l.length l := lent_C (a := KLRule) h
  obtain ⟨ad, cs, h1, h2, h3, h4⟩ := h'.get_ (0, []) (i : Int) (by omega) (by omega)
  rw [Int.toNat_natCast] at h3 h4
  obtain ⟨c0, c1, rfl, k0, B, c, rfl, hl, hr⟩ := h3
  have e0 : c0 = [.int .i64 (l.getD i (0, [])).1] := k0
  subst e0
  have hz : KLRule.sz = 2 := rfl
  rw [hz] at h4
  refine ⟨ad, (l.getD i (0, [])).1, B, c, (l.getD i (0, [])).2, h1, ?_, ?_, hl, hr, Lib.hid rfl⟩
  · have := h4 0 _ rfl; simpa using this
  · rw [← add_field]; exact h4 1 _ rfl
end Go.Proofs.YtcikcnkhcfhomaaDoor.Hand
/- A slice's head; lists by their elements. -/
namespace Go.Proofs.YtcikcnkhcfhomaaDoor.Hand
open Go.RowKit Go.Proofs.YtcikcnkhcfhomaaDoorW.PrintWords Go.Proofs.YtcikcnkhcfhomaaDoorW.PrintMore Go.Proofs.YtcikcnkhcfhomaaDoor.Math

theorem list_of {α : Type} {p : Nat → α → Prop} : ∀ {n : Nat} (_ : ∀ i, i < n → ∃ x, p i x), ∃ l : List α, l.length = n ∧ ∀ i x, l[i]? = some x → p i x
  | 0, _ => ⟨[], rfl, fun i x h => by simp at h⟩
  | n + 1, h => by
    obtain ⟨l, hl, hp⟩ := list_of (n := n) (fun i hi => h i (by omega))
    obtain ⟨x, hx⟩ := h n (by omega)
    refine ⟨l ++ [x], by simp [hl], fun i y hy => ?_⟩
    rcases Nat.lt_or_ge i l.length with hi | hi
    · rw [List.getElem?_append_left hi] at hy; exact hp i y hy
    · rw [List.getElem?_append_right hi] at hy
      have h0 : i - l.length = 0 := by
        rcases Nat.eq_zero_or_pos (i - l.length) with h | h
        · exact h
        · rw [List.getElem?_eq_none (by simp; omega)] at hy; cases hy
      rw [h0] at hy
      simp at hy
      subst hy
      have : i = n := by omega
      subst this
      exact hx
/-- A slice's head: where, how many, room. -/
structure Hd where
  ad : Option Addr
  n : Nat
  c : Nat
def Hd.v (h : Hd) : Value := .slice h.ad h.n h.c
end Go.Proofs.YtcikcnkhcfhomaaDoor.Hand
/- Arguments of whatever kind, opened: the reading of memory gives the plain datum that it spells. -/
namespace Go.Proofs.YtcikcnkhcfhomaaDoor.Hand
open Go.ChangeShapes Go.WideShapes Go.ChangeAt
open Go.RowKit Go.Proofs.YtcikcnkhcfhomaaDoorW.PrintWords Go.Proofs.YtcikcnkhcfhomaaDoorW.PrintMore Go.Proofs.YtcikcnkhcfhomaaDoor.Math

/-- Whatever reads by this type spells a datum of this kind. -/
def Opens {α : Type} (t : TypeId) (d : Kd α) (good : α → Prop) : Prop :=
  ∀ (H : Type) (enc : TypeId × Value → H) (W : World) (base : Nat) (spare : Nat → Bool) (held : Bool) (fuel : Nat) (cs : List Value) (x : DataW H × List MemPlace), DataW.trod enc Tryd.prog W base spare held fuel t cs = some x →
    (∀ n ∈ x.1.weights Tryd.prog t, n ≤ reachBytes) → ∃ a, d.K W a cs ∧ good a
theorem Opens.int {t : TypeId} {k : IntKind} (ht : Tryd.prog.underlying t = some (.int k)) : Opens t (Kd.int k) (fun a => (Lit.int k a).wf = true) := by
  intro H enc W base spare held fuel cs x h _
  obtain ⟨n, rfl, _, hw⟩ := DataW.trod_int ht h
  exact ⟨n, rfl, hw⟩
theorem Opens.string {t : TypeId} (ht : Tryd.prog.underlying t = some .string) : Opens t Kd.string (fun s => s.size ≤ 140737488351232) := by
  intro H enc W base spare held fuel cs x h hw
  obtain ⟨s, rfl, rfl, _⟩ := DataW.trod_string ht h
  refine ⟨s, rfl, ?_⟩
  have := hw s.data.toList.length (by simp [DataW.weights])
  simpa [reachBytes] using this
theorem weightsAll_mem {H : Type} {P : Program} {e : TypeId} {d : DataW H} {n : Nat} : ∀ {l : List (DataW H)}, d ∈ l → n ∈ d.weights P e → n ∈ DataW.weightsAll P e l
  | [], h, _ => by cases h
  | a :: r, h, hn => by
    simp only [DataW.weightsAll, List.mem_append]
    rcases List.mem_cons.1 h with rfl | h
    · exact .inl hn
    · exact .inr (weightsAll_mem h hn)
theorem Opens.slice {α : Type} {t e : TypeId} {B : Nat} {d : Kd α} {good : α → Prop} (ht : Tryd.prog.underlying t = some (.slice e)) (he : Opens e d good) (hc : Tryd.prog.cellsOf e = d.sz) (hB : Tryd.prog.bytesOf e = B) :
    Opens t (Kd.slice e d) (fun l => l.length * B ≤ 140737488351232 ∧ ∀ x ∈ l, good x) := by
  intro H enc W base spare held fuel cs x h hw
  rcases Deep.open_slice ht h with ⟨rfl, rfl⟩ | ⟨a, len, cap, m, n, D, Pl, rfl, hb, hl, hm, hmm, rfl, hx⟩
  · exact ⟨[], ⟨none, 0, rfl, Nat.le_refl _, Kd.C_nil d W⟩, by simp, fun x hx => absurd hx (List.not_mem_nil)⟩
  · have hlm : len ≤ m := by rw [hmm]; split <;> omega
    simp only [DataW.weights, ht] at hw
    have hw1 := hw _ (List.mem_cons_self ..)
    simp only [List.length_map, List.length_range] at hw1
    have hw2 : ∀ i, i < len → ∀ k ∈ (D i).weights Tryd.prog e, k ≤ reachBytes := fun i hi k hk =>
      hw k (List.mem_cons_of_mem _ (List.mem_append_left _ (weightsAll_mem (List.mem_map.2 ⟨i, List.mem_range.2 hi, rfl⟩) hk)))
    obtain ⟨l, hll, hp⟩ := list_of (n := len) (p := fun i p => good p ∧ ∃ cs', d.K W p cs' ∧ ∀ j u, cs'[j]? = some u → W.cell? (a.add (i * d.sz + j)) = some u) (fun i hi => by
      obtain ⟨cs', h1, h2⟩ := hx i (by omega)
      obtain ⟨p, hk, hg⟩ := he H enc W base spare held n cs' _ h2 (hw2 i hi)
      obtain ⟨_, hlen, hcell⟩ := World.cells?_some h1
      refine ⟨p, hg, cs', hk, fun j u hu => ?_⟩
      have hj : j < Tryd.prog.cellsOf e := by rw [← hlen]; exact (List.getElem?_eq_some_iff.1 hu).1
      have := hcell j hj
      rw [Deep.add_add, hu, hc] at this
      exact this)
    subst hll
    refine ⟨l, ⟨some a, cap, rfl, hl, rfl, ?_, fun _ => ⟨a, rfl, fun j p hj => ?_⟩⟩, ?_, fun x hx => ?_⟩
    · have : maxLen = 9223372036854775807 := by decide
      omega
    · obtain ⟨_, cs', hk, hcell⟩ := hp j p hj
      exact ⟨cs', d.K_len hk, hk, hcell⟩
    · rw [hB] at hw1
      have h3 : l.length * B ≤ (l.length + (m - l.length)) * B := Nat.mul_le_mul_right _ (by omega)
      have h4 : (reachBytes : Nat) = 140737488351232 := by decide
      omega
    · obtain ⟨i, hi⟩ := List.getElem?_of_mem hx
      exact (hp i x hi).1
theorem Opens.pair {α β : Type} {t : TypeId} {f0 f1 : Field} {a : Kd α} {b : Kd β} {ga : α → Prop} {gb : β → Prop} (ht : Tryd.prog.underlying t = some (.struct #[f0, f1])) (o0 : f0.offset = 0) (o1 : f1.offset = a.sz) (c0 : Tryd.prog.cellsOf f0.type = a.sz) (c1 : Tryd.prog.cellsOf f1.type = b.sz) (ct : Tryd.prog.cellsOf t = a.sz + b.sz)
    (h0 : Opens f0.type a ga) (h1 : Opens f1.type b gb) : Opens t (Kd.pair a b) (fun x => ga x.1 ∧ gb x.2) := by
  intro H enc W base spare held fuel cs x h hw
  obtain ⟨y0, y1, n, rfl, hl, k0, k1⟩ := trod_struct2 ht h
  simp only [DataW.weights, ht, List.map_cons, List.map_nil, DataW.weightsEach, List.append_nil] at hw
  rw [o0, c0, List.drop_zero] at k0
  rw [o1, c1] at k1
  obtain ⟨x0, q0, g0⟩ := h0 H enc W base spare held n _ _ k0 (fun n hn => hw n (List.mem_append_left _ hn))
  obtain ⟨x1, q1, g1⟩ := h1 H enc W base spare held n _ _ k1 (fun n hn => hw n (List.mem_append_right _ hn))
  refine ⟨(x0, x1), ⟨cs.take a.sz, (cs.drop a.sz).take b.sz, ?_, q0, q1⟩, g0, g1⟩
  rw [List.take_of_length_le (show (cs.drop a.sz).length ≤ b.sz by rw [List.length_drop, hl, ct]; omega), List.take_append_drop]
section
set_option maxRecDepth 20000
variable {H : Type} {enc : TypeId × Value → H} {W : World} {base : Nat} {r : Reach} {b0 : Nat} {spare : Nat → Bool} {held : Bool} {v : Value} {d : DataW H} {ps : List MemPlace} {ts : List TypeId} {ds : List (DataW H)} {j : Nat}

theorem openSlice {α : Type} {t e : TypeId} {B : Nat} {k : Kd α} {good : α → Prop} (hu : Tryd.prog.underlying t = some (.slice e)) (he : Opens e k good) (hc : Tryd.prog.cellsOf e = k.sz) (hB : Tryd.prog.bytesOf e = B)
    (hsz : (DataW.weightsEach Tryd.prog ts ds).all (· ≤ reachBytes) = true) (ht : ts[j]? = some t) (hd : ds[j]? = some d) (hv : Value.okWide Tryd.prog W r b0 t v) (h : DataW.Trod enc Tryd.prog W base spare held t v d ps) :
    ∃ (A : Option Addr) (c : Nat) (l : List α), v = .slice A l.length c ∧ k.C W A l.length l ∧ l.length * B ≤ 140737488351232 ∧ l.length ≤ c ∧ ∀ x ∈ l, good x := by
  obtain ⟨a, len, cap, rfl⟩ := okWide_slice hu hv
  obtain ⟨fuel, hf⟩ := h
  obtain ⟨l, ⟨A, c, hcs, hlc, hC⟩, hb, hg⟩ := (Opens.slice hu he hc hB) H enc W base spare held fuel _ _ hf (fun n hn => by
    have := List.all_eq_true.1 hsz n (DataW.weights_mem_each ht hd n hn)
    simpa using this)
  simp [Value.cells] at hcs
  obtain ⟨rfl, rfl, rfl⟩ := hcs
  exact ⟨_, _, l, rfl, hC, hb, hlc, hg⟩
theorem opens_i64 : Opens 3 (Kd.int .i64) (fun a => (Lit.int .i64 a).wf = true) := Opens.int Tryd.underlying3
theorem opens_ints : Opens 22 (Kd.slice 3 (Kd.int .i64)) (fun l => l.length * 8 ≤ 140737488351232 ∧ ∀ x ∈ l, (Lit.int .i64 x).wf = true) := Opens.slice Tryd.underlying22 opens_i64 (by kernel_rfl) (by kernel_rfl)
theorem openInts (hsz : (DataW.weightsEach Tryd.prog ts ds).all (· ≤ reachBytes) = true) (ht : ts[j]? = some 22) (hd : ds[j]? = some d) (hv : Value.okWide Tryd.prog W r b0 22 v) (h : DataW.Trod enc Tryd.prog W base spare held 22 v d ps) :
    ∃ (A : Option Addr) (c : Nat) (l : List Int), v = .slice A l.length c ∧ Kd.C (Kd.int .i64) W A l.length l ∧ l.length * 8 ≤ 140737488351232 ∧ l.length ≤ c ∧ ∀ x ∈ l, (Lit.int .i64 x).wf = true :=
  openSlice Tryd.underlying22 opens_i64 (by kernel_rfl) (by kernel_rfl) hsz ht hd hv h
theorem opens_strings : Opens 68 (Kd.slice 9 Kd.string) (fun l => l.length * 16 ≤ 140737488351232 ∧ ∀ x ∈ l, x.size ≤ 140737488351232) := Opens.slice Tryd.underlying68 (Opens.string Tryd.underlying9) (by kernel_rfl) (by kernel_rfl)
theorem openStrings (hsz : (DataW.weightsEach Tryd.prog ts ds).all (· ≤ reachBytes) = true) (ht : ts[j]? = some 68) (hd : ds[j]? = some d) (hv : Value.okWide Tryd.prog W r b0 68 v) (h : DataW.Trod enc Tryd.prog W base spare held 68 v d ps) :
    ∃ (A : Option Addr) (c : Nat) (l : List ByteArray), v = .slice A l.length c ∧ Kd.C Kd.string W A l.length l ∧ l.length * 16 ≤ 140737488351232 ∧ l.length ≤ c ∧ ∀ x ∈ l, x.size ≤ 140737488351232 :=
  openSlice Tryd.underlying68 (Opens.string Tryd.underlying9) (by kernel_rfl) (by kernel_rfl) hsz ht hd hv h
end
end Go.Proofs.YtcikcnkhcfhomaaDoor.Hand
/- PlanThere: Read of Text, and Text of that; pieces of cuts touch. -/
namespace Go.Proofs.YtcikcnkhcfhomaaDoor.Hand
open Go.RowKit Go.Proofs.YtcikcnkhcfhomaaDoorW.PrintWords Go.Proofs.YtcikcnkhcfhomaaDoorW.PrintMore Go.Proofs.YtcikcnkhcfhomaaDoor.Math

theorem pB_list (a b : ByteArray) : (pB a b).data.toList = pL a.data.toList b.data.toList := by
  unfold pB pL
  simp [ByteArray.data_append]
theorem txtF_list : ∀ (L : List (Nat × Nat × Nat)) (T : Nat → ByteArray) (i : Nat), (txtF L T i).data.toList = txL L (fun i => (T i).data.toList) i
  | [], _, _ => rfl
  | x :: r, T, i => by
    rw [txtF, txL, txtF_list r]
    congr 1
    funext j
    show (if j = x.2.1 then (⟨#[]⟩ : ByteArray) else if j = x.1 then pB (T x.1) (T x.2.1) else T j).data.toList = if j = x.2.1 then [] else if j = x.1 then pL (T x.1).data.toList (T x.2.1).data.toList else (T j).data.toList
    split
    · rfl
    · split
      · exact pB_list _ _
      · rfl
theorem decB_list : (fun i => (decB i).data.toList) = Lib.decDigits := by
  funext i
  rfl
theorem oI_nat (o : List Nat) : (oI o).map Int.toNat = o := by
  unfold oI
  rw [List.map_map]
  have : (Int.toNat ∘ fun x : Nat => (x : Int)) = id := by funext x; simp
  rw [this, List.map_id]
theorem ordE_of {M : Nat} {o : List Nat} (h1 : 1 ≤ M) (h2 : M ≤ 65537) (ho : OrdOk M o) (hl : M = o.length + 1) : ordE (M : Int) (oI o) = 0 := by
  have hol : (oI o).length = o.length := by simp [oI]
  unfold ordE
  rw [if_neg (by omega), if_neg (by rw [hol]; omega), if_pos (fun j hj => ?_)]
  rw [hol] at hj
  have := ho.2 j hj
  unfold oI
  rw [List.getD_eq_getElem?_getD, List.getElem?_map, List.getElem?_eq_getElem hj]
  simp
  omega
theorem bytes_eq {a b : ByteArray} (h : a.data.toList = b.data.toList) : a = b := by
  apply ByteArray.ext
  exact Array.toList_inj.1 h
theorem tI_inj {a b : Nat × Nat × Nat} (h : tI a = tI b) : a = b := by
  obtain ⟨a0, a1, a2⟩ := a
  obtain ⟨b0, b1, b2⟩ := b
  unfold tI at h
  simp at h
  simp only [Prod.mk.injEq]
  omega
/-- The text is not long. -/
theorem txtF_sum (M : Nat) : ∀ (L : List (Nat × Nat × Nat)) (T : Nat → ByteArray), (∀ x ∈ L, x.1 < x.2.1 ∧ x.2.1 < M) → sumS (txtF L T) M ≤ sumS T M + 3 * L.length
  | [], _, _ => by simp [txtF]
  | x :: r, T, h => by
    have hx := h x (by simp)
    have ih := txtF_sum M r (fun i => if i = x.2.1 then ⟨#[]⟩ else if i = x.1 then pB (T x.1) (T x.2.1) else T i) (fun y hy => h y (by simp [hy]))
    have hj := sumS_join (T := T) (n := M) (a := x.1) (b := x.2.1) (by omega) hx.2 (by omega)
    rw [txtF, List.length_cons]
    omega
theorem txt_small {M : Nat} {on : List Nat} (ho : OrdOk M on) (hM : M ≤ 500) : (txtF (joinL M (List.range M) on) decB 0).size ≤ 1048576 := by
  have h1 := txtF_sum M (joinL M (List.range M) on) decB (joinL_mem on (List.range M) (Starts.range M) (by rw [List.length_range]; exact ho))
  have h2 := sumS_ge (txtF (joinL M (List.range M) on) decB) M 0 (by have := ho.1; omega)
  rw [joinL_length] at h1
  have h3 : ∀ n, n ≤ M → sumS decB n ≤ 4 * n := by
    intro n
    induction n with
    | zero => intro _; simp [sumS]
    | succ n ih =>
      intro h
      rw [sumS]
      have := ih (by omega)
      have := decB_size (k := 3) (n := n) (by omega)
      omega
  have := h3 M (Nat.le_refl _)
  have := ho.1
  omega
/-- What the walk needs of an order that fits. -/
theorem there_text {M : Nat} {on : List Nat} (ho : OrdOk M on) (hl : M = on.length + 1) (hM : M ≤ 500) :
    ∃ o2 : List Nat, ordE (M : Int) (oI o2) = 0 ∧ readR (txtF (joinL M (List.range M) on) decB 0).data.toList = .ok M o2 ∧ txtF (joinL M (List.range M) o2) decB 0 = txtF (joinL M (List.range M) on) decB 0 ∧
      (joinL M (List.range M) on).Perm (joinL M (List.range M) o2) ∧ (joinL M (List.range M) o2).Nodup ∧ o2.length ≤ 500 := by
  obtain ⟨o2, h1, h2, h3, h4, h5, h6⟩ := there M on ho hl
  refine ⟨o2, ordE_of (by omega) (by omega) h1 h2, ?_, ?_, h5, h6, by omega⟩
  · rw [txtF_list, decB_list]; exact h3
  · apply bytes_eq
    rw [txtF_list, txtF_list, decB_list]; exact h4
theorem cutL_get (n : Int) : ∀ (l : List Int) (f : Int) (j : Nat), j ≤ l.length → (cutL n f l)[j]? = some (if j = 0 then f else l.getD (j - 1) n, l.getD j n)
  | [], f, 0, _ => rfl
  | [], f, j + 1, h => by simp at h
  | t :: r, f, 0, _ => rfl
  | t :: r, f, j + 1, h => by
    rw [cutL, List.getElem?_cons_succ, cutL_get n r t j (by simpa using h)]
    cases j with
    | zero => rfl
    | succ j => rfl
theorem cut_le (n : Int) : ∀ (l : List Int) (f : Int) (j : Nat), f ≤ n → cutOk n f l = true → j ≤ l.length → (if j = 0 then f else l.getD (j - 1) n) ≤ l.getD j n
  | [], f, 0, hf, _, _ => by simpa using hf
  | [], f, j + 1, _, _, h => by simp at h
  | t :: r, f, 0, hf, hk, _ => by
    rw [cutOk, Bool.and_eq_true, decide_eq_true_iff] at hk
    simpa using hk.1
  | t :: r, f, j + 1, hf, hk, h => by
    rw [cutOk, Bool.and_eq_true, Bool.and_eq_true, decide_eq_true_iff, decide_eq_true_iff] at hk
    have := cut_le n r t j hk.2.1 hk.2.2 (by simpa using h)
    cases j with
    | zero => simpa using this
    | succ j => simpa using this
/-- Where the j-th piece begins. -/
def cutA (n : Int) (l : List Int) (j : Nat) : Int := if j = 0 then 0 else l.getD (j - 1) n
theorem cut_piece {n : Int} {l : List Int} (h : cutE n l = 0) {j : Nat} (hj : j ≤ l.length) : (cutL n 0 l).getD j (0, 0) = (cutA n l j, cutA n l (j + 1)) ∧ cutA n l j ≤ cutA n l (j + 1) ∧ (j < l.length → cutA n l (j + 1) = l.getD j 0) ∧ cutA n l (l.length + 1) = n := by
  unfold cutE at h
  split at h
  · cases h
  · split at h
    · rename_i h1 h2
      refine ⟨?_, ?_, fun hlt => ?_, ?_⟩
      · rw [List.getD_eq_getElem?_getD, cutL_get n l 0 j hj]
        rfl
      · exact cut_le n l 0 j (by omega) h2 hj
      · unfold cutA
        rw [if_neg (by omega), Nat.add_sub_cancel, List.getD_eq_getElem?_getD, List.getD_eq_getElem?_getD, List.getElem?_eq_getElem hlt]
        rfl
      · unfold cutA
        rw [if_neg (by omega), Nat.add_sub_cancel, List.getD_eq_getElem?_getD, List.getElem?_eq_none (Nat.le_refl _)]
        rfl
    · cases h
theorem count_take_succ {α : Type} [BEq α] [LawfulBEq α] [DecidableEq α] (l : List α) (x : α) (q : Nat) (h : q < l.length) : (l.take (q + 1)).count x = (l.take q).count x + if l[q] = x then 1 else 0 := by
  rw [List.take_succ_eq_append_getElem h, List.count_append, List.count_singleton]
  congr 1
  by_cases e : l[q] = x
  · rw [if_pos e, if_pos (by rw [e]; exact beq_self_eq_true x)]
  · rw [if_neg e, if_neg (by rw [beq_iff_eq]; exact e)]
theorem eqe3 (a0 a1 a2 b0 b1 b2 : Int) (w : World) : (binOp .eql 29 (.agg #[.int .i64 a0, .int .i64 a1, .int .i64 a2]) (.agg #[.int .i64 b0, .int .i64 b1, .int .i64 b2])).run Tryd.prog w = .ok (.bool (a0 == b0 && (a1 == b1 && a2 == b2))) w := by
  rw [run_eql_struct, eq3 9998]; rfl
/-- The second half: pieces of cuts. -/
def ThereP (w0 : World) (e : Ending) (w' : World) : Prop := e = .returned (.bool true) ∧ Below w0.heap.size w0 w'
set_option maxHeartbeats 4000000 in
set_option maxRecDepth 100000 in
theorem planThere_walk {w : World} (m : Int) (hm : (Lit.int .i64 m).wf = true) (A : Option Addr) (c : Nat) (o : List Int) (y : Kd.C (Kd.int .i64) w A o.length o ∧ o.length * 8 ≤ 140737488351232 ∧ o.length ≤ c ∧ ∀ x ∈ o, (Lit.int .i64 x).wf = true)
    (n : Int) (hn : (Lit.int .i64 n).wf = true) (B : Option Addr) (d : Nat) (l : List Int) (z : Kd.C (Kd.int .i64) w B l.length l ∧ l.length * 8 ≤ 140737488351232 ∧ l.length ≤ d ∧ ∀ x ∈ l, (Lit.int .i64 x).wf = true)
    (hE : ∃ Ae, ErrsL [0, 1, 7, 8] w Ae) (hP : Pow10 w) :
    Calls Tryd.prog 7 #[.int .i64 m, .slice A o.length c, .int .i64 n, .slice B l.length d] w fun e w' => e = .returned (.bool true) ∧ Below w.heap.size w w' := by
  obtain ⟨Ae, hE⟩ := hE
  obtain ⟨hr, ho8, -, -⟩ := y
  obtain ⟨hq, hl8, -, -⟩ := z
  have hmb : -9223372036854775808 ≤ m ∧ m ≤ 9223372036854775807 := by simpa [Lit.wf, IntKind.min, IntKind.max, IntKind.bits, IntKind.signed] using hm
  have HE := Lib.hid hE
  have HP := Lib.hid hP
  have HR := Lib.hid hr
  have HQ := Lib.hid hq
  have HAw : Hid (∀ W, Below w.heap.size w W → Calls Tryd.prog 11 #[] W fun e w' => e = .returned (.bool true) ∧ Below w.heap.size w w') := Lib.hid (fun W hW =>
    (awake_calls W Ae ((HE.out.below hW).sub (by decide))).mono (fun e w' h => ⟨h.1, below_next hW h.2⟩))
  have HCut : Hid (∀ W, Below w.heap.size w W → Calls Tryd.prog 21 #[.int .i64 n, .slice B l.length d] W fun e w' => Below w.heap.size w w' ∧ ((∃ k, e = .returned (.tuple #[.slice none 0 0, .iface 133 (.pointer (some (Ae k)))])) ∨ (cutE n l = 0 ∧ ∃ B2 d2, l.length + 1 ≤ d2 ∧ e = .returned (.tuple #[.slice B2 (l.length + 1) d2, .nilIface]) ∧ K2.C w' B2 (cutL n 0 l).length (cutL n 0 l)))) := Lib.hid (fun W hW =>
    (cut_calls n B d l W Ae ((HE.out.below hW).sub (by decide)) (Kd.C_below HQ.out hW) (by omega)).mono (by
      rintro e w' ⟨hb, ⟨k, -, rfl⟩ | ⟨h0, B2, d2, rfl, hR⟩⟩
      · exact ⟨below_next hW hb, .inl ⟨k, rfl⟩⟩
      · refine ⟨below_next hW hb, .inr ⟨h0, B2, l.length + 1, Nat.le_refl _, by rw [cutL_length], (Kd.R_reads' hR).2.2⟩⟩))
  have ho16 : o.length ≤ 17592186044415 := by omega
  clear hE hP hr hq hm hn ho8
  by_cases hbig : 500 < m
  · go_enter Tryd.func7, Tryd.ntmps7
    go_wp2_with (go_at_call 11; refine (HAw.out _ (Below.refl _ _)).mono ?_; rintro e w1 ⟨rfl, hb⟩; have HB1 := Lib.hid hb; clear hb)
    go_ret
    exact ⟨rfl, HB1.out⟩
  · have hb5 : ¬ 500 < m := hbig
    by_cases hok : ordE m o = 0
    · obtain ⟨hm1, hol, -, hoo⟩ := ordE_ok hok
      obtain ⟨M, rfl⟩ : ∃ M : Nat, m = (M : Int) := ⟨m.toNat, by omega⟩
      rw [Int.toNat_natCast] at hoo
      obtain ⟨o2, k1, k2, k3, k4, k5, k6⟩ := there_text (M := M) (on := o.map Int.toNat) hoo (by simp; omega) (by omega)
      obtain ⟨L1, hL1⟩ : ∃ L, joinL M (List.range M) (o.map Int.toNat) = L := ⟨_, rfl⟩
      obtain ⟨L2, hL2⟩ : ∃ L, joinL M (List.range M) o2 = L := ⟨_, rfl⟩
      rw [hL1] at k2 k3 k4
      rw [hL2] at k3 k4 k5
      obtain ⟨TX, hTX⟩ : ∃ t, txtF L1 decB 0 = t := ⟨_, rfl⟩
      rw [hTX] at k2 k3
      have hlen : L1.length = L2.length := k4.length_eq
      have hl1 : L1.length ≤ 500 := by rw [← hL1, joinL_length]; simp; omega
      have HTx : Hid (∀ W, Below w.heap.size w W → Calls Tryd.prog 27 #[.int .i64 (M : Int), .slice A o.length c] W fun e w' => e = .returned (.tuple #[.string TX, .nilIface]) ∧ Below W.heap.size W w') := Lib.hid (fun W hW =>
        (text_calls (M : Int) A c o W Ae ((HE.out.below hW).sub (by decide)) (Kd.C_below HR.out hW) hmb (by omega) (fun i hi _ W2 hW2 => itoa_calls i (by omega) W2 ((HP.out.below hW).below hW2))).mono (by
          rintro e w' ⟨hb, ⟨k, hk, -⟩ | ⟨-, h4, -⟩ | ⟨-, -, rfl⟩⟩
          · omega
          · omega
          · rw [Int.toNat_natCast, hL1, hTX]; exact ⟨rfl, hb⟩))
      have hz : TX.size ≤ 1048576 := by
        rw [← hTX, ← hL1]
        exact txt_small hoo (by omega)
      have HRd : Hid (∀ W, Below w.heap.size w W → Calls Tryd.prog 30 #[.string TX] W fun e w' => ∃ A2 c2, e = .returned (.tuple #[.int .i64 (M : Int), .slice A2 (oI o2).length c2, .nilIface]) ∧ Kd.C (Kd.int .i64) w' A2 (oI o2).length (oI o2) ∧ Below W.heap.size W w') := Lib.hid (fun W hW =>
        (read_loop TX W Ae ((HE.out.below hW).sub (by decide)) (HP.out.below hW) hz).mono (by
          rintro e w' ⟨h, hb⟩
          rw [k2] at h
          obtain ⟨v, rfl, hv⟩ := h
          obtain ⟨A2, c2, rfl, -, hC⟩ := hv.reads
          exact ⟨A2, c2, rfl, hC, hb⟩))
      have hoI : (oI o2).map Int.toNat = o2 := oI_nat o2
      have hoL : (oI o2).length ≤ 500 := by simpa [oI] using k6
      obtain ⟨O2, hO2⟩ : ∃ O, oI o2 = O := ⟨_, rfl⟩
      rw [hO2] at HRd k1 hoI hoL
      have HT2 : Hid (∀ (A2 : Option Addr) (c2 : Nat) W, Below w.heap.size w W → Kd.C (Kd.int .i64) W A2 O2.length O2 → Calls Tryd.prog 27 #[.int .i64 (M : Int), .slice A2 O2.length c2] W fun e w' => e = .returned (.tuple #[.string TX, .nilIface]) ∧ Below W.heap.size W w') := Lib.hid (fun A2 c2 W hW hC =>
        (text_calls (M : Int) A2 c2 O2 W Ae ((HE.out.below hW).sub (by decide)) hC hmb (by omega) (fun i hi _ W2 hW2 => itoa_calls i (by omega) W2 ((HP.out.below hW).below hW2))).mono (by
          rintro e w' ⟨hb, ⟨k, hk, -⟩ | ⟨-, h4, -⟩ | ⟨-, -, rfl⟩⟩
          · omega
          · omega
          · rw [Int.toNat_natCast, hoI, hL2, k3]; exact ⟨rfl, hb⟩))
      have HJ1 : Hid (∀ W, Below w.heap.size w W → Calls Tryd.prog 10 #[.int .i64 (M : Int), .slice A o.length c] W fun e w' => ∃ A5 c5, e = .returned (.tuple #[.slice A5 L1.length c5, .nilIface]) ∧ K3.C w' A5 L1.length (L1.map tI) ∧ Below W.heap.size W w') := Lib.hid (fun W hW =>
        (joins_calls (M : Int) A c o W Ae ((HE.out.below hW).sub (by decide)) (Kd.C_below HR.out hW) hmb (by omega)).mono (by
          rintro e w' ⟨hb, ⟨k, hk, -⟩ | ⟨-, v, rfl, hR⟩⟩
          · omega
          · rw [Int.toNat_natCast, hL1] at hR
            obtain ⟨A5, c5, rfl, -, hC⟩ := (RC.of_R hR).form (n := L1.length) (by simp)
            exact ⟨A5, c5, rfl, by simpa using hC, hb⟩))
      have HJ2 : Hid (∀ (A2 : Option Addr) (c2 : Nat) W, Below w.heap.size w W → Kd.C (Kd.int .i64) W A2 O2.length O2 → Calls Tryd.prog 10 #[.int .i64 (M : Int), .slice A2 O2.length c2] W fun e w' => ∃ A6 c6, e = .returned (.tuple #[.slice A6 L1.length c6, .nilIface]) ∧ K3.C w' A6 L1.length (L2.map tI) ∧ Below W.heap.size W w') := Lib.hid (fun A2 c2 W hW hC =>
        (joins_calls (M : Int) A2 c2 O2 W Ae ((HE.out.below hW).sub (by decide)) hC hmb (by omega)).mono (by
          rintro e w' ⟨hb, ⟨k, hk, -⟩ | ⟨-, v, rfl, hR⟩⟩
          · omega
          · rw [Int.toNat_natCast, hoI, hL2] at hR
            obtain ⟨A6, c6, rfl, -, hC⟩ := (RC.of_R hR).form (n := L1.length) (by simp [hlen])
            exact ⟨A6, c6, rfl, by simpa [hlen] using hC, hb⟩))
      have hn1 : (L1.map tI).length = L1.length := by simp
      have hn2 : (L2.map tI).length = L1.length := by simp [hlen]
      have HCn : Hid (∀ x ∈ L1.map tI, (L2.map tI).count x = 1) := Lib.hid (fun x hx => by
        have hp := k4.map tI
        have hnd : (L2.map tI).Nodup := List.Pairwise.map tI (fun a b h e => h (tI_inj e)) k5
        rw [List.Nodup.count hnd, if_pos (hp.subset hx)])
      obtain ⟨P1, hP1⟩ : ∃ P, L1.map tI = P := ⟨_, rfl⟩
      obtain ⟨P2, hP2⟩ : ∃ P, L2.map tI = P := ⟨_, rfl⟩
      rw [hP1] at HCn HJ1 hn1
      rw [hP2] at HCn HJ2 hn2
      obtain ⟨N, hN⟩ : ∃ N, L1.length = N := ⟨_, rfl⟩
      rw [hN] at HJ1 HJ2 hn1 hn2 hl1
      have e1 : (TX.toList == TX.toList) = true := by simp
      have e2 : (TX.toList != TX.toList) = false := by simp
      clear hok hoo k1 k2 k3 k4 k5 k6 hL1 hL2 hTX hlen hz hoI hO2 hP1 hP2 hN hol
      go_enter Tryd.func7, Tryd.ntmps7
      go_upto_region 13 with (first
        | (go_at_call 11; refine (HAw.out _ (Below.refl _ _)).mono ?_; rintro e w1 ⟨rfl, hb⟩; have HB1 := Lib.hid hb; clear hb)
        | (go_at_call 27; (with_reducible refine (HT2.out A3 c3 w3 HB3.out HC3.out).mono ?_); rintro e w4 ⟨rfl, hb⟩; have HB34 := Lib.hid hb; have HB4 := Lib.hid (below_next HB3.out hb); clear hb)
        | (go_at_call 27; (with_reducible refine (HTx.out w1 HB1.out).mono ?_); rintro e w2 ⟨rfl, hb⟩; have HB2 := Lib.hid (below_next HB1.out hb); clear hb)
        | (go_at_call 30; (with_reducible refine (HRd.out w2 HB2.out).mono ?_); rintro e w3 ⟨A3, c3, rfl, hC, hb⟩; have HC3 := Lib.hid hC; have HB3 := Lib.hid (below_next HB2.out hb); clear hC hb)
        | (go_at_call 10; (with_reducible refine (HJ2.out A3 c3 w5 HB5.out (Kd.C_below (Kd.C_below HC3.out HB34.out) HB45.out)).mono ?_); rintro e w6 ⟨A6, c6, rfl, hC, hb⟩; have HC6 := Lib.hid hC; have HB56 := Lib.hid hb; have HB6 := Lib.hid (below_next HB5.out hb); clear hC hb)
        | (go_at_call 10; (with_reducible refine (HJ1.out w4 HB4.out).mono ?_); rintro e w5 ⟨A5, c5, rfl, hC, hb⟩; have HC5 := Lib.hid hC; have HB45 := Lib.hid hb; have HB5 := Lib.hid (below_next HB4.out hb); clear hC hb))
      have HC5' := Lib.hid (Kd.C_below HC5.out HB56.out)
      clear e1 e2 HC5 HT2 HTx HRd HJ1 HJ2 HC3
      go_wp2
      go_loopw [20] (fun x wr => ∃ j : Nat, x = .int .i64 j ∧ j ≤ N ∧ Hid (∃ q, wr = w6.drewN q)) (fun x _ => N - (intOf x).toNat)
      case atStart => exact ⟨0, rfl, by omega, Lib.hid ⟨0, rfl⟩⟩
      case round =>
        obtain ⟨j, rfl, hj, HW⟩ := hrel
        obtain ⟨wo, rfl⟩ : ∃ wo : World, wo = wr := ⟨_, rfl⟩
        by_cases hlt : j < N
        · have hjl : j < P1.length := by rw [hn1]; exact hlt
          obtain ⟨xx, hxx⟩ : ∃ x, P1.getD j (0, 0, 0) = x := ⟨_, rfl⟩
          have hmem : xx ∈ P1 := by rw [← hxx]; exact getD_mem P1 j _ hjl
          have HCt := Lib.hid (HCn.out xx hmem)
          have HXx := Lib.hid hxx
          clear hxx hmem
          go_wp2
          go_loopw [21, 22] (fun ct x wr => ∃ q : Nat, x = .int .i64 q ∧ q ≤ N ∧ ct = .int .i64 (((P2.take q).count xx : Nat) : Int) ∧ Hid (∃ q, wr = w6.drewN q)) (fun _ x _ => N - (intOf x).toNat)
          case atStart => exact ⟨0, rfl, by omega, by simp, HW⟩
          case round =>
            obtain ⟨q, rfl, hq, rfl, HW2⟩ := hrel
            have hbw : Below w6.heap.size w6 wr := by
              obtain ⟨q, e⟩ := HW2.out
              rw [e]
              exact pw_below_drewN (Below.refl _ _) _
            have HBw := Lib.hid hbw
            clear hbw
            have hcl := List.count_le_length (a := xx) (l := P2.take q)
            rw [List.length_take] at hcl
            by_cases hql : q < N
            · have hql2 : q < P2.length := by rw [hn2]; exact hql
              obtain ⟨ad, x0, x1, x2, rfl, hx0, hx1, hx2, HX⟩ := at_K3 (by rw [hn1]; exact Kd.C_below HC5'.out HBw.out) j hjl
              obtain ⟨ad2, y0, y1, y2, rfl, hy0, hy1, hy2, HY⟩ := at_K3 (by rw [hn2]; exact Kd.C_below HC6.out HBw.out) q hql2
              have HStep := Lib.hid (count_take_succ P2 xx q hql2)
              have HYq : Hid (P2[q] = (y0, y1, y2)) := Lib.hid (by rw [← HY.out, List.getD_eq_getElem?_getD, List.getElem?_eq_getElem hql2]; rfl)
              have HXq : Hid (xx = (x0, x1, x2)) := Lib.hid (by rw [← HXx.out, HX.out])
              obtain ⟨ct, hct⟩ : ∃ c, (P2.take q).count xx = c := ⟨_, rfl⟩
              rw [hct] at hcl HStep ⊢
              clear hct
              by_cases he : (x0, x1, x2) = (y0, y1, y2)
              · have HS2 : Hid ((P2.take (q + 1)).count xx = ct + 1) := Lib.hid (by rw [HStep.out, if_pos (by rw [HYq.out, HXq.out, he])])
                cases he
                have HQe := fun (W : World) => eqe3 x0 x1 x2 x0 x1 x2 W
                have HQ2 : ∀ W : World, (Op.equalIn 10000 29 (.agg #[.int .i64 x0, .int .i64 x1, .int .i64 x2]) (.agg #[.int .i64 x0, .int .i64 x1, .int .i64 x2])).run Tryd.prog W = .ok true W := fun W => by
                  have := eq3 9998 x0 x1 x2 x0 x1 x2 W
                  rwa [show (x0 == x0 && (x1 == x1 && x2 == x2)) = true by simp] at this
                rw [show (x0 == x0 && (x1 == x1 && x2 == x2)) = true by simp] at HQe
                go_wp2
                go_quiet (fail)
                go_wp2
                go_roundw
                case rel => exact ⟨q + 1, by go_num, by omega, by rw [HS2.out]; go_num, Lib.hid (by obtain ⟨q, e⟩ := HW2.out; exact ⟨_, by rw [e, World.drewN_drewN]⟩)⟩
                case measure => simp [intOf]; omega
              · have HS2 : Hid ((P2.take (q + 1)).count xx = ct) := Lib.hid (by rw [HStep.out, if_neg (by rw [HYq.out, HXq.out]; exact fun h => he h.symm)]; rfl)
                have hcs : (x0 == y0 && (x1 == y1 && x2 == y2)) = false := by
                  rw [Bool.eq_false_iff]
                  intro h
                  simp at h
                  exact he (by rw [h.1, h.2.1, h.2.2])
                have HQe := fun (W : World) => eqe3 x0 x1 x2 y0 y1 y2 W
                have HQ2 : ∀ W : World, (Op.equalIn 10000 29 (.agg #[.int .i64 x0, .int .i64 x1, .int .i64 x2]) (.agg #[.int .i64 y0, .int .i64 y1, .int .i64 y2])).run Tryd.prog W = .ok false W := fun W => by
                  have := eq3 9998 x0 x1 x2 y0 y1 y2 W
                  rwa [hcs] at this
                rw [hcs] at HQe
                clear he hcs
                go_wp2
                go_quiet (fail)
                go_wp2
                go_roundw
                case rel => exact ⟨q + 1, by go_num, by omega, by rw [HS2.out], Lib.hid (by obtain ⟨q, e⟩ := HW2.out; exact ⟨_, by rw [e, World.drewN_drewN]⟩)⟩
                case measure => simp [intOf]; omega
            · obtain rfl : q = N := by omega
              have hc1 : (P2.take q).count xx = 1 := by rw [List.take_of_length_le (by omega)]; exact HCt.out
              rw [hc1]
              clear hc1 hcl
              go_wp2
              go_roundw
              case rel => exact ⟨j + 1, by go_num, by omega, HW2⟩
              case measure => simp [intOf]; omega
        · obtain rfl : j = N := by omega
          have HBo : Hid (Below w.heap.size w wo) := Lib.hid (by
            obtain ⟨q, e⟩ := HW.out
            rw [e]
            exact pw_below_drewN HB6.out _)
          clear HW
          go_wp2_with (fail)
          go_at_call 21
          refine (HCut.out wo (HBo.out)).mono ?_
          rintro e wc ⟨hbc, ⟨k, rfl⟩ | ⟨h0, B2, d2, hd2, rfl, hL⟩⟩
          · have HBc := Lib.hid hbc
            clear hbc
            go_wp2
            go_ret
            exact ⟨ret_bool (by simp), HBc.out⟩
          · have HBc := Lib.hid hbc
            have HL := Lib.hid hL
            have H0 := Lib.hid h0
            have HPc : Hid (∀ j, j ≤ l.length → (cutL n 0 l).getD j (0, 0) = (cutA n l j, cutA n l (j + 1)) ∧ cutA n l j ≤ cutA n l (j + 1) ∧ (j < l.length → cutA n l (j + 1) = l.getD j 0) ∧ cutA n l (l.length + 1) = n) := Lib.hid (fun j hj => cut_piece h0 hj)
            have hl6 : l.length ≤ 17592186044415 := by omega
            clear hbc hL h0 hl8
            go_wp2
            go_loopw [25, 26] (fun a x wr => ∃ j : Nat, x = .int .i64 j ∧ a = .int .i64 (cutA n l j) ∧ j ≤ l.length + 1 ∧ Hid (∃ q, wr = wc.drewN q)) (fun _ x _ => l.length + 1 - (intOf x).toNat)
            case atStart => exact ⟨0, rfl, rfl, by omega, Lib.hid ⟨0, rfl⟩⟩
            case round =>
              obtain ⟨j, rfl, rfl, hj, HW⟩ := hrel
              have hbw : Below wc.heap.size wc wr := by
                obtain ⟨q, e⟩ := HW.out
                rw [e]
                exact pw_below_drewN (Below.refl _ _) _
              have HBw := Lib.hid hbw
              clear hbw
              by_cases hlt : j ≤ l.length
              · obtain ⟨ad, x, y, rfl, hx, hy, HX⟩ := at_K2 (Kd.C_below HL.out HBw.out) j (by rw [cutL_length]; omega)
                obtain ⟨p1, p2, p3, -⟩ := HPc.out j hlt
                obtain ⟨X, hX⟩ : ∃ X, cutA n l j = X := ⟨_, rfl⟩
                obtain ⟨Y, hY⟩ : ∃ Y, cutA n l (j + 1) = Y := ⟨_, rfl⟩
                rw [hX, hY] at p1 p2
                rw [hY] at p3
                rw [p1] at HX
                obtain ⟨rfl, rfl⟩ : x = X ∧ y = Y := by
                  have := HX.out
                  simp only [Prod.mk.injEq] at this
                  exact ⟨this.1.symm, this.2.symm⟩
                have t1 : (x == x) = true := by simp
                have t2 : (x != x) = false := by simp
                have t3 : decide (y < x) = false := by rw [decide_eq_false_iff_not]; omega
                have HY := Lib.hid hY
                have hj1 : j < l.length + 1 := by omega
                rw [hX]
                by_cases hlc : j < l.length
                · obtain ⟨ad3, y3, e3, hc3, HY3⟩ := at_nat (Kd.C_below (Kd.C_below HQ.out HBc.out) HBw.out) j hlc
                  obtain rfl : y = y3 := by rw [p3 hlc, HY3.out]
                  have t4 : decide ((j : Int) < (l.length : Int)) = true := decide_eq_true (by omega)
                  have t4n : decide (j < l.length) = true := decide_eq_true hlc
                  have t5 : (y != y) = false := by simp
                  subst e3
                  clear hX hY p1 p2 p3 HX
                  go_wp2
                  go_quiet (fail)
                  clear t4 t4n
                  have hbn := pw_below_drewN HBw.out nq
                  have hy2 : (wr.drewN nq).cell? ⟨(ad.add (j * 2)).block, (ad.add (j * 2)).off + 1, none⟩ = some (.int .i64 y) := by simpa using hy
                  go_wp2
                  go_roundw
                  case rel => exact ⟨j + 1, by go_num, by rw [HY.out], by omega, Lib.hid (by obtain ⟨q, e⟩ := HW.out; exact ⟨_, by rw [e, World.drewN_drewN]⟩)⟩
                  case measure => simp [intOf]; omega
                · have t4 : decide ((j : Int) < (l.length : Int)) = false := by rw [decide_eq_false_iff_not]; omega
                  have t4n : decide (j < l.length) = false := decide_eq_false hlc
                  clear hX hY p1 p2 p3 HX
                  go_wp2
                  go_quiet (fail)
                  clear t4 t4n
                  go_wp2
                  go_roundw
                  case rel => exact ⟨j + 1, by go_num, by rw [HY.out], by omega, Lib.hid (by obtain ⟨q, e⟩ := HW.out; exact ⟨_, by rw [e, World.drewN_drewN]⟩)⟩
                  case measure => simp [intOf]; omega
              · obtain rfl : j = l.length + 1 := by omega
                have h4 := (HPc.out 0 (by omega)).2.2.2
                rw [h4]
                have HFin := Lib.hid (HBc.out.trans (HBw.out.mono HBc.out.size))
                clear h4
                go_wp2
                go_ret
                exact ⟨ret_bool (by simp), HFin.out⟩
    · have HTx : Hid (∀ W, Below w.heap.size w W → Calls Tryd.prog 27 #[.int .i64 m, .slice A o.length c] W fun e w' => (∃ k, e = .returned (.tuple #[.string ⟨#[]⟩, .iface 133 (.pointer (some (Ae k)))])) ∧ Below W.heap.size W w') := Lib.hid (fun W hW =>
        (text_calls m A c o W Ae ((HE.out.below hW).sub (by decide)) (Kd.C_below HR.out hW) hmb (by omega) (fun i hi _ W2 hW2 => itoa_calls i (by omega) W2 ((HP.out.below hW).below hW2))).mono (by
          rintro e w' ⟨hb, ⟨k, hk, rfl⟩ | ⟨h0, h4, rfl⟩ | ⟨h0, -, -⟩⟩
          · exact ⟨⟨k, rfl⟩, hb⟩
          · exact ⟨⟨0, rfl⟩, hb⟩
          · exact absurd h0 hok))
      clear hok
      go_enter Tryd.func7, Tryd.ntmps7
      go_upto_region 24 with (first
        | (go_at_call 11; refine (HAw.out _ (Below.refl _ _)).mono ?_; rintro e w1 ⟨rfl, hb⟩; have HB1 := Lib.hid hb; clear hb)
        | (go_at_call 27; (with_reducible refine (HTx.out w1 HB1.out).mono ?_); rintro e w2 ⟨⟨k, rfl⟩, hb⟩; have HB2 := Lib.hid (below_next HB1.out hb); clear hb))
      go_wp2_with (fail)
      go_at_call 21
      refine (HCut.out w2 (HB2.out)).mono ?_
      rintro e wc ⟨hbc, ⟨k, rfl⟩ | ⟨h0, B2, d2, hd2, rfl, hL⟩⟩
      · have HBc := Lib.hid hbc
        clear hbc
        go_wp2
        go_ret
        exact ⟨ret_bool (by simp), HBc.out⟩
      · have HBc := Lib.hid hbc
        have HL := Lib.hid hL
        have H0 := Lib.hid h0
        have HPc : Hid (∀ j, j ≤ l.length → (cutL n 0 l).getD j (0, 0) = (cutA n l j, cutA n l (j + 1)) ∧ cutA n l j ≤ cutA n l (j + 1) ∧ (j < l.length → cutA n l (j + 1) = l.getD j 0) ∧ cutA n l (l.length + 1) = n) := Lib.hid (fun j hj => cut_piece h0 hj)
        have hl6 : l.length ≤ 17592186044415 := by omega
        clear hbc hL h0 hl8
        go_wp2
        go_loopw [25, 26] (fun a x wr => ∃ j : Nat, x = .int .i64 j ∧ a = .int .i64 (cutA n l j) ∧ j ≤ l.length + 1 ∧ Hid (∃ q, wr = wc.drewN q)) (fun _ x _ => l.length + 1 - (intOf x).toNat)
        case atStart => exact ⟨0, rfl, rfl, by omega, Lib.hid ⟨0, rfl⟩⟩
        case round =>
          obtain ⟨j, rfl, rfl, hj, HW⟩ := hrel
          have hbw : Below wc.heap.size wc wr := by
            obtain ⟨q, e⟩ := HW.out
            rw [e]
            exact pw_below_drewN (Below.refl _ _) _
          have HBw := Lib.hid hbw
          clear hbw
          by_cases hlt : j ≤ l.length
          · obtain ⟨ad, x, y, rfl, hx, hy, HX⟩ := at_K2 (Kd.C_below HL.out HBw.out) j (by rw [cutL_length]; omega)
            obtain ⟨p1, p2, p3, -⟩ := HPc.out j hlt
            obtain ⟨X, hX⟩ : ∃ X, cutA n l j = X := ⟨_, rfl⟩
            obtain ⟨Y, hY⟩ : ∃ Y, cutA n l (j + 1) = Y := ⟨_, rfl⟩
            rw [hX, hY] at p1 p2
            rw [hY] at p3
            rw [p1] at HX
            obtain ⟨rfl, rfl⟩ : x = X ∧ y = Y := by
              have := HX.out
              simp only [Prod.mk.injEq] at this
              exact ⟨this.1.symm, this.2.symm⟩
            have t1 : (x == x) = true := by simp
            have t2 : (x != x) = false := by simp
            have t3 : decide (y < x) = false := by rw [decide_eq_false_iff_not]; omega
            have HY := Lib.hid hY
            have hj1 : j < l.length + 1 := by omega
            rw [hX]
            by_cases hlc : j < l.length
            · obtain ⟨ad3, y3, e3, hc3, HY3⟩ := at_nat (Kd.C_below (Kd.C_below HQ.out HBc.out) HBw.out) j hlc
              obtain rfl : y = y3 := by rw [p3 hlc, HY3.out]
              have t4 : decide ((j : Int) < (l.length : Int)) = true := decide_eq_true (by omega)
              have t4n : decide (j < l.length) = true := decide_eq_true hlc
              have t5 : (y != y) = false := by simp
              subst e3
              clear hX hY p1 p2 p3 HX
              go_wp2
              go_quiet (fail)
              clear t4 t4n
              have hbn := pw_below_drewN HBw.out nq
              have hy2 : (wr.drewN nq).cell? ⟨(ad.add (j * 2)).block, (ad.add (j * 2)).off + 1, none⟩ = some (.int .i64 y) := by simpa using hy
              go_wp2
              go_roundw
              case rel => exact ⟨j + 1, by go_num, by rw [HY.out], by omega, Lib.hid (by obtain ⟨q, e⟩ := HW.out; exact ⟨_, by rw [e, World.drewN_drewN]⟩)⟩
              case measure => simp [intOf]; omega
            · have t4 : decide ((j : Int) < (l.length : Int)) = false := by rw [decide_eq_false_iff_not]; omega
              have t4n : decide (j < l.length) = false := decide_eq_false hlc
              clear hX hY p1 p2 p3 HX
              go_wp2
              go_quiet (fail)
              clear t4 t4n
              go_wp2
              go_roundw
              case rel => exact ⟨j + 1, by go_num, by rw [HY.out], by omega, Lib.hid (by obtain ⟨q, e⟩ := HW.out; exact ⟨_, by rw [e, World.drewN_drewN]⟩)⟩
              case measure => simp [intOf]; omega
          · obtain rfl : j = l.length + 1 := by omega
            have h4 := (HPc.out 0 (by omega)).2.2.2
            rw [h4]
            have HFin := Lib.hid (HBc.out.trans (HBw.out.mono HBc.out.size))
            clear h4
            go_wp2
            go_ret
            exact ⟨ret_bool (by simp), HFin.out⟩
end Go.Proofs.YtcikcnkhcfhomaaDoor.Hand
